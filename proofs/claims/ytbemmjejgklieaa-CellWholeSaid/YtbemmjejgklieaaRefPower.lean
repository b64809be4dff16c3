/- The reference's power (deedboxref08): what its functions answer. -/
import Derived.Test.YtbemmjejgklieaaPower
set_option linter.unusedVariables false
set_option linter.unusedSimpArgs false
namespace Go.Proofs.Ytbemmjejgklieaa
open Go.RowKit

/-- The reference's power as a value. -/
def rpc (st f : Int) (d dn : Bool) : Array Value := #[.int .i64 st, .int .i64 f, .bool d, .bool dn]
abbrev rpv (st f : Int) (d dn : Bool) : Value := .agg #[.int .i64 st, .int .i64 f, .bool d, .bool dn]

set_option maxRecDepth 100000 in
set_option maxHeartbeats 400000 in
theorem rNew_any (w : World) : Calls Try.prog 16 #[] w fun e w' => e = .returned (rpv 0 (-1) false false) ∧ Ext No w w' := by
  go_enter Try.func16, Try.ntmps16
  go_wp2
  refine bodyPost_ret (v := rpv 0 (-1) false false) (by simp [results, Try.results16, go_sem]) rfl ⟨rfl, ?_⟩
  exact (Ext.refl _ w).alloc _

set_option maxRecDepth 100000 in
set_option maxHeartbeats 400000 in
theorem rFuse_any (st f n : Int) (d dn e : Bool) (w : World) :
    Calls Try.prog 21 #[rpv st f d dn, .int .i64 n, .bool e] w fun e' w' => e' = .returned (rpv st (max n (-1)) e dn) ∧ Ext No w w' := by
  by_cases hn : n < 0
  · have e1 : max n (-1) = -1 := by omega
    rw [e1]
    clear e1
    go_enter Try.func21, Try.ntmps21
    go_wp2
    refine bodyPost_ret (v := rpv st (-1) e dn) (by simp [results, Try.results21, go_sem]) rfl ⟨rfl, ?_⟩
    exact (((Ext.refl _ w).alloc _).alloc _).alloc _
  · have e1 : max n (-1) = n := by omega
    rw [e1]
    clear e1
    go_enter Try.func21, Try.ntmps21
    go_wp2
    refine bodyPost_ret (v := rpv st n e dn) (by simp [results, Try.results21, go_sem]) rfl ⟨rfl, ?_⟩
    exact (((Ext.refl _ w).alloc _).alloc _).alloc _

set_option maxRecDepth 100000 in
set_option maxHeartbeats 400000 in
theorem rBack_any (st f : Int) (d dn : Bool) (w : World) :
    Calls Try.prog 23 #[rpv st f d dn] w fun e' w' => e' = .returned (rpv st (-1) false false) ∧ Ext No w w' := by
  go_enter Try.func23, Try.ntmps23
  go_wp2
  refine bodyPost_ret (v := rpv st (-1) false false) (by simp [results, Try.results23, go_sem]) rfl ⟨rfl, ?_⟩
  exact ((Ext.refl _ w).alloc _).alloc _

set_option maxRecDepth 100000 in
set_option maxHeartbeats 400000 in
theorem rStep_down (st f : Int) (d : Bool) (w : World) :
    Calls Try.prog 17 #[rpv st f d true] w fun e' w' => e' = .returned (.tuple #[rpv st f d true, .bool false, .bool false]) ∧ Ext No w w' := by
  go_enter Try.func17, Try.ntmps17
  go_wp2
  refine bodyPost_ret (v := .tuple #[rpv st f d true, .bool false, .bool false]) (by simp [results, Try.results17, go_sem]) rfl ⟨rfl, ?_⟩
  exact ((Ext.refl _ w).alloc _).alloc _

set_option maxRecDepth 100000 in
set_option maxHeartbeats 400000 in
theorem rStep_nofuse (st f : Int) (d : Bool) (w : World) (hf : f < 0) :
    Calls Try.prog 17 #[rpv st f d false] w fun e' w' => e' = .returned (.tuple #[rpv (wrap64 (st + 1)) f d false, .bool true, .bool true]) ∧ Ext No w w' := by
  go_enter Try.func17, Try.ntmps17
  go_wp2
  refine bodyPost_ret (v := .tuple #[rpv (wrap64 (st + 1)) f d false, .bool true, .bool true]) (by simp [results, Try.results17, go_sem]) rfl ⟨rfl, ?_⟩
  exact (((Ext.refl _ w).alloc _).alloc _).alloc _

set_option maxRecDepth 100000 in
set_option maxHeartbeats 400000 in
theorem rStep_pos (st f : Int) (d : Bool) (w : World) (hf : 0 < f) (hf2 : f ≤ 9223372036854775807) :
    Calls Try.prog 17 #[rpv st f d false] w fun e' w' => e' = .returned (.tuple #[rpv (wrap64 (st + 1)) (f - 1) d false, .bool true, .bool true]) ∧ Ext No w w' := by
  have e0 : (f == 0) = false := by simp; omega
  go_enter Try.func17, Try.ntmps17
  go_wp2
  refine bodyPost_ret (v := .tuple #[rpv (wrap64 (st + 1)) (f - 1) d false, .bool true, .bool true]) (by simp [results, Try.results17, go_sem]) rfl ⟨rfl, ?_⟩
  exact (((Ext.refl _ w).alloc _).alloc _).alloc _

set_option maxRecDepth 100000 in
set_option maxHeartbeats 400000 in
theorem rStep_zero (st : Int) (d : Bool) (w : World) :
    Calls Try.prog 17 #[rpv st 0 d false] w fun e' w' => e' = .returned (.tuple #[rpv (wrap64 (st + 1)) (-1) d true, .bool false, .bool d]) ∧ Ext No w w' := by
  go_enter Try.func17, Try.ntmps17
  go_wp2
  go_region
  all_goals go_wp2
  all_goals refine bodyPost_ret (v := .tuple #[rpv (wrap64 (st + 1)) (-1) d true, .bool false, .bool d]) (by simp [results, Try.results17, go_sem]) rfl ⟨rfl, ?_⟩
  all_goals exact ((((Ext.refl _ w).alloc _).alloc _).alloc _).drew

theorem rStep_any (st f : Int) (d dn : Bool) (w : World) (hf : -1 ≤ f) (hf2 : f ≤ 9223372036854775807) :
    Calls Try.prog 17 #[rpv st f d dn] w fun e' w' => e' = .returned (.tuple #[rpv (ps' st dn) (pf' f dn) d (pdn' f dn), .bool (pok f dn), .bool (pdone f d dn)]) ∧ Ext No w w' := by
  cases dn with
  | true => simpa [pf', pdn', ps', pok, pdone] using rStep_down st f d w
  | false =>
    by_cases h0 : f < 0
    · have h1 : f ≠ 0 := by omega
      simpa [pf', pdn', ps', pok, pdone, h0, h1] using rStep_nofuse st f d w h0
    · by_cases h1 : f = 0
      · subst h1
        simpa [pf', pdn', ps', pok, pdone] using rStep_zero st d w
      · simpa [pf', pdn', ps', pok, pdone, h0, h1] using rStep_pos st f d w (by omega) hf2
end Go.Proofs.Ytbemmjejgklieaa
