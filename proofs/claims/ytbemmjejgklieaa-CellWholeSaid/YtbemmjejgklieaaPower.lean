/- The power: what each of its methods does to its block, and what the reference's functions answer. -/
import Derived.Test.YtbemmjejgklieaaMem
import Derived.RegionTactic
import Derived.ChangeAlike
import Derived.Deep.RegionHeld3
import Derived.Deep.QuietTactic
import Derived.BigQuiet
set_option linter.unusedVariables false
set_option linter.unusedSimpArgs false
namespace Go.Proofs.Ytbemmjejgklieaa
open Go.RowKit

/-- The cells of a power. -/
def pwc (f : Int) (d dn : Bool) (s : Int) : Array Value := #[.int .i64 f, .bool d, .bool dn, .int .i64 s]
def IsPw (w : World) (g : Nat) (f : Int) (d dn : Bool) (s : Int) : Prop := Blk w g 129 (pwc f d dn s)
abbrev ptr (g : Nat) : Value := .pointer (some ⟨g, 0, none⟩)

section
variable {w w' : World} {g : Nat} {f s : Int} {d dn : Bool}
theorem IsPw.c0 (h : IsPw w g f d dn s) : w.cell? ⟨g, 0, none⟩ = some (.int .i64 f) := Blk.cell h 0
theorem IsPw.c1 (h : IsPw w g f d dn s) : w.cell? ⟨g, 1, none⟩ = some (.bool d) := Blk.cell h 1
theorem IsPw.c2 (h : IsPw w g f d dn s) : w.cell? ⟨g, 2, none⟩ = some (.bool dn) := Blk.cell h 2
theorem IsPw.c3 (h : IsPw w g f d dn s) : w.cell? ⟨g, 3, none⟩ = some (.int .i64 s) := Blk.cell h 3
theorem IsPw.set0 (h : IsPw w g f d dn s) (x : Int) : IsPw (w.setCell ⟨g, 0, none⟩ (.int .i64 x)) g x d dn s := Blk.set_ h 0 _
theorem IsPw.set1 (h : IsPw w g f d dn s) (x : Bool) : IsPw (w.setCell ⟨g, 1, none⟩ (.bool x)) g f x dn s := Blk.set_ h 1 _
theorem IsPw.set2 (h : IsPw w g f d dn s) (x : Bool) : IsPw (w.setCell ⟨g, 2, none⟩ (.bool x)) g f d x s := Blk.set_ h 2 _
theorem IsPw.set3 (h : IsPw w g f d dn s) (x : Int) : IsPw (w.setCell ⟨g, 3, none⟩ (.int .i64 x)) g f d dn x := Blk.set_ h 3 _
theorem ext_set (g i : Nat) (w : World) (u : Value) : Ext (One g) w (w.setCell ⟨g, i, none⟩ u) := Ext.setCell (S := One g) (Ext.refl _ w) (fun _ => rfl) u
end

set_option maxRecDepth 100000 in
set_option maxHeartbeats 400000 in
theorem pNew_any (w : World) : Calls Try.prog 15 #[] w fun e w' => e = .returned (ptr w.heap.size) ∧ w.alloc (.cells (pwc (-1) false false 0) 129) = w' := by
  go_enter Try.func15, Try.ntmps15
  go_wp2
  go_ret
  exact ⟨rfl, rfl⟩

set_option maxRecDepth 100000 in
set_option maxHeartbeats 400000 in
theorem pFuse_any (g : Nat) (n f s : Int) (d dn e : Bool) (w : World) (h : IsPw w g f d dn s) :
    Calls Try.prog 20 #[ptr g, .int .i64 n, .bool e] w fun e' w' => e' = .returned (.tuple #[]) ∧ IsPw w' g (max n (-1)) e dn s ∧ Ext (One g) w w' := by
  have c0 := h.c0
  have c1 := h.c1
  have z0 := Blk.frozen h 0
  have z1 := Blk.frozen h 1
  have HA : IsPw ((w.setCell ⟨g, 0, none⟩ (.int .i64 (max n (-1)))).setCell ⟨g, 1, none⟩ (.bool e)) g (max n (-1)) e dn s := (h.set0 _).set1 _
  by_cases hn : n < -1
  · have e1 : max n (-1) = -1 := by omega
    rw [e1] at HA ⊢
    clear e1 h
    go_enter Try.func20, Try.ntmps20
    go_wp2
    go_end0
    exact ⟨rfl, HA, (ext_set _ _ _ _).trans (ext_set _ _ _ _)⟩
  · have e1 : max n (-1) = n := by omega
    rw [e1] at HA ⊢
    clear e1 h
    go_enter Try.func20, Try.ntmps20
    go_wp2
    go_end0
    exact ⟨rfl, HA, (ext_set _ _ _ _).trans (ext_set _ _ _ _)⟩

set_option maxRecDepth 100000 in
set_option maxHeartbeats 400000 in
theorem pDown_any (g : Nat) (f s : Int) (d dn : Bool) (w : World) (h : IsPw w g f d dn s) :
    Calls Try.prog 24 #[ptr g] w fun e' w' => e' = .returned (.bool dn) ∧ w = w' := by
  have c2 := h.c2
  clear h
  go_enter Try.func24, Try.ntmps24
  go_wp2
  go_ret
  exact ⟨rfl, rfl⟩

set_option maxRecDepth 100000 in
set_option maxHeartbeats 400000 in
theorem pSteps_any (g : Nat) (f s : Int) (d dn : Bool) (w : World) (h : IsPw w g f d dn s) :
    Calls Try.prog 25 #[ptr g] w fun e' w' => e' = .returned (.int .i64 s) ∧ w = w' := by
  have c3 := h.c3
  clear h
  go_enter Try.func25, Try.ntmps25
  go_wp2
  go_ret
  exact ⟨rfl, rfl⟩

set_option maxRecDepth 100000 in
set_option maxHeartbeats 400000 in
theorem pBack_any (g : Nat) (f s : Int) (d dn : Bool) (w : World) (h : IsPw w g f d dn s) :
    Calls Try.prog 22 #[ptr g] w fun e' w' => e' = .returned (.tuple #[]) ∧ IsPw w' g (-1) false false s ∧ Ext (One g) w w' := by
  have c0 := h.c0
  have c1 := h.c1
  have c2 := h.c2
  have z0 := Blk.frozen h 0
  have z1 := Blk.frozen h 1
  have z2 := Blk.frozen h 2
  have HA : IsPw (((w.setCell ⟨g, 0, none⟩ (.int .i64 (-1))).setCell ⟨g, 1, none⟩ (.bool false)).setCell ⟨g, 2, none⟩ (.bool false)) g (-1) false false s := ((h.set0 _).set1 _).set2 _
  clear h
  go_enter Try.func22, Try.ntmps22
  go_wp2
  go_end0
  exact ⟨rfl, HA, ((ext_set _ _ _ _).trans (ext_set _ _ _ _)).trans (ext_set _ _ _ _)⟩

/-- A step while the power is gone. -/
theorem pStep_down (g : Nat) (f s : Int) (d : Bool) (fv : Value) (w : World) (h : IsPw w g f d true s) :
    Calls Try.prog 18 #[ptr g, fv] w fun e' w' => e' = .returned (.bool false) ∧ w = w' := by
  have c2 := h.c2
  clear h
  go_enter Try.func18, Try.ntmps18
  go_wp2
  go_ret
  exact ⟨rfl, rfl⟩

set_option maxRecDepth 100000 in
set_option maxHeartbeats 400000 in
/-- A step where the power does not go. -/
theorem pStep_nofuse (g k : Nat) (caps : Array Value) (f s : Int) (d : Bool) (w : World) (R : World → Prop) (hk : ∀ W : World, (callFunc k caps).run Try.prog W = .ok (.enter k caps) W) (h : IsPw w g f d false s) (hf : f < 0)
    (hdo : ∀ w1, IsPw w1 g f d false (wrap64 (s + 1)) → Ext (One g) w w1 → Calls Try.prog k caps w1 fun e w' => e = .returned (.tuple #[]) ∧ R w') :
    Calls Try.prog 18 #[ptr g, .func (.func k) #[] caps] w fun e' w' => e' = .returned (.bool true) ∧ R w' := by
  have c0 := h.c0
  have c2 := h.c2
  have c3 := h.c3
  have z3 := Blk.frozen h 3
  have H := Lib.hid (hdo _ (h.set3 _) (ext_set _ _ _ _))
  clear hdo h
  go_enter Try.func18, Try.ntmps18
  go_wp2_with fail
  refine H.out.mono ?_
  rintro e w' ⟨rfl, hR⟩
  go_wp2
  go_ret
  exact ⟨rfl, hR⟩

set_option maxRecDepth 100000 in
set_option maxHeartbeats 400000 in
/-- A step where the power goes on, or goes and what is to be done is done. -/
theorem pStep_done (g k : Nat) (caps : Array Value) (f s : Int) (d : Bool) (w : World) (R : World → Prop) (hk : ∀ W : World, (callFunc k caps).run Try.prog W = .ok (.enter k caps) W) (h : IsPw w g f d false s) (hf : 0 ≤ f) (hf2 : f ≤ 9223372036854775807) (hd : 0 < f ∨ d = true)
    (hdo : ∀ w1, IsPw w1 g (f - 1) d (decide (f - 1 < 0)) (wrap64 (s + 1)) → Ext (One g) w w1 → Calls Try.prog k caps w1 fun e w' => e = .returned (.tuple #[]) ∧ R w' ∧ w'.cell? ⟨g, 2, none⟩ = some (.bool (decide (f - 1 < 0)))) :
    Calls Try.prog 18 #[ptr g, .func (.func k) #[] caps] w fun e' w' => e' = .returned (.bool (decide (0 < f))) ∧ R w' := by
  have c0 := h.c0
  have c1 := h.c1
  have c2 := h.c2
  have c3 := h.c3
  have z0 := Blk.frozen h 0
  have z2 := Blk.frozen h 2
  have z3 := Blk.frozen h 3
  have H := Lib.hid (hdo _ (((h.set3 (wrap64 (s + 1))).set0 (f - 1)).set2 (decide (f - 1 < 0))) (((ext_set _ _ _ _).trans (ext_set _ _ _ _)).trans (ext_set _ _ _ _)))
  clear hdo h
  by_cases h0 : 0 < f
  · have e1 : decide (f - 1 < 0) = false := by simp; omega
    have e2 : decide (0 < f) = true := by simp; omega
    rw [e1] at H
    rw [e2]
    clear e1 e2 hd
    go_enter Try.func18, Try.ntmps18
    go_wp2_with fail
    refine H.out.mono ?_
    rintro e w' ⟨rfl, hR, c2'⟩
    go_wp2
    go_ret
    exact ⟨rfl, hR⟩
  · have e0 : f = 0 := by omega
    subst e0
    have e1 : decide ((0 : Int) - 1 < 0) = true := by decide
    have hd' : d = true := by simpa using hd
    subst hd'
    rw [e1] at H
    clear e1 hd
    go_enter Try.func18, Try.ntmps18
    go_wp2_with fail
    refine H.out.mono ?_
    rintro e w' ⟨rfl, hR, c2'⟩
    go_wp2
    go_ret
    exact ⟨rfl, hR⟩

set_option maxRecDepth 100000 in
set_option maxHeartbeats 400000 in
/-- A step at which the power goes, and nothing is done. -/
theorem pStep_lost (g : Nat) (s : Int) (fv : Value) (w : World) (h : IsPw w g 0 false false s) :
    Calls Try.prog 18 #[ptr g, fv] w fun e' w' => e' = .returned (.bool false) ∧ IsPw w' g (-1) false true (wrap64 (s + 1)) ∧ Ext (One g) w w' := by
  have c0 := h.c0
  have c1 := h.c1
  have c2 := h.c2
  have c3 := h.c3
  have z0 := Blk.frozen h 0
  have z2 := Blk.frozen h 2
  have z3 := Blk.frozen h 3
  have HA := ((h.set3 (wrap64 (s + 1))).set0 (-1)).set2 true
  clear h
  go_enter Try.func18, Try.ntmps18
  go_wp2
  go_ret
  exact ⟨rfl, HA, ((ext_set _ _ _ _).trans (ext_set _ _ _ _)).trans (ext_set _ _ _ _)⟩

/-! The step, whatever the power: what becomes of its parts, is it answered, is it done. -/
def pok (f : Int) (dn : Bool) : Bool := !dn && decide (f ≠ 0)
def pdone (f : Int) (d dn : Bool) : Bool := !dn && (decide (f ≠ 0) || d)
def pf' (f : Int) (dn : Bool) : Int := if dn = true then f else if f < 0 then f else f - 1
def pdn' (f : Int) (dn : Bool) : Bool := dn || decide (f = 0)
def ps' (s : Int) (dn : Bool) : Int := if dn = true then s else wrap64 (s + 1)
theorem pf'_lo {f : Int} {dn : Bool} (h : -1 ≤ f) : -1 ≤ pf' f dn := by unfold pf'; split <;> (try split) <;> omega
theorem pf'_hi {f : Int} {dn : Bool} (h : f ≤ 9223372036854775807) : pf' f dn ≤ 9223372036854775807 := by unfold pf'; split <;> (try split) <;> omega

/-- A step, whatever the power is. -/
theorem pStep_any (g k : Nat) (caps : Array Value) (f s : Int) (d dn : Bool) (w : World) (R : World → World → Prop) (hk : ∀ W : World, (callFunc k caps).run Try.prog W = .ok (.enter k caps) W) (h : IsPw w g f d dn s) (hf : -1 ≤ f) (hf2 : f ≤ 9223372036854775807)
    (hdo : pdone f d dn = true → ∀ w1, IsPw w1 g (pf' f dn) d (pdn' f dn) (ps' s dn) → Ext (One g) w w1 →
      Calls Try.prog k caps w1 fun e w' => e = .returned (.tuple #[]) ∧ R w w' ∧ w'.cell? ⟨g, 2, none⟩ = some (.bool (pdn' f dn)))
    (hno : pdone f d dn = false → ∀ w1, IsPw w1 g (pf' f dn) d (pdn' f dn) (ps' s dn) → Ext (One g) w w1 → R w w1) :
    Calls Try.prog 18 #[ptr g, .func (.func k) #[] caps] w fun e' w' => e' = .returned (.bool (pok f dn)) ∧ R w w' := by
  cases dn with
  | true =>
    refine (pStep_down g f s d _ w h).mono ?_
    rintro e w' ⟨rfl, rfl⟩
    exact ⟨rfl, hno rfl w (by simpa [pf', pdn', ps'] using h) (Ext.refl _ _)⟩
  | false =>
    by_cases h0 : f < 0
    · have hok : pok f false = true := by simp [pok]; omega
      have hd : pdone f d false = true := by simp [pdone]; omega
      have hdn : pdn' f false = false := by simp [pdn']; omega
      rw [hok]
      refine pStep_nofuse g k caps f s d w (R w) hk h h0 fun w1 h1 hx => (hdo hd w1 ?_ hx).mono fun e w' hh => ⟨hh.1, hh.2.1⟩
      simpa [pf', pdn', ps', h0, hdn] using (show IsPw w1 g f d (pdn' f false) _ by rw [hdn]; exact h1)
    · have hdn : pdn' f false = decide (f - 1 < 0) := by
        by_cases e : f = 0
        · subst e; rfl
        · simp [pdn', e]; omega
      have hff : pf' f false = f - 1 := by simp [pf', h0]
      have hss : ps' s false = wrap64 (s + 1) := by simp [ps']
      rw [hdn, hff, hss] at hdo hno
      by_cases hd : pdone f d false = true
      · have hok : pok f false = decide (0 < f) := by
          by_cases e : f = 0
          · subst e; rfl
          · simp [pok, e]; omega
        rw [hok]
        refine pStep_done g k caps f s d w (R w) hk h (by omega) hf2 ?_ (hdo hd)
        by_cases e : f = 0
        · right; simpa [pdone, e] using hd
        · left; omega
      · have hd' : pdone f d false = false := by simpa using hd
        have hz : f = 0 ∧ d = false := by simpa [pdone] using hd'
        obtain ⟨rfl, rfl⟩ := hz
        refine (pStep_lost g s _ w h).mono ?_
        rintro e w' ⟨rfl, h1, hx⟩
        exact ⟨rfl, hno hd' w' h1 hx⟩
end Go.Proofs.Ytbemmjejgklieaa
