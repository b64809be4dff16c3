/- Law 26: same. -/
import Derived.Test.YtlfhfomidkadiaaRuleSame
set_option linter.unusedVariables false
set_option linter.unusedSimpArgs false
namespace Go.Proofs.Ytlfhfomidkadiaa
open Go.RowKit Go.Deep

theorem sVer_self (x : Vr) (B : Nat) (w : World) (hx : Vr.Ok w (fun b => b < B) x) :
    Calls Try.prog 28 #[.agg x.cs.toArray, .agg x.cs.toArray] w fun e w' => e = .returned (.bool true) ∧ Ext No w w' :=
  (sVer_any x x B w hx hx).mono (by rintro e w' ⟨rfl, h⟩; exact ⟨by rw [svB_self], h⟩)
def VSm (ls : List Vr) (x : Vr) (b1 o1 c1 b2 o2 c2 k : Nat) : Nat → Value
  | 0 => Value.slice (some ⟨b1, o1, none⟩) ls.length c1
  | 1 => Value.int .i64 (k : Int)
  | 2 => Value.pointer (some ⟨b1, o1 + k * 11, none⟩)
  | 3 => Value.agg x.cs.toArray
  | 4 => Value.slice (some ⟨b2, o2, none⟩) ls.length c2
  | 5 => Value.int .i64 (k : Int)
  | 6 => Value.pointer (some ⟨b2, o2 + k * 11, none⟩)
  | 7 => Value.agg x.cs.toArray
  | 8 => Value.bool true
  | 9 => Value.bool false
  | _ => undef
set_option pp.deepTerms true in
set_option pp.maxSteps 1000000 in
set_option maxRecDepth 100000 in
set_option maxHeartbeats 1000000 in
theorem lSame26 (av bv : Value) (ls : List Vr) (B : Nat) (w : World) (ha : Vs w Any B av ls) (hb : Vs w Any B bv ls) (hll : ls.length ≤ 1000000) :
    Calls Try.prog 41 #[av, bv] w fun e w' => e = .returned (.bool true) ∧ Ext No w w' := by
  obtain ⟨A1, c1, rfl, hc1, hm1, b1, o1, hr1⟩ := ha.slice
  obtain ⟨A2, c2, rfl, hc2, hm2, b2, o2, hr2⟩ := hb.slice
  have HR1 := Lib.hid hr1
  have HR2 := Lib.hid hr2
  have HX0 := Lib.hid (Ext.refl No w)
  clear ha hb hr1 hr2
  go_enter Try.func41, Try.ntmps41
  go_wp2_with fail
  go_loopw [5] (fun i wr => ∃ k : Nat, k ≤ ls.length ∧ i = .int .i64 (k : Int) ∧ Hid (Ext No w wr)) (fun i _ => ls.length - (intOf i).toNat)
  case atStart => exact ⟨0, by omega, rfl, HX0⟩
  case round =>
    clear HX0
    obtain ⟨k, hkl, rfl, HX⟩ := hrel
    by_cases hlt : k < ls.length
    · obtain ⟨rfl, -, hb1, hr1, hok⟩ := HR1.out k hlt
      obtain ⟨rfl, -, hb2, hr2, -⟩ := HR2.out k hlt
      have HE1 := Lib.hid (fun (wx : World) (hx : Ext No wr wx) => range_ext hr1 (HX.out.trans hx) hb1 (fun h => h))
      have HE2 := Lib.hid (fun (wx : World) (hx : Ext No wr wx) => range_ext hr2 (HX.out.trans hx) hb2 (fun h => h))
      have HOK := Lib.hid (hok.ext_no HX.out)
      obtain ⟨x, hx⟩ : ∃ x, ls[k] = x := ⟨_, rfl⟩
      rw [hx] at HE1 HE2 HOK
      have t1 : (k : Int) < (ls.length : Int) := by omega
      clear hr1 hr2 hok hx
      go_wp2_with fail
      refine RF.region (vs := fun | 0 => u17 | 1 => u18 | 2 => u19 | 3 => u20 | 4 => u21 | 5 => u22 | 6 => u23 | 7 => u24 | 8 => u25 | 9 => u26 | _ => undef) rfl (fun vs => ((Value.slice (some ⟨b1, o1, none⟩) ls.length c1) :: (Value.slice (some ⟨b2, o2, none⟩) ls.length c2) :: undef :: undef :: u4 :: (Value.int IntKind.i64 (k : Int)) :: (Value.slice (some ⟨b1, o1, none⟩) ls.length c1) :: (Value.int IntKind.i64 (ls.length : Int)) :: (Value.slice (some ⟨b2, o2, none⟩) ls.length c2) :: (Value.int IntKind.i64 (ls.length : Int)) :: (Value.bool false) :: (Value.int IntKind.i64 (k : Int)) :: (Value.slice (some ⟨b1, o1, none⟩) ls.length c1) :: (Value.int IntKind.i64 (ls.length : Int)) :: (Value.bool true) :: u15 :: u16 :: (vs 0) :: (vs 1) :: (vs 2) :: (vs 3) :: (vs 4) :: (vs 5) :: (vs 6) :: (vs 7) :: (vs 8) :: (vs 9) :: []).toArray)
        (fun j v _ => v = VSm ls x b1 o1 c1 b2 o2 c2 k j) (fun _ wz => Ext No wr wz) rfl (by kernel_rfl) ?_ ?_ ?_
      · exact (Ext.refl No wr).drew
      · refine ⟨⟨⟨⟨⟨⟨⟨⟨⟨⟨trivial, ?_⟩, ?_⟩, ?_⟩, ?_⟩, ?_⟩, ?_⟩, ?_⟩, ?_⟩, ?_⟩, ?_⟩
        · refine RF.Step.plain rfl rfl (fun vs wx hG hv hd K hK => ?_)
          have HG0 := Lib.hid hG
          clear hG
          go_simp
          have h4 := hK _ _ HG0.out rfl (fun _ _ h => h)
          first | exact h4 | (simpa only [RF.upd, Nat.reduceEqDiff, if_true, if_false, reduceIte] using h4) | (simp only [RF.upd, Nat.reduceEqDiff, if_true, if_false, reduceIte] at h4 ⊢; exact h4)
        · refine RF.Step.plain rfl rfl (fun vs wx hG hv hd K hK => ?_)
          have HG0 := Lib.hid hG
          clear hG
          go_simp
          have h4 := hK _ _ HG0.out rfl (fun _ _ h => h)
          first | exact h4 | (simpa only [RF.upd, Nat.reduceEqDiff, if_true, if_false, reduceIte] using h4) | (simp only [RF.upd, Nat.reduceEqDiff, if_true, if_false, reduceIte] at h4 ⊢; exact h4)
        · refine RF.Step.plain rfl rfl (fun vs wx hG hv hd K hK => ?_)
          have h0 : vs 0 = Value.slice (some ⟨b1, o1, none⟩) ls.length c1 := by first | exact hd.1 | exact hd.2.1 | exact hd.2.2.1 | exact hd.2.2.2.1 | exact hd.2.2.2.2.1
          have h1 : vs 1 = Value.int .i64 (k : Int) := by first | exact hd.1 | exact hd.2.1 | exact hd.2.2.1 | exact hd.2.2.2.1 | exact hd.2.2.2.2.1
          have HG0 := Lib.hid hG
          clear hG
          go_simp
          have h4 := hK _ _ HG0.out rfl (fun _ _ h => h)
          first | exact h4 | (simpa only [RF.upd, h0, h1, Nat.reduceEqDiff, if_true, if_false, reduceIte] using h4) | (simp only [RF.upd, h0, h1, Nat.reduceEqDiff, if_true, if_false, reduceIte] at h4 ⊢; exact h4)
        · refine RF.Step.plain rfl rfl (fun vs wx hG hv hd K hK => ?_)
          have h0 : vs 2 = Value.pointer (some ⟨b1, o1 + k * 11, none⟩) := by first | exact hd.1 | exact hd.2.1 | exact hd.2.2.1 | exact hd.2.2.2.1 | exact hd.2.2.2.2.1
          refine wp_load_mid 55 (.tmp 19) rfl (b1) (o1 + k * 11) (by show vs 2 = _; exact h0) x.cs _ (HE1.out wx hG) Try.underlying55 rfl size_ver ?_
          exact hK _ _ hG rfl (fun _ _ h => h)
        · refine RF.Step.plain rfl rfl (fun vs wx hG hv hd K hK => ?_)
          have HG0 := Lib.hid hG
          clear hG
          go_simp
          have h4 := hK _ _ HG0.out rfl (fun _ _ h => h)
          first | exact h4 | (simpa only [RF.upd, Nat.reduceEqDiff, if_true, if_false, reduceIte] using h4) | (simp only [RF.upd, Nat.reduceEqDiff, if_true, if_false, reduceIte] at h4 ⊢; exact h4)
        · refine RF.Step.plain rfl rfl (fun vs wx hG hv hd K hK => ?_)
          have HG0 := Lib.hid hG
          clear hG
          go_simp
          have h4 := hK _ _ HG0.out rfl (fun _ _ h => h)
          first | exact h4 | (simpa only [RF.upd, Nat.reduceEqDiff, if_true, if_false, reduceIte] using h4) | (simp only [RF.upd, Nat.reduceEqDiff, if_true, if_false, reduceIte] at h4 ⊢; exact h4)
        · refine RF.Step.plain rfl rfl (fun vs wx hG hv hd K hK => ?_)
          have h0 : vs 4 = Value.slice (some ⟨b2, o2, none⟩) ls.length c2 := by first | exact hd.1 | exact hd.2.1 | exact hd.2.2.1 | exact hd.2.2.2.1 | exact hd.2.2.2.2.1
          have h1 : vs 5 = Value.int .i64 (k : Int) := by first | exact hd.1 | exact hd.2.1 | exact hd.2.2.1 | exact hd.2.2.2.1 | exact hd.2.2.2.2.1
          have HG0 := Lib.hid hG
          clear hG
          go_simp
          have h4 := hK _ _ HG0.out rfl (fun _ _ h => h)
          first | exact h4 | (simpa only [RF.upd, h0, h1, Nat.reduceEqDiff, if_true, if_false, reduceIte] using h4) | (simp only [RF.upd, h0, h1, Nat.reduceEqDiff, if_true, if_false, reduceIte] at h4 ⊢; exact h4)
        · refine RF.Step.plain rfl rfl (fun vs wx hG hv hd K hK => ?_)
          have h0 : vs 6 = Value.pointer (some ⟨b2, o2 + k * 11, none⟩) := by first | exact hd.1 | exact hd.2.1 | exact hd.2.2.1 | exact hd.2.2.2.1 | exact hd.2.2.2.2.1
          refine wp_load_mid 55 (.tmp 23) rfl (b2) (o2 + k * 11) (by show vs 6 = _; exact h0) x.cs _ (HE2.out wx hG) Try.underlying55 rfl size_ver ?_
          exact hK _ _ hG rfl (fun _ _ h => h)
        · refine RF.Step.plain rfl rfl (fun vs wx hG hv hd K hK => ?_)
          have h0 : vs 3 = Value.agg x.cs.toArray := by first | exact hd.1 | exact hd.2.1 | exact hd.2.2.1 | exact hd.2.2.2.1 | exact hd.2.2.2.2.1
          have h1 : vs 7 = Value.agg x.cs.toArray := by first | exact hd.1 | exact hd.2.1 | exact hd.2.2.1 | exact hd.2.2.2.1 | exact hd.2.2.2.2.1
          go_simp
          refine (sVer_self x B wx (HOK.out.ext_no hG)).mono ?_
          rintro e w' ⟨rfl, hx⟩
          have h4 := hK _ _ (Ext.trans hG hx) rfl (fun _ _ h => h)
          first | exact h4 | (simpa only [RF.upd, h0, h1, Nat.reduceEqDiff, if_true, if_false, reduceIte] using h4) | (simp only [RF.upd, h0, h1, Nat.reduceEqDiff, if_true, if_false, reduceIte] at h4 ⊢; exact h4)
        · refine RF.Step.plain rfl rfl (fun vs wx hG hv hd K hK => ?_)
          have h0 : vs 8 = Value.bool true := by first | exact hd.1 | exact hd.2.1 | exact hd.2.2.1 | exact hd.2.2.2.1 | exact hd.2.2.2.2.1
          have HG0 := Lib.hid hG
          clear hG
          go_simp
          have h4 := hK _ _ HG0.out rfl (fun _ _ h => h)
          first | exact h4 | (simpa only [RF.upd, h0, Nat.reduceEqDiff, if_true, if_false, reduceIte] using h4) | (simp only [RF.upd, h0, Nat.reduceEqDiff, if_true, if_false, reduceIte] at h4 ⊢; exact h4)
      · intro vs wE hG hF
        have h9 : vs 9 = Value.bool false := hF 9 (by decide)
        have HXE := Lib.hid (HX.out.trans hG)
        rw [h9]
        clear hF hG h9
        go_wp2_with fail
        go_roundw
        case rel => exact ⟨k + 1, by omega, by go_num, HXE⟩
        case measure => simp [intOf]; omega
    · go_wp2_with fail
      go_ret
      exact ⟨rfl, HX.out⟩
end Go.Proofs.Ytlfhfomidkadiaa
