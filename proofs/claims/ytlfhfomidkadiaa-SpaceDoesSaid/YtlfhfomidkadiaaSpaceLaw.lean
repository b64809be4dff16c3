/- The blocks that are taken: works; Take at a run that is known. -/
import Derived.Test.YtlfhfomidkadiaaSpaceTake
set_option linter.unusedVariables false
set_option linter.unusedSimpArgs false
namespace Go.Proofs.Ytlfhfomidkadiaa
open Go.RowKit Go.Deep

instance (L : List Bool) (n a : Nat) : Decidable (runAt L n a) := by unfold runAt; infer_instance
instance (f : Nat) (L : List Bool) : Decidable (Fixed f L) := by unfold Fixed; infer_instance
instance (f : Int) (L : List Bool) (a n : Int) : Decidable (okRun f L a n) := by unfold okRun; infer_instance
instance (n f : Int) : Decidable (okNew n f) := by unfold okNew; infer_instance
theorem spTake_at (g b c m first a : Nat) (L : List Bool) (w : World) (h : IsSp w g b c first L) (hf : Fixed first L) (hm : 1 ≤ m) (hmb : m ≤ 9223372036854775807) (ha : runAt L m a) (hb : ∀ a', a' < a → ¬ runAt L m a') :
    Calls Try.prog 16 #[ptr g, .int .i64 (m : Int)] w fun e w' => e = .returned (.tuple #[.int .i64 (a : Int), .int .i64 0]) ∧ IsSp w' g b c first (fillRun L a m true) ∧ Ext (One b) w w' := by
  refine (spTake_any g b c m first L w h hf hm hmb).mono ?_
  rintro e w' (⟨a', h1, h2, h3, h4, h5⟩ | ⟨h1, _⟩)
  · have : a' = a := by
      rcases Nat.lt_trichotomy a' a with h | h | h
      · exact absurd h1 (hb a' h)
      · exact h
      · exact absurd ha (h2 a h)
    subst this
    exact ⟨h3, h4, h5⟩
  · exact absurd ha (h1 a)
theorem spTake_no (g b c m first : Nat) (L : List Bool) (w : World) (h : IsSp w g b c first L) (hf : Fixed first L) (hm : 1 ≤ m) (hmb : m ≤ 9223372036854775807) (ha : ∀ a, ¬ runAt L m a) :
    Calls Try.prog 16 #[ptr g, .int .i64 (m : Int)] w fun e w' => e = .returned (.tuple #[.int .i64 0, .int .i64 7]) ∧ Ext No w w' := by
  refine (spTake_any g b c m first L w h hf hm hmb).mono ?_
  rintro e w' (⟨a', h1, _⟩ | ⟨_, h2, h3⟩)
  · exact absurd h1 (ha a')
  · exact ⟨h2, h3⟩
theorem noRun {L : List Bool} {m : Nat} (h : ∀ a, a < L.length → ¬ runAt L m a) (hm : 1 ≤ m) : ∀ a, ¬ runAt L m a := fun a ha => h a (by have := ha.1; omega) ha

set_option maxRecDepth 100000 in
set_option maxHeartbeats 4000000 in
theorem works15 (w : World) : Calls Try.prog 10 #[] w fun e w' => e = .returned (.bool true) ∧ Ext No w w' := by
  go_enter Try.func10, Try.ntmps10
  go_wp2_with fail
  refine (spNew_ok 10 2 w (by decide)).mono ?_
  rintro e w1 ⟨rfl, h1, hx1⟩
  have hg : w.heap.size + 1 < w1.heap.size := h1.1.lt
  have H1 : Hid (IsSp w1 (w.heap.size + 1) w.heap.size 10 2 [true, true, false, false, false, false, false, false, false, false]) := h1
  have X1 := Lib.hid hx1
  clear h1 hx1
  go_wp2_with fail
  refine (spNew_no 0 0 w1 (by decide)).mono ?_
  rintro e w2 ⟨rfl, hx2⟩
  have hg : w.heap.size + 1 < w2.heap.size := by have := hx2.size; omega
  have H2 := Lib.hid (H1.out.no hx2)
  have X2 := Lib.hid (X1.out.trans hx2)
  clear hx2 H1 X1
  go_wp2_with fail
  refine (spTake_at _ _ _ 3 2 2 _ w2 H2.out (by decide) (by omega) (by omega) (by decide) (by decide)).mono ?_
  rintro e w3 ⟨rfl, h3, hx3⟩
  have hg : w.heap.size + 1 < w3.heap.size := by have := hx3.size; omega
  have H3 : Hid (IsSp w3 (w.heap.size + 1) w.heap.size 10 2 [true, true, true, true, true, false, false, false, false, false]) := h3
  have X3 := Lib.hid (X2.out.transS hx3 (fun i hi h => by have h : i = w.heap.size := h; omega))
  clear hx3 h3 H2 X2
  go_wp2_with fail
  refine (spMark_do _ _ _ 5 2 2 _ w3 H3.out (by decide) (by decide)).mono ?_
  rintro e w4 ⟨rfl, h4, hx4⟩
  have hg : w.heap.size + 1 < w4.heap.size := by have := hx4.size; omega
  have H4 : Hid (IsSp w4 (w.heap.size + 1) w.heap.size 10 2 [true, true, true, true, true, true, true, false, false, false]) := h4
  have X4 := Lib.hid (X3.out.transS hx4 (fun i hi h => by have h : i = w.heap.size := h; omega))
  clear hx4 h4 H3 X3
  go_wp2_with fail
  refine (spTake_at _ _ _ 3 2 7 _ w4 H4.out (by decide) (by omega) (by omega) (by decide) (by decide)).mono ?_
  rintro e w5 ⟨rfl, h5, hx5⟩
  have hg : w.heap.size + 1 < w5.heap.size := by have := hx5.size; omega
  have H5 : Hid (IsSp w5 (w.heap.size + 1) w.heap.size 10 2 [true, true, true, true, true, true, true, true, true, true]) := h5
  have X5 := Lib.hid (X4.out.transS hx5 (fun i hi h => by have h : i = w.heap.size := h; omega))
  clear hx5 h5 H4 X4
  go_wp2_with fail
  refine (spGive_do _ _ _ 3 1 2 _ w5 H5.out (by decide) (by decide)).mono ?_
  rintro e w6 ⟨rfl, h6, hx6⟩
  have hg : w.heap.size + 1 < w6.heap.size := by have := hx6.size; omega
  have H6 : Hid (IsSp w6 (w.heap.size + 1) w.heap.size 10 2 [true, true, true, false, true, true, true, true, true, true]) := h6
  have X6 := Lib.hid (X5.out.transS hx6 (fun i hi h => by have h : i = w.heap.size := h; omega))
  clear hx6 h6 H5 X5
  go_wp2_with fail
  refine (spGive_wrong _ _ _ 3 1 2 _ w6 H6.out (by decide) (by decide)).mono ?_
  rintro e w7 ⟨rfl, hx7⟩
  have hg : w.heap.size + 1 < w7.heap.size := by have := hx7.size; omega
  have H7 := Lib.hid (H6.out.no hx7)
  have X7 := Lib.hid (X6.out.trans hx7)
  clear hx7 H6 X6
  go_wp2_with fail
  refine (spTake_no _ _ _ 4 2 _ w7 H7.out (by decide) (by omega) (by omega) (noRun (by decide) (by omega))).mono ?_
  rintro e w8 ⟨rfl, hx8⟩
  have hg : w.heap.size + 1 < w8.heap.size := by have := hx8.size; omega
  have H8 := Lib.hid (H7.out.no hx8)
  have X8 := Lib.hid (X7.out.trans hx8)
  clear hx8 H7 X7
  go_wp2_with fail
  refine (spFree_any _ _ _ _ _ w8 H8.out).mono ?_
  rintro e w9 ⟨rfl, n9, rfl⟩
  have H9 := Lib.hid (H8.out.no ((Ext.refl No w8).drewN n9))
  have X9 := Lib.hid (X8.out.drewN n9)
  rw [show ((freeOf [true, true, true, false, true, true, true, true, true, true] : Nat) : Int) = 1 from rfl]
  clear H8 X8
  generalize w8.drewN n9 = w9 at *
  go_wp2_with fail
  refine (spTaken_any _ _ _ _ 1 _ w9 H9.out).mono ?_
  rintro e w' ⟨rfl, rfl⟩
  rw [show takenAt [true, true, true, false, true, true, true, true, true, true] 1 = true from rfl]
  go_wp2_with fail
  refine (spTaken_any _ _ _ _ 3 _ w9 H9.out).mono ?_
  rintro e w' ⟨rfl, rfl⟩
  rw [show takenAt [true, true, true, false, true, true, true, true, true, true] 3 = false from rfl]
  go_wp2_with fail
  refine (spTaken_any _ _ _ _ 10 _ w9 H9.out).mono ?_
  rintro e w' ⟨rfl, rfl⟩
  rw [show takenAt [true, true, true, false, true, true, true, true, true, true] 10 = true from rfl]
  go_wp2_with fail
  refine (spSize_any _ _ _ _ _ w9 H9.out).mono ?_
  rintro e w' ⟨rfl, rfl⟩
  rw [show (([true, true, true, false, true, true, true, true, true, true] : List Bool).length : Int) = 10 from rfl]
  go_wp2_with fail
  refine (spCopy_any _ _ _ _ _ w9 H9.out (by decide) (by decide)).mono ?_
  rintro e w10 ⟨g', b', c', rfl, h10, hg1, hg2, hx10⟩
  have H10 := Lib.hid h10
  have X10 := Lib.hid (X9.out.trans hx10)
  clear h10 hx10
  go_wp2_with fail
  refine (spFree_any _ _ _ _ _ w10 H10.out).mono ?_
  rintro e w11 ⟨rfl, n11, rfl⟩
  rw [show ((freeOf [true, true, true, false, true, true, true, true, true, true] : Nat) : Int) = 1 from rfl]
  go_wp2
  go_ret
  exact ⟨rfl, X10.out.drewN n11⟩
end Go.Proofs.Ytlfhfomidkadiaa
