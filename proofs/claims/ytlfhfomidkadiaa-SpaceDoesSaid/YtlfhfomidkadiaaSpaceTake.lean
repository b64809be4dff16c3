/- The blocks that are taken: Take. -/
import Derived.Test.YtlfhfomidkadiaaSpaceCopy
set_option linter.unusedVariables false
set_option linter.unusedSimpArgs false
namespace Go.Proofs.Ytlfhfomidkadiaa
open Go.RowKit Go.Deep

/-- A run of n free blocks from a on. -/
def runAt (L : List Bool) (n a : Nat) : Prop := a + n ≤ L.length ∧ ∀ j, j < n → L[a + j]? = some false
set_option maxHeartbeats 400000 in
theorem spTake_arg (g : Nat) (n : Int) (w : World) (h : n < 1) :
    Calls Try.prog 16 #[ptr g, .int .i64 n] w fun e w' => e = .returned (.tuple #[.int .i64 0, .int .i64 1]) ∧ Ext No w w' := by
  go_enter Try.func16, Try.ntmps16
  go_wp2
  go_ret2
  exact ⟨rfl, Ext.refl _ _⟩

/-- Behind k blocks: the last r of them are free, r is below n, the one ahead of them isn't; no run of n lies in the k. -/
def Scan (L : List Bool) (n k r : Nat) : Prop := r ≤ k ∧ r < n ∧ (∀ j, j < r → L[k - r + j]? = some false) ∧ (r < k → L[k - r - 1]? = some true) ∧ ∀ a, a + n ≤ k → ¬ runAt L n a
theorem Scan.zero (L : List Bool) {n : Nat} (hn : 0 < n) : Scan L n 0 0 := ⟨Nat.le_refl _, hn, fun j hj => absurd hj (Nat.not_lt_zero _), fun h => absurd h (Nat.lt_irrefl _), fun a ha => absurd ha (by omega)⟩
theorem Scan.taken {L : List Bool} {n k r : Nat} (h : Scan L n k r) (ht : L[k]? = some true) : Scan L n (k + 1) 0 := by
  obtain ⟨h1, h2, h3, h4, h5⟩ := h
  refine ⟨by omega, by omega, fun j hj => absurd hj (Nat.not_lt_zero _), fun _ => by simpa using ht, fun a ha hr => ?_⟩
  by_cases c : a + n ≤ k
  · exact h5 a c hr
  · have := hr.2 (n - 1) (by omega)
    rw [show a + (n - 1) = k by omega, ht] at this
    cases this
theorem Scan.free {L : List Bool} {n k r : Nat} (h : Scan L n k r) (ht : L[k]? = some false) (hr : r + 1 < n) : Scan L n (k + 1) (r + 1) := by
  obtain ⟨h1, h2, h3, h4, h5⟩ := h
  refine ⟨by omega, hr, fun j hj => ?_, fun hlt => ?_, fun a ha hru => ?_⟩
  · by_cases c : j = r
    · subst c; rw [show k + 1 - (j + 1) + j = k by omega]; exact ht
    · rw [show k + 1 - (r + 1) + j = k - r + j by omega]; exact h3 j (by omega)
  · rw [show k + 1 - (r + 1) - 1 = k - r - 1 by omega]; exact h4 (by omega)
  · by_cases c : a + n ≤ k
    · exact h5 a c hru
    · have hk := h4 (by omega)
      have := hru.2 (k - r - 1 - a) (by omega)
      rw [show a + (k - r - 1 - a) = k - r - 1 by omega, hk] at this
      cases this
theorem Scan.found {L : List Bool} {n k r : Nat} (h : Scan L n k r) (ht : L[k]? = some false) (hk : k < L.length) (hr : r + 1 = n) : runAt L n (k + 1 - n) ∧ ∀ a, a < k + 1 - n → ¬ runAt L n a := by
  obtain ⟨h1, h2, h3, h4, h5⟩ := h
  refine ⟨⟨by omega, fun j hj => ?_⟩, fun a ha => h5 a (by omega)⟩
  by_cases c : j = r
  · subst c; rw [show k + 1 - n + j = k by omega]; exact ht
  · rw [show k + 1 - n + j = k - r + j by omega]; exact h3 j (by omega)

/-- The first blocks are taken for good. -/
def Fixed (first : Nat) (L : List Bool) : Prop := first ≤ L.length ∧ ∀ k, k < first → L[k]? = some true
theorem runAt.free {L : List Bool} {n a : Nat} (h : runAt L n a) : true ∉ (L.drop a).take n := by
  intro hm
  obtain ⟨j, hj, he⟩ := List.mem_iff_getElem.1 hm
  have hl : ((L.drop a).take n).length ≤ n := List.length_take_le _ _
  have := h.2 j (by omega)
  have h2 : ((L.drop a).take n)[j]? = some true := by rw [List.getElem?_eq_getElem hj, he]
  rw [List.getElem?_take_of_lt (by omega), List.getElem?_drop, this] at h2
  cases h2
theorem runAt.ok {L : List Bool} {first n a : Nat} (h : runAt L n a) (hn : 1 ≤ n) (hf : Fixed first L) : okRun first L a n := by
  refine ⟨by omega, ?_, by have := h.1; omega, by have := h.1; omega⟩
  by_cases c : first ≤ a
  · omega
  · have h1 := hf.2 a (by omega)
    have h2 := h.2 0 (by omega)
    rw [Nat.add_zero, h1] at h2
    cases h2
/-- What Take answers, and does. -/
def TakePost (g b c m : Nat) (first : Nat) (L : List Bool) (w : World) (e : Ending) (w' : World) : Prop :=
  (∃ a, runAt L m a ∧ (∀ a', a' < a → ¬ runAt L m a') ∧ e = .returned (.tuple #[.int .i64 (a : Int), .int .i64 0]) ∧ IsSp w' g b c first (fillRun L a m true) ∧ Ext (One b) w w') ∨
  ((∀ a, ¬ runAt L m a) ∧ e = .returned (.tuple #[.int .i64 0, .int .i64 7]) ∧ Ext No w w')
set_option maxRecDepth 100000 in
set_option maxHeartbeats 1000000 in
theorem spTake_any (g b c m first : Nat) (L : List Bool) (w : World) (h : IsSp w g b c first L) (hf : Fixed first L) (hm : 1 ≤ m) (hmb : m ≤ 9223372036854775807) :
    Calls Try.prog 16 #[ptr g, .int .i64 (m : Int)] w (TakePost g b c m first L w) := by
  have B := Blk.c2 h.1
  have hlm : L.length ≤ 2 ^ 63 - 1 := by have := h.2.1; have := h.2.2.1; unfold maxLen at *; omega
  have HS := Lib.hid h
  have HF := Lib.hid hf
  have hm1 : ¬ (m : Int) < 1 := by omega
  clear h hf
  go_enter Try.func16, Try.ntmps16
  go_wp2
  go_loopw [16, 6] (fun i r wr => ∃ k : Nat, k ≤ L.length ∧ i = .int .i64 k ∧ ∃ j : Nat, r = .int .i64 j ∧ j ≤ k ∧ j < m ∧ Hid (Scan L m k j) ∧ ∃ n, wr = w.drewN n) (fun i _ _ => L.length - (intOf i).toNat)
  case atStart => exact ⟨0, by omega, rfl, 0, rfl, by omega, by omega, Lib.hid (Scan.zero L hm), 0, rfl⟩
  case round =>
    obtain ⟨k, hk, rfl, j, rfl, hjk, hjm, HJ, n, rfl⟩ := hrel
    by_cases hlt : k < L.length
    · have cl := HS.out.2.2.2.2.cell hlt
      have hk0 : (0 : Int) ≤ (k : Int) := by omega
      have hk1 : (k : Int) < (L.length : Int) := by omega
      have HG := Lib.hid (List.getElem?_eq_getElem hlt)
      cases hv : L[k]
      · rw [hv] at cl HG
        clear hv
        by_cases hr : j + 1 = m
        · have HR := Lib.hid (Scan.found HJ.out HG.out hlt hr)
          have hmk : m ≤ k + 1 := by omega
          have hr2 : ((j : Int) + 1 == (m : Int)) = true := beq_iff_eq.2 (by omega)
          clear hr
          go_wp2_with fail
          have e : (k : Int) + 1 - (m : Int) = ((k + 1 - m : Nat) : Int) := by omega
          rw [e]
          clear e hr2 cl
          refine (spMark_do g b c (k + 1 - m) m first L (w.drewN n) (HS.out.no ((Ext.refl No w).drewN n)) (HR.out.1.ok hm HF.out) HR.out.1.free).mono ?_
          rintro e w' ⟨rfl, hs, hx⟩
          have HH := Lib.hid (And.intro hs hx)
          clear hs hx
          go_wp2
          go_ret2
          exact .inl ⟨k + 1 - m, HR.out.1, HR.out.2, rfl, HH.out.1, ((Ext.refl _ w).drewN n).trans HH.out.2⟩
        · have hr2 : ((j : Int) + 1 == (m : Int)) = false := beq_eq_false_iff_ne.2 (by omega)
          have hj2 : j + 1 < m := by omega
          have HJ2 := Lib.hid (Scan.free HJ.out HG.out hj2)
          clear hr
          go_wp2
          go_roundw
          case rel => exact ⟨k + 1, by omega, by go_num, j + 1, by go_num, by omega, by omega, HJ2, n, rfl⟩
          case measure => simp [intOf]; omega
      · rw [hv] at cl HG
        clear hv
        have HJ2 := Lib.hid (Scan.taken HJ.out HG.out)
        go_wp2
        go_roundw
        case rel => exact ⟨k + 1, by omega, by go_num, 0, rfl, by omega, by omega, HJ2, n, rfl⟩
        case measure => simp [intOf]; omega
    · obtain rfl : k = L.length := by omega
      go_wp2
      go_ret2
      refine .inr ⟨fun a ha => HJ.out.2.2.2.2 a (by have := ha.1; omega) ha, rfl, (Ext.refl _ _).drewN n⟩
end Go.Proofs.Ytlfhfomidkadiaa
