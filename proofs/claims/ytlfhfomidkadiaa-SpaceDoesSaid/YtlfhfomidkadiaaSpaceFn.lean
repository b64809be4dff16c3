/- The blocks that are taken: Take, Mark, Give at any arguments, as functions of the row. -/
import Derived.Test.YtlfhfomidkadiaaSpaceLaw
set_option linter.unusedVariables false
set_option linter.unusedSimpArgs false
namespace Go.Proofs.Ytlfhfomidkadiaa
open Go.RowKit Go.Deep

def firstRun (L : List Bool) (m : Nat) : Option Nat := (List.range (L.length + 1)).find? (fun a => decide (runAt L m a))
theorem firstRun_some {L : List Bool} {m a : Nat} (h : runAt L m a) (hb : ∀ a', a' < a → ¬ runAt L m a') : firstRun L m = some a := by
  unfold firstRun
  rw [List.find?_range_eq_some]
  refine ⟨decide_eq_true h, List.mem_range.2 (by have := h.1; omega), fun j hj => ?_⟩
  rw [decide_eq_false (hb j hj)]; rfl
theorem firstRun_none {L : List Bool} {m : Nat} (h : ∀ a, ¬ runAt L m a) : firstRun L m = none := by
  unfold firstRun
  rw [List.find?_range_eq_none]
  intro i hi
  rw [decide_eq_false (h i)]; rfl
theorem firstRun_is {L : List Bool} {m a : Nat} (h : firstRun L m = some a) : runAt L m a ∧ ∀ a', a' < a → ¬ runAt L m a' := by
  unfold firstRun at h
  rw [List.find?_range_eq_some] at h
  refine ⟨of_decide_eq_true h.1, fun a' ha hr => ?_⟩
  have := h.2.2 a' ha
  rw [decide_eq_true hr] at this
  cases this
theorem firstRun_no {L : List Bool} {m : Nat} (h : firstRun L m = none) (a : Nat) : ¬ runAt L m a := by
  intro ha
  unfold firstRun at h
  rw [List.find?_range_eq_none] at h
  have := h a (by have := ha.1; omega)
  rw [decide_eq_true ha] at this
  cases this
/-- Take: the row behind it, where, which code. -/
def takeF (L : List Bool) (n : Int) : List Bool × Int × Int :=
  if n < 1 then (L, 0, 1) else match firstRun L n.toNat with
    | some a => (fillRun L a n.toNat true, (a : Int), 0)
    | none => (L, 0, 7)
/-- Mark (t = true), Give. -/
def setF (first : Nat) (L : List Bool) (at_ n : Int) (t : Bool) (wrong : Int) : List Bool × Int :=
  if okRun first L at_ n then (if ((L.drop at_.toNat).take n.toNat).contains t then (L, wrong) else (fillRun L at_.toNat n.toNat t, 0)) else (L, 2)
theorem Fixed.fill {first a n : Nat} {L : List Bool} {t : Bool} (h : Fixed first L) (hf : first ≤ a) (hl : a + n ≤ L.length) : Fixed first (fillRun L a n t) := by
  refine ⟨by rw [fillRun_length hl]; exact h.1, fun k hk => ?_⟩
  have hk2 : k < L.length := by have := h.1; omega
  rw [fillRun_get hl hk2, if_neg (by omega)]
  have := h.2 k hk
  rwa [List.getElem?_eq_getElem hk2] at this
theorem takeF_keeps {L : List Bool} {first : Nat} (h : Fixed first L) (n : Int) : (takeF L n).1.length = L.length ∧ Fixed first (takeF L n).1 := by
  unfold takeF
  by_cases c : n < 1
  · rw [if_pos c]; exact ⟨rfl, h⟩
  · rw [if_neg c]
    cases hf : firstRun L n.toNat with
    | none => exact ⟨rfl, h⟩
    | some a =>
      have hr := (firstRun_is hf).1
      have ho := hr.ok (by omega) h
      exact ⟨fillRun_length hr.1, h.fill (by have := ho.2.1; omega) hr.1⟩
theorem setF_keeps {L : List Bool} {first : Nat} (h : Fixed first L) (at_ n : Int) (t : Bool) (wrong : Int) : (setF first L at_ n t wrong).1.length = L.length ∧ Fixed first (setF first L at_ n t wrong).1 := by
  unfold setF
  by_cases c : okRun first L at_ n
  · rw [if_pos c]
    obtain ⟨h1, h2, h3, h4⟩ := c
    split
    · exact ⟨rfl, h⟩
    · exact ⟨fillRun_length (by omega), h.fill (by omega) (by omega)⟩
  · rw [if_neg c]; exact ⟨rfl, h⟩
theorem spTake_fn (g b c first : Nat) (n : Int) (L : List Bool) (w : World) (h : IsSp w g b c first L) (hf : Fixed first L) (hmb : n ≤ 9223372036854775807) :
    Calls Try.prog 16 #[ptr g, .int .i64 n] w fun e w' => e = .returned (.tuple #[.int .i64 (takeF L n).2.1, .int .i64 (takeF L n).2.2]) ∧ IsSp w' g b c first (takeF L n).1 ∧ Ext (One b) w w' := by
  unfold takeF
  by_cases hn : n < 1
  · rw [if_pos hn]
    refine (spTake_arg g n w hn).mono ?_
    rintro e w' ⟨rfl, hx⟩
    exact ⟨rfl, h.no hx, hx.no⟩
  · rw [if_neg hn]
    obtain ⟨m, rfl⟩ : ∃ m : Nat, n = (m : Int) := ⟨n.toNat, by omega⟩
    rw [Int.toNat_natCast]
    refine (spTake_any g b c m first L w h hf (by omega) (by omega)).mono ?_
    rintro e w' (⟨a, h1, h2, h3, h4, h5⟩ | ⟨h1, h2, h3⟩)
    · rw [firstRun_some h1 h2]; exact ⟨h3, h4, h5⟩
    · rw [firstRun_none h1]; exact ⟨h2, h.no h3, h3.no⟩
theorem spMark_fn (g b c first : Nat) (at_ n : Int) (L : List Bool) (w : World) (h : IsSp w g b c first L) :
    Calls Try.prog 18 #[ptr g, .int .i64 at_, .int .i64 n] w fun e w' => e = .returned (.int .i64 (setF first L at_ n true 10).2) ∧ IsSp w' g b c first (setF first L at_ n true 10).1 ∧ Ext (One b) w w' := by
  unfold setF
  by_cases hr : okRun first L at_ n
  · rw [if_pos hr]
    obtain ⟨a, rfl⟩ : ∃ a : Nat, at_ = (a : Int) := ⟨at_.toNat, by have := hr.2.1; omega⟩
    obtain ⟨m, rfl⟩ : ∃ m : Nat, n = (m : Int) := ⟨n.toNat, by have := hr.1; omega⟩
    rw [Int.toNat_natCast, Int.toNat_natCast]
    by_cases hc : ((L.drop a).take m).contains true = true
    · rw [if_pos hc]
      refine (spMark_wrong g b c a m first L w h hr (List.contains_iff_mem.1 hc)).mono ?_
      rintro e w' ⟨rfl, hx⟩
      exact ⟨rfl, h.no hx, hx.no⟩
    · rw [if_neg hc]
      exact spMark_do g b c a m first L w h hr (fun hm => hc (List.contains_iff_mem.2 hm))
  · rw [if_neg hr]
    refine (spMark_range g b c first at_ n L w h hr).mono ?_
    rintro e w' ⟨rfl, hx⟩
    exact ⟨rfl, h.no hx, hx.no⟩
theorem spGive_fn (g b c first : Nat) (at_ n : Int) (L : List Bool) (w : World) (h : IsSp w g b c first L) :
    Calls Try.prog 20 #[ptr g, .int .i64 at_, .int .i64 n] w fun e w' => e = .returned (.int .i64 (setF first L at_ n false 9).2) ∧ IsSp w' g b c first (setF first L at_ n false 9).1 ∧ Ext (One b) w w' := by
  unfold setF
  by_cases hr : okRun first L at_ n
  · rw [if_pos hr]
    obtain ⟨a, rfl⟩ : ∃ a : Nat, at_ = (a : Int) := ⟨at_.toNat, by have := hr.2.1; omega⟩
    obtain ⟨m, rfl⟩ : ∃ m : Nat, n = (m : Int) := ⟨n.toNat, by have := hr.1; omega⟩
    rw [Int.toNat_natCast, Int.toNat_natCast]
    by_cases hc : ((L.drop a).take m).contains false = true
    · rw [if_pos hc]
      refine (spGive_wrong g b c a m first L w h hr (List.contains_iff_mem.1 hc)).mono ?_
      rintro e w' ⟨rfl, hx⟩
      exact ⟨rfl, h.no hx, hx.no⟩
    · rw [if_neg hc]
      exact spGive_do g b c a m first L w h hr (fun hm => hc (List.contains_iff_mem.2 hm))
  · rw [if_neg hr]
    refine (spGive_range g b c first at_ n L w h hr).mono ?_
    rintro e w' ⟨rfl, hx⟩
    exact ⟨rfl, h.no hx, hx.no⟩
end Go.Proofs.Ytlfhfomidkadiaa
