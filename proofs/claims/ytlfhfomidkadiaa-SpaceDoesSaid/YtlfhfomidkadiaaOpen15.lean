/- The acts of chapter 15, opened. -/
import Derived.Test.YtlfhfomidkadiaaSpaceFn
import Derived.Test.YtlfhfomidkadiaaOpen
set_option linter.unusedVariables false
set_option linter.unusedSimpArgs false
namespace Go.Proofs.Ytlfhfomidkadiaa
open Go.RowKit Go.ChangeShapes Go.WideShapes Go.Deep

/-- A slice of acts (kind, at, n), as it lies in memory. -/
def Acts15 (w : World) (A : Option Addr) (n c : Nat) : Prop :=
  n ≤ c ∧ c ≤ maxLen ∧ ∀ k, k < n → ∃ b off kind at_ num, A = some ⟨b, off, none⟩ ∧ w.cell? ⟨b, off + k * 3, none⟩ = some (.int .i64 kind) ∧ w.cell? ⟨b, off + k * 3 + 1, none⟩ = some (.int .i64 at_) ∧
    w.cell? ⟨b, off + k * 3 + 2, none⟩ = some (.int .i64 num) ∧ -9223372036854775808 ≤ at_ ∧ at_ ≤ 9223372036854775807 ∧ -9223372036854775808 ≤ num ∧ num ≤ 9223372036854775807
set_option maxRecDepth 100000 in
theorem acts15_of {W : World} {A : Option Addr} {len cap : Nat} (h : Rd Try.prog W 22 [.slice A len cap]) : Acts15 W A len cap := by
  have hC : Try.prog.cellsOf 34 = 3 := by kernel_rfl
  obtain ⟨A', len', cap', hcs, hl, hcm, _, b, off, hi⟩ := Rd.slice Try.underlying22 (by rw [hC]; omega) h
  simp only [List.cons.injEq, Value.slice.injEq, and_true] at hcs
  obtain ⟨rfl, rfl, rfl⟩ := hcs
  refine ⟨hl, hcm, fun k hk => ?_⟩
  obtain ⟨rfl, cs', hcl, hcell, hrd⟩ := hi k hk
  rw [hC] at hcl hcell
  obtain ⟨_, hf⟩ := Rd.struct Try.underlying34 hrd
  match cs', hcl with
  | [c0, c1, c2], _ =>
    obtain ⟨kind, h0, _⟩ := Rd.int Try.underlying3 (hf 0 _ rfl)
    obtain ⟨at_, h1, w1⟩ := Rd.int Try.underlying3 (hf 1 _ rfl)
    obtain ⟨num, h2, w2⟩ := Rd.int Try.underlying3 (hf 2 _ rfl)
    have e0 : c0 = .int .i64 kind := by
      have : [c0] = [Value.int .i64 kind] := h0
      simpa using this
    have e1 : c1 = .int .i64 at_ := by
      have : [c1] = [Value.int .i64 at_] := h1
      simpa using this
    have e2 : c2 = .int .i64 num := by
      have : [c2] = [Value.int .i64 num] := h2
      simpa using this
    subst e0 e1 e2
    have hb1 := bounds_i64 w1
    have hb2 := bounds_i64 w2
    exact ⟨b, off, kind, at_, num, rfl, hcell 0 _ rfl, hcell 1 _ rfl, hcell 2 _ rfl, hb1.1, hb1.2, hb2.1, hb2.2⟩
end Go.Proofs.Ytlfhfomidkadiaa
