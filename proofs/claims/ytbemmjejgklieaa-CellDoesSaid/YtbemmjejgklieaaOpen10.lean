/- The acts of chapter 10, opened. -/
import Derived.Test.YtbemmjejgklieaaLaw10
import Derived.Test.YtbemmjejgklieaaOpenBytes
set_option linter.unusedVariables false
set_option linter.unusedSimpArgs false
namespace Go.Proofs.Ytbemmjejgklieaa
open Go.RowKit Go.ChangeShapes Go.WideShapes Go.Deep

set_option maxRecDepth 100000 in
theorem acts10_of {W : World} {A : Option Addr} {len cap : Nat} (h : Rd Try.prog W 40 [.slice A len cap]) : Acts10 W A len cap := by
  have hC : Try.prog.cellsOf 48 = 5 := by kernel_rfl
  obtain ⟨A', len', cap', hcs, hl, hcm, _, b, off, hi⟩ := Rd.slice Try.underlying40 (by rw [hC]; omega) h
  simp only [List.cons.injEq, Value.slice.injEq, and_true] at hcs
  obtain ⟨rfl, rfl, rfl⟩ := hcs
  refine ⟨hl, hcm, fun k hk => ?_⟩
  obtain ⟨rfl, cs', hcl, hcell, hrd⟩ := hi k hk
  rw [hC] at hcl hcell
  obtain ⟨_, hf⟩ := Rd.struct Try.underlying48 hrd
  match cs', hcl with
  | [c0, c1, c2, c3, c4], _ =>
    obtain ⟨kind, h0, _⟩ := Rd.int Try.underlying3 (hf 0 _ rfl)
    obtain ⟨at_, h1, _⟩ := Rd.int Try.underlying3 (hf 1 _ rfl)
    obtain ⟨Ab, cb, lb, h2, hbs⟩ := bytes_of (hf 2 _ rfl)
    obtain ⟨num, h3, w3⟩ := Rd.int Try.underlying3 (hf 3 _ rfl)
    obtain ⟨done, h4⟩ := Rd.bool Try.underlying4 (hf 4 _ rfl)
    have e0 : c0 = .int .i64 kind := by
      have : [c0] = [Value.int .i64 kind] := h0
      simpa using this
    have e1 : c1 = .int .i64 at_ := by
      have : [c1] = [Value.int .i64 at_] := h1
      simpa using this
    have e2 : c2 = .slice Ab lb.length cb := by
      have : [c2] = [Value.slice Ab lb.length cb] := h2
      simpa using this
    have e3 : c3 = .int .i64 num := by
      have : [c3] = [Value.int .i64 num] := h3
      simpa using this
    have e4 : c4 = .bool done := by
      have : [c4] = [Value.bool done] := h4
      simpa using this
    subst e0 e1 e2 e3 e4
    have hb := bounds_i64 w3
    exact ⟨b, off, kind, at_, Ab, lb, cb, num, done, rfl, hcell 0 _ rfl, hcell 1 _ rfl, hcell 2 _ rfl, hcell 3 _ rfl, hcell 4 _ rfl, hb.1, hb.2, hbs⟩
end Go.Proofs.Ytbemmjejgklieaa
