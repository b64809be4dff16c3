/- The walk of CellWhole over arguments that read as data. -/
import Derived.Test.YtbemmjejgklieaaLawWhole10
import Derived.Test.YtbemmjejgklieaaOpen10
set_option linter.unusedVariables false
namespace Go.Proofs.Ytbemmjejgklieaa
open Go.RowKit Go.ChangeShapes Go.WideShapes Go.Deep

set_option maxRecDepth 100000 in
theorem walk_CellWhole (W : World) (v0 v1 v2 v3 v4 : Value) (u0 : Rd Try.prog W 40 v0.cells.toList) (u1 : Rd Try.prog W 41 v1.cells.toList) (u2 : Rd Try.prog W 41 v2.cells.toList) (u3 : Rd Try.prog W 5 v3.cells.toList) (u4 : Rd Try.prog W 4 v4.cells.toList)
    {r : Reach} {base : Nat} (ok0 : Value.okWide Try.prog W r base 40 v0) (ok1 : Value.okWide Try.prog W r base 41 v1) (ok2 : Value.okWide Try.prog W r base 41 v2) (ok3 : Value.okWide Try.prog W r base 5 v3) (ok4 : Value.okWide Try.prog W r base 4 v4) :
    Calls Try.prog 5 #[v0, v1, v2, v3, v4] W fun e W' => e = .returned (.bool true) ∧ Ext No W W' := by
  obtain ⟨A, len, cap, rfl⟩ := Go.WideShapes.okWide_slice Try.underlying40 ok0
  obtain ⟨Aa, na, ca, rfl⟩ := Go.WideShapes.okWide_slice Try.underlying41 ok1
  obtain ⟨Ab, nb, cb, rfl⟩ := Go.WideShapes.okWide_slice Try.underlying41 ok2
  obtain ⟨n, rfl, hn⟩ := Rd.int_val Try.underlying5 ok3 u3
  obtain ⟨d, rfl⟩ := Rd.bool_val Try.underlying4 ok4 u4
  obtain ⟨A1, c1, l1, e1, h1⟩ := bytes_of u1
  obtain ⟨A2, c2, l2, e2, h2⟩ := bytes_of u2
  have e1 : [Value.slice Aa na ca] = [.slice A1 l1.length c1] := e1
  have e2 : [Value.slice Ab nb cb] = [.slice A2 l2.length c2] := e2
  simp only [List.cons.injEq, Value.slice.injEq, and_true] at e1 e2
  obtain ⟨rfl, rfl, rfl⟩ := e1
  obtain ⟨rfl, rfl, rfl⟩ := e2
  have hb := bounds_u8 hn
  exact whole_any A len cap _ _ _ _ _ _ n d W (acts10_of u0) h1 h2 hb.1 hb.2
end Go.Proofs.Ytbemmjejgklieaa
