/- The walk of CellDoes over arguments that read as data. -/
import Derived.Test.YtbemmjejgklieaaLawDoes10
import Derived.Test.YtbemmjejgklieaaOpen10
set_option linter.unusedVariables false
namespace Go.Proofs.Ytbemmjejgklieaa
open Go.RowKit Go.ChangeShapes Go.WideShapes Go.Deep

set_option maxRecDepth 100000 in
theorem walk_CellDoes (W : World) (v : Value) (u : Rd Try.prog W 40 v.cells.toList) {r : Reach} {base : Nat} (ok : Value.okWide Try.prog W r base 40 v) :
    Calls Try.prog 6 #[v] W fun e W' => e = .returned (.bool true) ∧ Ext No W W' := by
  obtain ⟨A, len, cap, rfl⟩ := Go.WideShapes.okWide_slice Try.underlying40 ok
  exact does10_any A len cap W (acts10_of u)
end Go.Proofs.Ytbemmjejgklieaa
