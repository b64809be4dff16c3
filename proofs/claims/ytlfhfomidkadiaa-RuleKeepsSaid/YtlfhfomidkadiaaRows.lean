/-
  No cell of these rows narrows 'for every input' (looked for: loops, veiled, ifaces, maps, wideKeys, modest, calm, conditions, laid).
  DERIVED. THE GIVEN ROWS OF THIS SEAT. 7 by the template 'for every input the law returns true; each argument reads behind the call as it read before'; 0 by the template 'total and deterministic' (their statements: YtlfhfomidkadiaaTotals.lean).
  GIVEN WITH THE SEED: the statements are not yours to turn. If you find one false, say at which input.
  Laid BY PROGRAM, IN A SANDBOX (cutbox-rows.mjs): the forced cells as the released guide's own fill.sh prints them over the translation dc3e5b4401695dad… (all of the seat's roots in one cut). By AI agents, Wed Nov 11 2026. No macro, syntax, notation, axiom, sorry.
-/
import Derived.Test.YtlfhfomidkadiaaChecked
import GoSem.Claim
import GoSem.ClaimJoined
import GoSem.ClaimMapViews
import Derived.JoinedTies
import Derived.KernelRfl
namespace Go.Proofs.Ytlfhfomidkadiaa
/- THE CELL 'sum', in the pinned program and in every row, IS THE sha256 OF THE DUMP (.gsa) THAT YtlfhfomidkadiaaProg.lean LOADS. Nothing in Lean hashes anything: it is a label: what it is worth is what the hold of that sum in a sandbox is worth. -/
noncomputable def Try.pinned : Pinned := { name := "ytlfhfomidkadiaa", sum := "dc3e5b4401695daddd71e5c1a9fd3bd325af34c9ac4175ad619fd56a6d43a4cb", checked := Try.checked }
namespace Rows
def none {H : Type} : Left H := { results := [], args := [] }

/-- 'deedboxlaw15.SpaceDoes': WHATEVER THE INPUT: true; the input reads as it did. -/
def spaceDoesSpec : ChangeSpec := { name := "spaceDoes", fn := fun _ => fun
  | [d1, d2, d3, d4] => { results := [.lit (.bool true)], args := [d1, d2, d3, d4] }
  | _ => none }
def spaceDoesRow : OpenClaim := { program := "ytlfhfomidkadiaa", sum := "dc3e5b4401695daddd71e5c1a9fd3bd325af34c9ac4175ad619fd56a6d43a4cb", func := "deedbox/deedboxlaw15.SpaceDoes", spec := "spaceDoes", apart := false }
def SpaceDoesSaid : Prop := spaceDoesRow.holds Try.pinned (OpenSpec.ofChange spaceDoesSpec)

/-- ITS FALSE NEIGHBOUR: 'it returns false'. Refute it at one input. -/
def spaceDoesWrong : ChangeSpec := { name := "spaceDoes", fn := fun _ => fun
  | [d1, d2, d3, d4] => { results := [.lit (.bool false)], args := [d1, d2, d3, d4] }
  | _ => none }
def SpaceDoesWrongFalsely : Prop := spaceDoesRow.holds Try.pinned (OpenSpec.ofChange spaceDoesWrong)

/-- 'deedboxlaw15.SpaceApart': WHATEVER THE INPUT: true; the input reads as it did. -/
def spaceApartSpec : ChangeSpec := { name := "spaceApart", fn := fun _ => fun
  | [d1, d2, d3] => { results := [.lit (.bool true)], args := [d1, d2, d3] }
  | _ => none }
def spaceApartRow : OpenClaim := { program := "ytlfhfomidkadiaa", sum := "dc3e5b4401695daddd71e5c1a9fd3bd325af34c9ac4175ad619fd56a6d43a4cb", func := "deedbox/deedboxlaw15.SpaceApart", spec := "spaceApart", apart := false }
def SpaceApartSaid : Prop := spaceApartRow.holds Try.pinned (OpenSpec.ofChange spaceApartSpec)

/-- ITS FALSE NEIGHBOUR: 'it returns false'. Refute it at one input. -/
def spaceApartWrong : ChangeSpec := { name := "spaceApart", fn := fun _ => fun
  | [d1, d2, d3] => { results := [.lit (.bool false)], args := [d1, d2, d3] }
  | _ => none }
def SpaceApartWrongFalsely : Prop := spaceApartRow.holds Try.pinned (OpenSpec.ofChange spaceApartWrong)

/-- 'deedboxlaw15.SpaceFirst': WHATEVER THE INPUT: true; the input reads as it did. -/
def spaceFirstSpec : ChangeSpec := { name := "spaceFirst", fn := fun _ => fun
  | [d1, d2] => { results := [.lit (.bool true)], args := [d1, d2] }
  | _ => none }
def spaceFirstRow : OpenClaim := { program := "ytlfhfomidkadiaa", sum := "dc3e5b4401695daddd71e5c1a9fd3bd325af34c9ac4175ad619fd56a6d43a4cb", func := "deedbox/deedboxlaw15.SpaceFirst", spec := "spaceFirst", apart := false }
def SpaceFirstSaid : Prop := spaceFirstRow.holds Try.pinned (OpenSpec.ofChange spaceFirstSpec)

/-- ITS FALSE NEIGHBOUR: 'it returns false'. Refute it at one input. -/
def spaceFirstWrong : ChangeSpec := { name := "spaceFirst", fn := fun _ => fun
  | [d1, d2] => { results := [.lit (.bool false)], args := [d1, d2] }
  | _ => none }
def SpaceFirstWrongFalsely : Prop := spaceFirstRow.holds Try.pinned (OpenSpec.ofChange spaceFirstWrong)

/-- 'deedboxlaw26.RulePicks': WHATEVER THE INPUT: true; the input reads as it did. -/
def rulePicksSpec : ChangeSpec := { name := "rulePicks", fn := fun _ => fun
  | [d1, d2, d3, d4, d5, d6] => { results := [.lit (.bool true)], args := [d1, d2, d3, d4, d5, d6] }
  | _ => none }
def rulePicksRow : OpenClaim := { program := "ytlfhfomidkadiaa", sum := "dc3e5b4401695daddd71e5c1a9fd3bd325af34c9ac4175ad619fd56a6d43a4cb", func := "deedbox/deedboxlaw26.RulePicks", spec := "rulePicks", unfollowed := true, recurses := true, apart := false }
def RulePicksSaid : Prop := rulePicksRow.holds Try.pinned (OpenSpec.ofChange rulePicksSpec)

/-- ITS FALSE NEIGHBOUR: 'it returns false'. Refute it at one input. -/
def rulePicksWrong : ChangeSpec := { name := "rulePicks", fn := fun _ => fun
  | [d1, d2, d3, d4, d5, d6] => { results := [.lit (.bool false)], args := [d1, d2, d3, d4, d5, d6] }
  | _ => none }
def RulePicksWrongFalsely : Prop := rulePicksRow.holds Try.pinned (OpenSpec.ofChange rulePicksWrong)

/-- 'deedboxlaw26.RuleOn': WHATEVER THE INPUT: true; the input reads as it did. -/
def ruleOnSpec : ChangeSpec := { name := "ruleOn", fn := fun _ => fun
  | [d1, d2] => { results := [.lit (.bool true)], args := [d1, d2] }
  | _ => none }
def ruleOnRow : OpenClaim := { program := "ytlfhfomidkadiaa", sum := "dc3e5b4401695daddd71e5c1a9fd3bd325af34c9ac4175ad619fd56a6d43a4cb", func := "deedbox/deedboxlaw26.RuleOn", spec := "ruleOn", unfollowed := true, recurses := true, apart := false }
def RuleOnSaid : Prop := ruleOnRow.holds Try.pinned (OpenSpec.ofChange ruleOnSpec)

/-- ITS FALSE NEIGHBOUR: 'it returns false'. Refute it at one input. -/
def ruleOnWrong : ChangeSpec := { name := "ruleOn", fn := fun _ => fun
  | [d1, d2] => { results := [.lit (.bool false)], args := [d1, d2] }
  | _ => none }
def RuleOnWrongFalsely : Prop := ruleOnRow.holds Try.pinned (OpenSpec.ofChange ruleOnWrong)

/-- 'deedboxlaw26.RuleDoes': WHATEVER THE INPUT: true; the input reads as it did. -/
def ruleDoesSpec : ChangeSpec := { name := "ruleDoes", fn := fun _ => fun
  | [d1, d2, d3, d4] => { results := [.lit (.bool true)], args := [d1, d2, d3, d4] }
  | _ => none }
def ruleDoesRow : OpenClaim := { program := "ytlfhfomidkadiaa", sum := "dc3e5b4401695daddd71e5c1a9fd3bd325af34c9ac4175ad619fd56a6d43a4cb", func := "deedbox/deedboxlaw26.RuleDoes", spec := "ruleDoes", unfollowed := true, recurses := true, apart := false }
def RuleDoesSaid : Prop := ruleDoesRow.holds Try.pinned (OpenSpec.ofChange ruleDoesSpec)

/-- ITS FALSE NEIGHBOUR: 'it returns false'. Refute it at one input. -/
def ruleDoesWrong : ChangeSpec := { name := "ruleDoes", fn := fun _ => fun
  | [d1, d2, d3, d4] => { results := [.lit (.bool false)], args := [d1, d2, d3, d4] }
  | _ => none }
def RuleDoesWrongFalsely : Prop := ruleDoesRow.holds Try.pinned (OpenSpec.ofChange ruleDoesWrong)

/-- 'deedboxlaw26.RuleKeeps': WHATEVER THE INPUT: true; the input reads as it did. -/
def ruleKeepsSpec : ChangeSpec := { name := "ruleKeeps", fn := fun _ => fun
  | [d1, d2, d3, d4] => { results := [.lit (.bool true)], args := [d1, d2, d3, d4] }
  | _ => none }
def ruleKeepsRow : OpenClaim := { program := "ytlfhfomidkadiaa", sum := "dc3e5b4401695daddd71e5c1a9fd3bd325af34c9ac4175ad619fd56a6d43a4cb", func := "deedbox/deedboxlaw26.RuleKeeps", spec := "ruleKeeps", unfollowed := true, recurses := true, apart := false }
def RuleKeepsSaid : Prop := ruleKeepsRow.holds Try.pinned (OpenSpec.ofChange ruleKeepsSpec)

/-- ITS FALSE NEIGHBOUR: 'it returns false'. Refute it at one input. -/
def ruleKeepsWrong : ChangeSpec := { name := "ruleKeeps", fn := fun _ => fun
  | [d1, d2, d3, d4] => { results := [.lit (.bool false)], args := [d1, d2, d3, d4] }
  | _ => none }
def RuleKeepsWrongFalsely : Prop := ruleKeepsRow.holds Try.pinned (OpenSpec.ofChange ruleKeepsWrong)

/- THE SECOND FORM. 'bulk': how many values and letters a reading holds, each counted each time it is reached (what is shared counts as often as it is met; a slice's spare places count too). A statement '..UptoSaid' is the law's where the arguments, and the package variables that the reading takes, are together of bulk at most 1048576: NARROWER than '..Said'. Prove '..Said' where nothing that the law and all that it calls make is longer than what came in: it says more and counts as full. Else prove '..UptoSaid'. A law counts once. -/
mutual
def uptoBulk {H : Type} : DataW H → Nat
  | .lit (.string bytes) => bytes.length + 1
  | .lit _ => 1
  | .nil => 1
  | .ptr d => uptoBulk d + 1
  | .slice elems spare => uptoBulkAll elems + uptoBulkAll spare + 1
  | .agg parts => uptoBulkAll parts + 1
  | .iface _ d => uptoBulk d + 1
  | .map entries => uptoBulkEntries entries + 1
  | .held _ => 1
def uptoBulkAll {H : Type} : List (DataW H) → Nat
  | [] => 0
  | d :: r => uptoBulk d + uptoBulkAll r
def uptoBulkEntries {H : Type} : List (Lit × DataW H) → Nat
  | [] => 0
  | x :: r => uptoBulkEntry x + uptoBulkEntries r
def uptoBulkEntry {H : Type} : Lit × DataW H → Nat
  | (.string bytes, d) => bytes.length + uptoBulk d + 1
  | (_, d) => uptoBulk d + 1
 end
def uptoSmall : (H : Type) → List (DataW H) → Bool := fun _ ds => decide (uptoBulkAll ds ≤ 1048576)
def OpenSpec.upto (s : _root_.Go.ChangeSpec) : _root_.Go.OpenSpec := { _root_.Go.OpenSpec.ofChange s with cond := some uptoSmall }

/-- 'deedboxlaw15.SpaceDoes', WHERE WHAT IT READS IS OF BULK AT MOST 1048576: true; the input reads as it did. -/
def spaceDoesUptoRow : OpenClaim := { program := "ytlfhfomidkadiaa", sum := "dc3e5b4401695daddd71e5c1a9fd3bd325af34c9ac4175ad619fd56a6d43a4cb", func := "deedbox/deedboxlaw15.SpaceDoes", spec := "spaceDoes", apart := false, narrowed := true }
def SpaceDoesUptoSaid : Prop := spaceDoesUptoRow.holds Try.pinned (OpenSpec.upto spaceDoesSpec)

/-- 'deedboxlaw15.SpaceApart', WHERE WHAT IT READS IS OF BULK AT MOST 1048576: true; the input reads as it did. -/
def spaceApartUptoRow : OpenClaim := { program := "ytlfhfomidkadiaa", sum := "dc3e5b4401695daddd71e5c1a9fd3bd325af34c9ac4175ad619fd56a6d43a4cb", func := "deedbox/deedboxlaw15.SpaceApart", spec := "spaceApart", apart := false, narrowed := true }
def SpaceApartUptoSaid : Prop := spaceApartUptoRow.holds Try.pinned (OpenSpec.upto spaceApartSpec)

/-- 'deedboxlaw15.SpaceFirst', WHERE WHAT IT READS IS OF BULK AT MOST 1048576: true; the input reads as it did. -/
def spaceFirstUptoRow : OpenClaim := { program := "ytlfhfomidkadiaa", sum := "dc3e5b4401695daddd71e5c1a9fd3bd325af34c9ac4175ad619fd56a6d43a4cb", func := "deedbox/deedboxlaw15.SpaceFirst", spec := "spaceFirst", apart := false, narrowed := true }
def SpaceFirstUptoSaid : Prop := spaceFirstUptoRow.holds Try.pinned (OpenSpec.upto spaceFirstSpec)

/-- 'deedboxlaw26.RulePicks', WHERE WHAT IT READS IS OF BULK AT MOST 1048576: true; the input reads as it did. -/
def rulePicksUptoRow : OpenClaim := { program := "ytlfhfomidkadiaa", sum := "dc3e5b4401695daddd71e5c1a9fd3bd325af34c9ac4175ad619fd56a6d43a4cb", func := "deedbox/deedboxlaw26.RulePicks", spec := "rulePicks", unfollowed := true, recurses := true, apart := false, narrowed := true }
def RulePicksUptoSaid : Prop := rulePicksUptoRow.holds Try.pinned (OpenSpec.upto rulePicksSpec)

/-- 'deedboxlaw26.RuleOn', WHERE WHAT IT READS IS OF BULK AT MOST 1048576: true; the input reads as it did. -/
def ruleOnUptoRow : OpenClaim := { program := "ytlfhfomidkadiaa", sum := "dc3e5b4401695daddd71e5c1a9fd3bd325af34c9ac4175ad619fd56a6d43a4cb", func := "deedbox/deedboxlaw26.RuleOn", spec := "ruleOn", unfollowed := true, recurses := true, apart := false, narrowed := true }
def RuleOnUptoSaid : Prop := ruleOnUptoRow.holds Try.pinned (OpenSpec.upto ruleOnSpec)

/-- 'deedboxlaw26.RuleDoes', WHERE WHAT IT READS IS OF BULK AT MOST 1048576: true; the input reads as it did. -/
def ruleDoesUptoRow : OpenClaim := { program := "ytlfhfomidkadiaa", sum := "dc3e5b4401695daddd71e5c1a9fd3bd325af34c9ac4175ad619fd56a6d43a4cb", func := "deedbox/deedboxlaw26.RuleDoes", spec := "ruleDoes", unfollowed := true, recurses := true, apart := false, narrowed := true }
def RuleDoesUptoSaid : Prop := ruleDoesUptoRow.holds Try.pinned (OpenSpec.upto ruleDoesSpec)

/-- 'deedboxlaw26.RuleKeeps', WHERE WHAT IT READS IS OF BULK AT MOST 1048576: true; the input reads as it did. -/
def ruleKeepsUptoRow : OpenClaim := { program := "ytlfhfomidkadiaa", sum := "dc3e5b4401695daddd71e5c1a9fd3bd325af34c9ac4175ad619fd56a6d43a4cb", func := "deedbox/deedboxlaw26.RuleKeeps", spec := "ruleKeeps", unfollowed := true, recurses := true, apart := false, narrowed := true }
def RuleKeepsUptoSaid : Prop := ruleKeepsUptoRow.holds Try.pinned (OpenSpec.upto ruleKeepsSpec)

end Rows
end Go.Proofs.Ytlfhfomidkadiaa
