/-
  No cell of these rows narrows 'for every input' (looked for: loops, veiled, ifaces, maps, wideKeys, modest, calm, conditions, laid).
  DERIVED. THE GIVEN ROWS OF THIS SEAT. 11 by the template 'for every input the law returns true; each argument reads behind the call as it read before'; 0 by the template 'total and deterministic' (their statements: YtbemmjejgklieaaTotals.lean).
  GIVEN WITH THE SEED: the statements are not yours to turn. If you find one false, say at which input.
  Laid BY PROGRAM, IN A SANDBOX (cutbox-rows.mjs): the forced cells as the released guide's own fill.sh prints them over the translation f84b21587d0877fa… (all of the seat's roots in one cut). By AI agents, Wed Nov 11 2026. No macro, syntax, notation, axiom, sorry.
-/
import Derived.Test.YtbemmjejgklieaaChecked
import GoSem.Claim
import GoSem.ClaimJoined
import GoSem.ClaimMapViews
import Derived.JoinedTies
import Derived.KernelRfl
namespace Go.Proofs.Ytbemmjejgklieaa
/- THE CELL 'sum', in the pinned program and in every row, IS THE sha256 OF THE DUMP (.gsa) THAT YtbemmjejgklieaaProg.lean LOADS. Nothing in Lean hashes anything: it is a label: what it is worth is what the hold of that sum in a sandbox is worth. -/
noncomputable def Try.pinned : Pinned := { name := "ytbemmjejgklieaa", sum := "f84b21587d0877fa5f08b3bc0ddcb063bc35ce0e9715d94f04b3aa48110c8637", checked := Try.checked }
namespace Rows
def none {H : Type} : Left H := { results := [], args := [] }

/-- 'deedboxlaw08.PowerDoes': WHATEVER THE INPUT: true; the input reads as it did. -/
def powerDoesSpec : ChangeSpec := { name := "powerDoes", fn := fun _ => fun
  | [d] => { results := [.lit (.bool true)], args := [d] }
  | _ => none }
def powerDoesRow : OpenClaim := { program := "ytbemmjejgklieaa", sum := "f84b21587d0877fa5f08b3bc0ddcb063bc35ce0e9715d94f04b3aa48110c8637", func := "deedbox/deedboxlaw08.PowerDoes", spec := "powerDoes", unfollowed := true, recurses := true, apart := false }
def PowerDoesSaid : Prop := powerDoesRow.holds Try.pinned (OpenSpec.ofChange powerDoesSpec)

/-- ITS FALSE NEIGHBOUR: 'it returns false'. Refute it at one input. -/
def powerDoesWrong : ChangeSpec := { name := "powerDoes", fn := fun _ => fun
  | [d] => { results := [.lit (.bool false)], args := [d] }
  | _ => none }
def PowerDoesWrongFalsely : Prop := powerDoesRow.holds Try.pinned (OpenSpec.ofChange powerDoesWrong)

/-- 'deedboxlaw08.PowerOnce': WHATEVER THE INPUT: true; the input reads as it did. -/
def powerOnceSpec : ChangeSpec := { name := "powerOnce", fn := fun _ => fun
  | [d1, d2, d3] => { results := [.lit (.bool true)], args := [d1, d2, d3] }
  | _ => none }
def powerOnceRow : OpenClaim := { program := "ytbemmjejgklieaa", sum := "f84b21587d0877fa5f08b3bc0ddcb063bc35ce0e9715d94f04b3aa48110c8637", func := "deedbox/deedboxlaw08.PowerOnce", spec := "powerOnce", unfollowed := true, recurses := true, apart := false }
def PowerOnceSaid : Prop := powerOnceRow.holds Try.pinned (OpenSpec.ofChange powerOnceSpec)

/-- ITS FALSE NEIGHBOUR: 'it returns false'. Refute it at one input. -/
def powerOnceWrong : ChangeSpec := { name := "powerOnce", fn := fun _ => fun
  | [d1, d2, d3] => { results := [.lit (.bool false)], args := [d1, d2, d3] }
  | _ => none }
def PowerOnceWrongFalsely : Prop := powerOnceRow.holds Try.pinned (OpenSpec.ofChange powerOnceWrong)

/-- 'deedboxlaw10.CellWhole': WHATEVER THE INPUT: true; the input reads as it did. -/
def cellWholeSpec : ChangeSpec := { name := "cellWhole", fn := fun _ => fun
  | [d1, d2, d3, d4, d5] => { results := [.lit (.bool true)], args := [d1, d2, d3, d4, d5] }
  | _ => none }
def cellWholeRow : OpenClaim := { program := "ytbemmjejgklieaa", sum := "f84b21587d0877fa5f08b3bc0ddcb063bc35ce0e9715d94f04b3aa48110c8637", func := "deedbox/deedboxlaw10.CellWhole", spec := "cellWhole", unfollowed := true, recurses := true, apart := false }
def CellWholeSaid : Prop := cellWholeRow.holds Try.pinned (OpenSpec.ofChange cellWholeSpec)

/-- ITS FALSE NEIGHBOUR: 'it returns false'. Refute it at one input. -/
def cellWholeWrong : ChangeSpec := { name := "cellWhole", fn := fun _ => fun
  | [d1, d2, d3, d4, d5] => { results := [.lit (.bool false)], args := [d1, d2, d3, d4, d5] }
  | _ => none }
def CellWholeWrongFalsely : Prop := cellWholeRow.holds Try.pinned (OpenSpec.ofChange cellWholeWrong)

/-- 'deedboxlaw10.CellDoes': WHATEVER THE INPUT: true; the input reads as it did. -/
def cellDoesSpec : ChangeSpec := { name := "cellDoes", fn := fun _ => fun
  | [d] => { results := [.lit (.bool true)], args := [d] }
  | _ => none }
def cellDoesRow : OpenClaim := { program := "ytbemmjejgklieaa", sum := "f84b21587d0877fa5f08b3bc0ddcb063bc35ce0e9715d94f04b3aa48110c8637", func := "deedbox/deedboxlaw10.CellDoes", spec := "cellDoes", unfollowed := true, recurses := true, apart := false }
def CellDoesSaid : Prop := cellDoesRow.holds Try.pinned (OpenSpec.ofChange cellDoesSpec)

/-- ITS FALSE NEIGHBOUR: 'it returns false'. Refute it at one input. -/
def cellDoesWrong : ChangeSpec := { name := "cellDoes", fn := fun _ => fun
  | [d] => { results := [.lit (.bool false)], args := [d] }
  | _ => none }
def CellDoesWrongFalsely : Prop := cellDoesRow.holds Try.pinned (OpenSpec.ofChange cellDoesWrong)

/-- 'deedboxlaw09.DiskFirm': WHATEVER THE INPUT: true; the input reads as it did. -/
def diskFirmSpec : ChangeSpec := { name := "diskFirm", fn := fun _ => fun
  | [d1, d2, d3, d4] => { results := [.lit (.bool true)], args := [d1, d2, d3, d4] }
  | _ => none }
def diskFirmRow : OpenClaim := { program := "ytbemmjejgklieaa", sum := "f84b21587d0877fa5f08b3bc0ddcb063bc35ce0e9715d94f04b3aa48110c8637", func := "deedbox/deedboxlaw09.DiskFirm", spec := "diskFirm", unfollowed := true, recurses := true, apart := false }
def DiskFirmSaid : Prop := diskFirmRow.holds Try.pinned (OpenSpec.ofChange diskFirmSpec)

/-- ITS FALSE NEIGHBOUR: 'it returns false'. Refute it at one input. -/
def diskFirmWrong : ChangeSpec := { name := "diskFirm", fn := fun _ => fun
  | [d1, d2, d3, d4] => { results := [.lit (.bool false)], args := [d1, d2, d3, d4] }
  | _ => none }
def DiskFirmWrongFalsely : Prop := diskFirmRow.holds Try.pinned (OpenSpec.ofChange diskFirmWrong)

/-- 'deedboxlaw09.DiskWhole': WHATEVER THE INPUT: true; the input reads as it did. -/
def diskWholeSpec : ChangeSpec := { name := "diskWhole", fn := fun _ => fun
  | [d1, d2, d3, d4] => { results := [.lit (.bool true)], args := [d1, d2, d3, d4] }
  | _ => none }
def diskWholeRow : OpenClaim := { program := "ytbemmjejgklieaa", sum := "f84b21587d0877fa5f08b3bc0ddcb063bc35ce0e9715d94f04b3aa48110c8637", func := "deedbox/deedboxlaw09.DiskWhole", spec := "diskWhole", unfollowed := true, recurses := true, apart := false }
def DiskWholeSaid : Prop := diskWholeRow.holds Try.pinned (OpenSpec.ofChange diskWholeSpec)

/-- ITS FALSE NEIGHBOUR: 'it returns false'. Refute it at one input. -/
def diskWholeWrong : ChangeSpec := { name := "diskWhole", fn := fun _ => fun
  | [d1, d2, d3, d4] => { results := [.lit (.bool false)], args := [d1, d2, d3, d4] }
  | _ => none }
def DiskWholeWrongFalsely : Prop := diskWholeRow.holds Try.pinned (OpenSpec.ofChange diskWholeWrong)

/-- 'deedboxlaw09.DiskDoes': WHATEVER THE INPUT: true; the input reads as it did. -/
def diskDoesSpec : ChangeSpec := { name := "diskDoes", fn := fun _ => fun
  | [d1, d2, d3, d4] => { results := [.lit (.bool true)], args := [d1, d2, d3, d4] }
  | _ => none }
def diskDoesRow : OpenClaim := { program := "ytbemmjejgklieaa", sum := "f84b21587d0877fa5f08b3bc0ddcb063bc35ce0e9715d94f04b3aa48110c8637", func := "deedbox/deedboxlaw09.DiskDoes", spec := "diskDoes", unfollowed := true, recurses := true, apart := false }
def DiskDoesSaid : Prop := diskDoesRow.holds Try.pinned (OpenSpec.ofChange diskDoesSpec)

/-- ITS FALSE NEIGHBOUR: 'it returns false'. Refute it at one input. -/
def diskDoesWrong : ChangeSpec := { name := "diskDoes", fn := fun _ => fun
  | [d1, d2, d3, d4] => { results := [.lit (.bool false)], args := [d1, d2, d3, d4] }
  | _ => none }
def DiskDoesWrongFalsely : Prop := diskDoesRow.holds Try.pinned (OpenSpec.ofChange diskDoesWrong)

/-- 'deedboxlaw14.AnchorPuts': WHATEVER THE INPUT: true; the input reads as it did. -/
def anchorPutsSpec : ChangeSpec := { name := "anchorPuts", fn := fun _ => fun
  | [d1, d2, d3] => { results := [.lit (.bool true)], args := [d1, d2, d3] }
  | _ => none }
def anchorPutsRow : OpenClaim := { program := "ytbemmjejgklieaa", sum := "f84b21587d0877fa5f08b3bc0ddcb063bc35ce0e9715d94f04b3aa48110c8637", func := "deedbox/deedboxlaw14.AnchorPuts", spec := "anchorPuts", unfollowed := true, recurses := true, apart := false }
def AnchorPutsSaid : Prop := anchorPutsRow.holds Try.pinned (OpenSpec.ofChange anchorPutsSpec)

/-- ITS FALSE NEIGHBOUR: 'it returns false'. Refute it at one input. -/
def anchorPutsWrong : ChangeSpec := { name := "anchorPuts", fn := fun _ => fun
  | [d1, d2, d3] => { results := [.lit (.bool false)], args := [d1, d2, d3] }
  | _ => none }
def AnchorPutsWrongFalsely : Prop := anchorPutsRow.holds Try.pinned (OpenSpec.ofChange anchorPutsWrong)

/-- 'deedboxlaw14.AnchorDoes': WHATEVER THE INPUT: true; the input reads as it did. -/
def anchorDoesSpec : ChangeSpec := { name := "anchorDoes", fn := fun _ => fun
  | [d] => { results := [.lit (.bool true)], args := [d] }
  | _ => none }
def anchorDoesRow : OpenClaim := { program := "ytbemmjejgklieaa", sum := "f84b21587d0877fa5f08b3bc0ddcb063bc35ce0e9715d94f04b3aa48110c8637", func := "deedbox/deedboxlaw14.AnchorDoes", spec := "anchorDoes", unfollowed := true, recurses := true, apart := false }
def AnchorDoesSaid : Prop := anchorDoesRow.holds Try.pinned (OpenSpec.ofChange anchorDoesSpec)

/-- ITS FALSE NEIGHBOUR: 'it returns false'. Refute it at one input. -/
def anchorDoesWrong : ChangeSpec := { name := "anchorDoes", fn := fun _ => fun
  | [d] => { results := [.lit (.bool false)], args := [d] }
  | _ => none }
def AnchorDoesWrongFalsely : Prop := anchorDoesRow.holds Try.pinned (OpenSpec.ofChange anchorDoesWrong)

/-- 'deedboxlaw14.AnchorKeeps': WHATEVER THE INPUT: true; the input reads as it did. -/
def anchorKeepsSpec : ChangeSpec := { name := "anchorKeeps", fn := fun _ => fun
  | [d1, d2, d3] => { results := [.lit (.bool true)], args := [d1, d2, d3] }
  | _ => none }
def anchorKeepsRow : OpenClaim := { program := "ytbemmjejgklieaa", sum := "f84b21587d0877fa5f08b3bc0ddcb063bc35ce0e9715d94f04b3aa48110c8637", func := "deedbox/deedboxlaw14.AnchorKeeps", spec := "anchorKeeps", unfollowed := true, recurses := true, apart := false }
def AnchorKeepsSaid : Prop := anchorKeepsRow.holds Try.pinned (OpenSpec.ofChange anchorKeepsSpec)

/-- ITS FALSE NEIGHBOUR: 'it returns false'. Refute it at one input. -/
def anchorKeepsWrong : ChangeSpec := { name := "anchorKeeps", fn := fun _ => fun
  | [d1, d2, d3] => { results := [.lit (.bool false)], args := [d1, d2, d3] }
  | _ => none }
def AnchorKeepsWrongFalsely : Prop := anchorKeepsRow.holds Try.pinned (OpenSpec.ofChange anchorKeepsWrong)

/-- 'deedboxlaw14.AnchorRises': WHATEVER THE INPUT: true; the input reads as it did. -/
def anchorRisesSpec : ChangeSpec := { name := "anchorRises", fn := fun _ => fun
  | [d] => { results := [.lit (.bool true)], args := [d] }
  | _ => none }
def anchorRisesRow : OpenClaim := { program := "ytbemmjejgklieaa", sum := "f84b21587d0877fa5f08b3bc0ddcb063bc35ce0e9715d94f04b3aa48110c8637", func := "deedbox/deedboxlaw14.AnchorRises", spec := "anchorRises", unfollowed := true, recurses := true, apart := false }
def AnchorRisesSaid : Prop := anchorRisesRow.holds Try.pinned (OpenSpec.ofChange anchorRisesSpec)

/-- ITS FALSE NEIGHBOUR: 'it returns false'. Refute it at one input. -/
def anchorRisesWrong : ChangeSpec := { name := "anchorRises", fn := fun _ => fun
  | [d] => { results := [.lit (.bool false)], args := [d] }
  | _ => none }
def AnchorRisesWrongFalsely : Prop := anchorRisesRow.holds Try.pinned (OpenSpec.ofChange anchorRisesWrong)

/- THE SECOND FORM. 'bulk': how many values and letters a reading holds, each counted each time it is reached (what is shared counts as often as it is met; a slice's spare places count too). A statement '..UptoSaid' is the law's where the arguments, and the package variables that the reading takes, are together of bulk at most 1048576: NARROWER than '..Said'. Prove '..Said' where nothing that the law and all that it calls make is longer than what came in: it says more and counts as full. Else prove '..UptoSaid'. A law counts once. -/
mutual
def uptoBulk {H : Type} : DataW H → Nat
  | .lit (.string bytes) => bytes.length + 1
  | .lit _ => 1
  | .nil => 1
  | .ptr d => uptoBulk d + 1
  | .slice elems spare => uptoBulkAll elems + uptoBulkAll spare + 1
  | .agg parts => uptoBulkAll parts + 1
  | .iface _ d => uptoBulk d + 1
  | .map entries => uptoBulkEntries entries + 1
  | .held _ => 1
def uptoBulkAll {H : Type} : List (DataW H) → Nat
  | [] => 0
  | d :: r => uptoBulk d + uptoBulkAll r
def uptoBulkEntries {H : Type} : List (Lit × DataW H) → Nat
  | [] => 0
  | x :: r => uptoBulkEntry x + uptoBulkEntries r
def uptoBulkEntry {H : Type} : Lit × DataW H → Nat
  | (.string bytes, d) => bytes.length + uptoBulk d + 1
  | (_, d) => uptoBulk d + 1
 end
def uptoSmall : (H : Type) → List (DataW H) → Bool := fun _ ds => decide (uptoBulkAll ds ≤ 1048576)
def OpenSpec.upto (s : _root_.Go.ChangeSpec) : _root_.Go.OpenSpec := { _root_.Go.OpenSpec.ofChange s with cond := some uptoSmall }

/-- 'deedboxlaw08.PowerDoes', WHERE WHAT IT READS IS OF BULK AT MOST 1048576: true; the input reads as it did. -/
def powerDoesUptoRow : OpenClaim := { program := "ytbemmjejgklieaa", sum := "f84b21587d0877fa5f08b3bc0ddcb063bc35ce0e9715d94f04b3aa48110c8637", func := "deedbox/deedboxlaw08.PowerDoes", spec := "powerDoes", unfollowed := true, recurses := true, apart := false, narrowed := true }
def PowerDoesUptoSaid : Prop := powerDoesUptoRow.holds Try.pinned (OpenSpec.upto powerDoesSpec)

/-- 'deedboxlaw08.PowerOnce', WHERE WHAT IT READS IS OF BULK AT MOST 1048576: true; the input reads as it did. -/
def powerOnceUptoRow : OpenClaim := { program := "ytbemmjejgklieaa", sum := "f84b21587d0877fa5f08b3bc0ddcb063bc35ce0e9715d94f04b3aa48110c8637", func := "deedbox/deedboxlaw08.PowerOnce", spec := "powerOnce", unfollowed := true, recurses := true, apart := false, narrowed := true }
def PowerOnceUptoSaid : Prop := powerOnceUptoRow.holds Try.pinned (OpenSpec.upto powerOnceSpec)

/-- 'deedboxlaw10.CellWhole', WHERE WHAT IT READS IS OF BULK AT MOST 1048576: true; the input reads as it did. -/
def cellWholeUptoRow : OpenClaim := { program := "ytbemmjejgklieaa", sum := "f84b21587d0877fa5f08b3bc0ddcb063bc35ce0e9715d94f04b3aa48110c8637", func := "deedbox/deedboxlaw10.CellWhole", spec := "cellWhole", unfollowed := true, recurses := true, apart := false, narrowed := true }
def CellWholeUptoSaid : Prop := cellWholeUptoRow.holds Try.pinned (OpenSpec.upto cellWholeSpec)

/-- 'deedboxlaw10.CellDoes', WHERE WHAT IT READS IS OF BULK AT MOST 1048576: true; the input reads as it did. -/
def cellDoesUptoRow : OpenClaim := { program := "ytbemmjejgklieaa", sum := "f84b21587d0877fa5f08b3bc0ddcb063bc35ce0e9715d94f04b3aa48110c8637", func := "deedbox/deedboxlaw10.CellDoes", spec := "cellDoes", unfollowed := true, recurses := true, apart := false, narrowed := true }
def CellDoesUptoSaid : Prop := cellDoesUptoRow.holds Try.pinned (OpenSpec.upto cellDoesSpec)

/-- 'deedboxlaw09.DiskFirm', WHERE WHAT IT READS IS OF BULK AT MOST 1048576: true; the input reads as it did. -/
def diskFirmUptoRow : OpenClaim := { program := "ytbemmjejgklieaa", sum := "f84b21587d0877fa5f08b3bc0ddcb063bc35ce0e9715d94f04b3aa48110c8637", func := "deedbox/deedboxlaw09.DiskFirm", spec := "diskFirm", unfollowed := true, recurses := true, apart := false, narrowed := true }
def DiskFirmUptoSaid : Prop := diskFirmUptoRow.holds Try.pinned (OpenSpec.upto diskFirmSpec)

/-- 'deedboxlaw09.DiskWhole', WHERE WHAT IT READS IS OF BULK AT MOST 1048576: true; the input reads as it did. -/
def diskWholeUptoRow : OpenClaim := { program := "ytbemmjejgklieaa", sum := "f84b21587d0877fa5f08b3bc0ddcb063bc35ce0e9715d94f04b3aa48110c8637", func := "deedbox/deedboxlaw09.DiskWhole", spec := "diskWhole", unfollowed := true, recurses := true, apart := false, narrowed := true }
def DiskWholeUptoSaid : Prop := diskWholeUptoRow.holds Try.pinned (OpenSpec.upto diskWholeSpec)

/-- 'deedboxlaw09.DiskDoes', WHERE WHAT IT READS IS OF BULK AT MOST 1048576: true; the input reads as it did. -/
def diskDoesUptoRow : OpenClaim := { program := "ytbemmjejgklieaa", sum := "f84b21587d0877fa5f08b3bc0ddcb063bc35ce0e9715d94f04b3aa48110c8637", func := "deedbox/deedboxlaw09.DiskDoes", spec := "diskDoes", unfollowed := true, recurses := true, apart := false, narrowed := true }
def DiskDoesUptoSaid : Prop := diskDoesUptoRow.holds Try.pinned (OpenSpec.upto diskDoesSpec)

/-- 'deedboxlaw14.AnchorPuts', WHERE WHAT IT READS IS OF BULK AT MOST 1048576: true; the input reads as it did. -/
def anchorPutsUptoRow : OpenClaim := { program := "ytbemmjejgklieaa", sum := "f84b21587d0877fa5f08b3bc0ddcb063bc35ce0e9715d94f04b3aa48110c8637", func := "deedbox/deedboxlaw14.AnchorPuts", spec := "anchorPuts", unfollowed := true, recurses := true, apart := false, narrowed := true }
def AnchorPutsUptoSaid : Prop := anchorPutsUptoRow.holds Try.pinned (OpenSpec.upto anchorPutsSpec)

/-- 'deedboxlaw14.AnchorDoes', WHERE WHAT IT READS IS OF BULK AT MOST 1048576: true; the input reads as it did. -/
def anchorDoesUptoRow : OpenClaim := { program := "ytbemmjejgklieaa", sum := "f84b21587d0877fa5f08b3bc0ddcb063bc35ce0e9715d94f04b3aa48110c8637", func := "deedbox/deedboxlaw14.AnchorDoes", spec := "anchorDoes", unfollowed := true, recurses := true, apart := false, narrowed := true }
def AnchorDoesUptoSaid : Prop := anchorDoesUptoRow.holds Try.pinned (OpenSpec.upto anchorDoesSpec)

/-- 'deedboxlaw14.AnchorKeeps', WHERE WHAT IT READS IS OF BULK AT MOST 1048576: true; the input reads as it did. -/
def anchorKeepsUptoRow : OpenClaim := { program := "ytbemmjejgklieaa", sum := "f84b21587d0877fa5f08b3bc0ddcb063bc35ce0e9715d94f04b3aa48110c8637", func := "deedbox/deedboxlaw14.AnchorKeeps", spec := "anchorKeeps", unfollowed := true, recurses := true, apart := false, narrowed := true }
def AnchorKeepsUptoSaid : Prop := anchorKeepsUptoRow.holds Try.pinned (OpenSpec.upto anchorKeepsSpec)

/-- 'deedboxlaw14.AnchorRises', WHERE WHAT IT READS IS OF BULK AT MOST 1048576: true; the input reads as it did. -/
def anchorRisesUptoRow : OpenClaim := { program := "ytbemmjejgklieaa", sum := "f84b21587d0877fa5f08b3bc0ddcb063bc35ce0e9715d94f04b3aa48110c8637", func := "deedbox/deedboxlaw14.AnchorRises", spec := "anchorRises", unfollowed := true, recurses := true, apart := false, narrowed := true }
def AnchorRisesUptoSaid : Prop := anchorRisesUptoRow.holds Try.pinned (OpenSpec.upto anchorRisesSpec)

end Rows
end Go.Proofs.Ytbemmjejgklieaa
