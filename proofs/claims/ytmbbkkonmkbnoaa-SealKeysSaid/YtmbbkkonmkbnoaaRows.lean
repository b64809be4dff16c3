/-
  No cell of these rows narrows 'for every input' (looked for: loops, veiled, ifaces, maps, wideKeys, modest, calm, conditions, laid).
  DERIVED. THE GIVEN ROWS OF THIS SEAT. 12 by the template 'for every input the law returns true; each argument reads behind the call as it read before'; 0 by the template 'total and deterministic' (their statements: YtmbbkkonmkbnoaaTotals.lean).
  GIVEN WITH THE SEED: the statements are not yours to turn. If you find one false, say at which input.
  Laid BY PROGRAM, IN A SANDBOX (cutbox-rows.mjs): the forced cells as the released guide's own fill.sh prints them over the translation 3fc3455736656867… (all of the seat's roots in one cut). By AI agents, Wed Nov 11 2026. No macro, syntax, notation, axiom, sorry.
-/
import Derived.Test.YtmbbkkonmkbnoaaChecked
import GoSem.Claim
import GoSem.ClaimJoined
import GoSem.ClaimMapViews
import Derived.JoinedTies
import Derived.KernelRfl
namespace Go.Proofs.Ytmbbkkonmkbnoaa
/- THE CELL 'sum', in the pinned program and in every row, IS THE sha256 OF THE DUMP (.gsa) THAT YtmbbkkonmkbnoaaProg.lean LOADS. Nothing in Lean hashes anything: it is a label: what it is worth is what the hold of that sum in a sandbox is worth. -/
noncomputable def Try.pinned : Pinned := { name := "ytmbbkkonmkbnoaa", sum := "3fc3455736656867392bc1c41ca52e795c4a7bc4c80e18e613e3705349809781", checked := Try.checked }
namespace Rows
def none {H : Type} : Left H := { results := [], args := [] }

/-- 'deedboxlaw13.ChunkSeals': WHATEVER THE INPUT: true; the input reads as it did. -/
def chunkSealsSpec : ChangeSpec := { name := "chunkSeals", fn := fun _ => fun
  | [d1, d2, d3, d4, d5] => { results := [.lit (.bool true)], args := [d1, d2, d3, d4, d5] }
  | _ => none }
def chunkSealsRow : OpenClaim := { program := "ytmbbkkonmkbnoaa", sum := "3fc3455736656867392bc1c41ca52e795c4a7bc4c80e18e613e3705349809781", func := "deedbox/deedboxlaw13.ChunkSeals", spec := "chunkSeals", unfollowed := true, recurses := true, apart := false }
def ChunkSealsSaid : Prop := chunkSealsRow.holds Try.pinned (OpenSpec.ofChange chunkSealsSpec)

/-- ITS FALSE NEIGHBOUR: 'it returns false'. Refute it at one input. -/
def chunkSealsWrong : ChangeSpec := { name := "chunkSeals", fn := fun _ => fun
  | [d1, d2, d3, d4, d5] => { results := [.lit (.bool false)], args := [d1, d2, d3, d4, d5] }
  | _ => none }
def ChunkSealsWrongFalsely : Prop := chunkSealsRow.holds Try.pinned (OpenSpec.ofChange chunkSealsWrong)

/-- 'deedboxlaw13.ChunkOpens': WHATEVER THE INPUT: true; the input reads as it did. -/
def chunkOpensSpec : ChangeSpec := { name := "chunkOpens", fn := fun _ => fun
  | [d1, d2, d3, d4, d5, d6] => { results := [.lit (.bool true)], args := [d1, d2, d3, d4, d5, d6] }
  | _ => none }
def chunkOpensRow : OpenClaim := { program := "ytmbbkkonmkbnoaa", sum := "3fc3455736656867392bc1c41ca52e795c4a7bc4c80e18e613e3705349809781", func := "deedbox/deedboxlaw13.ChunkOpens", spec := "chunkOpens", unfollowed := true, recurses := true, apart := false }
def ChunkOpensSaid : Prop := chunkOpensRow.holds Try.pinned (OpenSpec.ofChange chunkOpensSpec)

/-- ITS FALSE NEIGHBOUR: 'it returns false'. Refute it at one input. -/
def chunkOpensWrong : ChangeSpec := { name := "chunkOpens", fn := fun _ => fun
  | [d1, d2, d3, d4, d5, d6] => { results := [.lit (.bool false)], args := [d1, d2, d3, d4, d5, d6] }
  | _ => none }
def ChunkOpensWrongFalsely : Prop := chunkOpensRow.holds Try.pinned (OpenSpec.ofChange chunkOpensWrong)

/-- 'deedboxlaw13.ChunkBack': WHATEVER THE INPUT: true; the input reads as it did. -/
def chunkBackSpec : ChangeSpec := { name := "chunkBack", fn := fun _ => fun
  | [d1, d2, d3, d4, d5] => { results := [.lit (.bool true)], args := [d1, d2, d3, d4, d5] }
  | _ => none }
def chunkBackRow : OpenClaim := { program := "ytmbbkkonmkbnoaa", sum := "3fc3455736656867392bc1c41ca52e795c4a7bc4c80e18e613e3705349809781", func := "deedbox/deedboxlaw13.ChunkBack", spec := "chunkBack", unfollowed := true, recurses := true, apart := false }
def ChunkBackSaid : Prop := chunkBackRow.holds Try.pinned (OpenSpec.ofChange chunkBackSpec)

/-- ITS FALSE NEIGHBOUR: 'it returns false'. Refute it at one input. -/
def chunkBackWrong : ChangeSpec := { name := "chunkBack", fn := fun _ => fun
  | [d1, d2, d3, d4, d5] => { results := [.lit (.bool false)], args := [d1, d2, d3, d4, d5] }
  | _ => none }
def ChunkBackWrongFalsely : Prop := chunkBackRow.holds Try.pinned (OpenSpec.ofChange chunkBackWrong)

/-- 'deedboxlaw13.ChunkWhole': WHATEVER THE INPUT: true; the input reads as it did. -/
def chunkWholeSpec : ChangeSpec := { name := "chunkWhole", fn := fun _ => fun
  | [d1, d2, d3, d4, d5, d6, d7] => { results := [.lit (.bool true)], args := [d1, d2, d3, d4, d5, d6, d7] }
  | _ => none }
def chunkWholeRow : OpenClaim := { program := "ytmbbkkonmkbnoaa", sum := "3fc3455736656867392bc1c41ca52e795c4a7bc4c80e18e613e3705349809781", func := "deedbox/deedboxlaw13.ChunkWhole", spec := "chunkWhole", unfollowed := true, recurses := true, apart := false }
def ChunkWholeSaid : Prop := chunkWholeRow.holds Try.pinned (OpenSpec.ofChange chunkWholeSpec)

/-- ITS FALSE NEIGHBOUR: 'it returns false'. Refute it at one input. -/
def chunkWholeWrong : ChangeSpec := { name := "chunkWhole", fn := fun _ => fun
  | [d1, d2, d3, d4, d5, d6, d7] => { results := [.lit (.bool false)], args := [d1, d2, d3, d4, d5, d6, d7] }
  | _ => none }
def ChunkWholeWrongFalsely : Prop := chunkWholeRow.holds Try.pinned (OpenSpec.ofChange chunkWholeWrong)

/-- 'deedboxlaw13.ChunkCuts': WHATEVER THE INPUT: true; the input reads as it did. -/
def chunkCutsSpec : ChangeSpec := { name := "chunkCuts", fn := fun _ => fun
  | [d1, d2, d3, d4, d5, d6] => { results := [.lit (.bool true)], args := [d1, d2, d3, d4, d5, d6] }
  | _ => none }
def chunkCutsRow : OpenClaim := { program := "ytmbbkkonmkbnoaa", sum := "3fc3455736656867392bc1c41ca52e795c4a7bc4c80e18e613e3705349809781", func := "deedbox/deedboxlaw13.ChunkCuts", spec := "chunkCuts", unfollowed := true, recurses := true, apart := false }
def ChunkCutsSaid : Prop := chunkCutsRow.holds Try.pinned (OpenSpec.ofChange chunkCutsSpec)

/-- ITS FALSE NEIGHBOUR: 'it returns false'. Refute it at one input. -/
def chunkCutsWrong : ChangeSpec := { name := "chunkCuts", fn := fun _ => fun
  | [d1, d2, d3, d4, d5, d6] => { results := [.lit (.bool false)], args := [d1, d2, d3, d4, d5, d6] }
  | _ => none }
def ChunkCutsWrongFalsely : Prop := chunkCutsRow.holds Try.pinned (OpenSpec.ofChange chunkCutsWrong)

/-- 'deedboxlaw12.SealBack': WHATEVER THE INPUT: true; the input reads as it did. -/
def sealBackSpec : ChangeSpec := { name := "sealBack", fn := fun _ => fun
  | [d1, d2, d3] => { results := [.lit (.bool true)], args := [d1, d2, d3] }
  | _ => none }
def sealBackRow : OpenClaim := { program := "ytmbbkkonmkbnoaa", sum := "3fc3455736656867392bc1c41ca52e795c4a7bc4c80e18e613e3705349809781", func := "deedbox/deedboxlaw12.SealBack", spec := "sealBack", unfollowed := true, recurses := true, apart := false }
def SealBackSaid : Prop := sealBackRow.holds Try.pinned (OpenSpec.ofChange sealBackSpec)

/-- ITS FALSE NEIGHBOUR: 'it returns false'. Refute it at one input. -/
def sealBackWrong : ChangeSpec := { name := "sealBack", fn := fun _ => fun
  | [d1, d2, d3] => { results := [.lit (.bool false)], args := [d1, d2, d3] }
  | _ => none }
def SealBackWrongFalsely : Prop := sealBackRow.holds Try.pinned (OpenSpec.ofChange sealBackWrong)

/-- 'deedboxlaw12.SealBlind': WHATEVER THE INPUT: true; the input reads as it did. -/
def sealBlindSpec : ChangeSpec := { name := "sealBlind", fn := fun _ => fun
  | [d1, d2] => { results := [.lit (.bool true)], args := [d1, d2] }
  | _ => none }
def sealBlindRow : OpenClaim := { program := "ytmbbkkonmkbnoaa", sum := "3fc3455736656867392bc1c41ca52e795c4a7bc4c80e18e613e3705349809781", func := "deedbox/deedboxlaw12.SealBlind", spec := "sealBlind", unfollowed := true, recurses := true, apart := false }
def SealBlindSaid : Prop := sealBlindRow.holds Try.pinned (OpenSpec.ofChange sealBlindSpec)

/-- ITS FALSE NEIGHBOUR: 'it returns false'. Refute it at one input. -/
def sealBlindWrong : ChangeSpec := { name := "sealBlind", fn := fun _ => fun
  | [d1, d2] => { results := [.lit (.bool false)], args := [d1, d2] }
  | _ => none }
def SealBlindWrongFalsely : Prop := sealBlindRow.holds Try.pinned (OpenSpec.ofChange sealBlindWrong)

/-- 'deedboxlaw12.SealKeys': WHATEVER THE INPUT: true; the input reads as it did. -/
def sealKeysSpec : ChangeSpec := { name := "sealKeys", fn := fun _ => fun
  | [d1, d2, d3, d4, d5] => { results := [.lit (.bool true)], args := [d1, d2, d3, d4, d5] }
  | _ => none }
def sealKeysRow : OpenClaim := { program := "ytmbbkkonmkbnoaa", sum := "3fc3455736656867392bc1c41ca52e795c4a7bc4c80e18e613e3705349809781", func := "deedbox/deedboxlaw12.SealKeys", spec := "sealKeys", unfollowed := true, recurses := true, apart := false }
def SealKeysSaid : Prop := sealKeysRow.holds Try.pinned (OpenSpec.ofChange sealKeysSpec)

/-- ITS FALSE NEIGHBOUR: 'it returns false'. Refute it at one input. -/
def sealKeysWrong : ChangeSpec := { name := "sealKeys", fn := fun _ => fun
  | [d1, d2, d3, d4, d5] => { results := [.lit (.bool false)], args := [d1, d2, d3, d4, d5] }
  | _ => none }
def SealKeysWrongFalsely : Prop := sealKeysRow.holds Try.pinned (OpenSpec.ofChange sealKeysWrong)

/-- 'deedboxlaw16.RedoTells': WHATEVER THE INPUT: true; the input reads as it did. -/
def redoTellsSpec : ChangeSpec := { name := "redoTells", fn := fun _ => fun
  | [d1, d2, d3, d4, d5] => { results := [.lit (.bool true)], args := [d1, d2, d3, d4, d5] }
  | _ => none }
def redoTellsRow : OpenClaim := { program := "ytmbbkkonmkbnoaa", sum := "3fc3455736656867392bc1c41ca52e795c4a7bc4c80e18e613e3705349809781", func := "deedbox/deedboxlaw16.RedoTells", spec := "redoTells", unfollowed := true, recurses := true, apart := false }
def RedoTellsSaid : Prop := redoTellsRow.holds Try.pinned (OpenSpec.ofChange redoTellsSpec)

/-- ITS FALSE NEIGHBOUR: 'it returns false'. Refute it at one input. -/
def redoTellsWrong : ChangeSpec := { name := "redoTells", fn := fun _ => fun
  | [d1, d2, d3, d4, d5] => { results := [.lit (.bool false)], args := [d1, d2, d3, d4, d5] }
  | _ => none }
def RedoTellsWrongFalsely : Prop := redoTellsRow.holds Try.pinned (OpenSpec.ofChange redoTellsWrong)

/-- 'deedboxlaw16.RedoBack': WHATEVER THE INPUT: true; the input reads as it did. -/
def redoBackSpec : ChangeSpec := { name := "redoBack", fn := fun _ => fun
  | [d1, d2, d3, d4] => { results := [.lit (.bool true)], args := [d1, d2, d3, d4] }
  | _ => none }
def redoBackRow : OpenClaim := { program := "ytmbbkkonmkbnoaa", sum := "3fc3455736656867392bc1c41ca52e795c4a7bc4c80e18e613e3705349809781", func := "deedbox/deedboxlaw16.RedoBack", spec := "redoBack", unfollowed := true, recurses := true, apart := false }
def RedoBackSaid : Prop := redoBackRow.holds Try.pinned (OpenSpec.ofChange redoBackSpec)

/-- ITS FALSE NEIGHBOUR: 'it returns false'. Refute it at one input. -/
def redoBackWrong : ChangeSpec := { name := "redoBack", fn := fun _ => fun
  | [d1, d2, d3, d4] => { results := [.lit (.bool false)], args := [d1, d2, d3, d4] }
  | _ => none }
def RedoBackWrongFalsely : Prop := redoBackRow.holds Try.pinned (OpenSpec.ofChange redoBackWrong)

/-- 'deedboxlaw28.WrapKeks': WHATEVER THE INPUT: true; the input reads as it did. -/
def wrapKeksSpec : ChangeSpec := { name := "wrapKeks", fn := fun _ => fun
  | [d] => { results := [.lit (.bool true)], args := [d] }
  | _ => none }
def wrapKeksRow : OpenClaim := { program := "ytmbbkkonmkbnoaa", sum := "3fc3455736656867392bc1c41ca52e795c4a7bc4c80e18e613e3705349809781", func := "deedbox/deedboxlaw28.WrapKeks", spec := "wrapKeks", unfollowed := true, recurses := true, apart := false }
def WrapKeksSaid : Prop := wrapKeksRow.holds Try.pinned (OpenSpec.ofChange wrapKeksSpec)

/-- ITS FALSE NEIGHBOUR: 'it returns false'. Refute it at one input. -/
def wrapKeksWrong : ChangeSpec := { name := "wrapKeks", fn := fun _ => fun
  | [d] => { results := [.lit (.bool false)], args := [d] }
  | _ => none }
def WrapKeksWrongFalsely : Prop := wrapKeksRow.holds Try.pinned (OpenSpec.ofChange wrapKeksWrong)

/-- 'deedboxlaw28.WrapTells': WHATEVER THE INPUT: true; the input reads as it did. -/
def wrapTellsSpec : ChangeSpec := { name := "wrapTells", fn := fun _ => fun
  | [d1, d2, d3, d4, d5, d6] => { results := [.lit (.bool true)], args := [d1, d2, d3, d4, d5, d6] }
  | _ => none }
def wrapTellsRow : OpenClaim := { program := "ytmbbkkonmkbnoaa", sum := "3fc3455736656867392bc1c41ca52e795c4a7bc4c80e18e613e3705349809781", func := "deedbox/deedboxlaw28.WrapTells", spec := "wrapTells", unfollowed := true, recurses := true, apart := false }
def WrapTellsSaid : Prop := wrapTellsRow.holds Try.pinned (OpenSpec.ofChange wrapTellsSpec)

/-- ITS FALSE NEIGHBOUR: 'it returns false'. Refute it at one input. -/
def wrapTellsWrong : ChangeSpec := { name := "wrapTells", fn := fun _ => fun
  | [d1, d2, d3, d4, d5, d6] => { results := [.lit (.bool false)], args := [d1, d2, d3, d4, d5, d6] }
  | _ => none }
def WrapTellsWrongFalsely : Prop := wrapTellsRow.holds Try.pinned (OpenSpec.ofChange wrapTellsWrong)

/- THE SECOND FORM. 'bulk': how many values and letters a reading holds, each counted each time it is reached (what is shared counts as often as it is met; a slice's spare places count too). A statement '..UptoSaid' is the law's where the arguments, and the package variables that the reading takes, are together of bulk at most 1048576: NARROWER than '..Said'. Prove '..Said' where nothing that the law and all that it calls make is longer than what came in: it says more and counts as full. Else prove '..UptoSaid'. A law counts once. -/
mutual
def uptoBulk {H : Type} : DataW H → Nat
  | .lit (.string bytes) => bytes.length + 1
  | .lit _ => 1
  | .nil => 1
  | .ptr d => uptoBulk d + 1
  | .slice elems spare => uptoBulkAll elems + uptoBulkAll spare + 1
  | .agg parts => uptoBulkAll parts + 1
  | .iface _ d => uptoBulk d + 1
  | .map entries => uptoBulkEntries entries + 1
  | .held _ => 1
def uptoBulkAll {H : Type} : List (DataW H) → Nat
  | [] => 0
  | d :: r => uptoBulk d + uptoBulkAll r
def uptoBulkEntries {H : Type} : List (Lit × DataW H) → Nat
  | [] => 0
  | x :: r => uptoBulkEntry x + uptoBulkEntries r
def uptoBulkEntry {H : Type} : Lit × DataW H → Nat
  | (.string bytes, d) => bytes.length + uptoBulk d + 1
  | (_, d) => uptoBulk d + 1
 end
def uptoSmall : (H : Type) → List (DataW H) → Bool := fun _ ds => decide (uptoBulkAll ds ≤ 1048576)
def OpenSpec.upto (s : _root_.Go.ChangeSpec) : _root_.Go.OpenSpec := { _root_.Go.OpenSpec.ofChange s with cond := some uptoSmall }

/-- 'deedboxlaw13.ChunkSeals', WHERE WHAT IT READS IS OF BULK AT MOST 1048576: true; the input reads as it did. -/
def chunkSealsUptoRow : OpenClaim := { program := "ytmbbkkonmkbnoaa", sum := "3fc3455736656867392bc1c41ca52e795c4a7bc4c80e18e613e3705349809781", func := "deedbox/deedboxlaw13.ChunkSeals", spec := "chunkSeals", unfollowed := true, recurses := true, apart := false, narrowed := true }
def ChunkSealsUptoSaid : Prop := chunkSealsUptoRow.holds Try.pinned (OpenSpec.upto chunkSealsSpec)

/-- 'deedboxlaw13.ChunkOpens', WHERE WHAT IT READS IS OF BULK AT MOST 1048576: true; the input reads as it did. -/
def chunkOpensUptoRow : OpenClaim := { program := "ytmbbkkonmkbnoaa", sum := "3fc3455736656867392bc1c41ca52e795c4a7bc4c80e18e613e3705349809781", func := "deedbox/deedboxlaw13.ChunkOpens", spec := "chunkOpens", unfollowed := true, recurses := true, apart := false, narrowed := true }
def ChunkOpensUptoSaid : Prop := chunkOpensUptoRow.holds Try.pinned (OpenSpec.upto chunkOpensSpec)

/-- 'deedboxlaw13.ChunkBack', WHERE WHAT IT READS IS OF BULK AT MOST 1048576: true; the input reads as it did. -/
def chunkBackUptoRow : OpenClaim := { program := "ytmbbkkonmkbnoaa", sum := "3fc3455736656867392bc1c41ca52e795c4a7bc4c80e18e613e3705349809781", func := "deedbox/deedboxlaw13.ChunkBack", spec := "chunkBack", unfollowed := true, recurses := true, apart := false, narrowed := true }
def ChunkBackUptoSaid : Prop := chunkBackUptoRow.holds Try.pinned (OpenSpec.upto chunkBackSpec)

/-- 'deedboxlaw13.ChunkWhole', WHERE WHAT IT READS IS OF BULK AT MOST 1048576: true; the input reads as it did. -/
def chunkWholeUptoRow : OpenClaim := { program := "ytmbbkkonmkbnoaa", sum := "3fc3455736656867392bc1c41ca52e795c4a7bc4c80e18e613e3705349809781", func := "deedbox/deedboxlaw13.ChunkWhole", spec := "chunkWhole", unfollowed := true, recurses := true, apart := false, narrowed := true }
def ChunkWholeUptoSaid : Prop := chunkWholeUptoRow.holds Try.pinned (OpenSpec.upto chunkWholeSpec)

/-- 'deedboxlaw13.ChunkCuts', WHERE WHAT IT READS IS OF BULK AT MOST 1048576: true; the input reads as it did. -/
def chunkCutsUptoRow : OpenClaim := { program := "ytmbbkkonmkbnoaa", sum := "3fc3455736656867392bc1c41ca52e795c4a7bc4c80e18e613e3705349809781", func := "deedbox/deedboxlaw13.ChunkCuts", spec := "chunkCuts", unfollowed := true, recurses := true, apart := false, narrowed := true }
def ChunkCutsUptoSaid : Prop := chunkCutsUptoRow.holds Try.pinned (OpenSpec.upto chunkCutsSpec)

/-- 'deedboxlaw12.SealBack', WHERE WHAT IT READS IS OF BULK AT MOST 1048576: true; the input reads as it did. -/
def sealBackUptoRow : OpenClaim := { program := "ytmbbkkonmkbnoaa", sum := "3fc3455736656867392bc1c41ca52e795c4a7bc4c80e18e613e3705349809781", func := "deedbox/deedboxlaw12.SealBack", spec := "sealBack", unfollowed := true, recurses := true, apart := false, narrowed := true }
def SealBackUptoSaid : Prop := sealBackUptoRow.holds Try.pinned (OpenSpec.upto sealBackSpec)

/-- 'deedboxlaw12.SealBlind', WHERE WHAT IT READS IS OF BULK AT MOST 1048576: true; the input reads as it did. -/
def sealBlindUptoRow : OpenClaim := { program := "ytmbbkkonmkbnoaa", sum := "3fc3455736656867392bc1c41ca52e795c4a7bc4c80e18e613e3705349809781", func := "deedbox/deedboxlaw12.SealBlind", spec := "sealBlind", unfollowed := true, recurses := true, apart := false, narrowed := true }
def SealBlindUptoSaid : Prop := sealBlindUptoRow.holds Try.pinned (OpenSpec.upto sealBlindSpec)

/-- 'deedboxlaw12.SealKeys', WHERE WHAT IT READS IS OF BULK AT MOST 1048576: true; the input reads as it did. -/
def sealKeysUptoRow : OpenClaim := { program := "ytmbbkkonmkbnoaa", sum := "3fc3455736656867392bc1c41ca52e795c4a7bc4c80e18e613e3705349809781", func := "deedbox/deedboxlaw12.SealKeys", spec := "sealKeys", unfollowed := true, recurses := true, apart := false, narrowed := true }
def SealKeysUptoSaid : Prop := sealKeysUptoRow.holds Try.pinned (OpenSpec.upto sealKeysSpec)

/-- 'deedboxlaw16.RedoTells', WHERE WHAT IT READS IS OF BULK AT MOST 1048576: true; the input reads as it did. -/
def redoTellsUptoRow : OpenClaim := { program := "ytmbbkkonmkbnoaa", sum := "3fc3455736656867392bc1c41ca52e795c4a7bc4c80e18e613e3705349809781", func := "deedbox/deedboxlaw16.RedoTells", spec := "redoTells", unfollowed := true, recurses := true, apart := false, narrowed := true }
def RedoTellsUptoSaid : Prop := redoTellsUptoRow.holds Try.pinned (OpenSpec.upto redoTellsSpec)

/-- 'deedboxlaw16.RedoBack', WHERE WHAT IT READS IS OF BULK AT MOST 1048576: true; the input reads as it did. -/
def redoBackUptoRow : OpenClaim := { program := "ytmbbkkonmkbnoaa", sum := "3fc3455736656867392bc1c41ca52e795c4a7bc4c80e18e613e3705349809781", func := "deedbox/deedboxlaw16.RedoBack", spec := "redoBack", unfollowed := true, recurses := true, apart := false, narrowed := true }
def RedoBackUptoSaid : Prop := redoBackUptoRow.holds Try.pinned (OpenSpec.upto redoBackSpec)

/-- 'deedboxlaw28.WrapKeks', WHERE WHAT IT READS IS OF BULK AT MOST 1048576: true; the input reads as it did. -/
def wrapKeksUptoRow : OpenClaim := { program := "ytmbbkkonmkbnoaa", sum := "3fc3455736656867392bc1c41ca52e795c4a7bc4c80e18e613e3705349809781", func := "deedbox/deedboxlaw28.WrapKeks", spec := "wrapKeks", unfollowed := true, recurses := true, apart := false, narrowed := true }
def WrapKeksUptoSaid : Prop := wrapKeksUptoRow.holds Try.pinned (OpenSpec.upto wrapKeksSpec)

/-- 'deedboxlaw28.WrapTells', WHERE WHAT IT READS IS OF BULK AT MOST 1048576: true; the input reads as it did. -/
def wrapTellsUptoRow : OpenClaim := { program := "ytmbbkkonmkbnoaa", sum := "3fc3455736656867392bc1c41ca52e795c4a7bc4c80e18e613e3705349809781", func := "deedbox/deedboxlaw28.WrapTells", spec := "wrapTells", unfollowed := true, recurses := true, apart := false, narrowed := true }
def WrapTellsUptoSaid : Prop := wrapTellsUptoRow.holds Try.pinned (OpenSpec.upto wrapTellsSpec)

end Rows
end Go.Proofs.Ytmbbkkonmkbnoaa
