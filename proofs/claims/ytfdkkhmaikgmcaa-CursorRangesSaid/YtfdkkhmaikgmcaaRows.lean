/-
  No cell of these rows narrows 'for every input' (looked for: loops, veiled, ifaces, maps, wideKeys, modest, calm, conditions, laid).
  DERIVED. THE GIVEN ROWS OF THIS SEAT. 10 by the template 'for every input the law returns true; each argument reads behind the call as it read before'; 0 by the template 'total and deterministic' (their statements: YtfdkkhmaikgmcaaTotals.lean).
  GIVEN WITH THE SEED: the statements are not yours to turn. If you find one false, say at which input.
  Laid BY PROGRAM, IN A SANDBOX (cutbox-rows.mjs): the forced cells as the released guide's own fill.sh prints them over the translation 2ab62688fb79b432… (all of the seat's roots in one cut). By AI agents, Wed Nov 11 2026. No macro, syntax, notation, axiom, sorry.
-/
import Derived.Test.YtfdkkhmaikgmcaaChecked
import GoSem.Claim
import GoSem.ClaimJoined
import GoSem.ClaimMapViews
import Derived.JoinedTies
import Derived.KernelRfl
namespace Go.Proofs.Ytfdkkhmaikgmcaa
/- THE CELL 'sum', in the pinned program and in every row, IS THE sha256 OF THE DUMP (.gsa) THAT YtfdkkhmaikgmcaaProg.lean LOADS. Nothing in Lean hashes anything: it is a label: what it is worth is what the hold of that sum in a sandbox is worth. -/
noncomputable def Try.pinned : Pinned := { name := "ytfdkkhmaikgmcaa", sum := "2ab62688fb79b4324bd11154af9be5fb2c1d452ef8f1c61abf640cf385ae9faa", checked := Try.checked }
namespace Rows
def none {H : Type} : Left H := { results := [], args := [] }

/-- 'strandlinelaw30.ListAgain': WHATEVER THE INPUT: true; the input reads as it did. -/
def listAgainSpec : ChangeSpec := { name := "listAgain", fn := fun _ => fun
  | [d1, d2, d3] => { results := [.lit (.bool true)], args := [d1, d2, d3] }
  | _ => none }
def listAgainRow : OpenClaim := { program := "ytfdkkhmaikgmcaa", sum := "2ab62688fb79b4324bd11154af9be5fb2c1d452ef8f1c61abf640cf385ae9faa", func := "strandline/strandlinelaw30.ListAgain", spec := "listAgain", unfollowed := true, recurses := true, apart := false }
def ListAgainSaid : Prop := listAgainRow.holds Try.pinned (OpenSpec.ofChange listAgainSpec)

/-- ITS FALSE NEIGHBOUR: 'it returns false'. Refute it at one input. -/
def listAgainWrong : ChangeSpec := { name := "listAgain", fn := fun _ => fun
  | [d1, d2, d3] => { results := [.lit (.bool false)], args := [d1, d2, d3] }
  | _ => none }
def ListAgainWrongFalsely : Prop := listAgainRow.holds Try.pinned (OpenSpec.ofChange listAgainWrong)

/-- 'strandlinelaw11.RecordDecodes': WHATEVER THE INPUT: true; the input reads as it did. -/
def recordDecodesSpec : ChangeSpec := { name := "recordDecodes", fn := fun _ => fun
  | [d] => { results := [.lit (.bool true)], args := [d] }
  | _ => none }
def recordDecodesRow : OpenClaim := { program := "ytfdkkhmaikgmcaa", sum := "2ab62688fb79b4324bd11154af9be5fb2c1d452ef8f1c61abf640cf385ae9faa", func := "strandline/strandlinelaw11.RecordDecodes", spec := "recordDecodes", apart := false }
def RecordDecodesSaid : Prop := recordDecodesRow.holds Try.pinned (OpenSpec.ofChange recordDecodesSpec)

/-- ITS FALSE NEIGHBOUR: 'it returns false'. Refute it at one input. -/
def recordDecodesWrong : ChangeSpec := { name := "recordDecodes", fn := fun _ => fun
  | [d] => { results := [.lit (.bool false)], args := [d] }
  | _ => none }
def RecordDecodesWrongFalsely : Prop := recordDecodesRow.holds Try.pinned (OpenSpec.ofChange recordDecodesWrong)

/-- 'strandlinelaw11.RecordEncodes': WHATEVER THE INPUT: true; the input reads as it did. -/
def recordEncodesSpec : ChangeSpec := { name := "recordEncodes", fn := fun _ => fun
  | [d] => { results := [.lit (.bool true)], args := [d] }
  | _ => none }
def recordEncodesRow : OpenClaim := { program := "ytfdkkhmaikgmcaa", sum := "2ab62688fb79b4324bd11154af9be5fb2c1d452ef8f1c61abf640cf385ae9faa", func := "strandline/strandlinelaw11.RecordEncodes", spec := "recordEncodes", apart := false }
def RecordEncodesSaid : Prop := recordEncodesRow.holds Try.pinned (OpenSpec.ofChange recordEncodesSpec)

/-- ITS FALSE NEIGHBOUR: 'it returns false'. Refute it at one input. -/
def recordEncodesWrong : ChangeSpec := { name := "recordEncodes", fn := fun _ => fun
  | [d] => { results := [.lit (.bool false)], args := [d] }
  | _ => none }
def RecordEncodesWrongFalsely : Prop := recordEncodesRow.holds Try.pinned (OpenSpec.ofChange recordEncodesWrong)

/-- 'strandlinelaw42.TxEncodes': WHATEVER THE INPUT: true; the input reads as it did. -/
def txEncodesSpec : ChangeSpec := { name := "txEncodes", fn := fun _ => fun
  | [d] => { results := [.lit (.bool true)], args := [d] }
  | _ => none }
def txEncodesRow : OpenClaim := { program := "ytfdkkhmaikgmcaa", sum := "2ab62688fb79b4324bd11154af9be5fb2c1d452ef8f1c61abf640cf385ae9faa", func := "strandline/strandlinelaw42.TxEncodes", spec := "txEncodes", apart := false }
def TxEncodesSaid : Prop := txEncodesRow.holds Try.pinned (OpenSpec.ofChange txEncodesSpec)

/-- ITS FALSE NEIGHBOUR: 'it returns false'. Refute it at one input. -/
def txEncodesWrong : ChangeSpec := { name := "txEncodes", fn := fun _ => fun
  | [d] => { results := [.lit (.bool false)], args := [d] }
  | _ => none }
def TxEncodesWrongFalsely : Prop := txEncodesRow.holds Try.pinned (OpenSpec.ofChange txEncodesWrong)

/-- 'strandlinelaw42.TxDecodes': WHATEVER THE INPUT: true; the input reads as it did. -/
def txDecodesSpec : ChangeSpec := { name := "txDecodes", fn := fun _ => fun
  | [d] => { results := [.lit (.bool true)], args := [d] }
  | _ => none }
def txDecodesRow : OpenClaim := { program := "ytfdkkhmaikgmcaa", sum := "2ab62688fb79b4324bd11154af9be5fb2c1d452ef8f1c61abf640cf385ae9faa", func := "strandline/strandlinelaw42.TxDecodes", spec := "txDecodes", apart := false }
def TxDecodesSaid : Prop := txDecodesRow.holds Try.pinned (OpenSpec.ofChange txDecodesSpec)

/-- ITS FALSE NEIGHBOUR: 'it returns false'. Refute it at one input. -/
def txDecodesWrong : ChangeSpec := { name := "txDecodes", fn := fun _ => fun
  | [d] => { results := [.lit (.bool false)], args := [d] }
  | _ => none }
def TxDecodesWrongFalsely : Prop := txDecodesRow.holds Try.pinned (OpenSpec.ofChange txDecodesWrong)

/-- 'strandlinelaw44.UndoGoes': WHATEVER THE INPUT: true; the input reads as it did. -/
def undoGoesSpec : ChangeSpec := { name := "undoGoes", fn := fun _ => fun
  | [d1, d2, d3] => { results := [.lit (.bool true)], args := [d1, d2, d3] }
  | _ => none }
def undoGoesRow : OpenClaim := { program := "ytfdkkhmaikgmcaa", sum := "2ab62688fb79b4324bd11154af9be5fb2c1d452ef8f1c61abf640cf385ae9faa", func := "strandline/strandlinelaw44.UndoGoes", spec := "undoGoes", apart := false }
def UndoGoesSaid : Prop := undoGoesRow.holds Try.pinned (OpenSpec.ofChange undoGoesSpec)

/-- ITS FALSE NEIGHBOUR: 'it returns false'. Refute it at one input. -/
def undoGoesWrong : ChangeSpec := { name := "undoGoes", fn := fun _ => fun
  | [d1, d2, d3] => { results := [.lit (.bool false)], args := [d1, d2, d3] }
  | _ => none }
def UndoGoesWrongFalsely : Prop := undoGoesRow.holds Try.pinned (OpenSpec.ofChange undoGoesWrong)

/-- 'strandlinelaw44.UndoPlans': WHATEVER THE INPUT: true; the input reads as it did. -/
def undoPlansSpec : ChangeSpec := { name := "undoPlans", fn := fun _ => fun
  | [d1, d2] => { results := [.lit (.bool true)], args := [d1, d2] }
  | _ => none }
def undoPlansRow : OpenClaim := { program := "ytfdkkhmaikgmcaa", sum := "2ab62688fb79b4324bd11154af9be5fb2c1d452ef8f1c61abf640cf385ae9faa", func := "strandline/strandlinelaw44.UndoPlans", spec := "undoPlans", recurses := true, apart := false }
def UndoPlansSaid : Prop := undoPlansRow.holds Try.pinned (OpenSpec.ofChange undoPlansSpec)

/-- ITS FALSE NEIGHBOUR: 'it returns false'. Refute it at one input. -/
def undoPlansWrong : ChangeSpec := { name := "undoPlans", fn := fun _ => fun
  | [d1, d2] => { results := [.lit (.bool false)], args := [d1, d2] }
  | _ => none }
def UndoPlansWrongFalsely : Prop := undoPlansRow.holds Try.pinned (OpenSpec.ofChange undoPlansWrong)

/-- 'strandlinelaw31.TreePlays': WHATEVER THE INPUT: true; the input reads as it did. -/
def treePlaysSpec : ChangeSpec := { name := "treePlays", fn := fun _ => fun
  | [d1, d2] => { results := [.lit (.bool true)], args := [d1, d2] }
  | _ => none }
def treePlaysRow : OpenClaim := { program := "ytfdkkhmaikgmcaa", sum := "2ab62688fb79b4324bd11154af9be5fb2c1d452ef8f1c61abf640cf385ae9faa", func := "strandline/strandlinelaw31.TreePlays", spec := "treePlays", unfollowed := true, recurses := true, apart := false }
def TreePlaysSaid : Prop := treePlaysRow.holds Try.pinned (OpenSpec.ofChange treePlaysSpec)

/-- ITS FALSE NEIGHBOUR: 'it returns false'. Refute it at one input. -/
def treePlaysWrong : ChangeSpec := { name := "treePlays", fn := fun _ => fun
  | [d1, d2] => { results := [.lit (.bool false)], args := [d1, d2] }
  | _ => none }
def TreePlaysWrongFalsely : Prop := treePlaysRow.holds Try.pinned (OpenSpec.ofChange treePlaysWrong)

/-- 'strandlinelaw32.CursorRanges': WHATEVER THE INPUT: true; the input reads as it did. -/
def cursorRangesSpec : ChangeSpec := { name := "cursorRanges", fn := fun _ => fun
  | [d1, d2, d3] => { results := [.lit (.bool true)], args := [d1, d2, d3] }
  | _ => none }
def cursorRangesRow : OpenClaim := { program := "ytfdkkhmaikgmcaa", sum := "2ab62688fb79b4324bd11154af9be5fb2c1d452ef8f1c61abf640cf385ae9faa", func := "strandline/strandlinelaw32.CursorRanges", spec := "cursorRanges", unfollowed := true, recurses := true, apart := false }
def CursorRangesSaid : Prop := cursorRangesRow.holds Try.pinned (OpenSpec.ofChange cursorRangesSpec)

/-- ITS FALSE NEIGHBOUR: 'it returns false'. Refute it at one input. -/
def cursorRangesWrong : ChangeSpec := { name := "cursorRanges", fn := fun _ => fun
  | [d1, d2, d3] => { results := [.lit (.bool false)], args := [d1, d2, d3] }
  | _ => none }
def CursorRangesWrongFalsely : Prop := cursorRangesRow.holds Try.pinned (OpenSpec.ofChange cursorRangesWrong)

/-- 'strandlinelaw31.TreeClones': WHATEVER THE INPUT: true; the input reads as it did. -/
def treeClonesSpec : ChangeSpec := { name := "treeClones", fn := fun _ => fun
  | [d1, d2, d3] => { results := [.lit (.bool true)], args := [d1, d2, d3] }
  | _ => none }
def treeClonesRow : OpenClaim := { program := "ytfdkkhmaikgmcaa", sum := "2ab62688fb79b4324bd11154af9be5fb2c1d452ef8f1c61abf640cf385ae9faa", func := "strandline/strandlinelaw31.TreeClones", spec := "treeClones", unfollowed := true, recurses := true, apart := false }
def TreeClonesSaid : Prop := treeClonesRow.holds Try.pinned (OpenSpec.ofChange treeClonesSpec)

/-- ITS FALSE NEIGHBOUR: 'it returns false'. Refute it at one input. -/
def treeClonesWrong : ChangeSpec := { name := "treeClones", fn := fun _ => fun
  | [d1, d2, d3] => { results := [.lit (.bool false)], args := [d1, d2, d3] }
  | _ => none }
def TreeClonesWrongFalsely : Prop := treeClonesRow.holds Try.pinned (OpenSpec.ofChange treeClonesWrong)

/- THE SECOND FORM. 'bulk': how many values and letters a reading holds, each counted each time it is reached (what is shared counts as often as it is met; a slice's spare places count too). A statement '..UptoSaid' is the law's where the arguments, and the package variables that the reading takes, are together of bulk at most 1048576: NARROWER than '..Said'. Prove '..Said' where nothing that the law and all that it calls make is longer than what came in: it says more and counts as full. Else prove '..UptoSaid'. A law counts once. -/
mutual
def uptoBulk {H : Type} : DataW H → Nat
  | .lit (.string bytes) => bytes.length + 1
  | .lit _ => 1
  | .nil => 1
  | .ptr d => uptoBulk d + 1
  | .slice elems spare => uptoBulkAll elems + uptoBulkAll spare + 1
  | .agg parts => uptoBulkAll parts + 1
  | .iface _ d => uptoBulk d + 1
  | .map entries => uptoBulkEntries entries + 1
  | .held _ => 1
def uptoBulkAll {H : Type} : List (DataW H) → Nat
  | [] => 0
  | d :: r => uptoBulk d + uptoBulkAll r
def uptoBulkEntries {H : Type} : List (Lit × DataW H) → Nat
  | [] => 0
  | x :: r => uptoBulkEntry x + uptoBulkEntries r
def uptoBulkEntry {H : Type} : Lit × DataW H → Nat
  | (.string bytes, d) => bytes.length + uptoBulk d + 1
  | (_, d) => uptoBulk d + 1
 end
def uptoSmall : (H : Type) → List (DataW H) → Bool := fun _ ds => decide (uptoBulkAll ds ≤ 1048576)
def OpenSpec.upto (s : _root_.Go.ChangeSpec) : _root_.Go.OpenSpec := { _root_.Go.OpenSpec.ofChange s with cond := some uptoSmall }

/-- 'strandlinelaw30.ListAgain', WHERE WHAT IT READS IS OF BULK AT MOST 1048576: true; the input reads as it did. -/
def listAgainUptoRow : OpenClaim := { program := "ytfdkkhmaikgmcaa", sum := "2ab62688fb79b4324bd11154af9be5fb2c1d452ef8f1c61abf640cf385ae9faa", func := "strandline/strandlinelaw30.ListAgain", spec := "listAgain", unfollowed := true, recurses := true, apart := false, narrowed := true }
def ListAgainUptoSaid : Prop := listAgainUptoRow.holds Try.pinned (OpenSpec.upto listAgainSpec)

/-- 'strandlinelaw11.RecordDecodes', WHERE WHAT IT READS IS OF BULK AT MOST 1048576: true; the input reads as it did. -/
def recordDecodesUptoRow : OpenClaim := { program := "ytfdkkhmaikgmcaa", sum := "2ab62688fb79b4324bd11154af9be5fb2c1d452ef8f1c61abf640cf385ae9faa", func := "strandline/strandlinelaw11.RecordDecodes", spec := "recordDecodes", apart := false, narrowed := true }
def RecordDecodesUptoSaid : Prop := recordDecodesUptoRow.holds Try.pinned (OpenSpec.upto recordDecodesSpec)

/-- 'strandlinelaw11.RecordEncodes', WHERE WHAT IT READS IS OF BULK AT MOST 1048576: true; the input reads as it did. -/
def recordEncodesUptoRow : OpenClaim := { program := "ytfdkkhmaikgmcaa", sum := "2ab62688fb79b4324bd11154af9be5fb2c1d452ef8f1c61abf640cf385ae9faa", func := "strandline/strandlinelaw11.RecordEncodes", spec := "recordEncodes", apart := false, narrowed := true }
def RecordEncodesUptoSaid : Prop := recordEncodesUptoRow.holds Try.pinned (OpenSpec.upto recordEncodesSpec)

/-- 'strandlinelaw42.TxEncodes', WHERE WHAT IT READS IS OF BULK AT MOST 1048576: true; the input reads as it did. -/
def txEncodesUptoRow : OpenClaim := { program := "ytfdkkhmaikgmcaa", sum := "2ab62688fb79b4324bd11154af9be5fb2c1d452ef8f1c61abf640cf385ae9faa", func := "strandline/strandlinelaw42.TxEncodes", spec := "txEncodes", apart := false, narrowed := true }
def TxEncodesUptoSaid : Prop := txEncodesUptoRow.holds Try.pinned (OpenSpec.upto txEncodesSpec)

/-- 'strandlinelaw42.TxDecodes', WHERE WHAT IT READS IS OF BULK AT MOST 1048576: true; the input reads as it did. -/
def txDecodesUptoRow : OpenClaim := { program := "ytfdkkhmaikgmcaa", sum := "2ab62688fb79b4324bd11154af9be5fb2c1d452ef8f1c61abf640cf385ae9faa", func := "strandline/strandlinelaw42.TxDecodes", spec := "txDecodes", apart := false, narrowed := true }
def TxDecodesUptoSaid : Prop := txDecodesUptoRow.holds Try.pinned (OpenSpec.upto txDecodesSpec)

/-- 'strandlinelaw44.UndoGoes', WHERE WHAT IT READS IS OF BULK AT MOST 1048576: true; the input reads as it did. -/
def undoGoesUptoRow : OpenClaim := { program := "ytfdkkhmaikgmcaa", sum := "2ab62688fb79b4324bd11154af9be5fb2c1d452ef8f1c61abf640cf385ae9faa", func := "strandline/strandlinelaw44.UndoGoes", spec := "undoGoes", apart := false, narrowed := true }
def UndoGoesUptoSaid : Prop := undoGoesUptoRow.holds Try.pinned (OpenSpec.upto undoGoesSpec)

/-- 'strandlinelaw44.UndoPlans', WHERE WHAT IT READS IS OF BULK AT MOST 1048576: true; the input reads as it did. -/
def undoPlansUptoRow : OpenClaim := { program := "ytfdkkhmaikgmcaa", sum := "2ab62688fb79b4324bd11154af9be5fb2c1d452ef8f1c61abf640cf385ae9faa", func := "strandline/strandlinelaw44.UndoPlans", spec := "undoPlans", recurses := true, apart := false, narrowed := true }
def UndoPlansUptoSaid : Prop := undoPlansUptoRow.holds Try.pinned (OpenSpec.upto undoPlansSpec)

/-- 'strandlinelaw31.TreePlays', WHERE WHAT IT READS IS OF BULK AT MOST 1048576: true; the input reads as it did. -/
def treePlaysUptoRow : OpenClaim := { program := "ytfdkkhmaikgmcaa", sum := "2ab62688fb79b4324bd11154af9be5fb2c1d452ef8f1c61abf640cf385ae9faa", func := "strandline/strandlinelaw31.TreePlays", spec := "treePlays", unfollowed := true, recurses := true, apart := false, narrowed := true }
def TreePlaysUptoSaid : Prop := treePlaysUptoRow.holds Try.pinned (OpenSpec.upto treePlaysSpec)

/-- 'strandlinelaw32.CursorRanges', WHERE WHAT IT READS IS OF BULK AT MOST 1048576: true; the input reads as it did. -/
def cursorRangesUptoRow : OpenClaim := { program := "ytfdkkhmaikgmcaa", sum := "2ab62688fb79b4324bd11154af9be5fb2c1d452ef8f1c61abf640cf385ae9faa", func := "strandline/strandlinelaw32.CursorRanges", spec := "cursorRanges", unfollowed := true, recurses := true, apart := false, narrowed := true }
def CursorRangesUptoSaid : Prop := cursorRangesUptoRow.holds Try.pinned (OpenSpec.upto cursorRangesSpec)

/-- 'strandlinelaw31.TreeClones', WHERE WHAT IT READS IS OF BULK AT MOST 1048576: true; the input reads as it did. -/
def treeClonesUptoRow : OpenClaim := { program := "ytfdkkhmaikgmcaa", sum := "2ab62688fb79b4324bd11154af9be5fb2c1d452ef8f1c61abf640cf385ae9faa", func := "strandline/strandlinelaw31.TreeClones", spec := "treeClones", unfollowed := true, recurses := true, apart := false, narrowed := true }
def TreeClonesUptoSaid : Prop := treeClonesUptoRow.holds Try.pinned (OpenSpec.upto treeClonesSpec)

end Rows
end Go.Proofs.Ytfdkkhmaikgmcaa
