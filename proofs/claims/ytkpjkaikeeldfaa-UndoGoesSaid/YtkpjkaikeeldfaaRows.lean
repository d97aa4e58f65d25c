/-
  No cell of these rows narrows 'for every input' (looked for: loops, veiled, ifaces, maps, wideKeys, modest, calm, conditions, laid).
  DERIVED. THE GIVEN ROWS OF THIS SEAT. 3 by the template 'for every input the law returns true; each argument reads behind the call as it read before'; 0 by the template 'total and deterministic' (their statements: YtkpjkaikeeldfaaTotals.lean).
  GIVEN WITH THE SEED: the statements are not yours to turn. If you find one false, say at which input.
  Laid BY PROGRAM, IN A SANDBOX (cutbox-rows.mjs): the forced cells as the released guide's own fill.sh prints them over the translation 7b163a71c07c017c… (all of the seat's roots in one cut). By AI agents, Wed Nov 11 2026. No macro, syntax, notation, axiom, sorry.
-/
import Derived.Test.YtkpjkaikeeldfaaChecked
import GoSem.Claim
import GoSem.ClaimJoined
import GoSem.ClaimMapViews
import Derived.JoinedTies
import Derived.KernelRfl
namespace Go.Proofs.Ytkpjkaikeeldfaa
/- THE CELL 'sum', in the pinned program and in every row, IS THE sha256 OF THE DUMP (.gsa) THAT YtkpjkaikeeldfaaProg.lean LOADS. Nothing in Lean hashes anything: it is a label: what it is worth is what the hold of that sum in a sandbox is worth. -/
noncomputable def Try.pinned : Pinned := { name := "ytkpjkaikeeldfaa", sum := "7b163a71c07c017c6d7d74038f219ff44c406a6757bf69cc9ce8cec6aa6760d9", checked := Try.checked }
namespace Rows
def none {H : Type} : Left H := { results := [], args := [] }

/-- 'strandlinelaw42.TxEncodes': WHATEVER THE INPUT: true; the input reads as it did. -/
def txEncodesSpec : ChangeSpec := { name := "txEncodes", fn := fun _ => fun
  | [d] => { results := [.lit (.bool true)], args := [d] }
  | _ => none }
def txEncodesRow : OpenClaim := { program := "ytkpjkaikeeldfaa", sum := "7b163a71c07c017c6d7d74038f219ff44c406a6757bf69cc9ce8cec6aa6760d9", func := "strandline/strandlinelaw42.TxEncodes", spec := "txEncodes", apart := false }
def TxEncodesSaid : Prop := txEncodesRow.holds Try.pinned (OpenSpec.ofChange txEncodesSpec)

/-- ITS FALSE NEIGHBOUR: 'it returns false'. Refute it at one input. -/
def txEncodesWrong : ChangeSpec := { name := "txEncodes", fn := fun _ => fun
  | [d] => { results := [.lit (.bool false)], args := [d] }
  | _ => none }
def TxEncodesWrongFalsely : Prop := txEncodesRow.holds Try.pinned (OpenSpec.ofChange txEncodesWrong)

/-- 'strandlinelaw44.UndoGoes': WHATEVER THE INPUT: true; the input reads as it did. -/
def undoGoesSpec : ChangeSpec := { name := "undoGoes", fn := fun _ => fun
  | [d1, d2, d3] => { results := [.lit (.bool true)], args := [d1, d2, d3] }
  | _ => none }
def undoGoesRow : OpenClaim := { program := "ytkpjkaikeeldfaa", sum := "7b163a71c07c017c6d7d74038f219ff44c406a6757bf69cc9ce8cec6aa6760d9", func := "strandline/strandlinelaw44.UndoGoes", spec := "undoGoes", apart := false }
def UndoGoesSaid : Prop := undoGoesRow.holds Try.pinned (OpenSpec.ofChange undoGoesSpec)

/-- ITS FALSE NEIGHBOUR: 'it returns false'. Refute it at one input. -/
def undoGoesWrong : ChangeSpec := { name := "undoGoes", fn := fun _ => fun
  | [d1, d2, d3] => { results := [.lit (.bool false)], args := [d1, d2, d3] }
  | _ => none }
def UndoGoesWrongFalsely : Prop := undoGoesRow.holds Try.pinned (OpenSpec.ofChange undoGoesWrong)

/-- 'strandlinelaw44.UndoPlans': WHATEVER THE INPUT: true; the input reads as it did. -/
def undoPlansSpec : ChangeSpec := { name := "undoPlans", fn := fun _ => fun
  | [d1, d2] => { results := [.lit (.bool true)], args := [d1, d2] }
  | _ => none }
def undoPlansRow : OpenClaim := { program := "ytkpjkaikeeldfaa", sum := "7b163a71c07c017c6d7d74038f219ff44c406a6757bf69cc9ce8cec6aa6760d9", func := "strandline/strandlinelaw44.UndoPlans", spec := "undoPlans", recurses := true, apart := false }
def UndoPlansSaid : Prop := undoPlansRow.holds Try.pinned (OpenSpec.ofChange undoPlansSpec)

/-- ITS FALSE NEIGHBOUR: 'it returns false'. Refute it at one input. -/
def undoPlansWrong : ChangeSpec := { name := "undoPlans", fn := fun _ => fun
  | [d1, d2] => { results := [.lit (.bool false)], args := [d1, d2] }
  | _ => none }
def UndoPlansWrongFalsely : Prop := undoPlansRow.holds Try.pinned (OpenSpec.ofChange undoPlansWrong)

/- THE SECOND FORM. 'bulk': how many values and letters a reading holds, each counted each time it is reached (what is shared counts as often as it is met; a slice's spare places count too). A statement '..UptoSaid' is the law's where the arguments, and the package variables that the reading takes, are together of bulk at most 1048576: NARROWER than '..Said'. Prove '..Said' where nothing that the law and all that it calls make is longer than what came in: it says more and counts as full. Else prove '..UptoSaid'. A law counts once. -/
mutual
def uptoBulk {H : Type} : DataW H → Nat
  | .lit (.string bytes) => bytes.length + 1
  | .lit _ => 1
  | .nil => 1
  | .ptr d => uptoBulk d + 1
  | .slice elems spare => uptoBulkAll elems + uptoBulkAll spare + 1
  | .agg parts => uptoBulkAll parts + 1
  | .iface _ d => uptoBulk d + 1
  | .map entries => uptoBulkEntries entries + 1
  | .held _ => 1
def uptoBulkAll {H : Type} : List (DataW H) → Nat
  | [] => 0
  | d :: r => uptoBulk d + uptoBulkAll r
def uptoBulkEntries {H : Type} : List (Lit × DataW H) → Nat
  | [] => 0
  | x :: r => uptoBulkEntry x + uptoBulkEntries r
def uptoBulkEntry {H : Type} : Lit × DataW H → Nat
  | (.string bytes, d) => bytes.length + uptoBulk d + 1
  | (_, d) => uptoBulk d + 1
 end
def uptoSmall : (H : Type) → List (DataW H) → Bool := fun _ ds => decide (uptoBulkAll ds ≤ 1048576)
def OpenSpec.upto (s : _root_.Go.ChangeSpec) : _root_.Go.OpenSpec := { _root_.Go.OpenSpec.ofChange s with cond := some uptoSmall }

/-- 'strandlinelaw42.TxEncodes', WHERE WHAT IT READS IS OF BULK AT MOST 1048576: true; the input reads as it did. -/
def txEncodesUptoRow : OpenClaim := { program := "ytkpjkaikeeldfaa", sum := "7b163a71c07c017c6d7d74038f219ff44c406a6757bf69cc9ce8cec6aa6760d9", func := "strandline/strandlinelaw42.TxEncodes", spec := "txEncodes", apart := false, narrowed := true }
def TxEncodesUptoSaid : Prop := txEncodesUptoRow.holds Try.pinned (OpenSpec.upto txEncodesSpec)

/-- 'strandlinelaw44.UndoGoes', WHERE WHAT IT READS IS OF BULK AT MOST 1048576: true; the input reads as it did. -/
def undoGoesUptoRow : OpenClaim := { program := "ytkpjkaikeeldfaa", sum := "7b163a71c07c017c6d7d74038f219ff44c406a6757bf69cc9ce8cec6aa6760d9", func := "strandline/strandlinelaw44.UndoGoes", spec := "undoGoes", apart := false, narrowed := true }
def UndoGoesUptoSaid : Prop := undoGoesUptoRow.holds Try.pinned (OpenSpec.upto undoGoesSpec)

/-- 'strandlinelaw44.UndoPlans', WHERE WHAT IT READS IS OF BULK AT MOST 1048576: true; the input reads as it did. -/
def undoPlansUptoRow : OpenClaim := { program := "ytkpjkaikeeldfaa", sum := "7b163a71c07c017c6d7d74038f219ff44c406a6757bf69cc9ce8cec6aa6760d9", func := "strandline/strandlinelaw44.UndoPlans", spec := "undoPlans", recurses := true, apart := false, narrowed := true }
def UndoPlansUptoSaid : Prop := undoPlansUptoRow.holds Try.pinned (OpenSpec.upto undoPlansSpec)

end Rows
end Go.Proofs.Ytkpjkaikeeldfaa
