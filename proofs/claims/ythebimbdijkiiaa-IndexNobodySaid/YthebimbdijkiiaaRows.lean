/-
  No cell of these rows narrows 'for every input' (looked for: loops, veiled, ifaces, maps, wideKeys, modest, calm, conditions, laid).
  DERIVED. THE GIVEN ROWS OF THIS SEAT. 12 by the template 'for every input the law returns true; each argument reads behind the call as it read before'; 0 by the template 'total and deterministic' (their statements: YthebimbdijkiiaaTotals.lean).
  GIVEN WITH THE SEED: the statements are not yours to turn. If you find one false, say at which input.
  Laid BY PROGRAM, IN A SANDBOX (cutbox-rows.mjs): the forced cells as the released guide's own fill.sh prints them over the translation 4bba6155fe89ed63… (all of the seat's roots in one cut). By AI agents, Wed Nov 11 2026. No macro, syntax, notation, axiom, sorry.
-/
import Derived.Test.YthebimbdijkiiaaChecked
import GoSem.Claim
import GoSem.ClaimJoined
import GoSem.ClaimMapViews
import Derived.JoinedTies
import Derived.KernelRfl
namespace Go.Proofs.Ythebimbdijkiiaa
/- THE CELL 'sum', in the pinned program and in every row, IS THE sha256 OF THE DUMP (.gsa) THAT YthebimbdijkiiaaProg.lean LOADS. Nothing in Lean hashes anything: it is a label: what it is worth is what the hold of that sum in a sandbox is worth. -/
noncomputable def Try.pinned : Pinned := { name := "ythebimbdijkiiaa", sum := "4bba6155fe89ed634512f4f815702fc1a49b5d74109f26129d5d13ff4044d896", checked := Try.checked }
namespace Rows
def none {H : Type} : Left H := { results := [], args := [] }

/-- 'strandlinelaw02.VarintPuts': WHATEVER THE INPUT: true; the input reads as it did. -/
def varintPutsSpec : ChangeSpec := { name := "varintPuts", fn := fun _ => fun
  | [d1, d2, d3] => { results := [.lit (.bool true)], args := [d1, d2, d3] }
  | _ => none }
def varintPutsRow : OpenClaim := { program := "ythebimbdijkiiaa", sum := "4bba6155fe89ed634512f4f815702fc1a49b5d74109f26129d5d13ff4044d896", func := "strandline/strandlinelaw02.VarintPuts", spec := "varintPuts", plainKeys := false, apart := false }
def VarintPutsSaid : Prop := varintPutsRow.holds Try.pinned (OpenSpec.ofChange varintPutsSpec)

/-- ITS FALSE NEIGHBOUR: 'it returns false'. Refute it at one input. -/
def varintPutsWrong : ChangeSpec := { name := "varintPuts", fn := fun _ => fun
  | [d1, d2, d3] => { results := [.lit (.bool false)], args := [d1, d2, d3] }
  | _ => none }
def VarintPutsWrongFalsely : Prop := varintPutsRow.holds Try.pinned (OpenSpec.ofChange varintPutsWrong)

/-- 'strandlinelaw02.VarintGets': WHATEVER THE INPUT: true; the input reads as it did. -/
def varintGetsSpec : ChangeSpec := { name := "varintGets", fn := fun _ => fun
  | [d] => { results := [.lit (.bool true)], args := [d] }
  | _ => none }
def varintGetsRow : OpenClaim := { program := "ythebimbdijkiiaa", sum := "4bba6155fe89ed634512f4f815702fc1a49b5d74109f26129d5d13ff4044d896", func := "strandline/strandlinelaw02.VarintGets", spec := "varintGets", plainKeys := false, apart := false }
def VarintGetsSaid : Prop := varintGetsRow.holds Try.pinned (OpenSpec.ofChange varintGetsSpec)

/-- ITS FALSE NEIGHBOUR: 'it returns false'. Refute it at one input. -/
def varintGetsWrong : ChangeSpec := { name := "varintGets", fn := fun _ => fun
  | [d] => { results := [.lit (.bool false)], args := [d] }
  | _ => none }
def VarintGetsWrongFalsely : Prop := varintGetsRow.holds Try.pinned (OpenSpec.ofChange varintGetsWrong)

/-- 'strandlinelaw02.VarintAll': WHATEVER THE INPUT: true; the input reads as it did. -/
def varintAllSpec : ChangeSpec := { name := "varintAll", fn := fun _ => fun
  | [d1, d2] => { results := [.lit (.bool true)], args := [d1, d2] }
  | _ => none }
def varintAllRow : OpenClaim := { program := "ythebimbdijkiiaa", sum := "4bba6155fe89ed634512f4f815702fc1a49b5d74109f26129d5d13ff4044d896", func := "strandline/strandlinelaw02.VarintAll", spec := "varintAll", plainKeys := false, apart := false }
def VarintAllSaid : Prop := varintAllRow.holds Try.pinned (OpenSpec.ofChange varintAllSpec)

/-- ITS FALSE NEIGHBOUR: 'it returns false'. Refute it at one input. -/
def varintAllWrong : ChangeSpec := { name := "varintAll", fn := fun _ => fun
  | [d1, d2] => { results := [.lit (.bool false)], args := [d1, d2] }
  | _ => none }
def VarintAllWrongFalsely : Prop := varintAllRow.holds Try.pinned (OpenSpec.ofChange varintAllWrong)

/-- 'strandlinelaw11.RecordSames': WHATEVER THE INPUT: true; the input reads as it did. -/
def recordSamesSpec : ChangeSpec := { name := "recordSames", fn := fun _ => fun
  | [d1, d2] => { results := [.lit (.bool true)], args := [d1, d2] }
  | _ => none }
def recordSamesRow : OpenClaim := { program := "ythebimbdijkiiaa", sum := "4bba6155fe89ed634512f4f815702fc1a49b5d74109f26129d5d13ff4044d896", func := "strandline/strandlinelaw11.RecordSames", spec := "recordSames", plainKeys := false, apart := false }
def RecordSamesSaid : Prop := recordSamesRow.holds Try.pinned (OpenSpec.ofChange recordSamesSpec)

/-- ITS FALSE NEIGHBOUR: 'it returns false'. Refute it at one input. -/
def recordSamesWrong : ChangeSpec := { name := "recordSames", fn := fun _ => fun
  | [d1, d2] => { results := [.lit (.bool false)], args := [d1, d2] }
  | _ => none }
def RecordSamesWrongFalsely : Prop := recordSamesRow.holds Try.pinned (OpenSpec.ofChange recordSamesWrong)

/-- 'strandlinelaw04.FieldGets': WHATEVER THE INPUT: true; the input reads as it did. -/
def fieldGetsSpec : ChangeSpec := { name := "fieldGets", fn := fun _ => fun
  | [d] => { results := [.lit (.bool true)], args := [d] }
  | _ => none }
def fieldGetsRow : OpenClaim := { program := "ythebimbdijkiiaa", sum := "4bba6155fe89ed634512f4f815702fc1a49b5d74109f26129d5d13ff4044d896", func := "strandline/strandlinelaw04.FieldGets", spec := "fieldGets", plainKeys := false, apart := false }
def FieldGetsSaid : Prop := fieldGetsRow.holds Try.pinned (OpenSpec.ofChange fieldGetsSpec)

/-- ITS FALSE NEIGHBOUR: 'it returns false'. Refute it at one input. -/
def fieldGetsWrong : ChangeSpec := { name := "fieldGets", fn := fun _ => fun
  | [d] => { results := [.lit (.bool false)], args := [d] }
  | _ => none }
def FieldGetsWrongFalsely : Prop := fieldGetsRow.holds Try.pinned (OpenSpec.ofChange fieldGetsWrong)

/-- 'strandlinelaw42.TxTurns': WHATEVER THE INPUT: true; the input reads as it did. -/
def txTurnsSpec : ChangeSpec := { name := "txTurns", fn := fun _ => fun
  | [d1, d2] => { results := [.lit (.bool true)], args := [d1, d2] }
  | _ => none }
def txTurnsRow : OpenClaim := { program := "ythebimbdijkiiaa", sum := "4bba6155fe89ed634512f4f815702fc1a49b5d74109f26129d5d13ff4044d896", func := "strandline/strandlinelaw42.TxTurns", spec := "txTurns", plainKeys := false, apart := false }
def TxTurnsSaid : Prop := txTurnsRow.holds Try.pinned (OpenSpec.ofChange txTurnsSpec)

/-- ITS FALSE NEIGHBOUR: 'it returns false'. Refute it at one input. -/
def txTurnsWrong : ChangeSpec := { name := "txTurns", fn := fun _ => fun
  | [d1, d2] => { results := [.lit (.bool false)], args := [d1, d2] }
  | _ => none }
def TxTurnsWrongFalsely : Prop := txTurnsRow.holds Try.pinned (OpenSpec.ofChange txTurnsWrong)

/-- 'strandlinelaw04.FieldPacks': WHATEVER THE INPUT: true; the input reads as it did. -/
def fieldPacksSpec : ChangeSpec := { name := "fieldPacks", fn := fun _ => fun
  | [d1, d2] => { results := [.lit (.bool true)], args := [d1, d2] }
  | _ => none }
def fieldPacksRow : OpenClaim := { program := "ythebimbdijkiiaa", sum := "4bba6155fe89ed634512f4f815702fc1a49b5d74109f26129d5d13ff4044d896", func := "strandline/strandlinelaw04.FieldPacks", spec := "fieldPacks", plainKeys := false, apart := false }
def FieldPacksSaid : Prop := fieldPacksRow.holds Try.pinned (OpenSpec.ofChange fieldPacksSpec)

/-- ITS FALSE NEIGHBOUR: 'it returns false'. Refute it at one input. -/
def fieldPacksWrong : ChangeSpec := { name := "fieldPacks", fn := fun _ => fun
  | [d1, d2] => { results := [.lit (.bool false)], args := [d1, d2] }
  | _ => none }
def FieldPacksWrongFalsely : Prop := fieldPacksRow.holds Try.pinned (OpenSpec.ofChange fieldPacksWrong)

/-- 'strandlinelaw04.FieldUnpacks': WHATEVER THE INPUT: true; the input reads as it did. -/
def fieldUnpacksSpec : ChangeSpec := { name := "fieldUnpacks", fn := fun _ => fun
  | [d] => { results := [.lit (.bool true)], args := [d] }
  | _ => none }
def fieldUnpacksRow : OpenClaim := { program := "ythebimbdijkiiaa", sum := "4bba6155fe89ed634512f4f815702fc1a49b5d74109f26129d5d13ff4044d896", func := "strandline/strandlinelaw04.FieldUnpacks", spec := "fieldUnpacks", plainKeys := false, apart := false }
def FieldUnpacksSaid : Prop := fieldUnpacksRow.holds Try.pinned (OpenSpec.ofChange fieldUnpacksSpec)

/-- ITS FALSE NEIGHBOUR: 'it returns false'. Refute it at one input. -/
def fieldUnpacksWrong : ChangeSpec := { name := "fieldUnpacks", fn := fun _ => fun
  | [d] => { results := [.lit (.bool false)], args := [d] }
  | _ => none }
def FieldUnpacksWrongFalsely : Prop := fieldUnpacksRow.holds Try.pinned (OpenSpec.ofChange fieldUnpacksWrong)

/-- 'strandlinelaw26.IndexPlays': WHATEVER THE INPUT: true; the input reads as it did. -/
def indexPlaysSpec : ChangeSpec := { name := "indexPlays", fn := fun _ => fun
  | [d1, d2, d3] => { results := [.lit (.bool true)], args := [d1, d2, d3] }
  | _ => none }
def indexPlaysRow : OpenClaim := { program := "ythebimbdijkiiaa", sum := "4bba6155fe89ed634512f4f815702fc1a49b5d74109f26129d5d13ff4044d896", func := "strandline/strandlinelaw26.IndexPlays", spec := "indexPlays", plainKeys := false, apart := false }
def IndexPlaysSaid : Prop := indexPlaysRow.holds Try.pinned (OpenSpec.ofChange indexPlaysSpec)

/-- ITS FALSE NEIGHBOUR: 'it returns false'. Refute it at one input. -/
def indexPlaysWrong : ChangeSpec := { name := "indexPlays", fn := fun _ => fun
  | [d1, d2, d3] => { results := [.lit (.bool false)], args := [d1, d2, d3] }
  | _ => none }
def IndexPlaysWrongFalsely : Prop := indexPlaysRow.holds Try.pinned (OpenSpec.ofChange indexPlaysWrong)

/-- 'strandlinelaw26.IndexNobody': WHATEVER THE INPUT: true; the input reads as it did. -/
def indexNobodySpec : ChangeSpec := { name := "indexNobody", fn := fun _ => fun
  | [d1, d2, d3] => { results := [.lit (.bool true)], args := [d1, d2, d3] }
  | _ => none }
def indexNobodyRow : OpenClaim := { program := "ythebimbdijkiiaa", sum := "4bba6155fe89ed634512f4f815702fc1a49b5d74109f26129d5d13ff4044d896", func := "strandline/strandlinelaw26.IndexNobody", spec := "indexNobody", plainKeys := false, apart := false }
def IndexNobodySaid : Prop := indexNobodyRow.holds Try.pinned (OpenSpec.ofChange indexNobodySpec)

/-- ITS FALSE NEIGHBOUR: 'it returns false'. Refute it at one input. -/
def indexNobodyWrong : ChangeSpec := { name := "indexNobody", fn := fun _ => fun
  | [d1, d2, d3] => { results := [.lit (.bool false)], args := [d1, d2, d3] }
  | _ => none }
def IndexNobodyWrongFalsely : Prop := indexNobodyRow.holds Try.pinned (OpenSpec.ofChange indexNobodyWrong)

/-- 'strandlinelaw30.ListFollows': WHATEVER THE INPUT: true; the input reads as it did. -/
def listFollowsSpec : ChangeSpec := { name := "listFollows", fn := fun _ => fun
  | [d1, d2, d3] => { results := [.lit (.bool true)], args := [d1, d2, d3] }
  | _ => none }
def listFollowsRow : OpenClaim := { program := "ythebimbdijkiiaa", sum := "4bba6155fe89ed634512f4f815702fc1a49b5d74109f26129d5d13ff4044d896", func := "strandline/strandlinelaw30.ListFollows", spec := "listFollows", unfollowed := true, recurses := true, plainKeys := false, apart := false }
def ListFollowsSaid : Prop := listFollowsRow.holds Try.pinned (OpenSpec.ofChange listFollowsSpec)

/-- ITS FALSE NEIGHBOUR: 'it returns false'. Refute it at one input. -/
def listFollowsWrong : ChangeSpec := { name := "listFollows", fn := fun _ => fun
  | [d1, d2, d3] => { results := [.lit (.bool false)], args := [d1, d2, d3] }
  | _ => none }
def ListFollowsWrongFalsely : Prop := listFollowsRow.holds Try.pinned (OpenSpec.ofChange listFollowsWrong)

/-- 'strandlinelaw30.ListMays': WHATEVER THE INPUT: true; the input reads as it did. -/
def listMaysSpec : ChangeSpec := { name := "listMays", fn := fun _ => fun
  | [d1, d2, d3] => { results := [.lit (.bool true)], args := [d1, d2, d3] }
  | _ => none }
def listMaysRow : OpenClaim := { program := "ythebimbdijkiiaa", sum := "4bba6155fe89ed634512f4f815702fc1a49b5d74109f26129d5d13ff4044d896", func := "strandline/strandlinelaw30.ListMays", spec := "listMays", unfollowed := true, recurses := true, plainKeys := false, apart := false }
def ListMaysSaid : Prop := listMaysRow.holds Try.pinned (OpenSpec.ofChange listMaysSpec)

/-- ITS FALSE NEIGHBOUR: 'it returns false'. Refute it at one input. -/
def listMaysWrong : ChangeSpec := { name := "listMays", fn := fun _ => fun
  | [d1, d2, d3] => { results := [.lit (.bool false)], args := [d1, d2, d3] }
  | _ => none }
def ListMaysWrongFalsely : Prop := listMaysRow.holds Try.pinned (OpenSpec.ofChange listMaysWrong)

/- THE SECOND FORM. 'bulk': how many values and letters a reading holds, each counted each time it is reached (what is shared counts as often as it is met; a slice's spare places count too). A statement '..UptoSaid' is the law's where the arguments, and the package variables that the reading takes, are together of bulk at most 1048576: NARROWER than '..Said'. Prove '..Said' where nothing that the law and all that it calls make is longer than what came in: it says more and counts as full. Else prove '..UptoSaid'. A law counts once. -/
mutual
def uptoBulk {H : Type} : DataW H → Nat
  | .lit (.string bytes) => bytes.length + 1
  | .lit _ => 1
  | .nil => 1
  | .ptr d => uptoBulk d + 1
  | .slice elems spare => uptoBulkAll elems + uptoBulkAll spare + 1
  | .agg parts => uptoBulkAll parts + 1
  | .iface _ d => uptoBulk d + 1
  | .map entries => uptoBulkEntries entries + 1
  | .held _ => 1
def uptoBulkAll {H : Type} : List (DataW H) → Nat
  | [] => 0
  | d :: r => uptoBulk d + uptoBulkAll r
def uptoBulkEntries {H : Type} : List (Lit × DataW H) → Nat
  | [] => 0
  | x :: r => uptoBulkEntry x + uptoBulkEntries r
def uptoBulkEntry {H : Type} : Lit × DataW H → Nat
  | (.string bytes, d) => bytes.length + uptoBulk d + 1
  | (_, d) => uptoBulk d + 1
 end
def uptoSmall : (H : Type) → List (DataW H) → Bool := fun _ ds => decide (uptoBulkAll ds ≤ 1048576)
def OpenSpec.upto (s : _root_.Go.ChangeSpec) : _root_.Go.OpenSpec := { _root_.Go.OpenSpec.ofChange s with cond := some uptoSmall }

/-- 'strandlinelaw02.VarintPuts', WHERE WHAT IT READS IS OF BULK AT MOST 1048576: true; the input reads as it did. -/
def varintPutsUptoRow : OpenClaim := { program := "ythebimbdijkiiaa", sum := "4bba6155fe89ed634512f4f815702fc1a49b5d74109f26129d5d13ff4044d896", func := "strandline/strandlinelaw02.VarintPuts", spec := "varintPuts", plainKeys := false, apart := false, narrowed := true }
def VarintPutsUptoSaid : Prop := varintPutsUptoRow.holds Try.pinned (OpenSpec.upto varintPutsSpec)

/-- 'strandlinelaw02.VarintGets', WHERE WHAT IT READS IS OF BULK AT MOST 1048576: true; the input reads as it did. -/
def varintGetsUptoRow : OpenClaim := { program := "ythebimbdijkiiaa", sum := "4bba6155fe89ed634512f4f815702fc1a49b5d74109f26129d5d13ff4044d896", func := "strandline/strandlinelaw02.VarintGets", spec := "varintGets", plainKeys := false, apart := false, narrowed := true }
def VarintGetsUptoSaid : Prop := varintGetsUptoRow.holds Try.pinned (OpenSpec.upto varintGetsSpec)

/-- 'strandlinelaw02.VarintAll', WHERE WHAT IT READS IS OF BULK AT MOST 1048576: true; the input reads as it did. -/
def varintAllUptoRow : OpenClaim := { program := "ythebimbdijkiiaa", sum := "4bba6155fe89ed634512f4f815702fc1a49b5d74109f26129d5d13ff4044d896", func := "strandline/strandlinelaw02.VarintAll", spec := "varintAll", plainKeys := false, apart := false, narrowed := true }
def VarintAllUptoSaid : Prop := varintAllUptoRow.holds Try.pinned (OpenSpec.upto varintAllSpec)

/-- 'strandlinelaw11.RecordSames', WHERE WHAT IT READS IS OF BULK AT MOST 1048576: true; the input reads as it did. -/
def recordSamesUptoRow : OpenClaim := { program := "ythebimbdijkiiaa", sum := "4bba6155fe89ed634512f4f815702fc1a49b5d74109f26129d5d13ff4044d896", func := "strandline/strandlinelaw11.RecordSames", spec := "recordSames", plainKeys := false, apart := false, narrowed := true }
def RecordSamesUptoSaid : Prop := recordSamesUptoRow.holds Try.pinned (OpenSpec.upto recordSamesSpec)

/-- 'strandlinelaw04.FieldGets', WHERE WHAT IT READS IS OF BULK AT MOST 1048576: true; the input reads as it did. -/
def fieldGetsUptoRow : OpenClaim := { program := "ythebimbdijkiiaa", sum := "4bba6155fe89ed634512f4f815702fc1a49b5d74109f26129d5d13ff4044d896", func := "strandline/strandlinelaw04.FieldGets", spec := "fieldGets", plainKeys := false, apart := false, narrowed := true }
def FieldGetsUptoSaid : Prop := fieldGetsUptoRow.holds Try.pinned (OpenSpec.upto fieldGetsSpec)

/-- 'strandlinelaw42.TxTurns', WHERE WHAT IT READS IS OF BULK AT MOST 1048576: true; the input reads as it did. -/
def txTurnsUptoRow : OpenClaim := { program := "ythebimbdijkiiaa", sum := "4bba6155fe89ed634512f4f815702fc1a49b5d74109f26129d5d13ff4044d896", func := "strandline/strandlinelaw42.TxTurns", spec := "txTurns", plainKeys := false, apart := false, narrowed := true }
def TxTurnsUptoSaid : Prop := txTurnsUptoRow.holds Try.pinned (OpenSpec.upto txTurnsSpec)

/-- 'strandlinelaw04.FieldPacks', WHERE WHAT IT READS IS OF BULK AT MOST 1048576: true; the input reads as it did. -/
def fieldPacksUptoRow : OpenClaim := { program := "ythebimbdijkiiaa", sum := "4bba6155fe89ed634512f4f815702fc1a49b5d74109f26129d5d13ff4044d896", func := "strandline/strandlinelaw04.FieldPacks", spec := "fieldPacks", plainKeys := false, apart := false, narrowed := true }
def FieldPacksUptoSaid : Prop := fieldPacksUptoRow.holds Try.pinned (OpenSpec.upto fieldPacksSpec)

/-- 'strandlinelaw04.FieldUnpacks', WHERE WHAT IT READS IS OF BULK AT MOST 1048576: true; the input reads as it did. -/
def fieldUnpacksUptoRow : OpenClaim := { program := "ythebimbdijkiiaa", sum := "4bba6155fe89ed634512f4f815702fc1a49b5d74109f26129d5d13ff4044d896", func := "strandline/strandlinelaw04.FieldUnpacks", spec := "fieldUnpacks", plainKeys := false, apart := false, narrowed := true }
def FieldUnpacksUptoSaid : Prop := fieldUnpacksUptoRow.holds Try.pinned (OpenSpec.upto fieldUnpacksSpec)

/-- 'strandlinelaw26.IndexPlays', WHERE WHAT IT READS IS OF BULK AT MOST 1048576: true; the input reads as it did. -/
def indexPlaysUptoRow : OpenClaim := { program := "ythebimbdijkiiaa", sum := "4bba6155fe89ed634512f4f815702fc1a49b5d74109f26129d5d13ff4044d896", func := "strandline/strandlinelaw26.IndexPlays", spec := "indexPlays", plainKeys := false, apart := false, narrowed := true }
def IndexPlaysUptoSaid : Prop := indexPlaysUptoRow.holds Try.pinned (OpenSpec.upto indexPlaysSpec)

/-- 'strandlinelaw26.IndexNobody', WHERE WHAT IT READS IS OF BULK AT MOST 1048576: true; the input reads as it did. -/
def indexNobodyUptoRow : OpenClaim := { program := "ythebimbdijkiiaa", sum := "4bba6155fe89ed634512f4f815702fc1a49b5d74109f26129d5d13ff4044d896", func := "strandline/strandlinelaw26.IndexNobody", spec := "indexNobody", plainKeys := false, apart := false, narrowed := true }
def IndexNobodyUptoSaid : Prop := indexNobodyUptoRow.holds Try.pinned (OpenSpec.upto indexNobodySpec)

/-- 'strandlinelaw30.ListFollows', WHERE WHAT IT READS IS OF BULK AT MOST 1048576: true; the input reads as it did. -/
def listFollowsUptoRow : OpenClaim := { program := "ythebimbdijkiiaa", sum := "4bba6155fe89ed634512f4f815702fc1a49b5d74109f26129d5d13ff4044d896", func := "strandline/strandlinelaw30.ListFollows", spec := "listFollows", unfollowed := true, recurses := true, plainKeys := false, apart := false, narrowed := true }
def ListFollowsUptoSaid : Prop := listFollowsUptoRow.holds Try.pinned (OpenSpec.upto listFollowsSpec)

/-- 'strandlinelaw30.ListMays', WHERE WHAT IT READS IS OF BULK AT MOST 1048576: true; the input reads as it did. -/
def listMaysUptoRow : OpenClaim := { program := "ythebimbdijkiiaa", sum := "4bba6155fe89ed634512f4f815702fc1a49b5d74109f26129d5d13ff4044d896", func := "strandline/strandlinelaw30.ListMays", spec := "listMays", unfollowed := true, recurses := true, plainKeys := false, apart := false, narrowed := true }
def ListMaysUptoSaid : Prop := listMaysUptoRow.holds Try.pinned (OpenSpec.upto listMaysSpec)

end Rows
end Go.Proofs.Ythebimbdijkiiaa
