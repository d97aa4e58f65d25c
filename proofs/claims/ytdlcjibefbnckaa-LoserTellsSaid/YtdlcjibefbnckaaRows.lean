/-
  No cell of these rows narrows 'for every input' (looked for: loops, veiled, ifaces, maps, wideKeys, modest, calm, conditions, laid).
  DERIVED. THE GIVEN ROWS OF THIS SEAT. 9 by the template 'for every input the law returns true; each argument reads behind the call as it read before'; 0 by the template 'total and deterministic' (their statements: YtdlcjibefbnckaaTotals.lean).
  GIVEN WITH THE SEED: the statements are not yours to turn. If you find one false, say at which input.
  Laid BY PROGRAM, IN A SANDBOX (cutbox-rows.mjs): the forced cells as the released guide's own fill.sh prints them over the translation 6953e7b73a4f071b… (all of the seat's roots in one cut). By AI agents, Wed Nov 11 2026. No macro, syntax, notation, axiom, sorry.
-/
import Derived.Test.YtdlcjibefbnckaaChecked
import GoSem.Claim
import GoSem.ClaimJoined
import GoSem.ClaimMapViews
import Derived.JoinedTies
import Derived.KernelRfl
namespace Go.Proofs.Ytdlcjibefbnckaa
/- THE CELL 'sum', in the pinned program and in every row, IS THE sha256 OF THE DUMP (.gsa) THAT YtdlcjibefbnckaaProg.lean LOADS. Nothing in Lean hashes anything: it is a label: what it is worth is what the hold of that sum in a sandbox is worth. -/
noncomputable def Try.pinned : Pinned := { name := "ytdlcjibefbnckaa", sum := "6953e7b73a4f071bde2bb33ad27093ea5b9148c670e8ef589b86d7f21fdc4726", checked := Try.checked }
namespace Rows
def none {H : Type} : Left H := { results := [], args := [] }

/-- 'strandlinelaw32.CursorPlays': WHATEVER THE INPUT: true; the input reads as it did. -/
def cursorPlaysSpec : ChangeSpec := { name := "cursorPlays", fn := fun _ => fun
  | [d] => { results := [.lit (.bool true)], args := [d] }
  | _ => none }
def cursorPlaysRow : OpenClaim := { program := "ytdlcjibefbnckaa", sum := "6953e7b73a4f071bde2bb33ad27093ea5b9148c670e8ef589b86d7f21fdc4726", func := "strandline/strandlinelaw32.CursorPlays", spec := "cursorPlays", unfollowed := true, recurses := true, plainKeys := false, apart := false }
def CursorPlaysSaid : Prop := cursorPlaysRow.holds Try.pinned (OpenSpec.ofChange cursorPlaysSpec)

/-- ITS FALSE NEIGHBOUR: 'it returns false'. Refute it at one input. -/
def cursorPlaysWrong : ChangeSpec := { name := "cursorPlays", fn := fun _ => fun
  | [d] => { results := [.lit (.bool false)], args := [d] }
  | _ => none }
def CursorPlaysWrongFalsely : Prop := cursorPlaysRow.holds Try.pinned (OpenSpec.ofChange cursorPlaysWrong)

/-- 'strandlinelaw33.TableApplies': WHATEVER THE INPUT: true; the input reads as it did. -/
def tableAppliesSpec : ChangeSpec := { name := "tableApplies", fn := fun _ => fun
  | [d1, d2, d3] => { results := [.lit (.bool true)], args := [d1, d2, d3] }
  | _ => none }
def tableAppliesRow : OpenClaim := { program := "ytdlcjibefbnckaa", sum := "6953e7b73a4f071bde2bb33ad27093ea5b9148c670e8ef589b86d7f21fdc4726", func := "strandline/strandlinelaw33.TableApplies", spec := "tableApplies", unfollowed := true, recurses := true, plainKeys := false, apart := false }
def TableAppliesSaid : Prop := tableAppliesRow.holds Try.pinned (OpenSpec.ofChange tableAppliesSpec)

/-- ITS FALSE NEIGHBOUR: 'it returns false'. Refute it at one input. -/
def tableAppliesWrong : ChangeSpec := { name := "tableApplies", fn := fun _ => fun
  | [d1, d2, d3] => { results := [.lit (.bool false)], args := [d1, d2, d3] }
  | _ => none }
def TableAppliesWrongFalsely : Prop := tableAppliesRow.holds Try.pinned (OpenSpec.ofChange tableAppliesWrong)

/-- 'strandlinelaw33.TableNobody': WHATEVER THE INPUT: true; the input reads as it did. -/
def tableNobodySpec : ChangeSpec := { name := "tableNobody", fn := fun _ => fun
  | [d1, d2] => { results := [.lit (.bool true)], args := [d1, d2] }
  | _ => none }
def tableNobodyRow : OpenClaim := { program := "ytdlcjibefbnckaa", sum := "6953e7b73a4f071bde2bb33ad27093ea5b9148c670e8ef589b86d7f21fdc4726", func := "strandline/strandlinelaw33.TableNobody", spec := "tableNobody", unfollowed := true, recurses := true, plainKeys := false, apart := false }
def TableNobodySaid : Prop := tableNobodyRow.holds Try.pinned (OpenSpec.ofChange tableNobodySpec)

/-- ITS FALSE NEIGHBOUR: 'it returns false'. Refute it at one input. -/
def tableNobodyWrong : ChangeSpec := { name := "tableNobody", fn := fun _ => fun
  | [d1, d2] => { results := [.lit (.bool false)], args := [d1, d2] }
  | _ => none }
def TableNobodyWrongFalsely : Prop := tableNobodyRow.holds Try.pinned (OpenSpec.ofChange tableNobodyWrong)

/-- 'strandlinelaw37.FoldStates': WHATEVER THE INPUT: true; the input reads as it did. -/
def foldStatesSpec : ChangeSpec := { name := "foldStates", fn := fun _ => fun
  | [d1, d2] => { results := [.lit (.bool true)], args := [d1, d2] }
  | _ => none }
def foldStatesRow : OpenClaim := { program := "ytdlcjibefbnckaa", sum := "6953e7b73a4f071bde2bb33ad27093ea5b9148c670e8ef589b86d7f21fdc4726", func := "strandline/strandlinelaw37.FoldStates", spec := "foldStates", unfollowed := true, recurses := true, plainKeys := false, apart := false }
def FoldStatesSaid : Prop := foldStatesRow.holds Try.pinned (OpenSpec.ofChange foldStatesSpec)

/-- ITS FALSE NEIGHBOUR: 'it returns false'. Refute it at one input. -/
def foldStatesWrong : ChangeSpec := { name := "foldStates", fn := fun _ => fun
  | [d1, d2] => { results := [.lit (.bool false)], args := [d1, d2] }
  | _ => none }
def FoldStatesWrongFalsely : Prop := foldStatesRow.holds Try.pinned (OpenSpec.ofChange foldStatesWrong)

/-- 'strandlinelaw33.TableDiffs': WHATEVER THE INPUT: true; the input reads as it did. -/
def tableDiffsSpec : ChangeSpec := { name := "tableDiffs", fn := fun _ => fun
  | [d1, d2] => { results := [.lit (.bool true)], args := [d1, d2] }
  | _ => none }
def tableDiffsRow : OpenClaim := { program := "ytdlcjibefbnckaa", sum := "6953e7b73a4f071bde2bb33ad27093ea5b9148c670e8ef589b86d7f21fdc4726", func := "strandline/strandlinelaw33.TableDiffs", spec := "tableDiffs", unfollowed := true, recurses := true, plainKeys := false, apart := false }
def TableDiffsSaid : Prop := tableDiffsRow.holds Try.pinned (OpenSpec.ofChange tableDiffsSpec)

/-- ITS FALSE NEIGHBOUR: 'it returns false'. Refute it at one input. -/
def tableDiffsWrong : ChangeSpec := { name := "tableDiffs", fn := fun _ => fun
  | [d1, d2] => { results := [.lit (.bool false)], args := [d1, d2] }
  | _ => none }
def TableDiffsWrongFalsely : Prop := tableDiffsRow.holds Try.pinned (OpenSpec.ofChange tableDiffsWrong)

/-- 'strandlinelaw45.LoserTells': WHATEVER THE INPUT: true; the input reads as it did. -/
def loserTellsSpec : ChangeSpec := { name := "loserTells", fn := fun _ => fun
  | [d] => { results := [.lit (.bool true)], args := [d] }
  | _ => none }
def loserTellsRow : OpenClaim := { program := "ytdlcjibefbnckaa", sum := "6953e7b73a4f071bde2bb33ad27093ea5b9148c670e8ef589b86d7f21fdc4726", func := "strandline/strandlinelaw45.LoserTells", spec := "loserTells", unfollowed := true, recurses := true, plainKeys := false, apart := false }
def LoserTellsSaid : Prop := loserTellsRow.holds Try.pinned (OpenSpec.ofChange loserTellsSpec)

/-- ITS FALSE NEIGHBOUR: 'it returns false'. Refute it at one input. -/
def loserTellsWrong : ChangeSpec := { name := "loserTells", fn := fun _ => fun
  | [d] => { results := [.lit (.bool false)], args := [d] }
  | _ => none }
def LoserTellsWrongFalsely : Prop := loserTellsRow.holds Try.pinned (OpenSpec.ofChange loserTellsWrong)

/-- 'strandlinelaw43.LockPlays': WHATEVER THE INPUT: true; the input reads as it did. -/
def lockPlaysSpec : ChangeSpec := { name := "lockPlays", fn := fun _ => fun
  | [d] => { results := [.lit (.bool true)], args := [d] }
  | _ => none }
def lockPlaysRow : OpenClaim := { program := "ytdlcjibefbnckaa", sum := "6953e7b73a4f071bde2bb33ad27093ea5b9148c670e8ef589b86d7f21fdc4726", func := "strandline/strandlinelaw43.LockPlays", spec := "lockPlays", recurses := true, plainKeys := false, apart := false }
def LockPlaysSaid : Prop := lockPlaysRow.holds Try.pinned (OpenSpec.ofChange lockPlaysSpec)

/-- ITS FALSE NEIGHBOUR: 'it returns false'. Refute it at one input. -/
def lockPlaysWrong : ChangeSpec := { name := "lockPlays", fn := fun _ => fun
  | [d] => { results := [.lit (.bool false)], args := [d] }
  | _ => none }
def LockPlaysWrongFalsely : Prop := lockPlaysRow.holds Try.pinned (OpenSpec.ofChange lockPlaysWrong)

/-- 'strandlinelaw43.LockNobody': WHATEVER THE INPUT: true; the input reads as it did. -/
def lockNobodySpec : ChangeSpec := { name := "lockNobody", fn := fun _ => fun
  | [d1, d2] => { results := [.lit (.bool true)], args := [d1, d2] }
  | _ => none }
def lockNobodyRow : OpenClaim := { program := "ytdlcjibefbnckaa", sum := "6953e7b73a4f071bde2bb33ad27093ea5b9148c670e8ef589b86d7f21fdc4726", func := "strandline/strandlinelaw43.LockNobody", spec := "lockNobody", recurses := true, plainKeys := false, apart := false }
def LockNobodySaid : Prop := lockNobodyRow.holds Try.pinned (OpenSpec.ofChange lockNobodySpec)

/-- ITS FALSE NEIGHBOUR: 'it returns false'. Refute it at one input. -/
def lockNobodyWrong : ChangeSpec := { name := "lockNobody", fn := fun _ => fun
  | [d1, d2] => { results := [.lit (.bool false)], args := [d1, d2] }
  | _ => none }
def LockNobodyWrongFalsely : Prop := lockNobodyRow.holds Try.pinned (OpenSpec.ofChange lockNobodyWrong)

/-- 'strandlinelaw37.FoldFinds': WHATEVER THE INPUT: true; the input reads as it did. -/
def foldFindsSpec : ChangeSpec := { name := "foldFinds", fn := fun _ => fun
  | [d1, d2, d3] => { results := [.lit (.bool true)], args := [d1, d2, d3] }
  | _ => none }
def foldFindsRow : OpenClaim := { program := "ytdlcjibefbnckaa", sum := "6953e7b73a4f071bde2bb33ad27093ea5b9148c670e8ef589b86d7f21fdc4726", func := "strandline/strandlinelaw37.FoldFinds", spec := "foldFinds", unfollowed := true, recurses := true, plainKeys := false, apart := false }
def FoldFindsSaid : Prop := foldFindsRow.holds Try.pinned (OpenSpec.ofChange foldFindsSpec)

/-- ITS FALSE NEIGHBOUR: 'it returns false'. Refute it at one input. -/
def foldFindsWrong : ChangeSpec := { name := "foldFinds", fn := fun _ => fun
  | [d1, d2, d3] => { results := [.lit (.bool false)], args := [d1, d2, d3] }
  | _ => none }
def FoldFindsWrongFalsely : Prop := foldFindsRow.holds Try.pinned (OpenSpec.ofChange foldFindsWrong)

/- THE SECOND FORM. 'bulk': how many values and letters a reading holds, each counted each time it is reached (what is shared counts as often as it is met; a slice's spare places count too). A statement '..UptoSaid' is the law's where the arguments, and the package variables that the reading takes, are together of bulk at most 1048576: NARROWER than '..Said'. Prove '..Said' where nothing that the law and all that it calls make is longer than what came in: it says more and counts as full. Else prove '..UptoSaid'. A law counts once. -/
mutual
def uptoBulk {H : Type} : DataW H → Nat
  | .lit (.string bytes) => bytes.length + 1
  | .lit _ => 1
  | .nil => 1
  | .ptr d => uptoBulk d + 1
  | .slice elems spare => uptoBulkAll elems + uptoBulkAll spare + 1
  | .agg parts => uptoBulkAll parts + 1
  | .iface _ d => uptoBulk d + 1
  | .map entries => uptoBulkEntries entries + 1
  | .held _ => 1
def uptoBulkAll {H : Type} : List (DataW H) → Nat
  | [] => 0
  | d :: r => uptoBulk d + uptoBulkAll r
def uptoBulkEntries {H : Type} : List (Lit × DataW H) → Nat
  | [] => 0
  | x :: r => uptoBulkEntry x + uptoBulkEntries r
def uptoBulkEntry {H : Type} : Lit × DataW H → Nat
  | (.string bytes, d) => bytes.length + uptoBulk d + 1
  | (_, d) => uptoBulk d + 1
 end
def uptoSmall : (H : Type) → List (DataW H) → Bool := fun _ ds => decide (uptoBulkAll ds ≤ 1048576)
def OpenSpec.upto (s : _root_.Go.ChangeSpec) : _root_.Go.OpenSpec := { _root_.Go.OpenSpec.ofChange s with cond := some uptoSmall }

/-- 'strandlinelaw32.CursorPlays', WHERE WHAT IT READS IS OF BULK AT MOST 1048576: true; the input reads as it did. -/
def cursorPlaysUptoRow : OpenClaim := { program := "ytdlcjibefbnckaa", sum := "6953e7b73a4f071bde2bb33ad27093ea5b9148c670e8ef589b86d7f21fdc4726", func := "strandline/strandlinelaw32.CursorPlays", spec := "cursorPlays", unfollowed := true, recurses := true, plainKeys := false, apart := false, narrowed := true }
def CursorPlaysUptoSaid : Prop := cursorPlaysUptoRow.holds Try.pinned (OpenSpec.upto cursorPlaysSpec)

/-- 'strandlinelaw33.TableApplies', WHERE WHAT IT READS IS OF BULK AT MOST 1048576: true; the input reads as it did. -/
def tableAppliesUptoRow : OpenClaim := { program := "ytdlcjibefbnckaa", sum := "6953e7b73a4f071bde2bb33ad27093ea5b9148c670e8ef589b86d7f21fdc4726", func := "strandline/strandlinelaw33.TableApplies", spec := "tableApplies", unfollowed := true, recurses := true, plainKeys := false, apart := false, narrowed := true }
def TableAppliesUptoSaid : Prop := tableAppliesUptoRow.holds Try.pinned (OpenSpec.upto tableAppliesSpec)

/-- 'strandlinelaw33.TableNobody', WHERE WHAT IT READS IS OF BULK AT MOST 1048576: true; the input reads as it did. -/
def tableNobodyUptoRow : OpenClaim := { program := "ytdlcjibefbnckaa", sum := "6953e7b73a4f071bde2bb33ad27093ea5b9148c670e8ef589b86d7f21fdc4726", func := "strandline/strandlinelaw33.TableNobody", spec := "tableNobody", unfollowed := true, recurses := true, plainKeys := false, apart := false, narrowed := true }
def TableNobodyUptoSaid : Prop := tableNobodyUptoRow.holds Try.pinned (OpenSpec.upto tableNobodySpec)

/-- 'strandlinelaw37.FoldStates', WHERE WHAT IT READS IS OF BULK AT MOST 1048576: true; the input reads as it did. -/
def foldStatesUptoRow : OpenClaim := { program := "ytdlcjibefbnckaa", sum := "6953e7b73a4f071bde2bb33ad27093ea5b9148c670e8ef589b86d7f21fdc4726", func := "strandline/strandlinelaw37.FoldStates", spec := "foldStates", unfollowed := true, recurses := true, plainKeys := false, apart := false, narrowed := true }
def FoldStatesUptoSaid : Prop := foldStatesUptoRow.holds Try.pinned (OpenSpec.upto foldStatesSpec)

/-- 'strandlinelaw33.TableDiffs', WHERE WHAT IT READS IS OF BULK AT MOST 1048576: true; the input reads as it did. -/
def tableDiffsUptoRow : OpenClaim := { program := "ytdlcjibefbnckaa", sum := "6953e7b73a4f071bde2bb33ad27093ea5b9148c670e8ef589b86d7f21fdc4726", func := "strandline/strandlinelaw33.TableDiffs", spec := "tableDiffs", unfollowed := true, recurses := true, plainKeys := false, apart := false, narrowed := true }
def TableDiffsUptoSaid : Prop := tableDiffsUptoRow.holds Try.pinned (OpenSpec.upto tableDiffsSpec)

/-- 'strandlinelaw45.LoserTells', WHERE WHAT IT READS IS OF BULK AT MOST 1048576: true; the input reads as it did. -/
def loserTellsUptoRow : OpenClaim := { program := "ytdlcjibefbnckaa", sum := "6953e7b73a4f071bde2bb33ad27093ea5b9148c670e8ef589b86d7f21fdc4726", func := "strandline/strandlinelaw45.LoserTells", spec := "loserTells", unfollowed := true, recurses := true, plainKeys := false, apart := false, narrowed := true }
def LoserTellsUptoSaid : Prop := loserTellsUptoRow.holds Try.pinned (OpenSpec.upto loserTellsSpec)

/-- 'strandlinelaw43.LockPlays', WHERE WHAT IT READS IS OF BULK AT MOST 1048576: true; the input reads as it did. -/
def lockPlaysUptoRow : OpenClaim := { program := "ytdlcjibefbnckaa", sum := "6953e7b73a4f071bde2bb33ad27093ea5b9148c670e8ef589b86d7f21fdc4726", func := "strandline/strandlinelaw43.LockPlays", spec := "lockPlays", recurses := true, plainKeys := false, apart := false, narrowed := true }
def LockPlaysUptoSaid : Prop := lockPlaysUptoRow.holds Try.pinned (OpenSpec.upto lockPlaysSpec)

/-- 'strandlinelaw43.LockNobody', WHERE WHAT IT READS IS OF BULK AT MOST 1048576: true; the input reads as it did. -/
def lockNobodyUptoRow : OpenClaim := { program := "ytdlcjibefbnckaa", sum := "6953e7b73a4f071bde2bb33ad27093ea5b9148c670e8ef589b86d7f21fdc4726", func := "strandline/strandlinelaw43.LockNobody", spec := "lockNobody", recurses := true, plainKeys := false, apart := false, narrowed := true }
def LockNobodyUptoSaid : Prop := lockNobodyUptoRow.holds Try.pinned (OpenSpec.upto lockNobodySpec)

/-- 'strandlinelaw37.FoldFinds', WHERE WHAT IT READS IS OF BULK AT MOST 1048576: true; the input reads as it did. -/
def foldFindsUptoRow : OpenClaim := { program := "ytdlcjibefbnckaa", sum := "6953e7b73a4f071bde2bb33ad27093ea5b9148c670e8ef589b86d7f21fdc4726", func := "strandline/strandlinelaw37.FoldFinds", spec := "foldFinds", unfollowed := true, recurses := true, plainKeys := false, apart := false, narrowed := true }
def FoldFindsUptoSaid : Prop := foldFindsUptoRow.holds Try.pinned (OpenSpec.upto foldFindsSpec)

end Rows
end Go.Proofs.Ytdlcjibefbnckaa
