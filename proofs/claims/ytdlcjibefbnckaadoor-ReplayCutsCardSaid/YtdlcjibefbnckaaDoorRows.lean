/-
  NARROWER THAN 'FOR EVERY INPUT', by the rows' own cells (each row's printed sentence says how): PointCodes: laid · ReplayCuts: laid · ReplayTells: laid.
  DERIVED. THE GIVEN ROWS OF THIS SEAT. 3 by the template 'for every input the law returns true; each argument reads behind the call as it read before'; 0 by the template 'total and deterministic' (their statements: YtdlcjibefbnckaaDoorTotals.lean).
  GIVEN WITH THE SEED: the statements are not yours to turn. If you find one false, say at which input.
  Laid BY PROGRAM, IN A SANDBOX (cutbox-rows.mjs): the forced cells as the released guide's own fill.sh prints them over the translation 773fbc040648867f… (all of the seat's roots in one cut). By AI agents, Wed Nov 11 2026. No macro, syntax, notation, axiom, sorry.
-/
import Derived.Test.YtdlcjibefbnckaaDoorChecked
import GoSem.Claim
import GoSem.ClaimJoined
import GoSem.ClaimMapViews
import Derived.JoinedTies
import Derived.KernelRfl
namespace Go.Proofs.YtdlcjibefbnckaaDoor
/- THE CELL 'sum', in the pinned program and in every row, IS THE sha256 OF THE DUMP (.gsa) THAT YtdlcjibefbnckaaDoorProg.lean LOADS. Nothing in Lean hashes anything: it is a label: what it is worth is what the hold of that sum in a sandbox is worth. -/
noncomputable def Tryd.pinned : Pinned := { name := "ytdlcjibefbnckaadoor", sum := "773fbc040648867fc7cfae8c04c4618551cb8824c1eee538e13d616d32f6e1a5", checked := Tryd.checked }
namespace Rows
def none {H : Type} : Left H := { results := [], args := [] }

/- WHAT THE LISTED PACKAGE-LEVEL VARIABLES READ AS WHEN THE CALL BEGINS. Each datum BY PROGRAM (the guide's laid-datum.mjs) off the statement by which the dump's own 'gosem.cut.vars' lays the variable. In a bare row this is a premise. The card (YtdlcjibefbnckaaDoorCards.lean) ties it to the program's text. -/
def laid_strandline_crc_half {H : Type} : DataW H := .agg [.lit (.int .u32 0), .lit (.int .u32 274646895), .lit (.int .u32 549293790), .lit (.int .u32 820201905), .lit (.int .u32 1098587580), .lit (.int .u32 1361435347), .lit (.int .u32 1640403810), .lit (.int .u32 1905808397), .lit (.int .u32 2197175160), .lit (.int .u32 2460548119), .lit (.int .u32 2722870694), .lit (.int .u32 2987750089), .lit (.int .u32 3280807620), .lit (.int .u32 3553878443), .lit (.int .u32 3811616794), .lit (.int .u32 4084100981)]

/-- 'strandlinelaw34.PointCodes': WHATEVER THE INPUT: true; the input reads as it did. -/
def pointCodesSpec : ChangeSpec := { name := "pointCodes", fn := fun _ => fun
  | [d1, d2] => { results := [.lit (.bool true)], args := [d1, d2] }
  | _ => none }
def pointCodesRow : OpenClaim := { program := "ytdlcjibefbnckaadoor", sum := "773fbc040648867fc7cfae8c04c4618551cb8824c1eee538e13d616d32f6e1a5", func := "strandline/strandlinelaw34.PointCodes", spec := "pointCodes", unfollowed := true, recurses := true, named := ["strandline/crc.half"], apart := false, laid := [("strandline/crc.half", laid_strandline_crc_half)] }
def PointCodesSaid : Prop := pointCodesRow.holds Tryd.pinned (OpenSpec.ofChange pointCodesSpec)

/-- ITS FALSE NEIGHBOUR: 'it returns false'. Refute it at one input. -/
def pointCodesWrong : ChangeSpec := { name := "pointCodes", fn := fun _ => fun
  | [d1, d2] => { results := [.lit (.bool false)], args := [d1, d2] }
  | _ => none }
def PointCodesWrongFalsely : Prop := pointCodesRow.holds Tryd.pinned (OpenSpec.ofChange pointCodesWrong)

/-- 'strandlinelaw35.ReplayCuts': WHATEVER THE INPUT: true; the input reads as it did. -/
def replayCutsSpec : ChangeSpec := { name := "replayCuts", fn := fun _ => fun
  | [d1, d2, d3] => { results := [.lit (.bool true)], args := [d1, d2, d3] }
  | _ => none }
def replayCutsRow : OpenClaim := { program := "ytdlcjibefbnckaadoor", sum := "773fbc040648867fc7cfae8c04c4618551cb8824c1eee538e13d616d32f6e1a5", func := "strandline/strandlinelaw35.ReplayCuts", spec := "replayCuts", unfollowed := true, recurses := true, named := ["strandline/crc.half"], apart := false, laid := [("strandline/crc.half", laid_strandline_crc_half)] }
def ReplayCutsSaid : Prop := replayCutsRow.holds Tryd.pinned (OpenSpec.ofChange replayCutsSpec)

/-- ITS FALSE NEIGHBOUR: 'it returns false'. Refute it at one input. -/
def replayCutsWrong : ChangeSpec := { name := "replayCuts", fn := fun _ => fun
  | [d1, d2, d3] => { results := [.lit (.bool false)], args := [d1, d2, d3] }
  | _ => none }
def ReplayCutsWrongFalsely : Prop := replayCutsRow.holds Tryd.pinned (OpenSpec.ofChange replayCutsWrong)

/-- 'strandlinelaw35.ReplayTells': WHATEVER THE INPUT: true; the input reads as it did. -/
def replayTellsSpec : ChangeSpec := { name := "replayTells", fn := fun _ => fun
  | [d1, d2] => { results := [.lit (.bool true)], args := [d1, d2] }
  | _ => none }
def replayTellsRow : OpenClaim := { program := "ytdlcjibefbnckaadoor", sum := "773fbc040648867fc7cfae8c04c4618551cb8824c1eee538e13d616d32f6e1a5", func := "strandline/strandlinelaw35.ReplayTells", spec := "replayTells", unfollowed := true, recurses := true, named := ["strandline/crc.half"], apart := false, laid := [("strandline/crc.half", laid_strandline_crc_half)] }
def ReplayTellsSaid : Prop := replayTellsRow.holds Tryd.pinned (OpenSpec.ofChange replayTellsSpec)

/-- ITS FALSE NEIGHBOUR: 'it returns false'. Refute it at one input. -/
def replayTellsWrong : ChangeSpec := { name := "replayTells", fn := fun _ => fun
  | [d1, d2] => { results := [.lit (.bool false)], args := [d1, d2] }
  | _ => none }
def ReplayTellsWrongFalsely : Prop := replayTellsRow.holds Tryd.pinned (OpenSpec.ofChange replayTellsWrong)

/- THE SECOND FORM. 'bulk': how many values and letters a reading holds, each counted each time it is reached (what is shared counts as often as it is met; a slice's spare places count too). A statement '..UptoSaid' is the law's where the arguments, and the package variables that the reading takes, are together of bulk at most 1048576: NARROWER than '..Said'. Prove '..Said' where nothing that the law and all that it calls make is longer than what came in: it says more and counts as full. Else prove '..UptoSaid'. A law counts once. -/
mutual
def uptoBulk {H : Type} : DataW H → Nat
  | .lit (.string bytes) => bytes.length + 1
  | .lit _ => 1
  | .nil => 1
  | .ptr d => uptoBulk d + 1
  | .slice elems spare => uptoBulkAll elems + uptoBulkAll spare + 1
  | .agg parts => uptoBulkAll parts + 1
  | .iface _ d => uptoBulk d + 1
  | .map entries => uptoBulkEntries entries + 1
  | .held _ => 1
def uptoBulkAll {H : Type} : List (DataW H) → Nat
  | [] => 0
  | d :: r => uptoBulk d + uptoBulkAll r
def uptoBulkEntries {H : Type} : List (Lit × DataW H) → Nat
  | [] => 0
  | x :: r => uptoBulkEntry x + uptoBulkEntries r
def uptoBulkEntry {H : Type} : Lit × DataW H → Nat
  | (.string bytes, d) => bytes.length + uptoBulk d + 1
  | (_, d) => uptoBulk d + 1
 end
def uptoSmall : (H : Type) → List (DataW H) → Bool := fun _ ds => decide (uptoBulkAll ds ≤ 1048576)
def OpenSpec.upto (s : _root_.Go.ChangeSpec) : _root_.Go.OpenSpec := { _root_.Go.OpenSpec.ofChange s with cond := some uptoSmall }

/-- 'strandlinelaw34.PointCodes', WHERE WHAT IT READS IS OF BULK AT MOST 1048576: true; the input reads as it did. -/
def pointCodesUptoRow : OpenClaim := { program := "ytdlcjibefbnckaadoor", sum := "773fbc040648867fc7cfae8c04c4618551cb8824c1eee538e13d616d32f6e1a5", func := "strandline/strandlinelaw34.PointCodes", spec := "pointCodes", unfollowed := true, recurses := true, named := ["strandline/crc.half"], apart := false, laid := [("strandline/crc.half", laid_strandline_crc_half)], narrowed := true }
def PointCodesUptoSaid : Prop := pointCodesUptoRow.holds Tryd.pinned (OpenSpec.upto pointCodesSpec)

/-- 'strandlinelaw35.ReplayCuts', WHERE WHAT IT READS IS OF BULK AT MOST 1048576: true; the input reads as it did. -/
def replayCutsUptoRow : OpenClaim := { program := "ytdlcjibefbnckaadoor", sum := "773fbc040648867fc7cfae8c04c4618551cb8824c1eee538e13d616d32f6e1a5", func := "strandline/strandlinelaw35.ReplayCuts", spec := "replayCuts", unfollowed := true, recurses := true, named := ["strandline/crc.half"], apart := false, laid := [("strandline/crc.half", laid_strandline_crc_half)], narrowed := true }
def ReplayCutsUptoSaid : Prop := replayCutsUptoRow.holds Tryd.pinned (OpenSpec.upto replayCutsSpec)

/-- 'strandlinelaw35.ReplayTells', WHERE WHAT IT READS IS OF BULK AT MOST 1048576: true; the input reads as it did. -/
def replayTellsUptoRow : OpenClaim := { program := "ytdlcjibefbnckaadoor", sum := "773fbc040648867fc7cfae8c04c4618551cb8824c1eee538e13d616d32f6e1a5", func := "strandline/strandlinelaw35.ReplayTells", spec := "replayTells", unfollowed := true, recurses := true, named := ["strandline/crc.half"], apart := false, laid := [("strandline/crc.half", laid_strandline_crc_half)], narrowed := true }
def ReplayTellsUptoSaid : Prop := replayTellsUptoRow.holds Tryd.pinned (OpenSpec.upto replayTellsSpec)

end Rows
end Go.Proofs.YtdlcjibefbnckaaDoor
