/-
  DERIVED. GIVEN WITH THE SEED: THE CARDS: each row of YtdlcjibefbnckaaDoorRows.lean that lists a variable, with what it lists TIED to the program's text (the seventh form; the later family's looks); each row that meets fmt, with fmt's text TOLD by the authors' own Lean function (tested against real Go, not proved from fmt's source: count such statements apart). THE CARD IS WHAT COUNTS. Prove the row's statement (the work); the ties are given (YtdlcjibefbnckaaDoorTie.lean); close each card by the builder's one call (the guide's Derived/Test/ToyasCard.lean, 'card_holds'). Laid BY PROGRAM, IN A SANDBOX (cutbox-door.mjs). By AI agents, Wed Nov 11 2026. No macro, syntax, notation, axiom, sorry.
-/
import Derived.Test.YtdlcjibefbnckaaDoorRows
import GoSem.ClaimSeven
namespace Go.Proofs.YtdlcjibefbnckaaDoor
namespace Rows

/-- THE TIED CARD OF 'strandlinelaw34.PointCodes'. -/
def pointCodesCard : Claim7 := { stood := { row := pointCodesRow, standIns := [], harness := (true, "e1ee83f50a67b25eba3f52f52c7abdbe59ad15f93b8ced975237c0205164937f"), looks := false }, kinds := [], alts := [], laidByText := true, laidKinds := [.data], laidTests := true, laidLooks := .later }
def PointCodesCardSaid : Prop := Claim7.holds Tryd.pinned (.plain (OpenSpec.ofChange pointCodesSpec)) pointCodesCard

/-- THE TIED CARD OF 'strandlinelaw35.ReplayCuts'. -/
def replayCutsCard : Claim7 := { stood := { row := replayCutsRow, standIns := [], harness := (true, "e1ee83f50a67b25eba3f52f52c7abdbe59ad15f93b8ced975237c0205164937f"), looks := false }, kinds := [], alts := [], laidByText := true, laidKinds := [.data], laidTests := true, laidLooks := .later }
def ReplayCutsCardSaid : Prop := Claim7.holds Tryd.pinned (.plain (OpenSpec.ofChange replayCutsSpec)) replayCutsCard

/-- THE TIED CARD OF 'strandlinelaw35.ReplayTells'. -/
def replayTellsCard : Claim7 := { stood := { row := replayTellsRow, standIns := [], harness := (true, "e1ee83f50a67b25eba3f52f52c7abdbe59ad15f93b8ced975237c0205164937f"), looks := false }, kinds := [], alts := [], laidByText := true, laidKinds := [.data], laidTests := true, laidLooks := .later }
def ReplayTellsCardSaid : Prop := Claim7.holds Tryd.pinned (.plain (OpenSpec.ofChange replayTellsSpec)) replayTellsCard

/-- THE SECOND FORM's CARD OF 'strandlinelaw34.PointCodes'. -/
def pointCodesUptoCard : Claim7 := { stood := { row := pointCodesUptoRow, standIns := [], harness := (true, "e1ee83f50a67b25eba3f52f52c7abdbe59ad15f93b8ced975237c0205164937f"), looks := false }, kinds := [], alts := [], laidByText := true, laidKinds := [.data], laidTests := true, laidLooks := .later }
def PointCodesUptoCardSaid : Prop := Claim7.holds Tryd.pinned (.plain (OpenSpec.upto pointCodesSpec)) pointCodesUptoCard

/-- THE SECOND FORM's CARD OF 'strandlinelaw35.ReplayCuts'. -/
def replayCutsUptoCard : Claim7 := { stood := { row := replayCutsUptoRow, standIns := [], harness := (true, "e1ee83f50a67b25eba3f52f52c7abdbe59ad15f93b8ced975237c0205164937f"), looks := false }, kinds := [], alts := [], laidByText := true, laidKinds := [.data], laidTests := true, laidLooks := .later }
def ReplayCutsUptoCardSaid : Prop := Claim7.holds Tryd.pinned (.plain (OpenSpec.upto replayCutsSpec)) replayCutsUptoCard

/-- THE SECOND FORM's CARD OF 'strandlinelaw35.ReplayTells'. -/
def replayTellsUptoCard : Claim7 := { stood := { row := replayTellsUptoRow, standIns := [], harness := (true, "e1ee83f50a67b25eba3f52f52c7abdbe59ad15f93b8ced975237c0205164937f"), looks := false }, kinds := [], alts := [], laidByText := true, laidKinds := [.data], laidTests := true, laidLooks := .later }
def ReplayTellsUptoCardSaid : Prop := Claim7.holds Tryd.pinned (.plain (OpenSpec.upto replayTellsSpec)) replayTellsUptoCard
end Rows
end Go.Proofs.YtdlcjibefbnckaaDoor
