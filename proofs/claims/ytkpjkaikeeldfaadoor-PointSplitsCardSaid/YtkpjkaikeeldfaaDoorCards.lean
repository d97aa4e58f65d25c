/-
  DERIVED. GIVEN WITH THE SEED: THE CARDS: each row of YtkpjkaikeeldfaaDoorRows.lean that lists a variable, with what it lists TIED to the program's text (the seventh form; the later family's looks); each row that meets fmt, with fmt's text TOLD by the authors' own Lean function (tested against real Go, not proved from fmt's source: count such statements apart). THE CARD IS WHAT COUNTS. Prove the row's statement (the work); the ties are given (YtkpjkaikeeldfaaDoorTie.lean); close each card by the builder's one call (the guide's Derived/Test/ToyasCard.lean, 'card_holds'). Laid BY PROGRAM, IN A SANDBOX (cutbox-door.mjs). By AI agents, Wed Nov 11 2026. No macro, syntax, notation, axiom, sorry.
-/
import Derived.Test.YtkpjkaikeeldfaaDoorRows
import GoSem.ClaimSeven
namespace Go.Proofs.YtkpjkaikeeldfaaDoor
namespace Rows

/-- THE TIED CARD OF 'strandlinelaw34.PointSplits'. -/
def pointSplitsCard : Claim7 := { stood := { row := pointSplitsRow, standIns := [], harness := (true, "2487edbbdb925de01c7986d50bdcb7b313250a1c8e1f12aeaa6c70a85393ddd3"), looks := false }, kinds := [], alts := [], laidByText := true, laidKinds := [.data], laidTests := true, laidLooks := .later }
def PointSplitsCardSaid : Prop := Claim7.holds Tryd.pinned (.plain (OpenSpec.ofChange pointSplitsSpec)) pointSplitsCard

/-- THE SECOND FORM's CARD OF 'strandlinelaw34.PointSplits'. -/
def pointSplitsUptoCard : Claim7 := { stood := { row := pointSplitsUptoRow, standIns := [], harness := (true, "2487edbbdb925de01c7986d50bdcb7b313250a1c8e1f12aeaa6c70a85393ddd3"), looks := false }, kinds := [], alts := [], laidByText := true, laidKinds := [.data], laidTests := true, laidLooks := .later }
def PointSplitsUptoCardSaid : Prop := Claim7.holds Tryd.pinned (.plain (OpenSpec.upto pointSplitsSpec)) pointSplitsUptoCard
end Rows
end Go.Proofs.YtkpjkaikeeldfaaDoor
