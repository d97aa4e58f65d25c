/-
  DERIVED. GIVEN WITH THE SEED: THE CARDS: each row of YtnhhmgcjbnocfaaDoorRows.lean that lists a variable, with what it lists TIED to the program's text (the seventh form; the later family's looks); each row that meets fmt, with fmt's text TOLD by the authors' own Lean function (tested against real Go, not proved from fmt's source: count such statements apart). THE CARD IS WHAT COUNTS. Prove the row's statement (the work); the ties are given (YtnhhmgcjbnocfaaDoorTie.lean); close each card by the builder's one call (the guide's Derived/Test/ToyasCard.lean, 'card_holds'). Laid BY PROGRAM, IN A SANDBOX (cutbox-door.mjs). By AI agents, Wed Nov 11 2026. No macro, syntax, notation, axiom, sorry.
-/
import Derived.Test.YtnhhmgcjbnocfaaDoorRows
import GoSem.ClaimSeven
namespace Go.Proofs.YtnhhmgcjbnocfaaDoor
namespace Rows

/-- THE TIED CARD OF 'strandlinelaw34.PointJoins'. -/
def pointJoinsCard : Claim7 := { stood := { row := pointJoinsRow, standIns := [], harness := (true, "2e9ce21afdcce0717e195c942fab9041135b85490df0b775034a3479f3cb3810"), looks := false }, kinds := [], alts := [], laidByText := true, laidKinds := [.data], laidTests := true, laidLooks := .later }
def PointJoinsCardSaid : Prop := Claim7.holds Tryd.pinned (.plain (OpenSpec.ofChange pointJoinsSpec)) pointJoinsCard

/-- THE SECOND FORM's CARD OF 'strandlinelaw34.PointJoins'. -/
def pointJoinsUptoCard : Claim7 := { stood := { row := pointJoinsUptoRow, standIns := [], harness := (true, "2e9ce21afdcce0717e195c942fab9041135b85490df0b775034a3479f3cb3810"), looks := false }, kinds := [], alts := [], laidByText := true, laidKinds := [.data], laidTests := true, laidLooks := .later }
def PointJoinsUptoCardSaid : Prop := Claim7.holds Tryd.pinned (.plain (OpenSpec.upto pointJoinsSpec)) pointJoinsUptoCard
end Rows
end Go.Proofs.YtnhhmgcjbnocfaaDoor
