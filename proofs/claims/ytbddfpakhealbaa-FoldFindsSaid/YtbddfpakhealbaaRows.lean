/-
  No cell of these rows narrows 'for every input' (looked for: loops, veiled, ifaces, maps, wideKeys, modest, calm, conditions, laid).
  DERIVED. THE GIVEN ROWS OF THIS SEAT. 2 by the template 'for every input the law returns true; each argument reads behind the call as it read before'; 0 by the template 'total and deterministic' (their statements: YtbddfpakhealbaaTotals.lean).
  GIVEN WITH THE SEED: the statements are not yours to turn. If you find one false, say at which input.
  Laid BY PROGRAM, IN A SANDBOX (cutbox-rows.mjs): the forced cells as the released guide's own fill.sh prints them over the translation f19a7fcf1cfaa833… (all of the seat's roots in one cut). By AI agents, Wed Nov 11 2026. No macro, syntax, notation, axiom, sorry.
-/
import Derived.Test.YtbddfpakhealbaaChecked
import GoSem.Claim
import GoSem.ClaimJoined
import GoSem.ClaimMapViews
import Derived.JoinedTies
import Derived.KernelRfl
namespace Go.Proofs.Ytbddfpakhealbaa
/- THE CELL 'sum', in the pinned program and in every row, IS THE sha256 OF THE DUMP (.gsa) THAT YtbddfpakhealbaaProg.lean LOADS. Nothing in Lean hashes anything: it is a label: what it is worth is what the hold of that sum in a sandbox is worth. -/
noncomputable def Try.pinned : Pinned := { name := "ytbddfpakhealbaa", sum := "f19a7fcf1cfaa8331e3082ef7f99f9c690f7644d70f8d0bebe9c9f8416e68544", checked := Try.checked }
namespace Rows
def none {H : Type} : Left H := { results := [], args := [] }

/-- 'strandlinelaw37.FoldStates': WHATEVER THE INPUT: true; the input reads as it did. -/
def foldStatesSpec : ChangeSpec := { name := "foldStates", fn := fun _ => fun
  | [d1, d2] => { results := [.lit (.bool true)], args := [d1, d2] }
  | _ => none }
def foldStatesRow : OpenClaim := { program := "ytbddfpakhealbaa", sum := "f19a7fcf1cfaa8331e3082ef7f99f9c690f7644d70f8d0bebe9c9f8416e68544", func := "strandline/strandlinelaw37.FoldStates", spec := "foldStates", unfollowed := true, recurses := true, apart := false }
def FoldStatesSaid : Prop := foldStatesRow.holds Try.pinned (OpenSpec.ofChange foldStatesSpec)

/-- ITS FALSE NEIGHBOUR: 'it returns false'. Refute it at one input. -/
def foldStatesWrong : ChangeSpec := { name := "foldStates", fn := fun _ => fun
  | [d1, d2] => { results := [.lit (.bool false)], args := [d1, d2] }
  | _ => none }
def FoldStatesWrongFalsely : Prop := foldStatesRow.holds Try.pinned (OpenSpec.ofChange foldStatesWrong)

/-- 'strandlinelaw37.FoldFinds': WHATEVER THE INPUT: true; the input reads as it did. -/
def foldFindsSpec : ChangeSpec := { name := "foldFinds", fn := fun _ => fun
  | [d1, d2, d3] => { results := [.lit (.bool true)], args := [d1, d2, d3] }
  | _ => none }
def foldFindsRow : OpenClaim := { program := "ytbddfpakhealbaa", sum := "f19a7fcf1cfaa8331e3082ef7f99f9c690f7644d70f8d0bebe9c9f8416e68544", func := "strandline/strandlinelaw37.FoldFinds", spec := "foldFinds", unfollowed := true, recurses := true, apart := false }
def FoldFindsSaid : Prop := foldFindsRow.holds Try.pinned (OpenSpec.ofChange foldFindsSpec)

/-- ITS FALSE NEIGHBOUR: 'it returns false'. Refute it at one input. -/
def foldFindsWrong : ChangeSpec := { name := "foldFinds", fn := fun _ => fun
  | [d1, d2, d3] => { results := [.lit (.bool false)], args := [d1, d2, d3] }
  | _ => none }
def FoldFindsWrongFalsely : Prop := foldFindsRow.holds Try.pinned (OpenSpec.ofChange foldFindsWrong)

/- THE SECOND FORM. 'bulk': how many values and letters a reading holds, each counted each time it is reached (what is shared counts as often as it is met; a slice's spare places count too). A statement '..UptoSaid' is the law's where the arguments, and the package variables that the reading takes, are together of bulk at most 1048576: NARROWER than '..Said'. Prove '..Said' where nothing that the law and all that it calls make is longer than what came in: it says more and counts as full. Else prove '..UptoSaid'. A law counts once. -/
mutual
def uptoBulk {H : Type} : DataW H → Nat
  | .lit (.string bytes) => bytes.length + 1
  | .lit _ => 1
  | .nil => 1
  | .ptr d => uptoBulk d + 1
  | .slice elems spare => uptoBulkAll elems + uptoBulkAll spare + 1
  | .agg parts => uptoBulkAll parts + 1
  | .iface _ d => uptoBulk d + 1
  | .map entries => uptoBulkEntries entries + 1
  | .held _ => 1
def uptoBulkAll {H : Type} : List (DataW H) → Nat
  | [] => 0
  | d :: r => uptoBulk d + uptoBulkAll r
def uptoBulkEntries {H : Type} : List (Lit × DataW H) → Nat
  | [] => 0
  | x :: r => uptoBulkEntry x + uptoBulkEntries r
def uptoBulkEntry {H : Type} : Lit × DataW H → Nat
  | (.string bytes, d) => bytes.length + uptoBulk d + 1
  | (_, d) => uptoBulk d + 1
 end
def uptoSmall : (H : Type) → List (DataW H) → Bool := fun _ ds => decide (uptoBulkAll ds ≤ 1048576)
def OpenSpec.upto (s : _root_.Go.ChangeSpec) : _root_.Go.OpenSpec := { _root_.Go.OpenSpec.ofChange s with cond := some uptoSmall }

/-- 'strandlinelaw37.FoldStates', WHERE WHAT IT READS IS OF BULK AT MOST 1048576: true; the input reads as it did. -/
def foldStatesUptoRow : OpenClaim := { program := "ytbddfpakhealbaa", sum := "f19a7fcf1cfaa8331e3082ef7f99f9c690f7644d70f8d0bebe9c9f8416e68544", func := "strandline/strandlinelaw37.FoldStates", spec := "foldStates", unfollowed := true, recurses := true, apart := false, narrowed := true }
def FoldStatesUptoSaid : Prop := foldStatesUptoRow.holds Try.pinned (OpenSpec.upto foldStatesSpec)

/-- 'strandlinelaw37.FoldFinds', WHERE WHAT IT READS IS OF BULK AT MOST 1048576: true; the input reads as it did. -/
def foldFindsUptoRow : OpenClaim := { program := "ytbddfpakhealbaa", sum := "f19a7fcf1cfaa8331e3082ef7f99f9c690f7644d70f8d0bebe9c9f8416e68544", func := "strandline/strandlinelaw37.FoldFinds", spec := "foldFinds", unfollowed := true, recurses := true, apart := false, narrowed := true }
def FoldFindsUptoSaid : Prop := foldFindsUptoRow.holds Try.pinned (OpenSpec.upto foldFindsSpec)

end Rows
end Go.Proofs.Ytbddfpakhealbaa
