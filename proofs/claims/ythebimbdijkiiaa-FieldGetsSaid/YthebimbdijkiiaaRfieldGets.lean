/- The statement FieldGets: the field that any bytes begin with, or why there is none; and what is behind it. No condition. -/
import Derived.Test.YthebimbdijkiiaaRows
import Derived.Test.YthebimbdijkiiaaVe
namespace Go.Proofs.Ythebimbdijkiiaa.Wa
open Go Go.Weave
set_option maxRecDepth 100000

theorem decC22 {n : Nat} {cs : List AVal} (h : OkC Cw.P (n + 2) 22 cs) : ∃ y : List UInt8, cs = [AVal.sl false 0 (bys y)] ∧ (y.length ≤ 140737488351232) := by
  exact okC_bytes1 (P := Cw.P) (n := n) Try.underlying22 Try.underlying5 (by kernel_rfl) (by kernel_rfl) h
theorem decV22 {n : Nat} {a : AVal} (h : OkV Cw.P (n + 2) 22 a) : ∃ y : List UInt8, a = (AVal.sl false 0 (bys y)) ∧ (y.length ≤ 140737488351232) := by
  obtain ⟨hag, hc⟩ := h
  have ha : aggT Cw.P 22 = false := by kernel_rfl
  rw [ha] at hag
  rw [cells_of hag] at hc
  obtain ⟨y, hy, h1⟩ := decC22 hc
  refine ⟨y, ?_, h1⟩
  simpa using hy
theorem law7 (xs : List AVal) (h : ArgsOk Cw.P 6 Try.f7.params.toList xs) : ∃ d, (evFn Cw d 7 xs ⟨[]⟩).All fun r => r.1 = [.bool true] := by
  rw [Try.params7] at h
  obtain ⟨a0, r0, rfl, h0, h⟩ := h
  obtain rfl : r0 = [] := h
  obtain ⟨y0, rfl, hy0⟩ := decV22 (n := 4) h0
  exact law_of (fgets_true 0 false y0 ⟨[]⟩ hy0)
end Go.Proofs.Ythebimbdijkiiaa.Wa

namespace Go.Proofs.Ythebimbdijkiiaa.fieldGets
open Go Go.Weave Go.Proofs.Ythebimbdijkiiaa.Wa
set_option maxRecDepth 100000
theorem mixedOf : Cw.P.follows .mixedOrders = true := Try.checked.mixed
theorem dstOf : DstOK Cw.P := dstOk_of (by kernel_rfl)
theorem extOf : ExtOK Cw := fun _ _ h => by cases h
theorem ownOf : ownKnob Try.prog.godebug = none := by kernel_rfl
theorem laidOf : laidOutB Cw.P = true := by kernel_rfl
theorem lifted (os : Os) (started : os.Started) (H : Type) (enc : TypeId × Value → H) :
    ReturnsInHanded {} Try.checked os 7 .any (Rows.fieldGetsSpec.pre6 enc Try.prog Try.f7 Rows.fieldGetsRow.domain false) (Rows.fieldGetsSpec.post enc Try.prog Try.f7 false true false false) := by
  refine returnsInHanded_of_change_sized (C := Try.checked) ownOf started (by kernel_rfl) Try.func7
    (ChangeSpec.witness6 (enc := enc) (C := Try.checked) false ⟨#[], #[.slice none 0 0], []⟩ 8 (by kernel_rfl) (by kernel_rfl) (by kernel_rfl) (by kernel_rfl)) ?_
  intro W base args ds gs before hval hW _ hsz _
  exact law_contract (C := Cw) (n := 6) mixedOf dstOf extOf ⟨rfl, rfl⟩ laidOf (by kernel_rfl) (by kernel_rfl) (tb := 4) (by kernel_rfl) Try.underlying4 rfl (fun ds hl => by
    rw [Try.params7] at hl
    match ds, hl with
    | [_], _ => exact ⟨rfl, rfl, rfl⟩) law7 W base args ds gs before hval hW hsz
theorem over : Rows.fieldGetsRow.holds Try.pinned (OpenSpec.ofChange Rows.fieldGetsSpec) :=
  OpenClaim.holds_of_wide 7 Try.f7 rfl rfl rfl rfl rfl rfl rfl ⟨rfl, rfl, rfl, rfl, rfl⟩ rfl rfl rfl rfl rfl (by kernel_rfl) Try.func7 (by kernel_rfl)
    (of_decide_eq_true (by kernel_rfl)) (by unfold Func.isWrapper; first | (rw [if_pos (by decide +kernel)]; kernel_rfl) | (rw [if_neg (by decide +kernel)]; exact ⟨rfl, rfl⟩))
    (fun os started H enc _ => lifted os started H enc)
end Go.Proofs.Ythebimbdijkiiaa.fieldGets
namespace Go.Proofs.Ythebimbdijkiiaa
/-- The statement, under a short name, for the claim. -/
theorem fieldGets_holds : Rows.FieldGetsSaid := fieldGets.over
#print axioms fieldGets_holds
end Go.Proofs.Ythebimbdijkiiaa
