/- The statement VarintGets: the number that any bytes begin with, or why there is none; what is got is put by the same bytes. No condition. -/
import Derived.Test.YthebimbdijkiiaaRows
import Derived.Test.YthebimbdijkiiaaVb
namespace Go.Proofs.Ythebimbdijkiiaa.Wa
open Go Go.Weave
set_option maxRecDepth 100000

theorem law4 (xs : List AVal) (h : ArgsOk Cw.P 6 Try.f4.params.toList xs) : ∃ d, (evFn Cw d 4 xs ⟨[]⟩).All fun r => r.1 = [.bool true] := by
  rw [Try.params4] at h
  obtain ⟨a0, r0, rfl, h0, h⟩ := h
  obtain rfl : r0 = [] := h
  obtain ⟨b, rfl, hb⟩ := okC_bytes (P := Cw.P) (n := 4) Try.underlying22 Try.underlying5 (by kernel_rfl) (by kernel_rfl) h0
  exact ⟨3, all_mono (fun r hr => by rw [hr]) (gets_true 0 false b ⟨[]⟩ hb)⟩

end Go.Proofs.Ythebimbdijkiiaa.Wa

namespace Go.Proofs.Ythebimbdijkiiaa.varintGets
open Go Go.Weave Go.Proofs.Ythebimbdijkiiaa.Wa
set_option maxRecDepth 100000
theorem mixedOf : Cw.P.follows .mixedOrders = true := Try.checked.mixed
theorem dstOf : DstOK Cw.P := dstOk_of (by kernel_rfl)
theorem extOf : ExtOK Cw := fun _ _ h => by cases h
theorem ownOf : ownKnob Try.prog.godebug = none := by kernel_rfl
theorem laidOf : laidOutB Cw.P = true := by kernel_rfl
theorem lifted (os : Os) (started : os.Started) (H : Type) (enc : TypeId × Value → H) :
    ReturnsInHanded {} Try.checked os 4 .any (Rows.varintGetsSpec.pre6 enc Try.prog Try.f4 Rows.varintGetsRow.domain false) (Rows.varintGetsSpec.post enc Try.prog Try.f4 false true false false) := by
  refine returnsInHanded_of_change_sized (C := Try.checked) ownOf started (by kernel_rfl) Try.func4
    (ChangeSpec.witness6 (enc := enc) (C := Try.checked) false ⟨#[], #[.slice none 0 0], []⟩ 8 (by kernel_rfl) (by kernel_rfl) (by kernel_rfl) (by kernel_rfl)) ?_
  intro W base args ds gs before hval hW _ hsz _
  exact law_contract (C := Cw) (n := 6) mixedOf dstOf extOf ⟨rfl, rfl⟩ laidOf (by kernel_rfl) (by kernel_rfl) (tb := 4) (by kernel_rfl) Try.underlying4 rfl (fun ds hl => by
    rw [Try.params4] at hl
    match ds, hl with
    | [_], _ => exact ⟨rfl, rfl, rfl⟩) law4 W base args ds gs before hval hW hsz
theorem over : Rows.varintGetsRow.holds Try.pinned (OpenSpec.ofChange Rows.varintGetsSpec) :=
  OpenClaim.holds_of_wide 4 Try.f4 rfl rfl rfl rfl rfl rfl rfl ⟨rfl, rfl, rfl, rfl, rfl⟩ rfl rfl rfl rfl rfl (by kernel_rfl) Try.func4 (by kernel_rfl)
    (of_decide_eq_true (by kernel_rfl)) (by unfold Func.isWrapper; first | (rw [if_pos (by decide +kernel)]; kernel_rfl) | (rw [if_neg (by decide +kernel)]; exact ⟨rfl, rfl⟩))
    (fun os started H enc _ => lifted os started H enc)
end Go.Proofs.Ythebimbdijkiiaa.varintGets
namespace Go.Proofs.Ythebimbdijkiiaa
/-- The statement, under a short name, for the claim. -/
theorem varintGets_holds : Rows.VarintGetsSaid := varintGets.over
#print axioms varintGets_holds
end Go.Proofs.Ythebimbdijkiiaa
