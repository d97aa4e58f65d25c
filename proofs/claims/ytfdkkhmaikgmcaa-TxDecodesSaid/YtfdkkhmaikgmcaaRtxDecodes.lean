/- The statement TxDecodes: the change that any bytes are, or why they are none; it is encoded by the same bytes. No condition. -/
import Derived.Test.YtfdkkhmaikgmcaaRows
import Derived.Test.YtfdkkhmaikgmcaaVu
namespace Go.Proofs.Ytfdkkhmaikgmcaa.Wa
open Go Go.Weave
set_option maxRecDepth 100000

theorem decC26 {n : Nat} {cs : List AVal} (h : OkC Cw.P (n + 2) 26 cs) : ∃ y : List UInt8, cs = [AVal.sl false 0 (bys y)] ∧ (y.length ≤ 140737488351232) := by
  exact okC_bytes1 (P := Cw.P) (n := n) Try.underlying26 Try.underlying5 (by kernel_rfl) (by kernel_rfl) h
theorem decV26 {n : Nat} {a : AVal} (h : OkV Cw.P (n + 2) 26 a) : ∃ y : List UInt8, a = (AVal.sl false 0 (bys y)) ∧ (y.length ≤ 140737488351232) := by
  obtain ⟨hag, hc⟩ := h
  have ha : aggT Cw.P 26 = false := by kernel_rfl
  rw [ha] at hag
  rw [cells_of hag] at hc
  obtain ⟨y, hy, h1⟩ := decC26 hc
  refine ⟨y, ?_, h1⟩
  simpa using hy
theorem law7 (xs : List AVal) (h : ArgsOk Cw.P 6 Try.f7.params.toList xs) : ∃ d, (evFn Cw d 7 xs ⟨[]⟩).All fun r => r.1 = [.bool true] := by
  rw [Try.params7] at h
  obtain ⟨a0, r0, rfl, h0, h⟩ := h
  obtain rfl : r0 = [] := h
  obtain ⟨y0, rfl, hy0⟩ := decV26 (n := 4) h0
  obtain ⟨h', hA⟩ := cdecodes_true 0 false y0 ⟨[]⟩ hy0
  exact law_of hA
end Go.Proofs.Ytfdkkhmaikgmcaa.Wa

namespace Go.Proofs.Ytfdkkhmaikgmcaa.txDecodes
open Go Go.Weave Go.Proofs.Ytfdkkhmaikgmcaa.Wa
set_option maxRecDepth 100000
theorem mixedOf : Cw.P.follows .mixedOrders = true := Try.checked.mixed
theorem dstOf : DstOK Cw.P := dstOk_of (by kernel_rfl)
theorem extOf : ExtOK Cw := fun _ _ h => by cases h
theorem ownOf : ownKnob Try.prog.godebug = none := by kernel_rfl
theorem laidOf : laidOutB Cw.P = true := by kernel_rfl
theorem lifted (os : Os) (started : os.Started) (H : Type) (enc : TypeId × Value → H) :
    ReturnsInHanded {} Try.checked os 7 .any (Rows.txDecodesSpec.pre6 enc Try.prog Try.f7 Rows.txDecodesRow.domain false) (Rows.txDecodesSpec.post enc Try.prog Try.f7 false true false false) := by
  refine returnsInHanded_of_change_sized (C := Try.checked) ownOf started (by kernel_rfl) Try.func7
    (ChangeSpec.witness6 (enc := enc) (C := Try.checked) false ⟨#[], #[.slice none 0 0], []⟩ 8 (by kernel_rfl) (by kernel_rfl) (by kernel_rfl) (by kernel_rfl)) ?_
  intro W base args ds gs before hval hW _ hsz _
  exact law_contract (C := Cw) (n := 6) mixedOf dstOf extOf ⟨rfl, rfl⟩ laidOf (by kernel_rfl) (by kernel_rfl) (tb := 4) (by kernel_rfl) Try.underlying4 rfl (fun ds hl => by
    rw [Try.params7] at hl
    match ds, hl with
    | [_], _ => exact ⟨rfl, rfl, rfl⟩) law7 W base args ds gs before hval hW hsz
theorem over : Rows.txDecodesRow.holds Try.pinned (OpenSpec.ofChange Rows.txDecodesSpec) :=
  OpenClaim.holds_of_wide 7 Try.f7 rfl rfl rfl rfl rfl rfl rfl ⟨rfl, rfl, rfl, rfl, rfl⟩ rfl rfl rfl rfl rfl (by kernel_rfl) Try.func7 (by kernel_rfl)
    (of_decide_eq_true (by kernel_rfl)) (by unfold Func.isWrapper; first | (rw [if_pos (by decide +kernel)]; kernel_rfl) | (rw [if_neg (by decide +kernel)]; exact ⟨rfl, rfl⟩))
    (fun os started H enc _ => lifted os started H enc)
end Go.Proofs.Ytfdkkhmaikgmcaa.txDecodes
namespace Go.Proofs.Ytfdkkhmaikgmcaa
/-- The statement, under a short name, for the claim. -/
theorem txDecodes_holds : Rows.TxDecodesSaid := txDecodes.over
#print axioms txDecodes_holds
end Go.Proofs.Ytfdkkhmaikgmcaa
