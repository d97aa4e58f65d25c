/- The statement LockNobody: of nil there is nothing. No condition. -/
import Derived.Test.YtdlcjibefbnckaaRows
import Derived.Test.YtdlcjibefbnckaaM33
namespace Go.Proofs.Ytdlcjibefbnckaa.Wa
open Go Go.Weave
set_option maxRecDepth 100000

theorem decC3 {n : Nat} {cs : List AVal} (h : OkC Cw.P (n + 1) 3 cs) : ∃ y : Int, cs = [AVal.int .i64 y] ∧ ((-9223372036854775808) ≤ y ∧ y ≤ 9223372036854775807) := by
  obtain ⟨x, rfl, h1, h2⟩ := okC_int1 Try.underlying3 h
  have m0 : IntKind.i64.min = (-9223372036854775808) := by decide
  have m1 : IntKind.i64.max = 9223372036854775807 := by decide
  rw [m0] at h1
  rw [m1] at h2
  exact ⟨x, rfl, h1, h2⟩
theorem decV3 {n : Nat} {a : AVal} (h : OkV Cw.P (n + 1) 3 a) : ∃ y : Int, a = (AVal.int .i64 y) ∧ ((-9223372036854775808) ≤ y ∧ y ≤ 9223372036854775807) := by
  obtain ⟨hag, hc⟩ := h
  have ha : aggT Cw.P 3 = false := by kernel_rfl
  rw [ha] at hag
  rw [cells_of hag] at hc
  obtain ⟨y, hy, h1⟩ := decC3 hc
  refine ⟨y, ?_, h1⟩
  simpa using hy
theorem decC9 {n : Nat} {cs : List AVal} (h : OkC Cw.P (n + 1) 9 cs) : ∃ y : List UInt8, cs = [AVal.str y] ∧ (y.length ≤ 140737488351232) := by
  exact okC_str1 Try.underlying9 h
theorem decV9 {n : Nat} {a : AVal} (h : OkV Cw.P (n + 1) 9 a) : ∃ y : List UInt8, a = (AVal.str y) ∧ (y.length ≤ 140737488351232) := by
  obtain ⟨hag, hc⟩ := h
  have ha : aggT Cw.P 9 = false := by kernel_rfl
  rw [ha] at hag
  rw [cells_of hag] at hc
  obtain ⟨y, hy, h1⟩ := decC9 hc
  refine ⟨y, ?_, h1⟩
  simpa using hy
theorem law10 (xs : List AVal) (h : ArgsOk Cw.P 6 Try.f10.params.toList xs) : ∃ d, (evFn Cw d 10 xs ⟨[]⟩).All fun r => r.1 = [.bool true] := by
  rw [Try.params10] at h
  obtain ⟨a0, r0, rfl, h0, h⟩ := h
  obtain ⟨a1, r1, rfl, h1, h⟩ := h
  obtain rfl : r1 = [] := h
  obtain ⟨y0, rfl, hy0⟩ := decV3 (n := 5) h0
  obtain ⟨y1, rfl, hy1⟩ := decV9 (n := 5) h1
  obtain ⟨d, h', hA⟩ := lnobody_true y0 y1 ⟨[]⟩
  exact law_of hA
end Go.Proofs.Ytdlcjibefbnckaa.Wa

namespace Go.Proofs.Ytdlcjibefbnckaa.lockNobody
open Go Go.Weave Go.Proofs.Ytdlcjibefbnckaa.Wa
set_option maxRecDepth 100000
theorem mixedOf : Cw.P.follows .mixedOrders = true := Try.checked.mixed
theorem dstOf : DstOK Cw.P := dstOk_of (by kernel_rfl)
theorem extOf (W : World) : ExtOK Cw (wholeCtx W) := ⟨fun _ _ h => (by cases h), (fun _ _ h => (by obtain ⟨rfl, rfl⟩ := ext_of43 h; exact held_ext ⟨rfl, rfl⟩))⟩
theorem ownOf : ownKnob Try.prog.godebug = none := by kernel_rfl
theorem laidOf : laidOutB Cw.P = true := by kernel_rfl
theorem lifted (os : Os) (started : os.Started) (H : Type) (enc : TypeId × Value → H) :
    ReturnsInHanded {} Try.checked os 10 .any (Rows.lockNobodySpec.pre6 enc Try.prog Try.f10 Rows.lockNobodyRow.domain false) (Rows.lockNobodySpec.post enc Try.prog Try.f10 false true false false) := by
  refine returnsInHanded_of_change_sized (C := Try.checked) ownOf started (by kernel_rfl) Try.func10
    (ChangeSpec.witness6 (enc := enc) (C := Try.checked) false ⟨#[], #[.int .i64 0, .string ByteArray.empty], []⟩ 8 (by kernel_rfl) (by kernel_rfl) (by kernel_rfl) (by kernel_rfl)) ?_
  intro W base args ds gs before hval hW _ hsz _
  exact law_contract (C := Cw) (n := 6) mixedOf dstOf extOf ⟨rfl, rfl⟩ laidOf (by kernel_rfl) (by kernel_rfl) (tb := 4) (by kernel_rfl) Try.underlying4 rfl (fun ds hl => by
    rw [Try.params10] at hl
    match ds, hl with
    | [_, _], _ => exact ⟨rfl, rfl, rfl⟩) law10 W base args ds gs before hval hW hsz
theorem over : Rows.lockNobodyRow.holds Try.pinned (OpenSpec.ofChange Rows.lockNobodySpec) :=
  OpenClaim.holds_of_wide 10 Try.f10 rfl rfl rfl rfl rfl rfl rfl ⟨rfl, rfl, rfl, rfl, rfl⟩ rfl rfl rfl rfl rfl (by kernel_rfl) Try.func10 (by kernel_rfl)
    (of_decide_eq_true (by kernel_rfl)) (by unfold Func.isWrapper; first | (rw [if_pos (by decide +kernel)]; kernel_rfl) | (rw [if_neg (by decide +kernel)]; exact ⟨rfl, rfl⟩))
    (fun os started H enc _ => lifted os started H enc)
end Go.Proofs.Ytdlcjibefbnckaa.lockNobody
namespace Go.Proofs.Ytdlcjibefbnckaa
/-- The statement, under a short name, for the claim. -/
theorem lockNobody_holds : Rows.LockNobodySaid := lockNobody.over
#print axioms lockNobody_holds
end Go.Proofs.Ytdlcjibefbnckaa
