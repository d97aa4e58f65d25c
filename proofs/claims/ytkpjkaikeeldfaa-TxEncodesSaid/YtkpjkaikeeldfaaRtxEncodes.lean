/- The statement TxEncodes: any change's bytes, or that it is not right; it is decoded. No condition. -/
import Derived.Test.YtkpjkaikeeldfaaRows
import Derived.Test.YtkpjkaikeeldfaaVtx
namespace Go.Proofs.Ytkpjkaikeeldfaa.Wa
open Go Go.Weave
set_option maxRecDepth 100000

theorem decC9 {n : Nat} {cs : List AVal} (h : OkC Cw.P (n + 1) 9 cs) : ∃ y : List UInt8, cs = [AVal.str y] ∧ (y.length ≤ 140737488351232) := by
  exact okC_str1 Try.underlying9 h
theorem decV9 {n : Nat} {a : AVal} (h : OkV Cw.P (n + 1) 9 a) : ∃ y : List UInt8, a = (AVal.str y) ∧ (y.length ≤ 140737488351232) := by
  obtain ⟨hag, hc⟩ := h
  have ha : aggT Cw.P 9 = false := by kernel_rfl
  rw [ha] at hag
  rw [cells_of hag] at hc
  obtain ⟨y, hy, h1⟩ := decC9 hc
  refine ⟨y, ?_, h1⟩
  simpa using hy
theorem decC4 {n : Nat} {cs : List AVal} (h : OkC Cw.P (n + 1) 4 cs) : ∃ y : Bool, cs = [AVal.bool y] ∧ True := by
  obtain ⟨x, rfl⟩ := okC_bool1 Try.underlying4 h
  exact ⟨x, rfl, trivial⟩
theorem decV4 {n : Nat} {a : AVal} (h : OkV Cw.P (n + 1) 4 a) : ∃ y : Bool, a = (AVal.bool y) ∧ True := by
  obtain ⟨hag, hc⟩ := h
  have ha : aggT Cw.P 4 = false := by kernel_rfl
  rw [ha] at hag
  rw [cells_of hag] at hc
  obtain ⟨y, hy, h1⟩ := decC4 hc
  refine ⟨y, ?_, h1⟩
  simpa using hy
theorem decC3 {n : Nat} {cs : List AVal} (h : OkC Cw.P (n + 1) 3 cs) : ∃ y : Int, cs = [AVal.int .i64 y] ∧ ((-9223372036854775808) ≤ y ∧ y ≤ 9223372036854775807) := by
  obtain ⟨x, rfl, h1, h2⟩ := okC_int1 Try.underlying3 h
  have m0 : IntKind.i64.min = (-9223372036854775808) := by decide
  have m1 : IntKind.i64.max = 9223372036854775807 := by decide
  rw [m0] at h1
  rw [m1] at h2
  exact ⟨x, rfl, h1, h2⟩
theorem decV3 {n : Nat} {a : AVal} (h : OkV Cw.P (n + 1) 3 a) : ∃ y : Int, a = (AVal.int .i64 y) ∧ ((-9223372036854775808) ≤ y ∧ y ≤ 9223372036854775807) := by
  obtain ⟨hag, hc⟩ := h
  have ha : aggT Cw.P 3 = false := by kernel_rfl
  rw [ha] at hag
  rw [cells_of hag] at hc
  obtain ⟨y, hy, h1⟩ := decC3 hc
  refine ⟨y, ?_, h1⟩
  simpa using hy
theorem decC23 {n : Nat} {cs : List AVal} (h : OkC Cw.P (n + 2) 23 cs) : ∃ y : Change, cs = (Change.C y) ∧ (Change.ok y) := by
  have hu : Cw.P.underlying 23 = _ := Try.underlying23
  unfold OkC at h
  simp only [hu, OkF] at h
  obtain ⟨_, _, e0, h0, _, _, e1, h1, _, _, e2, h2, _, _, e3, h3, _, _, e4, h4, _, _, e5, h5, el⟩ := h
  obtain ⟨x0, rfl, hx0⟩ := decC9 (n := n + 0) h0
  obtain ⟨x1, rfl, hx1⟩ := decC4 (n := n + 0) h1
  obtain ⟨x2, rfl, hx2⟩ := decC4 (n := n + 0) h2
  obtain ⟨x3, rfl, hx3⟩ := decC9 (n := n + 0) h3
  obtain ⟨x4, rfl, hx4⟩ := decC9 (n := n + 0) h4
  obtain ⟨x5, rfl, hx5⟩ := decC3 (n := n + 0) h5
  refine ⟨⟨x0, x1, x2, x3, x4, x5⟩, ?_, ⟨hx0, hx1, hx2, hx3, hx4, hx5⟩⟩
  subst el; rw [e0, e1, e2, e3, e4, e5] <;> (try simp only [List.append_nil]) <;> (try rfl)
theorem decV23 {n : Nat} {a : AVal} (h : OkV Cw.P (n + 2) 23 a) : ∃ y : Change, a = (Change.A y) ∧ (Change.ok y) := by
  obtain ⟨hag, hc⟩ := h
  have ha : aggT Cw.P 23 = true := by kernel_rfl
  rw [ha] at hag
  obtain ⟨y, hy, h1⟩ := decC23 hc
  refine ⟨y, ?_, h1⟩
  rw [isAgg_spec hag, hy] <;> (try rfl)
theorem law3 (xs : List AVal) (h : ArgsOk Cw.P 6 Try.f3.params.toList xs) : ∃ d, (evFn Cw d 3 xs ⟨[]⟩).All fun r => r.1 = [.bool true] := by
  rw [Try.params3] at h
  obtain ⟨a0, r0, rfl, h0, h⟩ := h
  obtain rfl : r0 = [] := h
  obtain ⟨y0, rfl, hy0⟩ := decV23 (n := 4) h0
  obtain ⟨h', hA⟩ := cencodes_true 0 y0 ⟨[]⟩
  exact law_of hA
end Go.Proofs.Ytkpjkaikeeldfaa.Wa

namespace Go.Proofs.Ytkpjkaikeeldfaa.txEncodes
open Go Go.Weave Go.Proofs.Ytkpjkaikeeldfaa.Wa
set_option maxRecDepth 100000
theorem mixedOf : Cw.P.follows .mixedOrders = true := Try.checked.mixed
theorem dstOf : DstOK Cw.P := dstOk_of (by kernel_rfl)
theorem extOf (W : World) : ExtOK Cw (wholeCtx W) := ⟨fun _ _ h => (by cases h), fun _ _ h => (by cases h)⟩
theorem ownOf : ownKnob Try.prog.godebug = none := by kernel_rfl
theorem laidOf : laidOutB Cw.P = true := by kernel_rfl
theorem lifted (os : Os) (started : os.Started) (H : Type) (enc : TypeId × Value → H) :
    ReturnsInHanded {} Try.checked os 3 .any (Rows.txEncodesSpec.pre6 enc Try.prog Try.f3 Rows.txEncodesRow.domain false) (Rows.txEncodesSpec.post enc Try.prog Try.f3 false true false false) := by
  refine returnsInHanded_of_change_sized (C := Try.checked) ownOf started (by kernel_rfl) Try.func3
    (ChangeSpec.witness6 (enc := enc) (C := Try.checked) false ⟨#[], #[.agg #[.string ByteArray.empty, .bool false, .bool false, .string ByteArray.empty, .string ByteArray.empty, .int .i64 0]], []⟩ 8 (by kernel_rfl) (by kernel_rfl) (by kernel_rfl) (by kernel_rfl)) ?_
  intro W base args ds gs before hval hW _ hsz _
  exact law_contract (C := Cw) (n := 6) mixedOf dstOf extOf ⟨rfl, rfl⟩ laidOf (by kernel_rfl) (by kernel_rfl) (tb := 4) (by kernel_rfl) Try.underlying4 rfl (fun ds hl => by
    rw [Try.params3] at hl
    match ds, hl with
    | [_], _ => exact ⟨rfl, rfl, rfl⟩) law3 W base args ds gs before hval hW hsz
theorem over : Rows.txEncodesRow.holds Try.pinned (OpenSpec.ofChange Rows.txEncodesSpec) :=
  OpenClaim.holds_of_wide 3 Try.f3 rfl rfl rfl rfl rfl rfl rfl ⟨rfl, rfl, rfl, rfl, rfl⟩ rfl rfl rfl rfl rfl (by kernel_rfl) Try.func3 (by kernel_rfl)
    (of_decide_eq_true (by kernel_rfl)) (by unfold Func.isWrapper; first | (rw [if_pos (by decide +kernel)]; kernel_rfl) | (rw [if_neg (by decide +kernel)]; exact ⟨rfl, rfl⟩))
    (fun os started H enc _ => lifted os started H enc)
end Go.Proofs.Ytkpjkaikeeldfaa.txEncodes
namespace Go.Proofs.Ytkpjkaikeeldfaa
/-- The statement, under a short name, for the claim. -/
theorem txEncodes_holds : Rows.TxEncodesSaid := txEncodes.over
#print axioms txEncodes_holds
end Go.Proofs.Ytkpjkaikeeldfaa
