/- The statement FieldUnpacks, where what it reads is of bulk at most 1048576: all fields that any bytes are; they are packed by the same bytes. No other condition. -/
import Derived.Test.YthebimbdijkiiaaRows
import Derived.Deep.CondSized
import Derived.Test.YthebimbdijkiiaaVe
namespace Go.Proofs.Ythebimbdijkiiaa.Wa
open Go Go.Weave
set_option maxRecDepth 100000

theorem decC22 {n : Nat} {cs : List AVal} (h : OkC Cw.P (n + 2) 22 cs) : ∃ y : List UInt8, cs = [AVal.sl false 0 (bys y)] ∧ (y.length ≤ 140737488351232) := by
  exact okC_bytes1 (P := Cw.P) (n := n) Try.underlying22 Try.underlying5 (by kernel_rfl) (by kernel_rfl) h
theorem decV22 {n : Nat} {a : AVal} (h : OkV Cw.P (n + 2) 22 a) : ∃ y : List UInt8, a = (AVal.sl false 0 (bys y)) ∧ (y.length ≤ 140737488351232) := by
  obtain ⟨hag, hc⟩ := h
  have ha : aggT Cw.P 22 = false := by kernel_rfl
  rw [ha] at hag
  rw [cells_of hag] at hc
  obtain ⟨y, hy, h1⟩ := decC22 hc
  refine ⟨y, ?_, h1⟩
  simpa using hy
theorem law10 (xs : List AVal) (h : ArgsOk Cw.P 6 Try.f10.params.toList xs) (hk : bulkL xs ≤ 1048576) : ∃ d, (evFn Cw d 10 xs ⟨[]⟩).All fun r => r.1 = [.bool true] := by
  rw [Try.params10] at h
  obtain ⟨a0, r0, rfl, h0, h⟩ := h
  obtain rfl : r0 = [] := h
  obtain ⟨y0, rfl, hy0⟩ := decV22 (n := 4) h0
  simp only [bulkL, AVal.bulk, bulkL_bys, Nat.add_zero] at hk
  exact law_of (funpacks_true 0 false y0 ⟨[]⟩ (by omega))
end Go.Proofs.Ythebimbdijkiiaa.Wa

namespace Go.Proofs.Ythebimbdijkiiaa.fieldUnpacksUpto
open Go Go.Weave Go.Proofs.Ythebimbdijkiiaa.Wa
set_option maxRecDepth 100000
theorem mixedOf : Cw.P.follows .mixedOrders = true := Try.checked.mixed
theorem dstOf : DstOK Cw.P := dstOk_of (by kernel_rfl)
theorem extOf : ExtOK Cw := fun _ _ h => by cases h
theorem ownOf : ownKnob Try.prog.godebug = none := by kernel_rfl
theorem laidOf : laidOutB Cw.P = true := by kernel_rfl
theorem all_sum {H : Type} : ∀ ds : List (DataW H), Rows.uptoBulkAll ds = (ds.map Rows.uptoBulk).sum
  | [] => rfl
  | d :: ds => by simp only [Rows.uptoBulkAll, List.map_cons, List.sum_cons, all_sum ds]
theorem bulkOf (H : Type) : BulkOk (Rows.uptoBulk (H := H)) where
  pos := fun d => by
    cases d with
    | lit l => cases l <;> simp [Rows.uptoBulk]
    | _ => simp [Rows.uptoBulk]
  str := fun b => by simp [Rows.uptoBulk]
  sl := fun es sp => by simp only [Rows.uptoBulk, all_sum]; omega
  agg := fun ps => by simp only [Rows.uptoBulk, all_sum]; omega
theorem lifted (os : Os) (started : os.Started) (H : Type) (enc : TypeId × Value → H) (F : Stop.Interp) :
    ReturnsInHanded {} Try.checked os 10 .any ((Rows.OpenSpec.upto Rows.fieldUnpacksSpec).pre6 enc Try.prog Try.f10 Rows.fieldUnpacksUptoRow.domain false) (((Rows.OpenSpec.upto Rows.fieldUnpacksSpec).at F).post enc Try.prog Try.f10 false true false false) := by
  refine returnsInHanded_of_cond_sized (C := Try.checked) (s := Rows.OpenSpec.upto Rows.fieldUnpacksSpec) (k := Rows.uptoSmall) rfl ownOf started (by kernel_rfl) Try.func10
    (OpenSpec.witness (enc := enc) (C := Try.checked) (s := Rows.OpenSpec.upto Rows.fieldUnpacksSpec) (k := Rows.uptoSmall) rfl false ⟨#[], #[.slice none 0 0], []⟩ 8 (by kernel_rfl) (by kernel_rfl) (by kernel_rfl)
      (x := ([.nil], [], [])) (by kernel_rfl) (by kernel_rfl) (by kernel_rfl)) ?_
  intro W base args ds gs before hval hW _ hk hsz _
  have hW1 := hW
  obtain ⟨p, q, _, hV, _, _, _⟩ := hW1
  obtain rfl : gs = [] := by
    cases gs with
    | nil => rfl
    | cons g gs => exact hV.elim
  have hk' : Rows.uptoBulkAll (ds ++ []) ≤ 1048576 := of_decide_eq_true hk
  rw [List.append_nil, all_sum] at hk'
  exact law_contract_upto (C := Cw) (n := 6) (M := 1048576) (bulkOf H) mixedOf dstOf extOf ⟨rfl, rfl⟩ laidOf (by kernel_rfl) (by kernel_rfl) (tb := 4) (by kernel_rfl) Try.underlying4 rfl (fun ds hl => by
    rw [Try.params10] at hl
    match ds, hl with
    | [_], _ => exact ⟨rfl, rfl, rfl⟩) law10 W base args ds [] before hk' hval hW hsz
theorem over : Rows.fieldUnpacksUptoRow.holds Try.pinned (Rows.OpenSpec.upto Rows.fieldUnpacksSpec) :=
  OpenClaim.holds_of_cond 10 Try.f10 rfl rfl rfl rfl rfl rfl rfl ⟨rfl, rfl, rfl, rfl, rfl⟩ rfl rfl rfl rfl rfl (by kernel_rfl) Try.func10 (by kernel_rfl)
    (of_decide_eq_true (by kernel_rfl)) (by unfold Func.isWrapper; first | (rw [if_pos (by decide +kernel)]; kernel_rfl) | (rw [if_neg (by decide +kernel)]; exact ⟨rfl, rfl⟩))
    (fun os started H enc _ F => lifted os started H enc F)
end Go.Proofs.Ythebimbdijkiiaa.fieldUnpacksUpto
namespace Go.Proofs.Ythebimbdijkiiaa
/-- The statement, under a short name, for the claim. -/
theorem fieldUnpacksUpto_holds : Rows.FieldUnpacksUptoSaid := fieldUnpacksUpto.over
#print axioms fieldUnpacksUpto_holds
end Go.Proofs.Ythebimbdijkiiaa
