/- The statement VarintAll, where what it reads is of bulk at most 1048576: all numbers that any bytes are, and the bytes of any numbers. No other condition. -/
import Derived.Test.YthebimbdijkiiaaRows
import Derived.Deep.CondSized
import Derived.Test.YthebimbdijkiiaaVd
namespace Go.Proofs.Ythebimbdijkiiaa.Wa
open Go Go.Weave
set_option maxRecDepth 100000

theorem law5 (xs : List AVal) (h : ArgsOk Cw.P 6 Try.f5.params.toList xs) (hk : bulkL xs ≤ 1048576) : ∃ d, (evFn Cw d 5 xs ⟨[]⟩).All fun r => r.1 = [.bool true] := by
  rw [Try.params5] at h
  obtain ⟨a0, r0, rfl, h0, h⟩ := h
  obtain ⟨a1, r1, rfl, h1, h⟩ := h
  obtain rfl : r1 = [] := h
  obtain ⟨b, rfl, _⟩ := okC_bytes (P := Cw.P) (n := 4) Try.underlying22 Try.underlying5 (by kernel_rfl) (by kernel_rfl) h0
  obtain ⟨es, rfl, _, h3⟩ := okV_slice (P := Cw.P) (n := 5) Try.underlying32 h1
  have m0 : IntKind.u64.min = 0 := by decide
  have m1 : IntKind.u64.max = 18446744073709551615 := by decide
  obtain ⟨l, rfl, hl⟩ := list_choice (g := fun (n : Nat) => AVal.int .u64 (n : Int)) (p := fun n => n < 18446744073709551616) es (fun x hx => by
    obtain ⟨z, rfl, hz0, hz1⟩ := okC_int (P := Cw.P) (n := 4) Try.underlying23 (h3 x hx)
    rw [m0] at hz0
    rw [m1] at hz1
    exact ⟨z.toNat, by simp only [AVal.int.injEq, true_and]; omega, by omega⟩)
  have hs : shp Cw.P 23 = 0 := by kernel_rfl
  rw [hs] at hk ⊢
  simp only [bulkL, AVal.bulk, bulkL_bys] at hk
  exact law_of (alls_true 0 false false b l ⟨[]⟩ (by omega) hl)

end Go.Proofs.Ythebimbdijkiiaa.Wa

namespace Go.Proofs.Ythebimbdijkiiaa.varintAllUpto
open Go Go.Weave Go.Proofs.Ythebimbdijkiiaa.Wa
set_option maxRecDepth 100000
theorem mixedOf : Cw.P.follows .mixedOrders = true := Try.checked.mixed
theorem dstOf : DstOK Cw.P := dstOk_of (by kernel_rfl)
theorem extOf : ExtOK Cw := fun _ _ h => by cases h
theorem ownOf : ownKnob Try.prog.godebug = none := by kernel_rfl
theorem laidOf : laidOutB Cw.P = true := by kernel_rfl
theorem all_sum {H : Type} : ∀ ds : List (DataW H), Rows.uptoBulkAll ds = (ds.map Rows.uptoBulk).sum
  | [] => rfl
  | d :: ds => by simp only [Rows.uptoBulkAll, List.map_cons, List.sum_cons, all_sum ds]
theorem bulkOf (H : Type) : BulkOk (Rows.uptoBulk (H := H)) where
  pos := fun d => by
    cases d with
    | lit l => cases l <;> simp [Rows.uptoBulk]
    | _ => simp [Rows.uptoBulk]
  str := fun b => by simp [Rows.uptoBulk]
  sl := fun es sp => by simp only [Rows.uptoBulk, all_sum]; omega
  agg := fun ps => by simp only [Rows.uptoBulk, all_sum]; omega
theorem lifted (os : Os) (started : os.Started) (H : Type) (enc : TypeId × Value → H) (F : Stop.Interp) :
    ReturnsInHanded {} Try.checked os 5 .any ((Rows.OpenSpec.upto Rows.varintAllSpec).pre6 enc Try.prog Try.f5 Rows.varintAllUptoRow.domain false) (((Rows.OpenSpec.upto Rows.varintAllSpec).at F).post enc Try.prog Try.f5 false true false false) := by
  refine returnsInHanded_of_cond_sized (C := Try.checked) (s := Rows.OpenSpec.upto Rows.varintAllSpec) (k := Rows.uptoSmall) rfl ownOf started (by kernel_rfl) Try.func5
    (OpenSpec.witness (enc := enc) (C := Try.checked) (s := Rows.OpenSpec.upto Rows.varintAllSpec) (k := Rows.uptoSmall) rfl false ⟨#[], #[.slice none 0 0, .slice none 0 0], []⟩ 8 (by kernel_rfl) (by kernel_rfl) (by kernel_rfl)
      (x := ([.nil, .nil], [], [])) (by kernel_rfl) (by kernel_rfl) (by kernel_rfl)) ?_
  intro W base args ds gs before hval hW _ hk hsz _
  have hW1 := hW
  obtain ⟨p, q, _, hV, _, _, _⟩ := hW1
  obtain rfl : gs = [] := by
    cases gs with
    | nil => rfl
    | cons g gs => exact hV.elim
  have hk' : Rows.uptoBulkAll (ds ++ []) ≤ 1048576 := of_decide_eq_true hk
  rw [List.append_nil, all_sum] at hk'
  exact law_contract_upto (C := Cw) (n := 6) (M := 1048576) (bulkOf H) mixedOf dstOf extOf ⟨rfl, rfl⟩ laidOf (by kernel_rfl) (by kernel_rfl) (tb := 4) (by kernel_rfl) Try.underlying4 rfl (fun ds hl => by
    rw [Try.params5] at hl
    match ds, hl with
    | [_, _], _ => exact ⟨rfl, rfl, rfl⟩) law5 W base args ds [] before hk' hval hW hsz
theorem over : Rows.varintAllUptoRow.holds Try.pinned (Rows.OpenSpec.upto Rows.varintAllSpec) :=
  OpenClaim.holds_of_cond 5 Try.f5 rfl rfl rfl rfl rfl rfl rfl ⟨rfl, rfl, rfl, rfl, rfl⟩ rfl rfl rfl rfl rfl (by kernel_rfl) Try.func5 (by kernel_rfl)
    (of_decide_eq_true (by kernel_rfl)) (by unfold Func.isWrapper; first | (rw [if_pos (by decide +kernel)]; kernel_rfl) | (rw [if_neg (by decide +kernel)]; exact ⟨rfl, rfl⟩))
    (fun os started H enc _ F => lifted os started H enc F)
end Go.Proofs.Ythebimbdijkiiaa.varintAllUpto
namespace Go.Proofs.Ythebimbdijkiiaa
/-- The statement, under a short name, for the claim. -/
theorem varintAllUpto_holds : Rows.VarintAllUptoSaid := varintAllUpto.over
#print axioms varintAllUpto_holds
end Go.Proofs.Ythebimbdijkiiaa
