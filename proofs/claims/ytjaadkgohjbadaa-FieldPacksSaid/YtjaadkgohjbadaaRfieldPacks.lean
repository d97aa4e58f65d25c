/- The statement FieldPacks: any fields laid, one behind the other, and unpacked again. No condition. -/
import Derived.Test.YtjaadkgohjbadaaRows
import Derived.Test.YtjaadkgohjbadaaM31
namespace Go.Proofs.Ytjaadkgohjbadaa.Wa
open Go Go.Weave
set_option maxRecDepth 100000

theorem decC22 {n : Nat} {cs : List AVal} (h : OkC Cw.P (n + 2) 22 cs) : ∃ y : List UInt8, cs = [AVal.sl false 0 (bys y)] ∧ (y.length ≤ 140737488351232) := by
  exact okC_bytes1 (P := Cw.P) (n := n) Try.underlying22 Try.underlying5 (by kernel_rfl) (by kernel_rfl) h
theorem decV22 {n : Nat} {a : AVal} (h : OkV Cw.P (n + 2) 22 a) : ∃ y : List UInt8, a = (AVal.sl false 0 (bys y)) ∧ (y.length ≤ 140737488351232) := by
  obtain ⟨hag, hc⟩ := h
  have ha : aggT Cw.P 22 = false := by kernel_rfl
  rw [ha] at hag
  rw [cells_of hag] at hc
  obtain ⟨y, hy, h1⟩ := decC22 hc
  refine ⟨y, ?_, h1⟩
  simpa using hy
theorem decV23 {n : Nat} {a : AVal} (h : OkV Cw.P (n + 3) 23 a) : ∃ y : List (List UInt8), a = (AVal.sl false 0 (y.map fun x => (AVal.sl false 0 (bys x)))) ∧ (y.length * 24 ≤ 140737488351232 ∧ ∀ x ∈ y, (x.length ≤ 140737488351232)) := by
  obtain ⟨es, rfl, h1, h2⟩ := okV_slice (P := Cw.P) (n := n + 2) Try.underlying23 h
  have hs : shp Cw.P 22 = 0 := by kernel_rfl
  have hb : bytesOf Cw.P 22 = 24 := by kernel_rfl
  rw [hb] at h1
  rw [hs]
  obtain ⟨l, rfl, hl⟩ := list_choice (g := fun (x : List UInt8) => (AVal.sl false 0 (bys x))) (p := fun z => (z.length ≤ 140737488351232)) es fun x hx => decV22 (h2 x hx)
  exact ⟨l, rfl, by simpa using h1, hl⟩
theorem decC23 {n : Nat} {cs : List AVal} (h : OkC Cw.P (n + 3) 23 cs) : ∃ y : List (List UInt8), cs = [(AVal.sl false 0 (y.map fun x => (AVal.sl false 0 (bys x))))] ∧ (y.length * 24 ≤ 140737488351232 ∧ ∀ x ∈ y, (x.length ≤ 140737488351232)) := by
  have h1 : ∃ a, cs = [a] ∧ a.isAgg = false := by
    have h' := h
    unfold OkC at h'
    have hu : Cw.P.underlying 23 = _ := Try.underlying23
    simp only [hu] at h'
    obtain ⟨es, rfl, _⟩ := h'
    exact ⟨_, rfl, rfl⟩
  obtain ⟨a, rfl, ha⟩ := h1
  have hag : aggT Cw.P 23 = false := by kernel_rfl
  obtain ⟨y, rfl, hy⟩ := decV23 (n := n) (a := a) ⟨by rw [ha, hag], by rw [cells_of ha]; exact h⟩
  exact ⟨y, rfl, hy⟩
theorem law3 (xs : List AVal) (h : ArgsOk Cw.P 6 Try.f3.params.toList xs) : ∃ d, (evFn Cw d 3 xs ⟨[]⟩).All fun r => r.1 = [.bool true] := by
  rw [Try.params3] at h
  obtain ⟨a0, r0, rfl, h0, h⟩ := h
  obtain ⟨a1, r1, rfl, h1, h⟩ := h
  obtain rfl : r1 = [] := h
  obtain ⟨y0, rfl, hy0⟩ := decV22 (n := 4) h0
  obtain ⟨y1, rfl, hy1⟩ := decV23 (n := 3) h1
  have h0 : y0.length ≤ 140737488351232 := hy0
  have h1 : y1.length ≤ 140737488351232 := by have := hy1.1; omega
  exact law_of (fpacks_true 0 false false y0 y1 ⟨[]⟩ h0 h1)
end Go.Proofs.Ytjaadkgohjbadaa.Wa

namespace Go.Proofs.Ytjaadkgohjbadaa.fieldPacks
open Go Go.Weave Go.Proofs.Ytjaadkgohjbadaa.Wa
set_option maxRecDepth 100000
theorem mixedOf : Cw.P.follows .mixedOrders = true := Try.checked.mixed
theorem dstOf : DstOK Cw.P := dstOk_of (by kernel_rfl)
theorem extOf (W : World) : ExtOK Cw (wholeCtx W) := ⟨fun _ _ h => (by cases h), (fun _ _ h => (by cases h))⟩
theorem ownOf : ownKnob Try.prog.godebug = none := by kernel_rfl
theorem laidOf : laidOutB Cw.P = true := by kernel_rfl
theorem lifted (os : Os) (started : os.Started) (H : Type) (enc : TypeId × Value → H) :
    ReturnsInHanded {} Try.checked os 3 .any (Rows.fieldPacksSpec.pre6 enc Try.prog Try.f3 Rows.fieldPacksRow.domain false) (Rows.fieldPacksSpec.post enc Try.prog Try.f3 false true false false) := by
  refine returnsInHanded_of_change_sized (C := Try.checked) ownOf started (by kernel_rfl) Try.func3
    (ChangeSpec.witness6 (enc := enc) (C := Try.checked) false ⟨#[], #[.slice none 0 0, .slice none 0 0], []⟩ 8 (by kernel_rfl) (by kernel_rfl) (by kernel_rfl) (by kernel_rfl)) ?_
  intro W base args ds gs before hval hW _ hsz _
  exact law_contract (C := Cw) (n := 6) mixedOf dstOf extOf ⟨rfl, rfl⟩ laidOf (by kernel_rfl) (by kernel_rfl) (tb := 4) (by kernel_rfl) Try.underlying4 rfl (fun ds hl => by
    rw [Try.params3] at hl
    match ds, hl with
    | [_, _], _ => exact ⟨rfl, rfl, rfl⟩) law3 W base args ds gs before hval hW hsz
theorem over : Rows.fieldPacksRow.holds Try.pinned (OpenSpec.ofChange Rows.fieldPacksSpec) :=
  OpenClaim.holds_of_wide 3 Try.f3 rfl rfl rfl rfl rfl rfl rfl ⟨rfl, rfl, rfl, rfl, rfl⟩ rfl rfl rfl rfl rfl (by kernel_rfl) Try.func3 (by kernel_rfl)
    (of_decide_eq_true (by kernel_rfl)) (by unfold Func.isWrapper; first | (rw [if_pos (by decide +kernel)]; kernel_rfl) | (rw [if_neg (by decide +kernel)]; exact ⟨rfl, rfl⟩))
    (fun os started H enc _ => lifted os started H enc)
end Go.Proofs.Ytjaadkgohjbadaa.fieldPacks
namespace Go.Proofs.Ytjaadkgohjbadaa
/-- The statement, under a short name, for the claim. -/
theorem fieldPacks_holds : Rows.FieldPacksSaid := fieldPacks.over
#print axioms fieldPacks_holds
end Go.Proofs.Ytjaadkgohjbadaa
