/- The statement RecordSames: whether any two records are the same. No condition. -/
import Derived.Test.YthebimbdijkiiaaRows
import Derived.Test.YthebimbdijkiiaaVc
namespace Go.Proofs.Ythebimbdijkiiaa.Wa
open Go Go.Weave
set_option maxRecDepth 100000

theorem ok_int3 {cs : List AVal} {n : Nat} (h : OkC Cw.P (n + 1) 3 cs) : ∃ x, cs = [.int .i64 x] ∧ IntKind.i64.min ≤ x ∧ x ≤ IntKind.i64.max := by
  unfold OkC at h
  have hu : Cw.P.underlying 3 = some (.int .i64) := Try.underlying3
  simp only [hu] at h
  exact h
theorem ok_bytes22 {cs : List AVal} {n : Nat} (h : OkC Cw.P (n + 2) 22 cs) : ∃ b, cs = [.sl false 0 (bys b)] ∧ b.length ≤ 140737488351232 := by
  have hu : Cw.P.underlying 22 = some (.slice 5) := Try.underlying22
  have h1 : ∃ a, cs = [a] ∧ a.isAgg = false := by
    have h' := h
    unfold OkC at h'
    simp only [hu] at h'
    obtain ⟨es, rfl, _⟩ := h'
    exact ⟨_, rfl, rfl⟩
  obtain ⟨a, rfl, ha⟩ := h1
  have hc : a.cells = [a] := by cases a <;> first | rfl | simp [AVal.isAgg] at ha
  have hag : aggT Cw.P 22 = false := by simp [aggT, hu]
  obtain ⟨b, rfl, hb⟩ := okC_bytes (P := Cw.P) (n := n) hu Try.underlying5 (by kernel_rfl) (by kernel_rfl) (a := a) ⟨by rw [ha, hag], by rw [hc]; exact h⟩
  exact ⟨b, rfl, hb⟩
theorem ok_rec {a : AVal} (h : OkV Cw.P 6 37 a) : ∃ k c l p b, a = recA k c l p false b ∧ b.length ≤ 140737488351232 := by
  obtain ⟨hag, hc⟩ := h
  have hu : Cw.P.underlying 37 = _ := Try.underlying37
  have ha : aggT Cw.P 37 = true := by simp [aggT, hu]
  rw [ha] at hag
  unfold OkC at hc
  simp only [hu, OkF] at hc
  obtain ⟨_, _, e0, h0, _, _, e1, h1, _, _, e2, h2, _, _, e3, h3, _, _, e4, h4, e5⟩ := hc
  obtain ⟨k, rfl, _⟩ := ok_int3 h0
  obtain ⟨c, rfl, _⟩ := ok_int3 h1
  obtain ⟨l, rfl, _⟩ := ok_int3 h2
  obtain ⟨p, rfl, _⟩ := ok_int3 h3
  obtain ⟨b, rfl, hb⟩ := ok_bytes22 h4
  refine ⟨k, c, l, p, b, ?_, hb⟩
  rw [isAgg_spec hag, e0, e1, e2, e3, e4, e5]
  rfl
theorem law6 (xs : List AVal) (h : ArgsOk Cw.P 6 Try.f6.params.toList xs) : ∃ d, (evFn Cw d 6 xs ⟨[]⟩).All fun r => r.1 = [.bool true] := by
  rw [Try.params6] at h
  obtain ⟨a0, r0, rfl, h0, h⟩ := h
  obtain ⟨a1, r1, rfl, h1, h⟩ := h
  obtain rfl : r1 = [] := h
  obtain ⟨k, c, l, p, b, rfl, _⟩ := ok_rec h0
  obtain ⟨k', c', l', p', b', rfl, _⟩ := ok_rec h1
  exact law_of (sames_true 0 k c l p false b k' c' l' p' false b' ⟨[]⟩)

end Go.Proofs.Ythebimbdijkiiaa.Wa

namespace Go.Proofs.Ythebimbdijkiiaa.recordSames
open Go Go.Weave Go.Proofs.Ythebimbdijkiiaa.Wa
set_option maxRecDepth 100000
theorem mixedOf : Cw.P.follows .mixedOrders = true := Try.checked.mixed
theorem dstOf : DstOK Cw.P := dstOk_of (by kernel_rfl)
theorem extOf : ExtOK Cw := fun _ _ h => by cases h
theorem ownOf : ownKnob Try.prog.godebug = none := by kernel_rfl
theorem laidOf : laidOutB Cw.P = true := by kernel_rfl
theorem lifted (os : Os) (started : os.Started) (H : Type) (enc : TypeId × Value → H) :
    ReturnsInHanded {} Try.checked os 6 .any (Rows.recordSamesSpec.pre6 enc Try.prog Try.f6 Rows.recordSamesRow.domain false) (Rows.recordSamesSpec.post enc Try.prog Try.f6 false true false false) := by
  refine returnsInHanded_of_change_sized (C := Try.checked) ownOf started (by kernel_rfl) Try.func6
    (ChangeSpec.witness6 (enc := enc) (C := Try.checked) false ⟨#[], #[.agg #[.int .i64 0, .int .i64 0, .int .i64 0, .int .i64 0, .slice none 0 0], .agg #[.int .i64 0, .int .i64 0, .int .i64 0, .int .i64 0, .slice none 0 0]], []⟩ 8 (by kernel_rfl) (by kernel_rfl) (by kernel_rfl) (by kernel_rfl)) ?_
  intro W base args ds gs before hval hW _ hsz _
  exact law_contract (C := Cw) (n := 6) mixedOf dstOf extOf ⟨rfl, rfl⟩ laidOf (by kernel_rfl) (by kernel_rfl) (tb := 4) (by kernel_rfl) Try.underlying4 rfl (fun ds hl => by
    rw [Try.params6] at hl
    match ds, hl with
    | [_, _], _ => exact ⟨rfl, rfl, rfl⟩) law6 W base args ds gs before hval hW hsz
theorem over : Rows.recordSamesRow.holds Try.pinned (OpenSpec.ofChange Rows.recordSamesSpec) :=
  OpenClaim.holds_of_wide 6 Try.f6 rfl rfl rfl rfl rfl rfl rfl ⟨rfl, rfl, rfl, rfl, rfl⟩ rfl rfl rfl rfl rfl (by kernel_rfl) Try.func6 (by kernel_rfl)
    (of_decide_eq_true (by kernel_rfl)) (by unfold Func.isWrapper; first | (rw [if_pos (by decide +kernel)]; kernel_rfl) | (rw [if_neg (by decide +kernel)]; exact ⟨rfl, rfl⟩))
    (fun os started H enc _ => lifted os started H enc)
end Go.Proofs.Ythebimbdijkiiaa.recordSames
namespace Go.Proofs.Ythebimbdijkiiaa
/-- The statement, under a short name, for the claim. -/
theorem recordSames_holds : Rows.RecordSamesSaid := recordSames.over
#print axioms recordSames_holds
end Go.Proofs.Ythebimbdijkiiaa
