/- The statement IndexNobody: an index that is nil has nothing. No condition. -/
import Derived.Test.YthebimbdijkiiaaRows
import Derived.Test.YthebimbdijkiiaaVx
namespace Go.Proofs.Ythebimbdijkiiaa.Wa
open Go Go.Weave
set_option maxRecDepth 100000

theorem decC3 {n : Nat} {cs : List AVal} (h : OkC Cw.P (n + 1) 3 cs) : ∃ y : Int, cs = [AVal.int .i64 y] ∧ ((-9223372036854775808) ≤ y ∧ y ≤ 9223372036854775807) := by
  obtain ⟨x, rfl, h1, h2⟩ := okC_int1 Try.underlying3 h
  have m0 : IntKind.i64.min = (-9223372036854775808) := by decide
  have m1 : IntKind.i64.max = 9223372036854775807 := by decide
  rw [m0] at h1
  rw [m1] at h2
  exact ⟨x, rfl, h1, h2⟩
theorem decV3 {n : Nat} {a : AVal} (h : OkV Cw.P (n + 1) 3 a) : ∃ y : Int, a = (AVal.int .i64 y) ∧ ((-9223372036854775808) ≤ y ∧ y ≤ 9223372036854775807) := by
  obtain ⟨hag, hc⟩ := h
  have ha : aggT Cw.P 3 = false := by kernel_rfl
  rw [ha] at hag
  rw [cells_of hag] at hc
  obtain ⟨y, hy, h1⟩ := decC3 hc
  refine ⟨y, ?_, h1⟩
  simpa using hy
theorem decC67 {n : Nat} {cs : List AVal} (h : OkC Cw.P (n + 2) 67 cs) : ∃ y : IPlace, cs = (IPlace.C y) ∧ (IPlace.ok y) := by
  have hu : Cw.P.underlying 67 = _ := Try.underlying67
  unfold OkC at h
  simp only [hu, OkF] at h
  obtain ⟨_, _, e0, h0, _, _, e1, h1, el⟩ := h
  obtain ⟨x0, rfl, hx0⟩ := decC3 (n := n + 0) h0
  obtain ⟨x1, rfl, hx1⟩ := decC3 (n := n + 0) h1
  refine ⟨⟨x0, x1⟩, ?_, ⟨hx0, hx1⟩⟩
  subst el; rw [e0, e1] <;> (try simp only [List.append_nil]) <;> (try rfl)
theorem decV67 {n : Nat} {a : AVal} (h : OkV Cw.P (n + 2) 67 a) : ∃ y : IPlace, a = (IPlace.A y) ∧ (IPlace.ok y) := by
  obtain ⟨hag, hc⟩ := h
  have ha : aggT Cw.P 67 = true := by kernel_rfl
  rw [ha] at hag
  obtain ⟨y, hy, h1⟩ := decC67 hc
  refine ⟨y, ?_, h1⟩
  rw [isAgg_spec hag, hy] <;> (try rfl)
theorem law12 (xs : List AVal) (h : ArgsOk Cw.P 6 Try.f12.params.toList xs) : ∃ d, (evFn Cw d 12 xs ⟨[]⟩).All fun r => r.1 = [.bool true] := by
  rw [Try.params12] at h
  obtain ⟨a0, r0, rfl, h0, h⟩ := h
  obtain ⟨a1, r1, rfl, h1, h⟩ := h
  obtain ⟨a2, r2, rfl, h2, h⟩ := h
  obtain rfl : r2 = [] := h
  obtain ⟨y0, rfl, hy0⟩ := decV3 (n := 5) h0
  obtain ⟨y1, rfl, hy1⟩ := decV3 (n := 5) h1
  obtain ⟨y2, rfl, hy2⟩ := decV67 (n := 4) h2
  obtain ⟨d, h', hA⟩ := inobody_true y0 y1 y2.seq y2.at' ⟨[]⟩
  exact law_of hA
end Go.Proofs.Ythebimbdijkiiaa.Wa

namespace Go.Proofs.Ythebimbdijkiiaa.indexNobody
open Go Go.Weave Go.Proofs.Ythebimbdijkiiaa.Wa
set_option maxRecDepth 100000
theorem mixedOf : Cw.P.follows .mixedOrders = true := Try.checked.mixed
theorem dstOf : DstOK Cw.P := dstOk_of (by kernel_rfl)
theorem extOf : ExtOK Cw := fun _ _ h => by cases h
theorem ownOf : ownKnob Try.prog.godebug = none := by kernel_rfl
theorem laidOf : laidOutB Cw.P = true := by kernel_rfl
theorem lifted (os : Os) (started : os.Started) (H : Type) (enc : TypeId × Value → H) :
    ReturnsInHanded {} Try.checked os 12 .any (Rows.indexNobodySpec.pre6 enc Try.prog Try.f12 Rows.indexNobodyRow.domain false) (Rows.indexNobodySpec.post enc Try.prog Try.f12 false true false false) := by
  refine returnsInHanded_of_change_sized (C := Try.checked) ownOf started (by kernel_rfl) Try.func12
    (ChangeSpec.witness6 (enc := enc) (C := Try.checked) false ⟨#[], #[.int .i64 0, .int .i64 0, .agg #[.int .i64 0, .int .i64 0]], []⟩ 8 (by kernel_rfl) (by kernel_rfl) (by kernel_rfl) (by kernel_rfl)) ?_
  intro W base args ds gs before hval hW _ hsz _
  exact law_contract (C := Cw) (n := 6) mixedOf dstOf extOf ⟨rfl, rfl⟩ laidOf (by kernel_rfl) (by kernel_rfl) (tb := 4) (by kernel_rfl) Try.underlying4 rfl (fun ds hl => by
    rw [Try.params12] at hl
    match ds, hl with
    | [_, _, _], _ => exact ⟨rfl, rfl, rfl⟩) law12 W base args ds gs before hval hW hsz
theorem over : Rows.indexNobodyRow.holds Try.pinned (OpenSpec.ofChange Rows.indexNobodySpec) :=
  OpenClaim.holds_of_wide 12 Try.f12 rfl rfl rfl rfl rfl rfl rfl ⟨rfl, rfl, rfl, rfl, rfl⟩ rfl rfl rfl rfl rfl (by kernel_rfl) Try.func12 (by kernel_rfl)
    (of_decide_eq_true (by kernel_rfl)) (by unfold Func.isWrapper; first | (rw [if_pos (by decide +kernel)]; kernel_rfl) | (rw [if_neg (by decide +kernel)]; exact ⟨rfl, rfl⟩))
    (fun os started H enc _ => lifted os started H enc)
end Go.Proofs.Ythebimbdijkiiaa.indexNobody
namespace Go.Proofs.Ythebimbdijkiiaa
/-- The statement, under a short name, for the claim. -/
theorem indexNobody_holds : Rows.IndexNobodySaid := indexNobody.over
#print axioms indexNobody_holds
end Go.Proofs.Ythebimbdijkiiaa
