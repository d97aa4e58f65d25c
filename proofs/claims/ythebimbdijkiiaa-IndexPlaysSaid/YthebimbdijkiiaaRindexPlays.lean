/- The statement IndexPlays: any calls of an index: what they answer, and what it has behind each. No condition. -/
import Derived.Test.YthebimbdijkiiaaRows
import Derived.Test.YthebimbdijkiiaaVz
namespace Go.Proofs.Ythebimbdijkiiaa.Wa
open Go Go.Weave
set_option maxRecDepth 100000

theorem decC3 {n : Nat} {cs : List AVal} (h : OkC Cw.P (n + 1) 3 cs) : ∃ y : Int, cs = [AVal.int .i64 y] ∧ ((-9223372036854775808) ≤ y ∧ y ≤ 9223372036854775807) := by
  obtain ⟨x, rfl, h1, h2⟩ := okC_int1 Try.underlying3 h
  have m0 : IntKind.i64.min = (-9223372036854775808) := by decide
  have m1 : IntKind.i64.max = 9223372036854775807 := by decide
  rw [m0] at h1
  rw [m1] at h2
  exact ⟨x, rfl, h1, h2⟩
theorem decV3 {n : Nat} {a : AVal} (h : OkV Cw.P (n + 1) 3 a) : ∃ y : Int, a = (AVal.int .i64 y) ∧ ((-9223372036854775808) ≤ y ∧ y ≤ 9223372036854775807) := by
  obtain ⟨hag, hc⟩ := h
  have ha : aggT Cw.P 3 = false := by kernel_rfl
  rw [ha] at hag
  rw [cells_of hag] at hc
  obtain ⟨y, hy, h1⟩ := decC3 hc
  refine ⟨y, ?_, h1⟩
  simpa using hy
theorem decC57 {n : Nat} {cs : List AVal} (h : OkC Cw.P (n + 2) 57 cs) : ∃ y : (Int) × (Int) × (Int) × (Int), cs = [(AVal.int .i64 y.1), (AVal.int .i64 y.2.1), (AVal.int .i64 y.2.2.1), (AVal.int .i64 y.2.2.2)] ∧ (((-9223372036854775808) ≤ y.1 ∧ y.1 ≤ 9223372036854775807) ∧ ((-9223372036854775808) ≤ y.2.1 ∧ y.2.1 ≤ 9223372036854775807) ∧ ((-9223372036854775808) ≤ y.2.2.1 ∧ y.2.2.1 ≤ 9223372036854775807) ∧ ((-9223372036854775808) ≤ y.2.2.2 ∧ y.2.2.2 ≤ 9223372036854775807)) := by
  have hu : Cw.P.underlying 57 = _ := Try.underlying57
  unfold OkC at h
  simp only [hu, OkN] at h
  obtain ⟨_, _, e0, h0, _, _, e1, h1, _, _, e2, h2, _, _, e3, h3, el⟩ := h
  obtain ⟨x0, rfl, hx0⟩ := decC3 (n := n + 0) h0
  obtain ⟨x1, rfl, hx1⟩ := decC3 (n := n + 0) h1
  obtain ⟨x2, rfl, hx2⟩ := decC3 (n := n + 0) h2
  obtain ⟨x3, rfl, hx3⟩ := decC3 (n := n + 0) h3
  refine ⟨⟨x0, x1, x2, x3⟩, ?_, ⟨hx0, hx1, hx2, hx3⟩⟩
  subst el; rw [e0, e1, e2, e3] <;> (try simp only [List.append_nil]) <;> (try rfl)
theorem decV57 {n : Nat} {a : AVal} (h : OkV Cw.P (n + 2) 57 a) : ∃ y : (Int) × (Int) × (Int) × (Int), a = (AVal.agg [(AVal.int .i64 y.1), (AVal.int .i64 y.2.1), (AVal.int .i64 y.2.2.1), (AVal.int .i64 y.2.2.2)]) ∧ (((-9223372036854775808) ≤ y.1 ∧ y.1 ≤ 9223372036854775807) ∧ ((-9223372036854775808) ≤ y.2.1 ∧ y.2.1 ≤ 9223372036854775807) ∧ ((-9223372036854775808) ≤ y.2.2.1 ∧ y.2.2.1 ≤ 9223372036854775807) ∧ ((-9223372036854775808) ≤ y.2.2.2 ∧ y.2.2.2 ≤ 9223372036854775807)) := by
  obtain ⟨hag, hc⟩ := h
  have ha : aggT Cw.P 57 = true := by kernel_rfl
  rw [ha] at hag
  obtain ⟨y, hy, h1⟩ := decC57 hc
  refine ⟨y, ?_, h1⟩
  rw [isAgg_spec hag, hy] <;> (try rfl)
theorem decC65 {n : Nat} {cs : List AVal} (h : OkC Cw.P (n + 1) 65 cs) : ∃ y : Int, cs = [AVal.int .u64 y] ∧ (0 ≤ y ∧ y ≤ 18446744073709551615) := by
  obtain ⟨x, rfl, h1, h2⟩ := okC_int1 Try.underlying65 h
  have m0 : IntKind.u64.min = 0 := by decide
  have m1 : IntKind.u64.max = 18446744073709551615 := by decide
  rw [m0] at h1
  rw [m1] at h2
  exact ⟨x, rfl, h1, h2⟩
theorem decV65 {n : Nat} {a : AVal} (h : OkV Cw.P (n + 1) 65 a) : ∃ y : Int, a = (AVal.int .u64 y) ∧ (0 ≤ y ∧ y ≤ 18446744073709551615) := by
  obtain ⟨hag, hc⟩ := h
  have ha : aggT Cw.P 65 = false := by kernel_rfl
  rw [ha] at hag
  rw [cells_of hag] at hc
  obtain ⟨y, hy, h1⟩ := decC65 hc
  refine ⟨y, ?_, h1⟩
  simpa using hy
theorem decC67 {n : Nat} {cs : List AVal} (h : OkC Cw.P (n + 2) 67 cs) : ∃ y : IPlace, cs = (IPlace.C y) ∧ (IPlace.ok y) := by
  have hu : Cw.P.underlying 67 = _ := Try.underlying67
  unfold OkC at h
  simp only [hu, OkF] at h
  obtain ⟨_, _, e0, h0, _, _, e1, h1, el⟩ := h
  obtain ⟨x0, rfl, hx0⟩ := decC3 (n := n + 0) h0
  obtain ⟨x1, rfl, hx1⟩ := decC3 (n := n + 0) h1
  refine ⟨⟨x0, x1⟩, ?_, ⟨hx0, hx1⟩⟩
  subst el; rw [e0, e1] <;> (try simp only [List.append_nil]) <;> (try rfl)
theorem decV67 {n : Nat} {a : AVal} (h : OkV Cw.P (n + 2) 67 a) : ∃ y : IPlace, a = (IPlace.A y) ∧ (IPlace.ok y) := by
  obtain ⟨hag, hc⟩ := h
  have ha : aggT Cw.P 67 = true := by kernel_rfl
  rw [ha] at hag
  obtain ⟨y, hy, h1⟩ := decC67 hc
  refine ⟨y, ?_, h1⟩
  rw [isAgg_spec hag, hy] <;> (try rfl)
theorem decC69 {n : Nat} {cs : List AVal} (h : OkC Cw.P (n + 3) 69 cs) : ∃ y : Act26, cs = (Act26.C y) ∧ (Act26.ok y) := by
  have hu : Cw.P.underlying 69 = _ := Try.underlying69
  unfold OkC at h
  simp only [hu, OkF] at h
  obtain ⟨_, _, e0, h0, _, _, e1, h1, _, _, e2, h2, _, _, e3, h3, el⟩ := h
  obtain ⟨x0, rfl, hx0⟩ := decC65 (n := n + 1) h0
  obtain ⟨x1, rfl, hx1⟩ := decC3 (n := n + 1) h1
  obtain ⟨x2, rfl, hx2⟩ := decC67 (n := n + 0) h2
  obtain ⟨x3, rfl, hx3⟩ := decC3 (n := n + 1) h3
  refine ⟨⟨x0, x1, x2, x3⟩, ?_, ⟨hx0, hx1, hx2, hx3⟩⟩
  subst el; rw [e0, e1, e2, e3] <;> (try simp only [List.append_nil]) <;> (try rfl)
theorem decV69 {n : Nat} {a : AVal} (h : OkV Cw.P (n + 3) 69 a) : ∃ y : Act26, a = (Act26.A y) ∧ (Act26.ok y) := by
  obtain ⟨hag, hc⟩ := h
  have ha : aggT Cw.P 69 = true := by kernel_rfl
  rw [ha] at hag
  obtain ⟨y, hy, h1⟩ := decC69 hc
  refine ⟨y, ?_, h1⟩
  rw [isAgg_spec hag, hy] <;> (try rfl)
theorem decV58 {n : Nat} {a : AVal} (h : OkV Cw.P (n + 4) 58 a) : ∃ y : List (Act26), a = (AVal.sl false 6 (y.map fun x => (Act26.A x))) ∧ (y.length * 40 ≤ 140737488351232 ∧ ∀ x ∈ y, (Act26.ok x)) := by
  obtain ⟨es, rfl, h1, h2⟩ := okV_slice (P := Cw.P) (n := n + 3) Try.underlying58 h
  have hs : shp Cw.P 69 = 6 := by kernel_rfl
  have hb : bytesOf Cw.P 69 = 40 := by kernel_rfl
  rw [hb] at h1
  rw [hs]
  obtain ⟨l, rfl, hl⟩ := list_choice (g := fun (x : Act26) => (Act26.A x)) (p := fun x => (Act26.ok x)) es fun x hx => decV69 (h2 x hx)
  exact ⟨l, rfl, by simpa using h1, hl⟩
theorem decC58 {n : Nat} {cs : List AVal} (h : OkC Cw.P (n + 4) 58 cs) : ∃ y : List (Act26), cs = [(AVal.sl false 6 (y.map fun x => (Act26.A x)))] ∧ (y.length * 40 ≤ 140737488351232 ∧ ∀ x ∈ y, (Act26.ok x)) := by
  have h1 : ∃ a, cs = [a] ∧ a.isAgg = false := by
    have h' := h
    unfold OkC at h'
    have hu : Cw.P.underlying 58 = _ := Try.underlying58
    simp only [hu] at h'
    obtain ⟨es, rfl, _⟩ := h'
    exact ⟨_, rfl, rfl⟩
  obtain ⟨a, rfl, ha⟩ := h1
  have hag : aggT Cw.P 58 = false := by kernel_rfl
  obtain ⟨y, rfl, hy⟩ := decV58 (n := n) (a := a) ⟨by rw [ha, hag], by rw [cells_of ha]; exact h⟩
  exact ⟨y, rfl, hy⟩
theorem law11 (xs : List AVal) (h : ArgsOk Cw.P 6 Try.f11.params.toList xs) : ∃ d, (evFn Cw d 11 xs ⟨[]⟩).All fun r => r.1 = [.bool true] := by
  rw [Try.params11] at h
  obtain ⟨a0, r0, rfl, h0, h⟩ := h
  obtain ⟨a1, r1, rfl, h1, h⟩ := h
  obtain ⟨a2, r2, rfl, h2, h⟩ := h
  obtain rfl : r2 = [] := h
  obtain ⟨y0, rfl, hy0⟩ := decV3 (n := 5) h0
  obtain ⟨y1, rfl, hy1⟩ := decV57 (n := 4) h1
  obtain ⟨y2, rfl, hy2⟩ := decV58 (n := 2) h2
  obtain ⟨d, h', hA⟩ := iplays_true y0 y1.1 y1.2.1 y1.2.2.1 y1.2.2.2 y2 ⟨[]⟩
  exact law_of hA
end Go.Proofs.Ythebimbdijkiiaa.Wa

namespace Go.Proofs.Ythebimbdijkiiaa.indexPlays
open Go Go.Weave Go.Proofs.Ythebimbdijkiiaa.Wa
set_option maxRecDepth 100000
theorem mixedOf : Cw.P.follows .mixedOrders = true := Try.checked.mixed
theorem dstOf : DstOK Cw.P := dstOk_of (by kernel_rfl)
theorem extOf : ExtOK Cw := fun _ _ h => by cases h
theorem ownOf : ownKnob Try.prog.godebug = none := by kernel_rfl
theorem laidOf : laidOutB Cw.P = true := by kernel_rfl
theorem lifted (os : Os) (started : os.Started) (H : Type) (enc : TypeId × Value → H) :
    ReturnsInHanded {} Try.checked os 11 .any (Rows.indexPlaysSpec.pre6 enc Try.prog Try.f11 Rows.indexPlaysRow.domain false) (Rows.indexPlaysSpec.post enc Try.prog Try.f11 false true false false) := by
  refine returnsInHanded_of_change_sized (C := Try.checked) ownOf started (by kernel_rfl) Try.func11
    (ChangeSpec.witness6 (enc := enc) (C := Try.checked) false ⟨#[], #[.int .i64 0, .agg #[.int .i64 0, .int .i64 0, .int .i64 0, .int .i64 0], .slice none 0 0], []⟩ 8 (by kernel_rfl) (by kernel_rfl) (by kernel_rfl) (by kernel_rfl)) ?_
  intro W base args ds gs before hval hW _ hsz _
  exact law_contract (C := Cw) (n := 6) mixedOf dstOf extOf ⟨rfl, rfl⟩ laidOf (by kernel_rfl) (by kernel_rfl) (tb := 4) (by kernel_rfl) Try.underlying4 rfl (fun ds hl => by
    rw [Try.params11] at hl
    match ds, hl with
    | [_, _, _], _ => exact ⟨rfl, rfl, rfl⟩) law11 W base args ds gs before hval hW hsz
theorem over : Rows.indexPlaysRow.holds Try.pinned (OpenSpec.ofChange Rows.indexPlaysSpec) :=
  OpenClaim.holds_of_wide 11 Try.f11 rfl rfl rfl rfl rfl rfl rfl ⟨rfl, rfl, rfl, rfl, rfl⟩ rfl rfl rfl rfl rfl (by kernel_rfl) Try.func11 (by kernel_rfl)
    (of_decide_eq_true (by kernel_rfl)) (by unfold Func.isWrapper; first | (rw [if_pos (by decide +kernel)]; kernel_rfl) | (rw [if_neg (by decide +kernel)]; exact ⟨rfl, rfl⟩))
    (fun os started H enc _ => lifted os started H enc)
end Go.Proofs.Ythebimbdijkiiaa.indexPlays
namespace Go.Proofs.Ythebimbdijkiiaa
/-- The statement, under a short name, for the claim. -/
theorem indexPlays_holds : Rows.IndexPlaysSaid := indexPlays.over
#print axioms indexPlays_holds
end Go.Proofs.Ythebimbdijkiiaa
