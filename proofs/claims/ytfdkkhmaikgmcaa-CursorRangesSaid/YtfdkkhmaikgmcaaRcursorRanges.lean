/- The statement CursorRanges: the pairs of any tree from any key up to any other one; all, forward, and the other way about; of nothing there is nothing. No condition. -/
import Derived.Test.YtfdkkhmaikgmcaaRows
import Derived.Test.YtfdkkhmaikgmcaaVth
namespace Go.Proofs.Ytfdkkhmaikgmcaa.Wa
open Go Go.Weave
set_option maxRecDepth 100000

theorem decC9 {n : Nat} {cs : List AVal} (h : OkC Cw.P (n + 1) 9 cs) : ∃ y : List UInt8, cs = [AVal.str y] ∧ (y.length ≤ 140737488351232) := by
  exact okC_str1 Try.underlying9 h
theorem decV9 {n : Nat} {a : AVal} (h : OkV Cw.P (n + 1) 9 a) : ∃ y : List UInt8, a = (AVal.str y) ∧ (y.length ≤ 140737488351232) := by
  obtain ⟨hag, hc⟩ := h
  have ha : aggT Cw.P 9 = false := by kernel_rfl
  rw [ha] at hag
  rw [cells_of hag] at hc
  obtain ⟨y, hy, h1⟩ := decC9 hc
  refine ⟨y, ?_, h1⟩
  simpa using hy
theorem decC76 {n : Nat} {cs : List AVal} (h : OkC Cw.P (n + 2) 76 cs) : ∃ y : KPair, cs = (KPair.C y) ∧ (KPair.ok y) := by
  have hu : Cw.P.underlying 76 = _ := Try.underlying76
  unfold OkC at h
  simp only [hu, OkF] at h
  obtain ⟨_, _, e0, h0, _, _, e1, h1, el⟩ := h
  obtain ⟨x0, rfl, hx0⟩ := decC9 (n := n + 0) h0
  obtain ⟨x1, rfl, hx1⟩ := decC9 (n := n + 0) h1
  refine ⟨⟨x0, x1⟩, ?_, ⟨hx0, hx1⟩⟩
  subst el; rw [e0, e1] <;> (try simp only [List.append_nil]) <;> (try rfl)
theorem decV76 {n : Nat} {a : AVal} (h : OkV Cw.P (n + 2) 76 a) : ∃ y : KPair, a = (KPair.A y) ∧ (KPair.ok y) := by
  obtain ⟨hag, hc⟩ := h
  have ha : aggT Cw.P 76 = true := by kernel_rfl
  rw [ha] at hag
  obtain ⟨y, hy, h1⟩ := decC76 hc
  refine ⟨y, ?_, h1⟩
  rw [isAgg_spec hag, hy] <;> (try rfl)
theorem decV63 {n : Nat} {a : AVal} (h : OkV Cw.P (n + 3) 63 a) : ∃ y : List (KPair), a = (AVal.sl false 3 (y.map fun x => (KPair.A x))) ∧ (y.length * 32 ≤ 140737488351232 ∧ ∀ x ∈ y, (KPair.ok x)) := by
  obtain ⟨es, rfl, h1, h2⟩ := okV_slice (P := Cw.P) (n := n + 2) Try.underlying63 h
  have hs : shp Cw.P 76 = 3 := by kernel_rfl
  have hb : bytesOf Cw.P 76 = 32 := by kernel_rfl
  rw [hb] at h1
  rw [hs]
  obtain ⟨l, rfl, hl⟩ := list_choice (g := fun (x : KPair) => (KPair.A x)) (p := fun x => (KPair.ok x)) es fun x hx => decV76 (h2 x hx)
  exact ⟨l, rfl, by simpa using h1, hl⟩
theorem decC63 {n : Nat} {cs : List AVal} (h : OkC Cw.P (n + 3) 63 cs) : ∃ y : List (KPair), cs = [(AVal.sl false 3 (y.map fun x => (KPair.A x)))] ∧ (y.length * 32 ≤ 140737488351232 ∧ ∀ x ∈ y, (KPair.ok x)) := by
  have h1 : ∃ a, cs = [a] ∧ a.isAgg = false := by
    have h' := h
    unfold OkC at h'
    have hu : Cw.P.underlying 63 = _ := Try.underlying63
    simp only [hu] at h'
    obtain ⟨es, rfl, _⟩ := h'
    exact ⟨_, rfl, rfl⟩
  obtain ⟨a, rfl, ha⟩ := h1
  have hag : aggT Cw.P 63 = false := by kernel_rfl
  obtain ⟨y, rfl, hy⟩ := decV63 (n := n) (a := a) ⟨by rw [ha, hag], by rw [cells_of ha]; exact h⟩
  exact ⟨y, rfl, hy⟩
theorem decC74 {n : Nat} {cs : List AVal} (h : OkC Cw.P (n + 2) 74 cs) : ∃ y : (List UInt8) × (List UInt8), cs = [(AVal.str y.1), (AVal.str y.2)] ∧ ((y.1.length ≤ 140737488351232) ∧ (y.2.length ≤ 140737488351232)) := by
  have hu : Cw.P.underlying 74 = _ := Try.underlying74
  unfold OkC at h
  simp only [hu, OkN] at h
  obtain ⟨_, _, e0, h0, _, _, e1, h1, el⟩ := h
  obtain ⟨x0, rfl, hx0⟩ := decC9 (n := n + 0) h0
  obtain ⟨x1, rfl, hx1⟩ := decC9 (n := n + 0) h1
  refine ⟨⟨x0, x1⟩, ?_, ⟨hx0, hx1⟩⟩
  subst el; rw [e0, e1] <;> (try simp only [List.append_nil]) <;> (try rfl)
theorem decV74 {n : Nat} {a : AVal} (h : OkV Cw.P (n + 2) 74 a) : ∃ y : (List UInt8) × (List UInt8), a = (AVal.agg [(AVal.str y.1), (AVal.str y.2)]) ∧ ((y.1.length ≤ 140737488351232) ∧ (y.2.length ≤ 140737488351232)) := by
  obtain ⟨hag, hc⟩ := h
  have ha : aggT Cw.P 74 = true := by kernel_rfl
  rw [ha] at hag
  obtain ⟨y, hy, h1⟩ := decC74 hc
  refine ⟨y, ?_, h1⟩
  rw [isAgg_spec hag, hy] <;> (try rfl)
theorem decC3 {n : Nat} {cs : List AVal} (h : OkC Cw.P (n + 1) 3 cs) : ∃ y : Int, cs = [AVal.int .i64 y] ∧ ((-9223372036854775808) ≤ y ∧ y ≤ 9223372036854775807) := by
  obtain ⟨x, rfl, h1, h2⟩ := okC_int1 Try.underlying3 h
  have m0 : IntKind.i64.min = (-9223372036854775808) := by decide
  have m1 : IntKind.i64.max = 9223372036854775807 := by decide
  rw [m0] at h1
  rw [m1] at h2
  exact ⟨x, rfl, h1, h2⟩
theorem decV3 {n : Nat} {a : AVal} (h : OkV Cw.P (n + 1) 3 a) : ∃ y : Int, a = (AVal.int .i64 y) ∧ ((-9223372036854775808) ≤ y ∧ y ≤ 9223372036854775807) := by
  obtain ⟨hag, hc⟩ := h
  have ha : aggT Cw.P 3 = false := by kernel_rfl
  rw [ha] at hag
  rw [cells_of hag] at hc
  obtain ⟨y, hy, h1⟩ := decC3 hc
  refine ⟨y, ?_, h1⟩
  simpa using hy
theorem law11 (xs : List AVal) (h : ArgsOk Cw.P 6 Try.f11.params.toList xs) : ∃ d, (evFn Cw d 11 xs ⟨[]⟩).All fun r => r.1 = [.bool true] := by
  rw [Try.params11] at h
  obtain ⟨a0, r0, rfl, h0, h⟩ := h
  obtain ⟨a1, r1, rfl, h1, h⟩ := h
  obtain ⟨a2, r2, rfl, h2, h⟩ := h
  obtain rfl : r2 = [] := h
  obtain ⟨y0, rfl, hy0⟩ := decV63 (n := 3) h0
  obtain ⟨y1, rfl, hy1⟩ := decV74 (n := 4) h1
  obtain ⟨y2, rfl, hy2⟩ := decV3 (n := 5) h2
  obtain ⟨d, h', hA⟩ := cranges_true y0 y1.1 y1.2 y2 ⟨[]⟩ (fun p hp => (hy0.2 p hp).1)
  exact law_of hA
end Go.Proofs.Ytfdkkhmaikgmcaa.Wa

namespace Go.Proofs.Ytfdkkhmaikgmcaa.cursorRanges
open Go Go.Weave Go.Proofs.Ytfdkkhmaikgmcaa.Wa
set_option maxRecDepth 100000
theorem mixedOf : Cw.P.follows .mixedOrders = true := Try.checked.mixed
theorem dstOf : DstOK Cw.P := dstOk_of (by kernel_rfl)
theorem extOf : ExtOK Cw := fun _ _ h => by cases h
theorem ownOf : ownKnob Try.prog.godebug = none := by kernel_rfl
theorem laidOf : laidOutB Cw.P = true := by kernel_rfl
theorem lifted (os : Os) (started : os.Started) (H : Type) (enc : TypeId × Value → H) :
    ReturnsInHanded {} Try.checked os 11 .any (Rows.cursorRangesSpec.pre6 enc Try.prog Try.f11 Rows.cursorRangesRow.domain false) (Rows.cursorRangesSpec.post enc Try.prog Try.f11 false true false false) := by
  refine returnsInHanded_of_change_sized (C := Try.checked) ownOf started (by kernel_rfl) Try.func11
    (ChangeSpec.witness6 (enc := enc) (C := Try.checked) false ⟨#[], #[.slice none 0 0, .agg #[.string ByteArray.empty, .string ByteArray.empty], .int .i64 0], []⟩ 8 (by kernel_rfl) (by kernel_rfl) (by kernel_rfl) (by kernel_rfl)) ?_
  intro W base args ds gs before hval hW _ hsz _
  exact law_contract (C := Cw) (n := 6) mixedOf dstOf extOf ⟨rfl, rfl⟩ laidOf (by kernel_rfl) (by kernel_rfl) (tb := 4) (by kernel_rfl) Try.underlying4 rfl (fun ds hl => by
    rw [Try.params11] at hl
    match ds, hl with
    | [_, _, _], _ => exact ⟨rfl, rfl, rfl⟩) law11 W base args ds gs before hval hW hsz
theorem over : Rows.cursorRangesRow.holds Try.pinned (OpenSpec.ofChange Rows.cursorRangesSpec) :=
  OpenClaim.holds_of_wide 11 Try.f11 rfl rfl rfl rfl rfl rfl rfl ⟨rfl, rfl, rfl, rfl, rfl⟩ rfl rfl rfl rfl rfl (by kernel_rfl) Try.func11 (by kernel_rfl)
    (of_decide_eq_true (by kernel_rfl)) (by unfold Func.isWrapper; first | (rw [if_pos (by decide +kernel)]; kernel_rfl) | (rw [if_neg (by decide +kernel)]; exact ⟨rfl, rfl⟩))
    (fun os started H enc _ => lifted os started H enc)
end Go.Proofs.Ytfdkkhmaikgmcaa.cursorRanges
namespace Go.Proofs.Ytfdkkhmaikgmcaa
/-- The statement, under a short name, for the claim. -/
theorem cursorRanges_holds : Rows.CursorRangesSaid := cursorRanges.over
#print axioms cursorRanges_holds
end Go.Proofs.Ytfdkkhmaikgmcaa
