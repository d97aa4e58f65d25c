/- The statement UndoGoes: when the first ones of a plan were done, and told, the plan from the last of these on is what was left. No condition. -/
import Derived.Test.YtkpjkaikeeldfaaRows
import Derived.Test.YtkpjkaikeeldfaaVuf
namespace Go.Proofs.Ytkpjkaikeeldfaa.Wa
open Go Go.Weave
set_option maxRecDepth 100000

theorem decC3 {n : Nat} {cs : List AVal} (h : OkC Cw.P (n + 1) 3 cs) : ∃ y : Int, cs = [AVal.int .i64 y] ∧ ((-9223372036854775808) ≤ y ∧ y ≤ 9223372036854775807) := by
  obtain ⟨x, rfl, h1, h2⟩ := okC_int1 Try.underlying3 h
  have m0 : IntKind.i64.min = (-9223372036854775808) := by decide
  have m1 : IntKind.i64.max = 9223372036854775807 := by decide
  rw [m0] at h1
  rw [m1] at h2
  exact ⟨x, rfl, h1, h2⟩
theorem decV3 {n : Nat} {a : AVal} (h : OkV Cw.P (n + 1) 3 a) : ∃ y : Int, a = (AVal.int .i64 y) ∧ ((-9223372036854775808) ≤ y ∧ y ≤ 9223372036854775807) := by
  obtain ⟨hag, hc⟩ := h
  have ha : aggT Cw.P 3 = false := by kernel_rfl
  rw [ha] at hag
  rw [cells_of hag] at hc
  obtain ⟨y, hy, h1⟩ := decC3 hc
  refine ⟨y, ?_, h1⟩
  simpa using hy
theorem decC24 {n : Nat} {cs : List AVal} (h : OkC Cw.P (n + 2) 24 cs) : ∃ y : List UInt8, cs = [AVal.sl false 0 (bys y)] ∧ (y.length ≤ 140737488351232) := by
  exact okC_bytes1 (P := Cw.P) (n := n) Try.underlying24 Try.underlying5 (by kernel_rfl) (by kernel_rfl) h
theorem decV24 {n : Nat} {a : AVal} (h : OkV Cw.P (n + 2) 24 a) : ∃ y : List UInt8, a = (AVal.sl false 0 (bys y)) ∧ (y.length ≤ 140737488351232) := by
  obtain ⟨hag, hc⟩ := h
  have ha : aggT Cw.P 24 = false := by kernel_rfl
  rw [ha] at hag
  rw [cells_of hag] at hc
  obtain ⟨y, hy, h1⟩ := decC24 hc
  refine ⟨y, ?_, h1⟩
  simpa using hy
theorem decC35 {n : Nat} {cs : List AVal} (h : OkC Cw.P (n + 3) 35 cs) : ∃ y : Rec, cs = (Rec.C y) ∧ (Rec.ok y) := by
  have hu : Cw.P.underlying 35 = _ := Try.underlying35
  unfold OkC at h
  simp only [hu, OkF] at h
  obtain ⟨_, _, e0, h0, _, _, e1, h1, _, _, e2, h2, _, _, e3, h3, _, _, e4, h4, el⟩ := h
  obtain ⟨x0, rfl, hx0⟩ := decC3 (n := n + 1) h0
  obtain ⟨x1, rfl, hx1⟩ := decC3 (n := n + 1) h1
  obtain ⟨x2, rfl, hx2⟩ := decC3 (n := n + 1) h2
  obtain ⟨x3, rfl, hx3⟩ := decC3 (n := n + 1) h3
  obtain ⟨x4, rfl, hx4⟩ := decC24 (n := n + 0) h4
  refine ⟨⟨x0, x1, x2, x3, false, x4⟩, ?_, ⟨hx0, hx1, hx2, hx3, hx4⟩⟩
  subst el; rw [e0, e1, e2, e3, e4] <;> (try simp only [List.append_nil]) <;> (try rfl)
theorem decV35 {n : Nat} {a : AVal} (h : OkV Cw.P (n + 3) 35 a) : ∃ y : Rec, a = (Rec.A y) ∧ (Rec.ok y) := by
  obtain ⟨hag, hc⟩ := h
  have ha : aggT Cw.P 35 = true := by kernel_rfl
  rw [ha] at hag
  obtain ⟨y, hy, h1⟩ := decC35 hc
  refine ⟨y, ?_, h1⟩
  rw [isAgg_spec hag, hy] <;> (try rfl)
theorem decV33 {n : Nat} {a : AVal} (h : OkV Cw.P (n + 4) 33 a) : ∃ y : List (Rec), a = (AVal.sl false 6 (y.map fun x => (Rec.A x))) ∧ (y.length * 56 ≤ 140737488351232 ∧ ∀ x ∈ y, (Rec.ok x)) := by
  obtain ⟨es, rfl, h1, h2⟩ := okV_slice (P := Cw.P) (n := n + 3) Try.underlying33 h
  have hs : shp Cw.P 35 = 6 := by kernel_rfl
  have hb : bytesOf Cw.P 35 = 56 := by kernel_rfl
  rw [hb] at h1
  rw [hs]
  obtain ⟨l, rfl, hl⟩ := list_choice (g := fun (x : Rec) => (Rec.A x)) (p := fun x => (Rec.ok x)) es fun x hx => decV35 (h2 x hx)
  exact ⟨l, rfl, by simpa using h1, hl⟩
theorem decC33 {n : Nat} {cs : List AVal} (h : OkC Cw.P (n + 4) 33 cs) : ∃ y : List (Rec), cs = [(AVal.sl false 6 (y.map fun x => (Rec.A x)))] ∧ (y.length * 56 ≤ 140737488351232 ∧ ∀ x ∈ y, (Rec.ok x)) := by
  have h1 : ∃ a, cs = [a] ∧ a.isAgg = false := by
    have h' := h
    unfold OkC at h'
    have hu : Cw.P.underlying 33 = _ := Try.underlying33
    simp only [hu] at h'
    obtain ⟨es, rfl, _⟩ := h'
    exact ⟨_, rfl, rfl⟩
  obtain ⟨a, rfl, ha⟩ := h1
  have hag : aggT Cw.P 33 = false := by kernel_rfl
  obtain ⟨y, rfl, hy⟩ := decV33 (n := n) (a := a) ⟨by rw [ha, hag], by rw [cells_of ha]; exact h⟩
  exact ⟨y, rfl, hy⟩
theorem law4 (xs : List AVal) (h : ArgsOk Cw.P 6 Try.f4.params.toList xs) : ∃ d, (evFn Cw d 4 xs ⟨[]⟩).All fun r => r.1 = [.bool true] := by
  rw [Try.params4] at h
  obtain ⟨a0, r0, rfl, h0, h⟩ := h
  obtain ⟨a1, r1, rfl, h1, h⟩ := h
  obtain ⟨a2, r2, rfl, h2, h⟩ := h
  obtain rfl : r2 = [] := h
  obtain ⟨y0, rfl, hy0⟩ := decV33 (n := 2) h0
  obtain ⟨y1, rfl, hy1⟩ := decV3 (n := 5) h1
  obtain ⟨y2, rfl, hy2⟩ := decV3 (n := 5) h2
  obtain ⟨d, h', hA⟩ := ugoes_true false y0 y1 y2 (by omega) (fun r hr => (hy0.2 r hr).2.2.2.2) ⟨[]⟩
  exact law_of hA
end Go.Proofs.Ytkpjkaikeeldfaa.Wa

namespace Go.Proofs.Ytkpjkaikeeldfaa.undoGoes
open Go Go.Weave Go.Proofs.Ytkpjkaikeeldfaa.Wa
set_option maxRecDepth 100000
theorem mixedOf : Cw.P.follows .mixedOrders = true := Try.checked.mixed
theorem dstOf : DstOK Cw.P := dstOk_of (by kernel_rfl)
theorem extOf (W : World) : ExtOK Cw (wholeCtx W) := ⟨fun _ _ h => (by cases h), fun _ _ h => (by cases h)⟩
theorem ownOf : ownKnob Try.prog.godebug = none := by kernel_rfl
theorem laidOf : laidOutB Cw.P = true := by kernel_rfl
theorem lifted (os : Os) (started : os.Started) (H : Type) (enc : TypeId × Value → H) :
    ReturnsInHanded {} Try.checked os 4 .any (Rows.undoGoesSpec.pre6 enc Try.prog Try.f4 Rows.undoGoesRow.domain false) (Rows.undoGoesSpec.post enc Try.prog Try.f4 false true false false) := by
  refine returnsInHanded_of_change_sized (C := Try.checked) ownOf started (by kernel_rfl) Try.func4
    (ChangeSpec.witness6 (enc := enc) (C := Try.checked) false ⟨#[], #[.slice none 0 0, .int .i64 0, .int .i64 0], []⟩ 8 (by kernel_rfl) (by kernel_rfl) (by kernel_rfl) (by kernel_rfl)) ?_
  intro W base args ds gs before hval hW _ hsz _
  exact law_contract (C := Cw) (n := 6) mixedOf dstOf extOf ⟨rfl, rfl⟩ laidOf (by kernel_rfl) (by kernel_rfl) (tb := 4) (by kernel_rfl) Try.underlying4 rfl (fun ds hl => by
    rw [Try.params4] at hl
    match ds, hl with
    | [_, _, _], _ => exact ⟨rfl, rfl, rfl⟩) law4 W base args ds gs before hval hW hsz
theorem over : Rows.undoGoesRow.holds Try.pinned (OpenSpec.ofChange Rows.undoGoesSpec) :=
  OpenClaim.holds_of_wide 4 Try.f4 rfl rfl rfl rfl rfl rfl rfl ⟨rfl, rfl, rfl, rfl, rfl⟩ rfl rfl rfl rfl rfl (by kernel_rfl) Try.func4 (by kernel_rfl)
    (of_decide_eq_true (by kernel_rfl)) (by unfold Func.isWrapper; first | (rw [if_pos (by decide +kernel)]; kernel_rfl) | (rw [if_neg (by decide +kernel)]; exact ⟨rfl, rfl⟩))
    (fun os started H enc _ => lifted os started H enc)
end Go.Proofs.Ytkpjkaikeeldfaa.undoGoes
namespace Go.Proofs.Ytkpjkaikeeldfaa
/-- The statement, under a short name, for the claim. -/
theorem undoGoes_holds : Rows.UndoGoesSaid := undoGoes.over
#print axioms undoGoes_holds
end Go.Proofs.Ytkpjkaikeeldfaa
