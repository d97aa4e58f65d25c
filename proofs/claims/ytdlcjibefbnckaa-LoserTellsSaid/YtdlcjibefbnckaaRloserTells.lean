/- The statement LoserTells: what any records come to, and which transactions were not ended; or that they can't be. No condition. -/
import Derived.Test.YtdlcjibefbnckaaRows
import Derived.Test.YtdlcjibefbnckaaM34
namespace Go.Proofs.Ytdlcjibefbnckaa.Wa
open Go Go.Weave
set_option maxRecDepth 100000

theorem decC3 {n : Nat} {cs : List AVal} (h : OkC Cw.P (n + 1) 3 cs) : ∃ y : Int, cs = [AVal.int .i64 y] ∧ ((-9223372036854775808) ≤ y ∧ y ≤ 9223372036854775807) := by
  obtain ⟨x, rfl, h1, h2⟩ := okC_int1 Try.underlying3 h
  have m0 : IntKind.i64.min = (-9223372036854775808) := by decide
  have m1 : IntKind.i64.max = 9223372036854775807 := by decide
  rw [m0] at h1
  rw [m1] at h2
  exact ⟨x, rfl, h1, h2⟩
theorem decV3 {n : Nat} {a : AVal} (h : OkV Cw.P (n + 1) 3 a) : ∃ y : Int, a = (AVal.int .i64 y) ∧ ((-9223372036854775808) ≤ y ∧ y ≤ 9223372036854775807) := by
  obtain ⟨hag, hc⟩ := h
  have ha : aggT Cw.P 3 = false := by kernel_rfl
  rw [ha] at hag
  rw [cells_of hag] at hc
  obtain ⟨y, hy, h1⟩ := decC3 hc
  refine ⟨y, ?_, h1⟩
  simpa using hy
theorem decC136 {n : Nat} {cs : List AVal} (h : OkC Cw.P (n + 2) 136 cs) : ∃ y : List UInt8, cs = [AVal.sl false 0 (bys y)] ∧ (y.length ≤ 140737488351232) := by
  exact okC_bytes1 (P := Cw.P) (n := n) Try.underlying136 Try.underlying5 (by kernel_rfl) (by kernel_rfl) h
theorem decV136 {n : Nat} {a : AVal} (h : OkV Cw.P (n + 2) 136 a) : ∃ y : List UInt8, a = (AVal.sl false 0 (bys y)) ∧ (y.length ≤ 140737488351232) := by
  obtain ⟨hag, hc⟩ := h
  have ha : aggT Cw.P 136 = false := by kernel_rfl
  rw [ha] at hag
  rw [cells_of hag] at hc
  obtain ⟨y, hy, h1⟩ := decC136 hc
  refine ⟨y, ?_, h1⟩
  simpa using hy
theorem decC138 {n : Nat} {cs : List AVal} (h : OkC Cw.P (n + 3) 138 cs) : ∃ y : Rec, cs = (Rec.C y) ∧ (Rec.ok y) := by
  have hu : Cw.P.underlying 138 = _ := Try.underlying138
  unfold OkC at h
  simp only [hu, OkF] at h
  obtain ⟨_, _, e0, h0, _, _, e1, h1, _, _, e2, h2, _, _, e3, h3, _, _, e4, h4, el⟩ := h
  obtain ⟨x0, rfl, hx0⟩ := decC3 (n := n + 1) h0
  obtain ⟨x1, rfl, hx1⟩ := decC3 (n := n + 1) h1
  obtain ⟨x2, rfl, hx2⟩ := decC3 (n := n + 1) h2
  obtain ⟨x3, rfl, hx3⟩ := decC3 (n := n + 1) h3
  obtain ⟨x4, rfl, hx4⟩ := decC136 (n := n + 0) h4
  refine ⟨⟨x0, x1, x2, x3, false, x4⟩, ?_, ⟨hx0, hx1, hx2, hx3, hx4, rfl⟩⟩
  subst el; rw [e0, e1, e2, e3, e4] <;> (try simp only [List.append_nil]) <;> (try rfl)
theorem decV138 {n : Nat} {a : AVal} (h : OkV Cw.P (n + 3) 138 a) : ∃ y : Rec, a = (Rec.A y) ∧ (Rec.ok y) := by
  obtain ⟨hag, hc⟩ := h
  have ha : aggT Cw.P 138 = true := by kernel_rfl
  rw [ha] at hag
  obtain ⟨y, hy, h1⟩ := decC138 hc
  refine ⟨y, ?_, h1⟩
  rw [isAgg_spec hag, hy] <;> (try rfl)
theorem decV79 {n : Nat} {a : AVal} (h : OkV Cw.P (n + 4) 79 a) : ∃ y : List (Rec), a = (AVal.sl false 6 (y.map fun x => (Rec.A x))) ∧ (y.length * 56 ≤ 140737488351232 ∧ ∀ x ∈ y, (Rec.ok x)) := by
  obtain ⟨es, rfl, h1, h2⟩ := okV_slice (P := Cw.P) (n := n + 3) Try.underlying79 h
  have hs : shp Cw.P 138 = 6 := by kernel_rfl
  have hb : bytesOf Cw.P 138 = 56 := by kernel_rfl
  rw [hb] at h1
  rw [hs]
  obtain ⟨l, rfl, hl⟩ := list_choice (g := fun (x : Rec) => (Rec.A x)) (p := fun x => (Rec.ok x)) es fun x hx => decV138 (h2 x hx)
  exact ⟨l, rfl, by simpa using h1, hl⟩
theorem decC79 {n : Nat} {cs : List AVal} (h : OkC Cw.P (n + 4) 79 cs) : ∃ y : List (Rec), cs = [(AVal.sl false 6 (y.map fun x => (Rec.A x)))] ∧ (y.length * 56 ≤ 140737488351232 ∧ ∀ x ∈ y, (Rec.ok x)) := by
  have h1 : ∃ a, cs = [a] ∧ a.isAgg = false := by
    have h' := h
    unfold OkC at h'
    have hu : Cw.P.underlying 79 = _ := Try.underlying79
    simp only [hu] at h'
    obtain ⟨es, rfl, _⟩ := h'
    exact ⟨_, rfl, rfl⟩
  obtain ⟨a, rfl, ha⟩ := h1
  have hag : aggT Cw.P 79 = false := by kernel_rfl
  obtain ⟨y, rfl, hy⟩ := decV79 (n := n) (a := a) ⟨by rw [ha, hag], by rw [cells_of ha]; exact h⟩
  exact ⟨y, rfl, hy⟩
theorem law8 (xs : List AVal) (h : ArgsOk Cw.P 6 Try.f8.params.toList xs) : ∃ d, (evFn Cw d 8 xs ⟨[]⟩).All fun r => r.1 = [.bool true] := by
  rw [Try.params8] at h
  obtain ⟨a0, r0, rfl, h0, h⟩ := h
  obtain rfl : r0 = [] := h
  obtain ⟨y0, rfl, hy0⟩ := decV79 (n := 2) h0
  have hl : y0.length ≤ 140737488351232 := by have := hy0.1; omega
  obtain ⟨d, h', hA⟩ := ltells_true false y0 hl (fun r hr => ⟨(hy0.2 r hr).2.2.2.2.1, (hy0.2 r hr).2.2.2.2.2⟩) ⟨[]⟩
  exact law_of hA
end Go.Proofs.Ytdlcjibefbnckaa.Wa

namespace Go.Proofs.Ytdlcjibefbnckaa.loserTells
open Go Go.Weave Go.Proofs.Ytdlcjibefbnckaa.Wa
set_option maxRecDepth 100000
theorem mixedOf : Cw.P.follows .mixedOrders = true := Try.checked.mixed
theorem dstOf : DstOK Cw.P := dstOk_of (by kernel_rfl)
theorem extOf (W : World) : ExtOK Cw (wholeCtx W) := ⟨fun _ _ h => (by cases h), (fun _ _ h => (by cases h))⟩
theorem ownOf : ownKnob Try.prog.godebug = none := by kernel_rfl
theorem laidOf : laidOutB Cw.P = true := by kernel_rfl
theorem lifted (os : Os) (started : os.Started) (H : Type) (enc : TypeId × Value → H) :
    ReturnsInHanded {} Try.checked os 8 .any (Rows.loserTellsSpec.pre6 enc Try.prog Try.f8 Rows.loserTellsRow.domain false) (Rows.loserTellsSpec.post enc Try.prog Try.f8 false true false false) := by
  refine returnsInHanded_of_change_sized (C := Try.checked) ownOf started (by kernel_rfl) Try.func8
    (ChangeSpec.witness6 (enc := enc) (C := Try.checked) false ⟨#[], #[.slice none 0 0], []⟩ 8 (by kernel_rfl) (by kernel_rfl) (by kernel_rfl) (by kernel_rfl)) ?_
  intro W base args ds gs before hval hW _ hsz _
  exact law_contract (C := Cw) (n := 6) mixedOf dstOf extOf ⟨rfl, rfl⟩ laidOf (by kernel_rfl) (by kernel_rfl) (tb := 4) (by kernel_rfl) Try.underlying4 rfl (fun ds hl => by
    rw [Try.params8] at hl
    match ds, hl with
    | [_], _ => exact ⟨rfl, rfl, rfl⟩) law8 W base args ds gs before hval hW hsz
theorem over : Rows.loserTellsRow.holds Try.pinned (OpenSpec.ofChange Rows.loserTellsSpec) :=
  OpenClaim.holds_of_wide 8 Try.f8 rfl rfl rfl rfl rfl rfl rfl ⟨rfl, rfl, rfl, rfl, rfl⟩ rfl rfl rfl rfl rfl (by kernel_rfl) Try.func8 (by kernel_rfl)
    (of_decide_eq_true (by kernel_rfl)) (by unfold Func.isWrapper; first | (rw [if_pos (by decide +kernel)]; kernel_rfl) | (rw [if_neg (by decide +kernel)]; exact ⟨rfl, rfl⟩))
    (fun os started H enc _ => lifted os started H enc)
end Go.Proofs.Ytdlcjibefbnckaa.loserTells
namespace Go.Proofs.Ytdlcjibefbnckaa
/-- The statement, under a short name, for the claim. -/
theorem loserTells_holds : Rows.LoserTellsSaid := loserTells.over
#print axioms loserTells_holds
end Go.Proofs.Ytdlcjibefbnckaa
