/- The statement FoldFinds: behind how many of any batches there are just any pairs, which keys are touched. No condition. -/
import Derived.Test.YtbddfpakhealbaaRows
import Derived.Test.YtbddfpakhealbaaM34
namespace Go.Proofs.Ytbddfpakhealbaa.Wb
open Go Go.Weave Go.Proofs.Ytbddfpakhealbaa.Wa
set_option maxRecDepth 100000

theorem decC3 {n : Nat} {cs : List AVal} (h : OkC Cw.P (n + 1) 3 cs) : ∃ y : Int, cs = [AVal.int .i64 y] ∧ ((-9223372036854775808) ≤ y ∧ y ≤ 9223372036854775807) := by
  obtain ⟨x, rfl, h1, h2⟩ := okC_int1 Try.underlying3 h
  have m0 : IntKind.i64.min = (-9223372036854775808) := by decide
  have m1 : IntKind.i64.max = 9223372036854775807 := by decide
  rw [m0] at h1
  rw [m1] at h2
  exact ⟨x, rfl, h1, h2⟩
theorem decV3 {n : Nat} {a : AVal} (h : OkV Cw.P (n + 1) 3 a) : ∃ y : Int, a = (AVal.int .i64 y) ∧ ((-9223372036854775808) ≤ y ∧ y ≤ 9223372036854775807) := by
  obtain ⟨hag, hc⟩ := h
  have ha : aggT Cw.P 3 = false := by kernel_rfl
  rw [ha] at hag
  rw [cells_of hag] at hc
  obtain ⟨y, hy, h1⟩ := decC3 hc
  refine ⟨y, ?_, h1⟩
  simpa using hy
theorem decC9 {n : Nat} {cs : List AVal} (h : OkC Cw.P (n + 1) 9 cs) : ∃ y : List UInt8, cs = [AVal.str y] ∧ (y.length ≤ 140737488351232) := by
  exact okC_str1 Try.underlying9 h
theorem decV9 {n : Nat} {a : AVal} (h : OkV Cw.P (n + 1) 9 a) : ∃ y : List UInt8, a = (AVal.str y) ∧ (y.length ≤ 140737488351232) := by
  obtain ⟨hag, hc⟩ := h
  have ha : aggT Cw.P 9 = false := by kernel_rfl
  rw [ha] at hag
  rw [cells_of hag] at hc
  obtain ⟨y, hy, h1⟩ := decC9 hc
  refine ⟨y, ?_, h1⟩
  simpa using hy
theorem decC44 {n : Nat} {cs : List AVal} (h : OkC Cw.P (n + 2) 44 cs) : ∃ y : KOp, cs = (KOp.C y) ∧ (KOp.ok y) := by
  have hu : Cw.P.underlying 44 = _ := Try.underlying44
  unfold OkC at h
  simp only [hu, OkF] at h
  obtain ⟨_, _, e0, h0, _, _, e1, h1, _, _, e2, h2, el⟩ := h
  obtain ⟨x0, rfl, hx0⟩ := decC3 (n := n + 0) h0
  obtain ⟨x1, rfl, hx1⟩ := decC9 (n := n + 0) h1
  obtain ⟨x2, rfl, hx2⟩ := decC9 (n := n + 0) h2
  refine ⟨⟨x0, x1, x2⟩, ?_, ⟨hx0, hx1, hx2⟩⟩
  subst el; rw [e0, e1, e2] <;> (try simp only [List.append_nil]) <;> (try rfl)
theorem decV44 {n : Nat} {a : AVal} (h : OkV Cw.P (n + 2) 44 a) : ∃ y : KOp, a = (KOp.A y) ∧ (KOp.ok y) := by
  obtain ⟨hag, hc⟩ := h
  have ha : aggT Cw.P 44 = true := by kernel_rfl
  rw [ha] at hag
  obtain ⟨y, hy, h1⟩ := decC44 hc
  refine ⟨y, ?_, h1⟩
  rw [isAgg_spec hag, hy] <;> (try rfl)
theorem decV32 {n : Nat} {a : AVal} (h : OkV Cw.P (n + 3) 32 a) : ∃ y : List (KOp), a = (AVal.sl false 4 (y.map fun x => (KOp.A x))) ∧ (y.length * 40 ≤ 140737488351232 ∧ ∀ x ∈ y, (KOp.ok x)) := by
  obtain ⟨es, rfl, h1, h2⟩ := okV_slice (P := Cw.P) (n := n + 2) Try.underlying32 h
  have hs : shp Cw.P 44 = 4 := by kernel_rfl
  have hb : bytesOf Cw.P 44 = 40 := by kernel_rfl
  rw [hb] at h1
  rw [hs]
  obtain ⟨l, rfl, hl⟩ := list_choice (g := fun (x : KOp) => (KOp.A x)) (p := fun z => (KOp.ok z)) es fun x hx => decV44 (h2 x hx)
  exact ⟨l, rfl, by simpa using h1, hl⟩
theorem decC32 {n : Nat} {cs : List AVal} (h : OkC Cw.P (n + 3) 32 cs) : ∃ y : List (KOp), cs = [(AVal.sl false 4 (y.map fun x => (KOp.A x)))] ∧ (y.length * 40 ≤ 140737488351232 ∧ ∀ x ∈ y, (KOp.ok x)) := by
  have h1 : ∃ a, cs = [a] ∧ a.isAgg = false := by
    have h' := h
    unfold OkC at h'
    have hu : Cw.P.underlying 32 = _ := Try.underlying32
    simp only [hu] at h'
    obtain ⟨es, rfl, _⟩ := h'
    exact ⟨_, rfl, rfl⟩
  obtain ⟨a, rfl, ha⟩ := h1
  have hag : aggT Cw.P 32 = false := by kernel_rfl
  obtain ⟨y, rfl, hy⟩ := decV32 (n := n) (a := a) ⟨by rw [ha, hag], by rw [cells_of ha]; exact h⟩
  exact ⟨y, rfl, hy⟩
theorem decV22 {n : Nat} {a : AVal} (h : OkV Cw.P (n + 4) 22 a) : ∃ y : List (List (KOp)), a = (AVal.sl false 0 (y.map fun x => (AVal.sl false 4 (x.map fun x => (KOp.A x))))) ∧ (y.length * 24 ≤ 140737488351232 ∧ ∀ z ∈ y, (z.length * 40 ≤ 140737488351232 ∧ ∀ x ∈ z, (KOp.ok x))) := by
  obtain ⟨es, rfl, h1, h2⟩ := okV_slice (P := Cw.P) (n := n + 3) Try.underlying22 h
  have hs : shp Cw.P 32 = 0 := by kernel_rfl
  have hb : bytesOf Cw.P 32 = 24 := by kernel_rfl
  rw [hb] at h1
  rw [hs]
  obtain ⟨l, rfl, hl⟩ := list_choice (g := fun (x : List (KOp)) => (AVal.sl false 4 (x.map fun x => (KOp.A x)))) (p := fun z => (z.length * 40 ≤ 140737488351232 ∧ ∀ x ∈ z, (KOp.ok x))) es fun x hx => decV32 (h2 x hx)
  exact ⟨l, rfl, by simpa using h1, hl⟩
theorem decC22 {n : Nat} {cs : List AVal} (h : OkC Cw.P (n + 4) 22 cs) : ∃ y : List (List (KOp)), cs = [(AVal.sl false 0 (y.map fun x => (AVal.sl false 4 (x.map fun x => (KOp.A x)))))] ∧ (y.length * 24 ≤ 140737488351232 ∧ ∀ z ∈ y, (z.length * 40 ≤ 140737488351232 ∧ ∀ x ∈ z, (KOp.ok x))) := by
  have h1 : ∃ a, cs = [a] ∧ a.isAgg = false := by
    have h' := h
    unfold OkC at h'
    have hu : Cw.P.underlying 22 = _ := Try.underlying22
    simp only [hu] at h'
    obtain ⟨es, rfl, _⟩ := h'
    exact ⟨_, rfl, rfl⟩
  obtain ⟨a, rfl, ha⟩ := h1
  have hag : aggT Cw.P 22 = false := by kernel_rfl
  obtain ⟨y, rfl, hy⟩ := decV22 (n := n) (a := a) ⟨by rw [ha, hag], by rw [cells_of ha]; exact h⟩
  exact ⟨y, rfl, hy⟩
theorem decC39 {n : Nat} {cs : List AVal} (h : OkC Cw.P (n + 2) 39 cs) : ∃ y : KPair, cs = (KPair.C y) ∧ (KPair.ok y) := by
  have hu : Cw.P.underlying 39 = _ := Try.underlying39
  unfold OkC at h
  simp only [hu, OkF] at h
  obtain ⟨_, _, e0, h0, _, _, e1, h1, el⟩ := h
  obtain ⟨x0, rfl, hx0⟩ := decC9 (n := n + 0) h0
  obtain ⟨x1, rfl, hx1⟩ := decC9 (n := n + 0) h1
  refine ⟨⟨x0, x1⟩, ?_, ⟨hx0, hx1⟩⟩
  subst el; rw [e0, e1] <;> (try simp only [List.append_nil]) <;> (try rfl)
theorem decV39 {n : Nat} {a : AVal} (h : OkV Cw.P (n + 2) 39 a) : ∃ y : KPair, a = (KPair.A y) ∧ (KPair.ok y) := by
  obtain ⟨hag, hc⟩ := h
  have ha : aggT Cw.P 39 = true := by kernel_rfl
  rw [ha] at hag
  obtain ⟨y, hy, h1⟩ := decC39 hc
  refine ⟨y, ?_, h1⟩
  rw [isAgg_spec hag, hy] <;> (try rfl)
theorem decV26 {n : Nat} {a : AVal} (h : OkV Cw.P (n + 3) 26 a) : ∃ y : List (KPair), a = (AVal.sl false 3 (y.map fun x => (KPair.A x))) ∧ (y.length * 32 ≤ 140737488351232 ∧ ∀ x ∈ y, (KPair.ok x)) := by
  obtain ⟨es, rfl, h1, h2⟩ := okV_slice (P := Cw.P) (n := n + 2) Try.underlying26 h
  have hs : shp Cw.P 39 = 3 := by kernel_rfl
  have hb : bytesOf Cw.P 39 = 32 := by kernel_rfl
  rw [hb] at h1
  rw [hs]
  obtain ⟨l, rfl, hl⟩ := list_choice (g := fun (x : KPair) => (KPair.A x)) (p := fun z => (KPair.ok z)) es fun x hx => decV39 (h2 x hx)
  exact ⟨l, rfl, by simpa using h1, hl⟩
theorem decC26 {n : Nat} {cs : List AVal} (h : OkC Cw.P (n + 3) 26 cs) : ∃ y : List (KPair), cs = [(AVal.sl false 3 (y.map fun x => (KPair.A x)))] ∧ (y.length * 32 ≤ 140737488351232 ∧ ∀ x ∈ y, (KPair.ok x)) := by
  have h1 : ∃ a, cs = [a] ∧ a.isAgg = false := by
    have h' := h
    unfold OkC at h'
    have hu : Cw.P.underlying 26 = _ := Try.underlying26
    simp only [hu] at h'
    obtain ⟨es, rfl, _⟩ := h'
    exact ⟨_, rfl, rfl⟩
  obtain ⟨a, rfl, ha⟩ := h1
  have hag : aggT Cw.P 26 = false := by kernel_rfl
  obtain ⟨y, rfl, hy⟩ := decV26 (n := n) (a := a) ⟨by rw [ha, hag], by rw [cells_of ha]; exact h⟩
  exact ⟨y, rfl, hy⟩
theorem law4 (xs : List AVal) (h : ArgsOk Cw.P 6 Try.f4.params.toList xs) : ∃ d, (evFn Cw d 4 xs ⟨[]⟩).All fun r => r.1 = [.bool true] := by
  rw [Try.params4] at h
  obtain ⟨a0, r0, rfl, h0, h⟩ := h
  obtain ⟨a1, r1, rfl, h1, h⟩ := h
  obtain ⟨a2, r2, rfl, h2, h⟩ := h
  obtain rfl : r2 = [] := h
  obtain ⟨y0, rfl, hy0⟩ := decV22 (n := 2) h0
  obtain ⟨y1, rfl, hy1⟩ := decV3 (n := 5) h1
  obtain ⟨y2, rfl, hy2⟩ := decV26 (n := 3) h2
  have hl : y0.length ≤ 140737488351232 := by have := hy0.1; omega
  obtain ⟨d, h', hA⟩ := ffinds_true false false y0 y1 y2 hl ⟨[]⟩
  exact law_of hA
end Go.Proofs.Ytbddfpakhealbaa.Wb

namespace Go.Proofs.Ytbddfpakhealbaa.foldFinds
open Go Go.Weave Go.Proofs.Ytbddfpakhealbaa.Wb
set_option maxRecDepth 100000
theorem mixedOf : Cw.P.follows .mixedOrders = true := Try.checked.mixed
theorem dstOf : DstOK Cw.P := dstOk_of (by kernel_rfl)
theorem extOf (W : World) : ExtOK Cw (wholeCtx W) := ⟨fun _ _ h => (by cases h), (fun _ _ h => fold_exts4 h)⟩
theorem ownOf : ownKnob Try.prog.godebug = none := by kernel_rfl
theorem laidOf : laidOutB Cw.P = true := by kernel_rfl
theorem lifted (os : Os) (started : os.Started) (H : Type) (enc : TypeId × Value → H) :
    ReturnsInHanded {} Try.checked os 4 .any (Rows.foldFindsSpec.pre6 enc Try.prog Try.f4 Rows.foldFindsRow.domain false) (Rows.foldFindsSpec.post enc Try.prog Try.f4 false true false false) := by
  refine returnsInHanded_of_change_sized (C := Try.checked) ownOf started (by kernel_rfl) Try.func4
    (ChangeSpec.witness6 (enc := enc) (C := Try.checked) false ⟨#[], #[.slice none 0 0, .int .i64 0, .slice none 0 0], []⟩ 8 (by kernel_rfl) (by kernel_rfl) (by kernel_rfl) (by kernel_rfl)) ?_
  intro W base args ds gs before hval hW _ hsz _
  exact law_contract (C := Cw) (n := 6) mixedOf dstOf extOf ⟨rfl, rfl⟩ laidOf (by kernel_rfl) (by kernel_rfl) (tb := 4) (by kernel_rfl) Try.underlying4 rfl (fun ds hl => by
    rw [Try.params4] at hl
    match ds, hl with
    | [_, _, _], _ => exact ⟨rfl, rfl, rfl⟩) law4 W base args ds gs before hval hW hsz
theorem over : Rows.foldFindsRow.holds Try.pinned (OpenSpec.ofChange Rows.foldFindsSpec) :=
  OpenClaim.holds_of_wide 4 Try.f4 rfl rfl rfl rfl rfl rfl rfl ⟨rfl, rfl, rfl, rfl, rfl⟩ rfl rfl rfl rfl rfl (by kernel_rfl) Try.func4 (by kernel_rfl)
    (of_decide_eq_true (by kernel_rfl)) (by unfold Func.isWrapper; first | (rw [if_pos (by decide +kernel)]; kernel_rfl) | (rw [if_neg (by decide +kernel)]; exact ⟨rfl, rfl⟩))
    (fun os started H enc _ => lifted os started H enc)
end Go.Proofs.Ytbddfpakhealbaa.foldFinds
namespace Go.Proofs.Ytbddfpakhealbaa
/-- The statement, under a short name, for the claim. -/
theorem foldFinds_holds : Rows.FoldFindsSaid := foldFinds.over
#print axioms foldFinds_holds
end Go.Proofs.Ytbddfpakhealbaa
