/- The statement TableDiffs: the operations that make one table of another one; they do so. No condition. -/
import Derived.Test.YtdlcjibefbnckaaRows
import Derived.Test.YtdlcjibefbnckaaVtr
namespace Go.Proofs.Ytdlcjibefbnckaa.Wa
open Go Go.Weave
set_option maxRecDepth 100000

theorem decC9 {n : Nat} {cs : List AVal} (h : OkC Cw.P (n + 1) 9 cs) : ∃ y : List UInt8, cs = [AVal.str y] ∧ (y.length ≤ 140737488351232) := by
  exact okC_str1 Try.underlying9 h
theorem decV9 {n : Nat} {a : AVal} (h : OkV Cw.P (n + 1) 9 a) : ∃ y : List UInt8, a = (AVal.str y) ∧ (y.length ≤ 140737488351232) := by
  obtain ⟨hag, hc⟩ := h
  have ha : aggT Cw.P 9 = false := by kernel_rfl
  rw [ha] at hag
  rw [cells_of hag] at hc
  obtain ⟨y, hy, h1⟩ := decC9 hc
  refine ⟨y, ?_, h1⟩
  simpa using hy
theorem decC43 {n : Nat} {cs : List AVal} (h : OkC Cw.P (n + 2) 43 cs) : ∃ y : KPair, cs = (KPair.C y) ∧ (KPair.ok y) := by
  have hu : Cw.P.underlying 43 = _ := Try.underlying43
  unfold OkC at h
  simp only [hu, OkF] at h
  obtain ⟨_, _, e0, h0, _, _, e1, h1, el⟩ := h
  obtain ⟨x0, rfl, hx0⟩ := decC9 (n := n + 0) h0
  obtain ⟨x1, rfl, hx1⟩ := decC9 (n := n + 0) h1
  refine ⟨⟨x0, x1⟩, ?_, ⟨hx0, hx1⟩⟩
  subst el; rw [e0, e1] <;> (try simp only [List.append_nil]) <;> (try rfl)
theorem decV43 {n : Nat} {a : AVal} (h : OkV Cw.P (n + 2) 43 a) : ∃ y : KPair, a = (KPair.A y) ∧ (KPair.ok y) := by
  obtain ⟨hag, hc⟩ := h
  have ha : aggT Cw.P 43 = true := by kernel_rfl
  rw [ha] at hag
  obtain ⟨y, hy, h1⟩ := decC43 hc
  refine ⟨y, ?_, h1⟩
  rw [isAgg_spec hag, hy] <;> (try rfl)
theorem decV30 {n : Nat} {a : AVal} (h : OkV Cw.P (n + 3) 30 a) : ∃ y : List (KPair), a = (AVal.sl false 3 (y.map fun x => (KPair.A x))) ∧ (y.length * 32 ≤ 140737488351232 ∧ ∀ x ∈ y, (KPair.ok x)) := by
  obtain ⟨es, rfl, h1, h2⟩ := okV_slice (P := Cw.P) (n := n + 2) Try.underlying30 h
  have hs : shp Cw.P 43 = 3 := by kernel_rfl
  have hb : bytesOf Cw.P 43 = 32 := by kernel_rfl
  rw [hb] at h1
  rw [hs]
  obtain ⟨l, rfl, hl⟩ := list_choice (g := fun (x : KPair) => (KPair.A x)) (p := fun x => (KPair.ok x)) es fun x hx => decV43 (h2 x hx)
  exact ⟨l, rfl, by simpa using h1, hl⟩
theorem decC30 {n : Nat} {cs : List AVal} (h : OkC Cw.P (n + 3) 30 cs) : ∃ y : List (KPair), cs = [(AVal.sl false 3 (y.map fun x => (KPair.A x)))] ∧ (y.length * 32 ≤ 140737488351232 ∧ ∀ x ∈ y, (KPair.ok x)) := by
  have h1 : ∃ a, cs = [a] ∧ a.isAgg = false := by
    have h' := h
    unfold OkC at h'
    have hu : Cw.P.underlying 30 = _ := Try.underlying30
    simp only [hu] at h'
    obtain ⟨es, rfl, _⟩ := h'
    exact ⟨_, rfl, rfl⟩
  obtain ⟨a, rfl, ha⟩ := h1
  have hag : aggT Cw.P 30 = false := by kernel_rfl
  obtain ⟨y, rfl, hy⟩ := decV30 (n := n) (a := a) ⟨by rw [ha, hag], by rw [cells_of ha]; exact h⟩
  exact ⟨y, rfl, hy⟩
theorem law7 (xs : List AVal) (h : ArgsOk Cw.P 6 Try.f7.params.toList xs) : ∃ d, (evFn Cw d 7 xs ⟨[]⟩).All fun r => r.1 = [.bool true] := by
  rw [Try.params7] at h
  obtain ⟨a0, r0, rfl, h0, h⟩ := h
  obtain ⟨a1, r1, rfl, h1, h⟩ := h
  obtain rfl : r1 = [] := h
  obtain ⟨y0, rfl, hy0⟩ := decV30 (n := 3) h0
  obtain ⟨y1, rfl, hy1⟩ := decV30 (n := 3) h1
  obtain ⟨d, h', hA⟩ := tdiffs_true y0 y1 ⟨[]⟩ (fun p hp => hy0.2 p hp) (fun p hp => hy1.2 p hp)
  exact law_of hA
end Go.Proofs.Ytdlcjibefbnckaa.Wa

namespace Go.Proofs.Ytdlcjibefbnckaa.tableDiffs
open Go Go.Weave Go.Proofs.Ytdlcjibefbnckaa.Wa
set_option maxRecDepth 100000
theorem mixedOf : Cw.P.follows .mixedOrders = true := Try.checked.mixed
theorem dstOf : DstOK Cw.P := dstOk_of (by kernel_rfl)
theorem extOf : ExtOK Cw := fun _ _ h => by cases h
theorem ownOf : ownKnob Try.prog.godebug = none := by kernel_rfl
theorem laidOf : laidOutB Cw.P = true := by kernel_rfl
theorem lifted (os : Os) (started : os.Started) (H : Type) (enc : TypeId × Value → H) :
    ReturnsInHanded {} Try.checked os 7 .any (Rows.tableDiffsSpec.pre6 enc Try.prog Try.f7 Rows.tableDiffsRow.domain false) (Rows.tableDiffsSpec.post enc Try.prog Try.f7 false true false false) := by
  refine returnsInHanded_of_change_sized (C := Try.checked) ownOf started (by kernel_rfl) Try.func7
    (ChangeSpec.witness6 (enc := enc) (C := Try.checked) false ⟨#[], #[.slice none 0 0, .slice none 0 0], []⟩ 8 (by kernel_rfl) (by kernel_rfl) (by kernel_rfl) (by kernel_rfl)) ?_
  intro W base args ds gs before hval hW _ hsz _
  exact law_contract (C := Cw) (n := 6) mixedOf dstOf extOf ⟨rfl, rfl⟩ laidOf (by kernel_rfl) (by kernel_rfl) (tb := 4) (by kernel_rfl) Try.underlying4 rfl (fun ds hl => by
    rw [Try.params7] at hl
    match ds, hl with
    | [_, _], _ => exact ⟨rfl, rfl, rfl⟩) law7 W base args ds gs before hval hW hsz
theorem over : Rows.tableDiffsRow.holds Try.pinned (OpenSpec.ofChange Rows.tableDiffsSpec) :=
  OpenClaim.holds_of_wide 7 Try.f7 rfl rfl rfl rfl rfl rfl rfl ⟨rfl, rfl, rfl, rfl, rfl⟩ rfl rfl rfl rfl rfl (by kernel_rfl) Try.func7 (by kernel_rfl)
    (of_decide_eq_true (by kernel_rfl)) (by unfold Func.isWrapper; first | (rw [if_pos (by decide +kernel)]; kernel_rfl) | (rw [if_neg (by decide +kernel)]; exact ⟨rfl, rfl⟩))
    (fun os started H enc _ => lifted os started H enc)
end Go.Proofs.Ytdlcjibefbnckaa.tableDiffs
namespace Go.Proofs.Ytdlcjibefbnckaa
/-- The statement, under a short name, for the claim. -/
theorem tableDiffs_holds : Rows.TableDiffsSaid := tableDiffs.over
#print axioms tableDiffs_holds
end Go.Proofs.Ytdlcjibefbnckaa
