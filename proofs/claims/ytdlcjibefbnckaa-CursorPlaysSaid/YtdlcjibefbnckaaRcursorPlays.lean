/- The statement CursorPlays: any moves of a cursor, while its tree changes: where it stands behind each. No condition. -/
import Derived.Test.YtdlcjibefbnckaaRows
import Derived.Test.YtdlcjibefbnckaaVti
namespace Go.Proofs.Ytdlcjibefbnckaa.Wa
open Go Go.Weave
set_option maxRecDepth 100000

theorem decC31 {n : Nat} {cs : List AVal} (h : OkC Cw.P (n + 1) 31 cs) : ∃ y : Int, cs = [AVal.int .u64 y] ∧ (0 ≤ y ∧ y ≤ 18446744073709551615) := by
  obtain ⟨x, rfl, h1, h2⟩ := okC_int1 Try.underlying31 h
  have m0 : IntKind.u64.min = 0 := by decide
  have m1 : IntKind.u64.max = 18446744073709551615 := by decide
  rw [m0] at h1
  rw [m1] at h2
  exact ⟨x, rfl, h1, h2⟩
theorem decV31 {n : Nat} {a : AVal} (h : OkV Cw.P (n + 1) 31 a) : ∃ y : Int, a = (AVal.int .u64 y) ∧ (0 ≤ y ∧ y ≤ 18446744073709551615) := by
  obtain ⟨hag, hc⟩ := h
  have ha : aggT Cw.P 31 = false := by kernel_rfl
  rw [ha] at hag
  rw [cells_of hag] at hc
  obtain ⟨y, hy, h1⟩ := decC31 hc
  refine ⟨y, ?_, h1⟩
  simpa using hy
theorem decC9 {n : Nat} {cs : List AVal} (h : OkC Cw.P (n + 1) 9 cs) : ∃ y : List UInt8, cs = [AVal.str y] ∧ (y.length ≤ 140737488351232) := by
  exact okC_str1 Try.underlying9 h
theorem decV9 {n : Nat} {a : AVal} (h : OkV Cw.P (n + 1) 9 a) : ∃ y : List UInt8, a = (AVal.str y) ∧ (y.length ≤ 140737488351232) := by
  obtain ⟨hag, hc⟩ := h
  have ha : aggT Cw.P 9 = false := by kernel_rfl
  rw [ha] at hag
  rw [cells_of hag] at hc
  obtain ⟨y, hy, h1⟩ := decC9 hc
  refine ⟨y, ?_, h1⟩
  simpa using hy
theorem decC33 {n : Nat} {cs : List AVal} (h : OkC Cw.P (n + 2) 33 cs) : ∃ y : Act32, cs = (Act32.C y) ∧ (Act32.ok y) := by
  have hu : Cw.P.underlying 33 = _ := Try.underlying33
  unfold OkC at h
  simp only [hu, OkF] at h
  obtain ⟨_, _, e0, h0, _, _, e1, h1, el⟩ := h
  obtain ⟨x0, rfl, hx0⟩ := decC31 (n := n + 0) h0
  obtain ⟨x1, rfl, hx1⟩ := decC9 (n := n + 0) h1
  refine ⟨⟨x0, x1⟩, ?_, ⟨hx0, hx1⟩⟩
  subst el; rw [e0, e1] <;> (try simp only [List.append_nil]) <;> (try rfl)
theorem decV33 {n : Nat} {a : AVal} (h : OkV Cw.P (n + 2) 33 a) : ∃ y : Act32, a = (Act32.A y) ∧ (Act32.ok y) := by
  obtain ⟨hag, hc⟩ := h
  have ha : aggT Cw.P 33 = true := by kernel_rfl
  rw [ha] at hag
  obtain ⟨y, hy, h1⟩ := decC33 hc
  refine ⟨y, ?_, h1⟩
  rw [isAgg_spec hag, hy] <;> (try rfl)
theorem decV22 {n : Nat} {a : AVal} (h : OkV Cw.P (n + 3) 22 a) : ∃ y : List (Act32), a = (AVal.sl false 3 (y.map fun x => (Act32.A x))) ∧ (y.length * 24 ≤ 140737488351232 ∧ ∀ x ∈ y, (Act32.ok x)) := by
  obtain ⟨es, rfl, h1, h2⟩ := okV_slice (P := Cw.P) (n := n + 2) Try.underlying22 h
  have hs : shp Cw.P 33 = 3 := by kernel_rfl
  have hb : bytesOf Cw.P 33 = 24 := by kernel_rfl
  rw [hb] at h1
  rw [hs]
  obtain ⟨l, rfl, hl⟩ := list_choice (g := fun (x : Act32) => (Act32.A x)) (p := fun x => (Act32.ok x)) es fun x hx => decV33 (h2 x hx)
  exact ⟨l, rfl, by simpa using h1, hl⟩
theorem decC22 {n : Nat} {cs : List AVal} (h : OkC Cw.P (n + 3) 22 cs) : ∃ y : List (Act32), cs = [(AVal.sl false 3 (y.map fun x => (Act32.A x)))] ∧ (y.length * 24 ≤ 140737488351232 ∧ ∀ x ∈ y, (Act32.ok x)) := by
  have h1 : ∃ a, cs = [a] ∧ a.isAgg = false := by
    have h' := h
    unfold OkC at h'
    have hu : Cw.P.underlying 22 = _ := Try.underlying22
    simp only [hu] at h'
    obtain ⟨es, rfl, _⟩ := h'
    exact ⟨_, rfl, rfl⟩
  obtain ⟨a, rfl, ha⟩ := h1
  have hag : aggT Cw.P 22 = false := by kernel_rfl
  obtain ⟨y, rfl, hy⟩ := decV22 (n := n) (a := a) ⟨by rw [ha, hag], by rw [cells_of ha]; exact h⟩
  exact ⟨y, rfl, hy⟩
theorem law3 (xs : List AVal) (h : ArgsOk Cw.P 6 Try.f3.params.toList xs) : ∃ d, (evFn Cw d 3 xs ⟨[]⟩).All fun r => r.1 = [.bool true] := by
  rw [Try.params3] at h
  obtain ⟨a0, r0, rfl, h0, h⟩ := h
  obtain rfl : r0 = [] := h
  obtain ⟨y0, rfl, hy0⟩ := decV22 (n := 3) h0
  obtain ⟨d, h', hA⟩ := cplays_true y0 ⟨[]⟩ hy0.2
  exact law_of hA
end Go.Proofs.Ytdlcjibefbnckaa.Wa

namespace Go.Proofs.Ytdlcjibefbnckaa.cursorPlays
open Go Go.Weave Go.Proofs.Ytdlcjibefbnckaa.Wa
set_option maxRecDepth 100000
theorem mixedOf : Cw.P.follows .mixedOrders = true := Try.checked.mixed
theorem dstOf : DstOK Cw.P := dstOk_of (by kernel_rfl)
theorem extOf : ExtOK Cw := fun _ _ h => by cases h
theorem ownOf : ownKnob Try.prog.godebug = none := by kernel_rfl
theorem laidOf : laidOutB Cw.P = true := by kernel_rfl
theorem lifted (os : Os) (started : os.Started) (H : Type) (enc : TypeId × Value → H) :
    ReturnsInHanded {} Try.checked os 3 .any (Rows.cursorPlaysSpec.pre6 enc Try.prog Try.f3 Rows.cursorPlaysRow.domain false) (Rows.cursorPlaysSpec.post enc Try.prog Try.f3 false true false false) := by
  refine returnsInHanded_of_change_sized (C := Try.checked) ownOf started (by kernel_rfl) Try.func3
    (ChangeSpec.witness6 (enc := enc) (C := Try.checked) false ⟨#[], #[.slice none 0 0], []⟩ 8 (by kernel_rfl) (by kernel_rfl) (by kernel_rfl) (by kernel_rfl)) ?_
  intro W base args ds gs before hval hW _ hsz _
  exact law_contract (C := Cw) (n := 6) mixedOf dstOf extOf ⟨rfl, rfl⟩ laidOf (by kernel_rfl) (by kernel_rfl) (tb := 4) (by kernel_rfl) Try.underlying4 rfl (fun ds hl => by
    rw [Try.params3] at hl
    match ds, hl with
    | [_], _ => exact ⟨rfl, rfl, rfl⟩) law3 W base args ds gs before hval hW hsz
theorem over : Rows.cursorPlaysRow.holds Try.pinned (OpenSpec.ofChange Rows.cursorPlaysSpec) :=
  OpenClaim.holds_of_wide 3 Try.f3 rfl rfl rfl rfl rfl rfl rfl ⟨rfl, rfl, rfl, rfl, rfl⟩ rfl rfl rfl rfl rfl (by kernel_rfl) Try.func3 (by kernel_rfl)
    (of_decide_eq_true (by kernel_rfl)) (by unfold Func.isWrapper; first | (rw [if_pos (by decide +kernel)]; kernel_rfl) | (rw [if_neg (by decide +kernel)]; exact ⟨rfl, rfl⟩))
    (fun os started H enc _ => lifted os started H enc)
end Go.Proofs.Ytdlcjibefbnckaa.cursorPlays
namespace Go.Proofs.Ytdlcjibefbnckaa
/-- The statement, under a short name, for the claim. -/
theorem cursorPlays_holds : Rows.CursorPlaysSaid := cursorPlays.over
#print axioms cursorPlays_holds
end Go.Proofs.Ytdlcjibefbnckaa
