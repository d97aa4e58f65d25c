/- The statement LockPlays: any calls of a table of locks: what they answer, and who holds what behind each. No condition. -/
import Derived.Test.YtdlcjibefbnckaaRows
import Derived.Test.YtdlcjibefbnckaaM33
namespace Go.Proofs.Ytdlcjibefbnckaa.Wa
open Go Go.Weave
set_option maxRecDepth 100000

theorem decC4 {n : Nat} {cs : List AVal} (h : OkC Cw.P (n + 1) 4 cs) : ∃ y : Bool, cs = [AVal.bool y] ∧ True := by
  obtain ⟨x, rfl⟩ := okC_bool1 Try.underlying4 h
  exact ⟨x, rfl, trivial⟩
theorem decV4 {n : Nat} {a : AVal} (h : OkV Cw.P (n + 1) 4 a) : ∃ y : Bool, a = (AVal.bool y) ∧ True := by
  obtain ⟨hag, hc⟩ := h
  have ha : aggT Cw.P 4 = false := by kernel_rfl
  rw [ha] at hag
  rw [cells_of hag] at hc
  obtain ⟨y, hy, h1⟩ := decC4 hc
  refine ⟨y, ?_, h1⟩
  simpa using hy
theorem decC3 {n : Nat} {cs : List AVal} (h : OkC Cw.P (n + 1) 3 cs) : ∃ y : Int, cs = [AVal.int .i64 y] ∧ ((-9223372036854775808) ≤ y ∧ y ≤ 9223372036854775807) := by
  obtain ⟨x, rfl, h1, h2⟩ := okC_int1 Try.underlying3 h
  have m0 : IntKind.i64.min = (-9223372036854775808) := by decide
  have m1 : IntKind.i64.max = 9223372036854775807 := by decide
  rw [m0] at h1
  rw [m1] at h2
  exact ⟨x, rfl, h1, h2⟩
theorem decV3 {n : Nat} {a : AVal} (h : OkV Cw.P (n + 1) 3 a) : ∃ y : Int, a = (AVal.int .i64 y) ∧ ((-9223372036854775808) ≤ y ∧ y ≤ 9223372036854775807) := by
  obtain ⟨hag, hc⟩ := h
  have ha : aggT Cw.P 3 = false := by kernel_rfl
  rw [ha] at hag
  rw [cells_of hag] at hc
  obtain ⟨y, hy, h1⟩ := decC3 hc
  refine ⟨y, ?_, h1⟩
  simpa using hy
theorem decC9 {n : Nat} {cs : List AVal} (h : OkC Cw.P (n + 1) 9 cs) : ∃ y : List UInt8, cs = [AVal.str y] ∧ (y.length ≤ 140737488351232) := by
  exact okC_str1 Try.underlying9 h
theorem decV9 {n : Nat} {a : AVal} (h : OkV Cw.P (n + 1) 9 a) : ∃ y : List UInt8, a = (AVal.str y) ∧ (y.length ≤ 140737488351232) := by
  obtain ⟨hag, hc⟩ := h
  have ha : aggT Cw.P 9 = false := by kernel_rfl
  rw [ha] at hag
  rw [cells_of hag] at hc
  obtain ⟨y, hy, h1⟩ := decC9 hc
  refine ⟨y, ?_, h1⟩
  simpa using hy
theorem decC98 {n : Nat} {cs : List AVal} (h : OkC Cw.P (n + 2) 98 cs) : ∃ y : Act43, cs = (Act43.C y) ∧ (Act43.ok y) := by
  have hu : Cw.P.underlying 98 = _ := Try.underlying98
  unfold OkC at h
  simp only [hu, OkF] at h
  obtain ⟨_, _, e0, h0, _, _, e1, h1, _, _, e2, h2, el⟩ := h
  obtain ⟨x0, rfl, hx0⟩ := decC4 (n := n + 0) h0
  obtain ⟨x1, rfl, hx1⟩ := decC3 (n := n + 0) h1
  obtain ⟨x2, rfl, hx2⟩ := decC9 (n := n + 0) h2
  refine ⟨⟨x0, x1, x2⟩, ?_, ⟨hx0, hx1, hx2⟩⟩
  subst el; rw [e0, e1, e2] <;> (try simp only [List.append_nil]) <;> (try rfl)
theorem decV98 {n : Nat} {a : AVal} (h : OkV Cw.P (n + 2) 98 a) : ∃ y : Act43, a = (Act43.A y) ∧ (Act43.ok y) := by
  obtain ⟨hag, hc⟩ := h
  have ha : aggT Cw.P 98 = true := by kernel_rfl
  rw [ha] at hag
  obtain ⟨y, hy, h1⟩ := decC98 hc
  refine ⟨y, ?_, h1⟩
  rw [isAgg_spec hag, hy] <;> (try rfl)
theorem decV93 {n : Nat} {a : AVal} (h : OkV Cw.P (n + 3) 93 a) : ∃ y : List (Act43), a = (AVal.sl false 4 (y.map fun x => (Act43.A x))) ∧ (y.length * 32 ≤ 140737488351232 ∧ ∀ x ∈ y, (Act43.ok x)) := by
  obtain ⟨es, rfl, h1, h2⟩ := okV_slice (P := Cw.P) (n := n + 2) Try.underlying93 h
  have hs : shp Cw.P 98 = 4 := by kernel_rfl
  have hb : bytesOf Cw.P 98 = 32 := by kernel_rfl
  rw [hb] at h1
  rw [hs]
  obtain ⟨l, rfl, hl⟩ := list_choice (g := fun (x : Act43) => (Act43.A x)) (p := fun x => (Act43.ok x)) es fun x hx => decV98 (h2 x hx)
  exact ⟨l, rfl, by simpa using h1, hl⟩
theorem decC93 {n : Nat} {cs : List AVal} (h : OkC Cw.P (n + 3) 93 cs) : ∃ y : List (Act43), cs = [(AVal.sl false 4 (y.map fun x => (Act43.A x)))] ∧ (y.length * 32 ≤ 140737488351232 ∧ ∀ x ∈ y, (Act43.ok x)) := by
  have h1 : ∃ a, cs = [a] ∧ a.isAgg = false := by
    have h' := h
    unfold OkC at h'
    have hu : Cw.P.underlying 93 = _ := Try.underlying93
    simp only [hu] at h'
    obtain ⟨es, rfl, _⟩ := h'
    exact ⟨_, rfl, rfl⟩
  obtain ⟨a, rfl, ha⟩ := h1
  have hag : aggT Cw.P 93 = false := by kernel_rfl
  obtain ⟨y, rfl, hy⟩ := decV93 (n := n) (a := a) ⟨by rw [ha, hag], by rw [cells_of ha]; exact h⟩
  exact ⟨y, rfl, hy⟩
theorem law9 (xs : List AVal) (h : ArgsOk Cw.P 6 Try.f9.params.toList xs) : ∃ d, (evFn Cw d 9 xs ⟨[]⟩).All fun r => r.1 = [.bool true] := by
  rw [Try.params9] at h
  obtain ⟨a0, r0, rfl, h0, h⟩ := h
  obtain rfl : r0 = [] := h
  obtain ⟨y0, rfl, hy0⟩ := decV93 (n := 3) h0
  obtain ⟨d, h', hA⟩ := lplays_true false y0 ⟨[]⟩
  exact law_of hA
end Go.Proofs.Ytdlcjibefbnckaa.Wa

namespace Go.Proofs.Ytdlcjibefbnckaa.lockPlays
open Go Go.Weave Go.Proofs.Ytdlcjibefbnckaa.Wa
set_option maxRecDepth 100000
theorem mixedOf : Cw.P.follows .mixedOrders = true := Try.checked.mixed
theorem dstOf : DstOK Cw.P := dstOk_of (by kernel_rfl)
theorem extOf (W : World) : ExtOK Cw (wholeCtx W) := ⟨fun _ _ h => (by cases h), (fun _ _ h => (by obtain ⟨rfl, rfl⟩ := ext_of43 h; exact held_ext ⟨rfl, rfl⟩))⟩
theorem ownOf : ownKnob Try.prog.godebug = none := by kernel_rfl
theorem laidOf : laidOutB Cw.P = true := by kernel_rfl
theorem lifted (os : Os) (started : os.Started) (H : Type) (enc : TypeId × Value → H) :
    ReturnsInHanded {} Try.checked os 9 .any (Rows.lockPlaysSpec.pre6 enc Try.prog Try.f9 Rows.lockPlaysRow.domain false) (Rows.lockPlaysSpec.post enc Try.prog Try.f9 false true false false) := by
  refine returnsInHanded_of_change_sized (C := Try.checked) ownOf started (by kernel_rfl) Try.func9
    (ChangeSpec.witness6 (enc := enc) (C := Try.checked) false ⟨#[], #[.slice none 0 0], []⟩ 8 (by kernel_rfl) (by kernel_rfl) (by kernel_rfl) (by kernel_rfl)) ?_
  intro W base args ds gs before hval hW _ hsz _
  exact law_contract (C := Cw) (n := 6) mixedOf dstOf extOf ⟨rfl, rfl⟩ laidOf (by kernel_rfl) (by kernel_rfl) (tb := 4) (by kernel_rfl) Try.underlying4 rfl (fun ds hl => by
    rw [Try.params9] at hl
    match ds, hl with
    | [_], _ => exact ⟨rfl, rfl, rfl⟩) law9 W base args ds gs before hval hW hsz
theorem over : Rows.lockPlaysRow.holds Try.pinned (OpenSpec.ofChange Rows.lockPlaysSpec) :=
  OpenClaim.holds_of_wide 9 Try.f9 rfl rfl rfl rfl rfl rfl rfl ⟨rfl, rfl, rfl, rfl, rfl⟩ rfl rfl rfl rfl rfl (by kernel_rfl) Try.func9 (by kernel_rfl)
    (of_decide_eq_true (by kernel_rfl)) (by unfold Func.isWrapper; first | (rw [if_pos (by decide +kernel)]; kernel_rfl) | (rw [if_neg (by decide +kernel)]; exact ⟨rfl, rfl⟩))
    (fun os started H enc _ => lifted os started H enc)
end Go.Proofs.Ytdlcjibefbnckaa.lockPlays
namespace Go.Proofs.Ytdlcjibefbnckaa
/-- The statement, under a short name, for the claim. -/
theorem lockPlays_holds : Rows.LockPlaysSaid := lockPlays.over
#print axioms lockPlays_holds
end Go.Proofs.Ytdlcjibefbnckaa
