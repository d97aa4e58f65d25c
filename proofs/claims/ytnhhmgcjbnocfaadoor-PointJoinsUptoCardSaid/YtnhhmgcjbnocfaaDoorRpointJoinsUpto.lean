/- The statement PointJoins, where what it reads is of bulk at most 1048576: pieces joined by any point, and the point of the pieces. No condition but the program's own table, which the card ties to its text. -/
import Derived.Test.YtnhhmgcjbnocfaaDoorCards
import Derived.Test.YtnhhmgcjbnocfaaDoorTie
import Derived.SevenTiedAt
import Derived.Handed
import Derived.LaidLaws
import Derived.LaidHandle
import Derived.FnData
import Derived.Deep.CondSized
import Derived.Test.YtnhhmgcjbnocfaaDoorVpf
namespace Go.Proofs.YtnhhmgcjbnocfaaDoor.Wa
open Go Go.Weave
set_option maxRecDepth 100000

theorem decC3 {n : Nat} {cs : List AVal} (h : OkC Cw.P (n + 1) 3 cs) : ∃ y : Int, cs = [AVal.int .i64 y] ∧ ((-9223372036854775808) ≤ y ∧ y ≤ 9223372036854775807) := by
  obtain ⟨x, rfl, h1, h2⟩ := okC_int1 Tryd.underlying3 h
  have m0 : IntKind.i64.min = (-9223372036854775808) := by decide
  have m1 : IntKind.i64.max = 9223372036854775807 := by decide
  rw [m0] at h1
  rw [m1] at h2
  exact ⟨x, rfl, h1, h2⟩
theorem decV3 {n : Nat} {a : AVal} (h : OkV Cw.P (n + 1) 3 a) : ∃ y : Int, a = (AVal.int .i64 y) ∧ ((-9223372036854775808) ≤ y ∧ y ≤ 9223372036854775807) := by
  obtain ⟨hag, hc⟩ := h
  have ha : aggT Cw.P 3 = false := by kernel_rfl
  rw [ha] at hag
  rw [cells_of hag] at hc
  obtain ⟨y, hy, h1⟩ := decC3 hc
  refine ⟨y, ?_, h1⟩
  simpa using hy
theorem decC22 {n : Nat} {cs : List AVal} (h : OkC Cw.P (n + 1) 22 cs) : ∃ y : Int, cs = [AVal.int .u32 y] ∧ (0 ≤ y ∧ y ≤ 4294967295) := by
  obtain ⟨x, rfl, h1, h2⟩ := okC_int1 Tryd.underlying22 h
  have m0 : IntKind.u32.min = 0 := by decide
  have m1 : IntKind.u32.max = 4294967295 := by decide
  rw [m0] at h1
  rw [m1] at h2
  exact ⟨x, rfl, h1, h2⟩
theorem decV22 {n : Nat} {a : AVal} (h : OkV Cw.P (n + 1) 22 a) : ∃ y : Int, a = (AVal.int .u32 y) ∧ (0 ≤ y ∧ y ≤ 4294967295) := by
  obtain ⟨hag, hc⟩ := h
  have ha : aggT Cw.P 22 = false := by kernel_rfl
  rw [ha] at hag
  rw [cells_of hag] at hc
  obtain ⟨y, hy, h1⟩ := decC22 hc
  refine ⟨y, ?_, h1⟩
  simpa using hy
theorem decC24 {n : Nat} {cs : List AVal} (h : OkC Cw.P (n + 2) 24 cs) : ∃ y : RPoint, cs = (RPoint.C y) ∧ (RPoint.ok y) := by
  have hu : Cw.P.underlying 24 = _ := Tryd.underlying24
  unfold OkC at h
  simp only [hu, OkF] at h
  obtain ⟨_, _, e0, h0, _, _, e1, h1, _, _, e2, h2, el⟩ := h
  obtain ⟨x0, rfl, hx0⟩ := decC3 (n := n + 0) h0
  obtain ⟨x1, rfl, hx1⟩ := decC3 (n := n + 0) h1
  obtain ⟨x2, rfl, hx2⟩ := decC22 (n := n + 0) h2
  refine ⟨⟨x0, x1, x2⟩, ?_, ⟨hx0, hx1, hx2⟩⟩
  subst el; rw [e0, e1, e2] <;> (try simp only [List.append_nil]) <;> (try rfl)
theorem decV24 {n : Nat} {a : AVal} (h : OkV Cw.P (n + 2) 24 a) : ∃ y : RPoint, a = (RPoint.A y) ∧ (RPoint.ok y) := by
  obtain ⟨hag, hc⟩ := h
  have ha : aggT Cw.P 24 = true := by kernel_rfl
  rw [ha] at hag
  obtain ⟨y, hy, h1⟩ := decC24 hc
  refine ⟨y, ?_, h1⟩
  rw [isAgg_spec hag, hy] <;> (try rfl)
theorem decC44 {n : Nat} {cs : List AVal} (h : OkC Cw.P (n + 2) 44 cs) : ∃ y : List UInt8, cs = [AVal.sl false 0 (bys y)] ∧ (y.length ≤ 140737488351232) := by
  exact okC_bytes1 (P := Cw.P) (n := n) Tryd.underlying44 Tryd.underlying5 (by kernel_rfl) (by kernel_rfl) h
theorem decV44 {n : Nat} {a : AVal} (h : OkV Cw.P (n + 2) 44 a) : ∃ y : List UInt8, a = (AVal.sl false 0 (bys y)) ∧ (y.length ≤ 140737488351232) := by
  obtain ⟨hag, hc⟩ := h
  have ha : aggT Cw.P 44 = false := by kernel_rfl
  rw [ha] at hag
  rw [cells_of hag] at hc
  obtain ⟨y, hy, h1⟩ := decC44 hc
  refine ⟨y, ?_, h1⟩
  simpa using hy
theorem decV25 {n : Nat} {a : AVal} (h : OkV Cw.P (n + 3) 25 a) : ∃ y : List (List UInt8), a = (AVal.sl false 0 (y.map fun x => (AVal.sl false 0 (bys x)))) ∧ (y.length * 24 ≤ 140737488351232 ∧ ∀ x ∈ y, (x.length ≤ 140737488351232)) := by
  obtain ⟨es, rfl, h1, h2⟩ := okV_slice (P := Cw.P) (n := n + 2) Tryd.underlying25 h
  have hs : shp Cw.P 44 = 0 := by kernel_rfl
  have hb : bytesOf Cw.P 44 = 24 := by kernel_rfl
  rw [hb] at h1
  rw [hs]
  obtain ⟨l, rfl, hl⟩ := list_choice (g := fun (x : List UInt8) => (AVal.sl false 0 (bys x))) (p := fun x => (x.length ≤ 140737488351232)) es fun x hx => decV44 (h2 x hx)
  exact ⟨l, rfl, by simpa using h1, hl⟩
theorem decC25 {n : Nat} {cs : List AVal} (h : OkC Cw.P (n + 3) 25 cs) : ∃ y : List (List UInt8), cs = [(AVal.sl false 0 (y.map fun x => (AVal.sl false 0 (bys x))))] ∧ (y.length * 24 ≤ 140737488351232 ∧ ∀ x ∈ y, (x.length ≤ 140737488351232)) := by
  have h1 : ∃ a, cs = [a] ∧ a.isAgg = false := by
    have h' := h
    unfold OkC at h'
    have hu : Cw.P.underlying 25 = _ := Tryd.underlying25
    simp only [hu] at h'
    obtain ⟨es, rfl, _⟩ := h'
    exact ⟨_, rfl, rfl⟩
  obtain ⟨a, rfl, ha⟩ := h1
  have hag : aggT Cw.P 25 = false := by kernel_rfl
  obtain ⟨y, rfl, hy⟩ := decV25 (n := n) (a := a) ⟨by rw [ha, hag], by rw [cells_of ha]; exact h⟩
  exact ⟨y, rfl, hy⟩
theorem law3 (xs : List AVal) (h : ArgsOk Cw.P 6 Tryd.f3.params.toList xs) (hk : bulkL xs ≤ 1048576) : ∃ d, (evFn Cw d 3 xs ⟨[]⟩).All fun r => r.1 = [.bool true] := by
  rw [Tryd.params3] at h
  obtain ⟨a0, r0, rfl, h0, h⟩ := h
  obtain ⟨a1, r1, rfl, h1, h⟩ := h
  obtain rfl : r1 = [] := h
  obtain ⟨y0, rfl, hy0⟩ := decV24 (n := 4) h0
  obtain ⟨y1, rfl, hy1⟩ := decV25 (n := 3) h1
  simp only [bulkL, AVal.bulk, bulkL_bys, Nat.add_zero] at hk
  obtain ⟨h1, h2, h3, h4⟩ := hy0
  obtain ⟨s, hs⟩ : ∃ s : Nat, y0.sum = (s : Int) := ⟨y0.sum.toNat, by omega⟩
  have hl : y1.length ≤ bulkL (y1.map fun x => AVal.sl false 0 (bys x)) := by
    have := bulkL_len (y1.map fun x => AVal.sl false 0 (bys x)) (fun x hx => by
      obtain ⟨b, _, rfl⟩ := List.mem_map.1 hx
      simp [AVal.bulk])
    simpa using this
  have hm : ∀ b ∈ y1, b.length ≤ 40000000 := fun b hb => by
    have h5 := bulkL_mem (x := AVal.sl false 0 (bys b)) (List.mem_map.2 ⟨b, hb, rfl⟩ : _ ∈ y1.map fun x => AVal.sl false 0 (bys x))
    simp only [AVal.bulk, bulkL_bys] at h5
    omega
  obtain ⟨d, h', hA⟩ := pjoins_true y0.pieces y0.pairs s y1 (by omega) hm ⟨[]⟩
  rw [← hs] at hA
  exact law_of hA
end Go.Proofs.YtnhhmgcjbnocfaaDoor.Wa

namespace Go.Proofs.YtnhhmgcjbnocfaaDoor.pointJoinsUpto
open Go Go.Weave Go.Proofs.YtnhhmgcjbnocfaaDoor.Wa
set_option maxRecDepth 100000
theorem mixedOf : Cw.P.follows .mixedOrders = true := Tryd.checked.mixed
theorem dstOf : DstOK Cw.P := dstOk_of (by kernel_rfl)
theorem ownOf : ownKnob Tryd.prog.godebug = none := by kernel_rfl
theorem laidOf : laidOutB Cw.P = true := by kernel_rfl

/-! ### The variable that is listed -/
theorem gName : Tryd.prog.globalNamed "strandline/crc.half" = some 0 := by kernel_rfl
theorem gType : (Tryd.prog.globals[0]?).map (·.type) = some 61 := by kernel_rfl
theorem gArr : Tryd.prog.underlying 61 = some (.array 16 22) := by kernel_rfl
theorem gElt : Tryd.prog.underlying 22 = some (.int .u32) := by kernel_rfl
theorem gC16 : Tryd.prog.cellsOf 61 = 16 := by kernel_rfl
theorem gC1 : Tryd.prog.cellsOf 22 = 1 := by kernel_rfl
theorem int_of_trod {H : Type} {enc : TypeId × Value → H} {P : Program} {w : World} {base : Nat} {sp : Nat → Bool} {held : Bool} {fuel : Nat} {t : TypeId} {k : IntKind} {c : Value} {y : DataW H × List MemPlace}
    (ht : P.underlying t = some (.int k)) (h : DataW.trod enc P w base sp held fuel t [c] = some y) : ∃ n, c = .int k n ∧ y = (.lit (.int k n), []) := by
  cases fuel with
  | zero => simp [DataW.trod] at h
  | succ fuel =>
    cases c <;> simp [DataW.trod, ht] at h
    rename_i k' n
    obtain ⟨⟨rfl, _⟩, rfl⟩ := h
    exact ⟨n, rfl, rfl⟩
def cells16 : Array Value := (t16.map fun (n : Nat) => Value.int .u32 (n : Int)).toArray
theorem cells_of_laid {W : World} (h : laidMetH Tryd.prog Rows.pointJoinsUptoRow.laid W) : W.var? Tryd.prog "strandline/crc.half" = some cells16 := by
  have h' : laidMet Tryd.prog [("strandline/crc.half", Rows.laid_strandline_crc_half)] W := h
  obtain ⟨ps, ⟨g, t, cs, fuel, p, q, hg, ht, hvar, hd, _, _⟩, _⟩ := h'
  obtain rfl := Option.some.inj (gName.symm.trans hg)
  obtain rfl := Option.some.inj (gType.symm.trans ht)
  rw [hvar]
  congr 1
  obtain ⟨l⟩ := cs
  cases fuel with
  | zero => simp [DataW.trod] at hd
  | succ fuel =>
    simp only [DataW.trod, gArr, gC16, gC1] at hd
    split at hd
    · rename_i hl
      obtain ⟨c0, c1, c2, c3, c4, c5, c6, c7, c8, c9, c10, c11, c12, c13, c14, c15, rfl⟩ : ∃ c0 c1 c2 c3 c4 c5 c6 c7 c8 c9 c10 c11 c12 c13 c14 c15, l = [c0, c1, c2, c3, c4, c5, c6, c7, c8, c9, c10, c11, c12, c13, c14, c15] := by
        match l, hl with
        | [c0, c1, c2, c3, c4, c5, c6, c7, c8, c9, c10, c11, c12, c13, c14, c15], _ => exact ⟨c0, c1, c2, c3, c4, c5, c6, c7, c8, c9, c10, c11, c12, c13, c14, c15, rfl⟩
      have e : List.range 16 = [0, 1, 2, 3, 4, 5, 6, 7, 8, 9, 10, 11, 12, 13, 14, 15] := rfl
      rw [e] at hd
      simp only [Option.map_eq_some_iff, List.mapM_cons, List.mapM_nil, Option.bind_eq_bind, Option.bind_eq_some_iff, Option.pure_def, Option.some.injEq] at hd
      obtain ⟨xs, ⟨y0, h0, _, ⟨y1, h1, _, ⟨y2, h2, _, ⟨y3, h3, _, ⟨y4, h4, _, ⟨y5, h5, _, ⟨y6, h6, _, ⟨y7, h7, _, ⟨y8, h8, _, ⟨y9, h9, _, ⟨y10, h10, _, ⟨y11, h11, _, ⟨y12, h12, _, ⟨y13, h13, _, ⟨y14, h14, _, ⟨y15, h15, _, rfl, rfl⟩, rfl⟩, rfl⟩, rfl⟩, rfl⟩, rfl⟩, rfl⟩, rfl⟩, rfl⟩, rfl⟩, rfl⟩, rfl⟩, rfl⟩, rfl⟩, rfl⟩, rfl⟩, hx⟩ := hd
      obtain ⟨n0, rfl, rfl⟩ := int_of_trod gElt h0
      obtain ⟨n1, rfl, rfl⟩ := int_of_trod gElt h1
      obtain ⟨n2, rfl, rfl⟩ := int_of_trod gElt h2
      obtain ⟨n3, rfl, rfl⟩ := int_of_trod gElt h3
      obtain ⟨n4, rfl, rfl⟩ := int_of_trod gElt h4
      obtain ⟨n5, rfl, rfl⟩ := int_of_trod gElt h5
      obtain ⟨n6, rfl, rfl⟩ := int_of_trod gElt h6
      obtain ⟨n7, rfl, rfl⟩ := int_of_trod gElt h7
      obtain ⟨n8, rfl, rfl⟩ := int_of_trod gElt h8
      obtain ⟨n9, rfl, rfl⟩ := int_of_trod gElt h9
      obtain ⟨n10, rfl, rfl⟩ := int_of_trod gElt h10
      obtain ⟨n11, rfl, rfl⟩ := int_of_trod gElt h11
      obtain ⟨n12, rfl, rfl⟩ := int_of_trod gElt h12
      obtain ⟨n13, rfl, rfl⟩ := int_of_trod gElt h13
      obtain ⟨n14, rfl, rfl⟩ := int_of_trod gElt h14
      obtain ⟨n15, rfl, rfl⟩ := int_of_trod gElt h15
      simp [Rows.laid_strandline_crc_half] at hx
      obtain ⟨⟨rfl, rfl, rfl, rfl, rfl, rfl, rfl, rfl, rfl, rfl, rfl, rfl, rfl, rfl, rfl, rfl⟩, _⟩ := hx
      rfl
    · cases hd
theorem globOf {W : World} (h : laidMetH Tryd.prog Rows.pointJoinsUptoRow.laid W) : GlobOK Cw (wholeCtx W) := fun g a hg => by
  have hvar := cells_of_laid h
  have hcell := fun i => World.var?_cell gName hvar i
  match g, hg with
  | 0, hg =>
    obtain rfl : AVal.elt (.agg tabL) true 16 0 = a := Option.some.inj hg
    have hl : t16.length = 16 := rfl
    have hval : ∀ j, j < 16 → cells16[j]? = some (Value.int .u32 (t16.getD j 0 : Nat)) := fun j hj => by
      unfold cells16
      rw [List.getElem?_toArray, List.getElem?_map, List.getElem?_eq_getElem (by omega)]
      simp [List.getD_eq_getElem?_getD, List.getElem?_eq_getElem (show j < t16.length by omega)]
    have h0 := hcell 15
    rw [hval 15 (by omega)] at h0
    obtain ⟨lim, hk, hlim⟩ := whole_cell h0
    refine Rep.elt 0 0 0 lim (.agg tabL) true 16 (fun j => Value.int .u32 (t16.getD j 0 : Nat)) hk (by omega) rfl rfl ?_ ?_ ?_
    · intro x hx
      unfold AVal.cells tabL at hx
      obtain ⟨m, _, rfl⟩ := List.mem_map.1 hx
      rfl
    · intro j hj
      rw [Nat.zero_add]
      show W.cell? ⟨0, j, none⟩ = _
      rw [hcell j, hval j hj]
    · intro j hj
      have e : (AVal.cells (.agg tabL)).getD j .undef = .int .u32 (t16.getD j 0 : Nat) := by
        show tabL.getD j .undef = _
        have := tabL_get hj
        rw [Nat.zero_add, Nat.mul_one] at this
        rw [List.getD_eq_getElem?_getD, this]; rfl
      rw [e]
      exact Rep.int _ _
  | g + 1, hg => cases hg
theorem extOf {W : World} (h : laidMetH Tryd.prog Rows.pointJoinsUptoRow.laid W) : ExtOK Cw (wholeCtx W) := ⟨globOf h, fun _ _ h => by cases h⟩
/-- A world that meets the condition. -/
noncomputable def laidWorld (os : Os) : World :=
  { World.holding Tryd.prog os ⟨#[], #[], []⟩ with heap := (World.holding Tryd.prog os ⟨#[], #[], []⟩).heap.modify 0 fun
      | .cells _ t frozen => .cells cells16 t frozen
      | o => o }
theorem laidWorld_met (os : Os) (args : Array Value) : laidMetH Tryd.prog Rows.pointJoinsUptoRow.laid ((laidWorld os).forCall (fun _ _ => 0) ⟨#[], args, []⟩).memory :=
  laidMet_of_run (ps := (List.range 16).map fun i => MemPlace.cell 0 i) 8 (by kernel_rfl) (by kernel_rfl) (by kernel_rfl)

theorem all_sum {H : Type} : ∀ ds : List (DataW H), Rows.uptoBulkAll ds = (ds.map Rows.uptoBulk).sum
  | [] => rfl
  | d :: ds => by simp only [Rows.uptoBulkAll, List.map_cons, List.sum_cons, all_sum ds]
theorem bulkOf (H : Type) : BulkOk (Rows.uptoBulk (H := H)) where
  pos := fun d => by
    cases d with
    | lit l => cases l <;> simp [Rows.uptoBulk]
    | _ => simp [Rows.uptoBulk]
  str := fun b => by simp [Rows.uptoBulk]
  sl := fun es sp => by simp only [Rows.uptoBulk, all_sum]; omega
  agg := fun ps => by simp only [Rows.uptoBulk, all_sum]; omega
theorem lifted (os : Os) (started : os.Started) (H : Type) (enc : TypeId × Value → H) (F : Stop.Interp) :
    ReturnsInHanded {} Tryd.checked os 3 .any (fun w args => ((Rows.OpenSpec.upto Rows.pointJoinsSpec).pre enc Tryd.prog Tryd.f3 Rows.pointJoinsUptoRow.domain false w args ∧ laidMetH Tryd.prog Rows.pointJoinsUptoRow.laid w) ∧ sizedMet enc Tryd.prog Tryd.f3 (Rows.OpenSpec.upto Rows.pointJoinsSpec) false w args)
      (((Rows.OpenSpec.upto Rows.pointJoinsSpec).at F).post enc Tryd.prog Tryd.f3 false true false false) := by
  have hk : (Rows.OpenSpec.upto Rows.pointJoinsSpec).cond = some Rows.uptoSmall := rfl
  refine returnsInHanded_of_calls (C := Tryd.checked) ownOf started (by kernel_rfl) ?_ ?_
  · have hok : Input.okWideB Tryd.prog ((laidWorld os).forCall (fun _ _ => 0) ⟨#[], #[.agg #[.int .i64 0, .int .i64 0, .int .u32 0], .slice none 0 0], []⟩) 3 ⟨#[], #[.agg #[.int .i64 0, .int .i64 0, .int .u32 0], .slice none 0 0], []⟩ = true := by kernel_rfl
    have hx : DataW.whole enc Tryd.prog ((laidWorld os).forCall (fun _ _ => 0) ⟨#[], #[.agg #[.int .i64 0, .int .i64 0, .int .u32 0], .slice none 0 0], []⟩).memory Tryd.f3.params.toList Rows.pointJoinsSpec.vars false #[.agg #[.int .i64 0, .int .i64 0, .int .u32 0], .slice none 0 0].toList 8 = some ([.agg [.lit (.int .i64 0), .lit (.int .i64 0), .lit (.int .u32 0)], .nil], [], []) := by kernel_rfl
    exact ⟨laidWorld os, fun _ _ => 0, ⟨#[], #[.agg #[.int .i64 0, .int .i64 0, .int .u32 0], .slice none 0 0], []⟩, rfl, World.shaped_of_B (by kernel_rfl) (by kernel_rfl), rfl, (Input.okWide_of_okWideB hok).2,
      ⟨⟨(OpenSpec.pre_some hk _ _ _ _).2 ⟨_, _, _, DataW.Whole_of_whole hx, by kernel_rfl, by kernel_rfl⟩, laidWorld_met os _⟩, by kernel_rfl, _, _, _, DataW.Whole_of_whole hx, by kernel_rfl⟩, by
        simp only [Assume.holds]
        exact ⟨by simp, by simp, fun _ => Modest.zero, by simp, by simp⟩⟩
  · intro w tape i _ _ _ hok hpre hholds
    obtain ⟨_, _, _, fn', hfn', _, _, _, _, hval⟩ := hok
    have e : fn' = Tryd.f3 := Option.some.inj (hfn'.symm.trans Tryd.func3)
    subst e
    obtain ⟨⟨hp, hL⟩, hz⟩ := hpre
    obtain ⟨ds, gs, before, hw, hc, hkk⟩ := (OpenSpec.pre_some hk _ _ _ _).1 hp
    have hW := DataW.Whole.of_heap (w' := w.forCall tape i) (by rfl) hw
    have hL' : laidMetH Tryd.prog Rows.pointJoinsUptoRow.laid (w.forCall tape i) := laidMetH.of_heap (by rfl) hL
    have hsz := hz.weights hw
    have hW1 := hW
    obtain ⟨p, q, _, hV, _, _, _⟩ := hW1
    obtain rfl : gs = [] := by
      cases gs with
      | nil => rfl
      | cons g gs => exact hV.elim
    have hk' : Rows.uptoBulkAll (ds ++ []) ≤ 1048576 := of_decide_eq_true hkk
    rw [List.append_nil, all_sum] at hk'
    refine (law_core (C := Cw) (s := Rows.pointJoinsSpec) (n := 6) (tb := 4) (w.forCall tape i) mixedOf dstOf (extOf hL') ⟨rfl, rfl⟩ laidOf (by kernel_rfl) (by kernel_rfl) (by kernel_rfl) Tryd.underlying4 rfl (fun ds hl => by
      rw [Tryd.params3] at hl
      match ds, hl with
      | [_, _], _ => exact ⟨rfl, rfl, rfl⟩) w.heap.size i.args ds [] before (fun xs h hb => law3 xs h (Nat.le_trans (hb _ (bulkOf H)) hk')) hval hW hsz).mono fun e W' ⟨v, he, hp⟩ => ?_
    subst he
    exact ChangeSpec.post_blind hp
theorem over : Rows.pointJoinsUptoRow.holds Tryd.pinned (Rows.OpenSpec.upto Rows.pointJoinsSpec) :=
  OpenClaim.holds_of_cond 3 Tryd.f3 rfl rfl rfl rfl rfl rfl rfl ⟨rfl, rfl, rfl, rfl, rfl⟩ rfl rfl rfl rfl rfl (by kernel_rfl) Tryd.func3 (by kernel_rfl)
    (of_decide_eq_true (by kernel_rfl)) (by unfold Func.isWrapper; first | (rw [if_pos (by decide +kernel)]; kernel_rfl) | (rw [if_neg (by decide +kernel)]; exact ⟨rfl, rfl⟩))
    (fun os started H enc _ F => lifted os started H enc F)
theorem noStandIn24 : Tryd.prog.wantsStandIn 24 = false := by kernel_rfl
theorem noStandIn25 : Tryd.prog.wantsStandIn 25 = false := by kernel_rfl
/-- The tied card. -/
theorem card : Rows.PointJoinsUptoCardSaid :=
  Claim7.holds_tied_plain_at .later [] [.data] true (true, "2e9ce21afdcce0717e195c942fab9041135b85490df0b775034a3479f3cb3810") false over (fun _ h => by cases h) (by kernel_rfl) (fun _ h => by cases h) pointJoinsUpto_row_tie rfl ⟨rfl, rfl⟩ (by kernel_rfl) rfl
    (fun f fn hf hfn => by
      obtain rfl : f = 3 := Option.some.inj ((show Tryd.prog.funcNamed Rows.pointJoinsUptoRow.func = some 3 by kernel_rfl).symm.trans hf) |>.symm
      obtain rfl : fn = Tryd.f3 := (Option.some.inj (Tryd.func3.symm.trans hfn)).symm
      exact ⟨by kernel_rfl, fun j t ht => by
        rw [Tryd.params3] at ht
        match j, ht with
        | 0, ht => obtain rfl : 24 = t := (by simpa using ht); exact noStandIn24
        | 1, ht => obtain rfl : 25 = t := (by simpa using ht); exact noStandIn25
        | j + 2, ht => simp at ht⟩)
    (by kernel_rfl)
end Go.Proofs.YtnhhmgcjbnocfaaDoor.pointJoinsUpto
namespace Go.Proofs.YtnhhmgcjbnocfaaDoor
/-- The statement, under a short name, for the claim. -/
theorem pointJoinsUpto_holds : Rows.PointJoinsUptoCardSaid := pointJoinsUpto.card
#print axioms pointJoinsUpto_holds
end Go.Proofs.YtnhhmgcjbnocfaaDoor
