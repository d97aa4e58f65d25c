/- The statement PointSplits: the pieces of any pairs, or that they aren't right; they are joined, by their point. No condition but the program's own table, which the card ties to its text. -/
import Derived.Test.YtkpjkaikeeldfaaDoorCards
import Derived.Test.YtkpjkaikeeldfaaDoorTie
import Derived.SevenTiedAt
import Derived.Handed
import Derived.LaidLaws
import Derived.LaidHandle
import Derived.FnData
import Derived.Test.YtkpjkaikeeldfaaDoorM34
namespace Go.Proofs.YtkpjkaikeeldfaaDoor.Wa
open Go Go.Weave
set_option maxRecDepth 100000

theorem decC9 {n : Nat} {cs : List AVal} (h : OkC Cw.P (n + 1) 9 cs) : ∃ y : List UInt8, cs = [AVal.str y] ∧ (y.length ≤ 140737488351232) := by
  exact okC_str1 Tryd.underlying9 h
theorem decV9 {n : Nat} {a : AVal} (h : OkV Cw.P (n + 1) 9 a) : ∃ y : List UInt8, a = (AVal.str y) ∧ (y.length ≤ 140737488351232) := by
  obtain ⟨hag, hc⟩ := h
  have ha : aggT Cw.P 9 = false := by kernel_rfl
  rw [ha] at hag
  rw [cells_of hag] at hc
  obtain ⟨y, hy, h1⟩ := decC9 hc
  refine ⟨y, ?_, h1⟩
  simpa using hy
theorem decC42 {n : Nat} {cs : List AVal} (h : OkC Cw.P (n + 2) 42 cs) : ∃ y : KPair, cs = (KPair.C y) ∧ (KPair.ok y) := by
  have hu : Cw.P.underlying 42 = _ := Tryd.underlying42
  unfold OkC at h
  simp only [hu, OkF] at h
  obtain ⟨_, _, e0, h0, _, _, e1, h1, el⟩ := h
  obtain ⟨x0, rfl, hx0⟩ := decC9 (n := n + 0) h0
  obtain ⟨x1, rfl, hx1⟩ := decC9 (n := n + 0) h1
  refine ⟨⟨x0, x1⟩, ?_, ⟨hx0, hx1⟩⟩
  subst el; rw [e0, e1] <;> (try simp only [List.append_nil]) <;> (try rfl)
theorem decV42 {n : Nat} {a : AVal} (h : OkV Cw.P (n + 2) 42 a) : ∃ y : KPair, a = (KPair.A y) ∧ (KPair.ok y) := by
  obtain ⟨hag, hc⟩ := h
  have ha : aggT Cw.P 42 = true := by kernel_rfl
  rw [ha] at hag
  obtain ⟨y, hy, h1⟩ := decC42 hc
  refine ⟨y, ?_, h1⟩
  rw [isAgg_spec hag, hy] <;> (try rfl)
theorem decV22 {n : Nat} {a : AVal} (h : OkV Cw.P (n + 3) 22 a) : ∃ y : List (KPair), a = (AVal.sl false 3 (y.map fun x => (KPair.A x))) ∧ (y.length * 32 ≤ 140737488351232 ∧ ∀ x ∈ y, (KPair.ok x)) := by
  obtain ⟨es, rfl, h1, h2⟩ := okV_slice (P := Cw.P) (n := n + 2) Tryd.underlying22 h
  have hs : shp Cw.P 42 = 3 := by kernel_rfl
  have hb : bytesOf Cw.P 42 = 32 := by kernel_rfl
  rw [hb] at h1
  rw [hs]
  obtain ⟨l, rfl, hl⟩ := list_choice (g := fun (x : KPair) => (KPair.A x)) (p := fun x => (KPair.ok x)) es fun x hx => decV42 (h2 x hx)
  exact ⟨l, rfl, by simpa using h1, hl⟩
theorem decC22 {n : Nat} {cs : List AVal} (h : OkC Cw.P (n + 3) 22 cs) : ∃ y : List (KPair), cs = [(AVal.sl false 3 (y.map fun x => (KPair.A x)))] ∧ (y.length * 32 ≤ 140737488351232 ∧ ∀ x ∈ y, (KPair.ok x)) := by
  have h1 : ∃ a, cs = [a] ∧ a.isAgg = false := by
    have h' := h
    unfold OkC at h'
    have hu : Cw.P.underlying 22 = _ := Tryd.underlying22
    simp only [hu] at h'
    obtain ⟨es, rfl, _⟩ := h'
    exact ⟨_, rfl, rfl⟩
  obtain ⟨a, rfl, ha⟩ := h1
  have hag : aggT Cw.P 22 = false := by kernel_rfl
  obtain ⟨y, rfl, hy⟩ := decV22 (n := n) (a := a) ⟨by rw [ha, hag], by rw [cells_of ha]; exact h⟩
  exact ⟨y, rfl, hy⟩
theorem law3 (xs : List AVal) (h : ArgsOk Cw.P 6 Tryd.f3.params.toList xs) : ∃ d, (evFn Cw d 3 xs ⟨[]⟩).All fun r => r.1 = [.bool true] := by
  rw [Tryd.params3] at h
  obtain ⟨a0, r0, rfl, h0, h⟩ := h
  obtain rfl : r0 = [] := h
  obtain ⟨y0, rfl, hy0⟩ := decV22 (n := 3) h0
  have hl : y0.length ≤ 140737488351232 := by have := hy0.1; omega
  obtain ⟨d, h', hA⟩ := psplits_true false y0 hl ⟨[]⟩
  exact law_of hA
end Go.Proofs.YtkpjkaikeeldfaaDoor.Wa

namespace Go.Proofs.YtkpjkaikeeldfaaDoor.pointSplits
open Go Go.Weave Go.Proofs.YtkpjkaikeeldfaaDoor.Wa
set_option maxRecDepth 100000
theorem mixedOf : Cw.P.follows .mixedOrders = true := Tryd.checked.mixed
theorem dstOf : DstOK Cw.P := dstOk_of (by kernel_rfl)
theorem ownOf : ownKnob Tryd.prog.godebug = none := by kernel_rfl
theorem laidOf : laidOutB Cw.P = true := by kernel_rfl

/-! ### The variable that is listed -/
theorem gName : Tryd.prog.globalNamed "strandline/crc.half" = some 0 := by kernel_rfl
theorem gType : (Tryd.prog.globals[0]?).map (·.type) = some 61 := by kernel_rfl
theorem gArr : Tryd.prog.underlying 61 = some (.array 16 30) := by kernel_rfl
theorem gElt : Tryd.prog.underlying 30 = some (.int .u32) := by kernel_rfl
theorem gC16 : Tryd.prog.cellsOf 61 = 16 := by kernel_rfl
theorem gC1 : Tryd.prog.cellsOf 30 = 1 := by kernel_rfl
theorem int_of_trod {H : Type} {enc : TypeId × Value → H} {P : Program} {w : World} {base : Nat} {sp : Nat → Bool} {held : Bool} {fuel : Nat} {t : TypeId} {k : IntKind} {c : Value} {y : DataW H × List MemPlace}
    (ht : P.underlying t = some (.int k)) (h : DataW.trod enc P w base sp held fuel t [c] = some y) : ∃ n, c = .int k n ∧ y = (.lit (.int k n), []) := by
  cases fuel with
  | zero => simp [DataW.trod] at h
  | succ fuel =>
    cases c <;> simp [DataW.trod, ht] at h
    rename_i k' n
    obtain ⟨⟨rfl, _⟩, rfl⟩ := h
    exact ⟨n, rfl, rfl⟩
def cells16 : Array Value := (t16.map fun (n : Nat) => Value.int .u32 (n : Int)).toArray
theorem cells_of_laid {W : World} (h : laidMetH Tryd.prog Rows.pointSplitsRow.laid W) : W.var? Tryd.prog "strandline/crc.half" = some cells16 := by
  have h' : laidMet Tryd.prog [("strandline/crc.half", Rows.laid_strandline_crc_half)] W := h
  obtain ⟨ps, ⟨g, t, cs, fuel, p, q, hg, ht, hvar, hd, _, _⟩, _⟩ := h'
  obtain rfl := Option.some.inj (gName.symm.trans hg)
  obtain rfl := Option.some.inj (gType.symm.trans ht)
  rw [hvar]
  congr 1
  obtain ⟨l⟩ := cs
  cases fuel with
  | zero => simp [DataW.trod] at hd
  | succ fuel =>
    simp only [DataW.trod, gArr, gC16, gC1] at hd
    split at hd
    · rename_i hl
      obtain ⟨c0, c1, c2, c3, c4, c5, c6, c7, c8, c9, c10, c11, c12, c13, c14, c15, rfl⟩ : ∃ c0 c1 c2 c3 c4 c5 c6 c7 c8 c9 c10 c11 c12 c13 c14 c15, l = [c0, c1, c2, c3, c4, c5, c6, c7, c8, c9, c10, c11, c12, c13, c14, c15] := by
        match l, hl with
        | [c0, c1, c2, c3, c4, c5, c6, c7, c8, c9, c10, c11, c12, c13, c14, c15], _ => exact ⟨c0, c1, c2, c3, c4, c5, c6, c7, c8, c9, c10, c11, c12, c13, c14, c15, rfl⟩
      have e : List.range 16 = [0, 1, 2, 3, 4, 5, 6, 7, 8, 9, 10, 11, 12, 13, 14, 15] := rfl
      rw [e] at hd
      simp only [Option.map_eq_some_iff, List.mapM_cons, List.mapM_nil, Option.bind_eq_bind, Option.bind_eq_some_iff, Option.pure_def, Option.some.injEq] at hd
      obtain ⟨xs, ⟨y0, h0, _, ⟨y1, h1, _, ⟨y2, h2, _, ⟨y3, h3, _, ⟨y4, h4, _, ⟨y5, h5, _, ⟨y6, h6, _, ⟨y7, h7, _, ⟨y8, h8, _, ⟨y9, h9, _, ⟨y10, h10, _, ⟨y11, h11, _, ⟨y12, h12, _, ⟨y13, h13, _, ⟨y14, h14, _, ⟨y15, h15, _, rfl, rfl⟩, rfl⟩, rfl⟩, rfl⟩, rfl⟩, rfl⟩, rfl⟩, rfl⟩, rfl⟩, rfl⟩, rfl⟩, rfl⟩, rfl⟩, rfl⟩, rfl⟩, rfl⟩, hx⟩ := hd
      obtain ⟨n0, rfl, rfl⟩ := int_of_trod gElt h0
      obtain ⟨n1, rfl, rfl⟩ := int_of_trod gElt h1
      obtain ⟨n2, rfl, rfl⟩ := int_of_trod gElt h2
      obtain ⟨n3, rfl, rfl⟩ := int_of_trod gElt h3
      obtain ⟨n4, rfl, rfl⟩ := int_of_trod gElt h4
      obtain ⟨n5, rfl, rfl⟩ := int_of_trod gElt h5
      obtain ⟨n6, rfl, rfl⟩ := int_of_trod gElt h6
      obtain ⟨n7, rfl, rfl⟩ := int_of_trod gElt h7
      obtain ⟨n8, rfl, rfl⟩ := int_of_trod gElt h8
      obtain ⟨n9, rfl, rfl⟩ := int_of_trod gElt h9
      obtain ⟨n10, rfl, rfl⟩ := int_of_trod gElt h10
      obtain ⟨n11, rfl, rfl⟩ := int_of_trod gElt h11
      obtain ⟨n12, rfl, rfl⟩ := int_of_trod gElt h12
      obtain ⟨n13, rfl, rfl⟩ := int_of_trod gElt h13
      obtain ⟨n14, rfl, rfl⟩ := int_of_trod gElt h14
      obtain ⟨n15, rfl, rfl⟩ := int_of_trod gElt h15
      simp [Rows.laid_strandline_crc_half] at hx
      obtain ⟨⟨rfl, rfl, rfl, rfl, rfl, rfl, rfl, rfl, rfl, rfl, rfl, rfl, rfl, rfl, rfl, rfl⟩, _⟩ := hx
      rfl
    · cases hd
theorem globOf {W : World} (h : laidMetH Tryd.prog Rows.pointSplitsRow.laid W) : GlobOK Cw (wholeCtx W) := fun g a hg => by
  have hvar := cells_of_laid h
  have hcell := fun i => World.var?_cell gName hvar i
  match g, hg with
  | 0, hg =>
    obtain rfl : AVal.elt (.agg tabL) true 16 0 = a := Option.some.inj hg
    have hl : t16.length = 16 := rfl
    have hval : ∀ j, j < 16 → cells16[j]? = some (Value.int .u32 (t16.getD j 0 : Nat)) := fun j hj => by
      unfold cells16
      rw [List.getElem?_toArray, List.getElem?_map, List.getElem?_eq_getElem (by omega)]
      simp [List.getD_eq_getElem?_getD, List.getElem?_eq_getElem (show j < t16.length by omega)]
    have h0 := hcell 15
    rw [hval 15 (by omega)] at h0
    obtain ⟨lim, hk, hlim⟩ := whole_cell h0
    refine Rep.elt 0 0 0 lim (.agg tabL) true 16 (fun j => Value.int .u32 (t16.getD j 0 : Nat)) hk (by omega) rfl rfl ?_ ?_ ?_
    · intro x hx
      unfold AVal.cells tabL at hx
      obtain ⟨m, _, rfl⟩ := List.mem_map.1 hx
      rfl
    · intro j hj
      rw [Nat.zero_add]
      show W.cell? ⟨0, j, none⟩ = _
      rw [hcell j, hval j hj]
    · intro j hj
      have e : (AVal.cells (.agg tabL)).getD j .undef = .int .u32 (t16.getD j 0 : Nat) := by
        show tabL.getD j .undef = _
        have := tabL_get hj
        rw [Nat.zero_add, Nat.mul_one] at this
        rw [List.getD_eq_getElem?_getD, this]; rfl
      rw [e]
      exact Rep.int _ _
  | g + 1, hg => cases hg
theorem extOf {W : World} (h : laidMetH Tryd.prog Rows.pointSplitsRow.laid W) : ExtOK Cw (wholeCtx W) := ⟨globOf h, (fun _ _ h => (by obtain ⟨rfl, rfl⟩ := ext_of34 h; exact split_ext ⟨rfl, rfl⟩))⟩
/-- A world that meets the condition. -/
noncomputable def laidWorld (os : Os) : World :=
  { World.holding Tryd.prog os ⟨#[], #[], []⟩ with heap := (World.holding Tryd.prog os ⟨#[], #[], []⟩).heap.modify 0 fun
      | .cells _ t frozen => .cells cells16 t frozen
      | o => o }
theorem laidWorld_met (os : Os) (args : Array Value) : laidMetH Tryd.prog Rows.pointSplitsRow.laid ((laidWorld os).forCall (fun _ _ => 0) ⟨#[], args, []⟩).memory :=
  laidMet_of_run (ps := (List.range 16).map fun i => MemPlace.cell 0 i) 8 (by kernel_rfl) (by kernel_rfl) (by kernel_rfl)

theorem lifted (os : Os) (started : os.Started) (H : Type) (enc : TypeId × Value → H) :
    ReturnsInHanded {} Tryd.checked os 3 .any (fun w args => (Rows.pointSplitsSpec.pre enc Tryd.prog Tryd.f3 Rows.pointSplitsRow.domain false w args ∧ laidMetH Tryd.prog Rows.pointSplitsRow.laid w) ∧ sizedMet enc Tryd.prog Tryd.f3 (OpenSpec.ofChange Rows.pointSplitsSpec) false w args)
      (Rows.pointSplitsSpec.post enc Tryd.prog Tryd.f3 false true false false) := by
  refine returnsInHanded_of_change_and (C := Tryd.checked) (X := fun w _ => laidMetH Tryd.prog Rows.pointSplitsRow.laid w) (fun _ _ _ hh h => h.of_heap hh) ownOf started (by kernel_rfl) Tryd.func3
    (ChangeSpec.witness_at (enc := enc) (C := Tryd.checked) (os := os) (X := fun w _ => laidMetH Tryd.prog Rows.pointSplitsRow.laid w) false (laidWorld os) #[.slice none 0 0] 8 rfl (by kernel_rfl) (by kernel_rfl) (by kernel_rfl) (by kernel_rfl) (by kernel_rfl) (laidWorld_met os _)) ?_
  intro W base args ds gs before hval hW _ hsz hL _
  exact law_contract_laid (C := Cw) (n := 6) mixedOf dstOf ⟨rfl, rfl⟩ laidOf (by kernel_rfl) (by kernel_rfl) (tb := 4) (by kernel_rfl) Tryd.underlying4 rfl (fun ds hl => by
    rw [Tryd.params3] at hl
    match ds, hl with
    | [_], _ => exact ⟨rfl, rfl, rfl⟩) law3 W (extOf hL) base args ds gs before hval hW hsz
theorem over : Rows.pointSplitsRow.holds Tryd.pinned (OpenSpec.ofChange Rows.pointSplitsSpec) :=
  OpenClaim.holds_of_wide 3 Tryd.f3 rfl rfl rfl rfl rfl rfl rfl ⟨rfl, rfl, rfl, rfl, rfl⟩ rfl rfl rfl rfl rfl (by kernel_rfl) Tryd.func3 (by kernel_rfl)
    (of_decide_eq_true (by kernel_rfl)) (by unfold Func.isWrapper; first | (rw [if_pos (by decide +kernel)]; kernel_rfl) | (rw [if_neg (by decide +kernel)]; exact ⟨rfl, rfl⟩))
    (fun os started H enc _ => lifted os started H enc)
theorem noStandIn22 : Tryd.prog.wantsStandIn 22 = false := by kernel_rfl
/-- The tied card. -/
theorem card : Rows.PointSplitsCardSaid :=
  Claim7.holds_tied_plain_at .later [] [.data] true (true, "2487edbbdb925de01c7986d50bdcb7b313250a1c8e1f12aeaa6c70a85393ddd3") false over (fun _ h => by cases h) (by kernel_rfl) (fun _ h => by cases h) pointSplits_row_tie rfl ⟨rfl, rfl⟩ (by kernel_rfl) rfl
    (fun f fn hf hfn => by
      obtain rfl : f = 3 := Option.some.inj ((show Tryd.prog.funcNamed Rows.pointSplitsRow.func = some 3 by kernel_rfl).symm.trans hf) |>.symm
      obtain rfl : fn = Tryd.f3 := (Option.some.inj (Tryd.func3.symm.trans hfn)).symm
      exact ⟨by kernel_rfl, fun j t ht => by
        rw [Tryd.params3] at ht
        match j, ht with
        | 0, ht => obtain rfl : 22 = t := (by simpa using ht); exact noStandIn22
        | j + 1, ht => simp at ht⟩)
    (by kernel_rfl)
end Go.Proofs.YtkpjkaikeeldfaaDoor.pointSplits
namespace Go.Proofs.YtkpjkaikeeldfaaDoor
/-- The statement, under a short name, for the claim. -/
theorem pointSplits_holds : Rows.PointSplitsCardSaid := pointSplits.card
#print axioms pointSplits_holds
end Go.Proofs.YtkpjkaikeeldfaaDoor
