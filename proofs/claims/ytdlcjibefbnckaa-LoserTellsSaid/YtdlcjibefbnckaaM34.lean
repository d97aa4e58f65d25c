/- Texts of this proof, laid together: the evaluator, what it comes to, and the laws. No condition. -/
import Derived.Test.YtdlcjibefbnckaaM33
import Derived.Test.YtdlcjibefbnckaaM32
section
/- LoserTells. -/
namespace Go.Proofs.Ytdlcjibefbnckaa.Wa
open Go Go.Weave
set_option maxRecDepth 100000
set_option linter.unusedSimpArgs false
set_option linter.unusedVariables false
set_option linter.unusedSectionVars false

theorem lptree_run {d : Nat} {h : Heap} {Q : Res → Prop} {tg : Hid Q} : Run (evFn Cw (d + 1) 86 [.nilp] h) Q tg = Q ([.nilp], h) := (at_eq (F86nil_eq _ _)).trans at_ret
theorem lplen_run {d : Nat} {h : Heap} {Q : Res → Prop} {tg : Hid Q} : Run (evFn Cw (d + 2) 33 [.nilp] h) Q tg = Q ([.int .i64 0], h) := by
  rw [F33nil_eq]
  simp (disch := (first | assumption | (simp only [Bool.and_eq_true, Bool.and_eq_false_iff, decide_eq_true_eq, decide_eq_false_iff_not, bne_iff_ne, beq_iff_eq, beq_eq_false_iff_ne, bne_eq_false_iff_eq, Bool.not_eq_true', Bool.not_eq_false', bys_length, List.length_append, List.length_cons, List.length_nil, List.length_map, List.length_drop, List.length_take, Int.natCast_add, wrap_i64_eq, wrap_u64, wrap_u8, ne_eq, not_true_eq_false, not_false_eq_true, Nat.zero_add, Nat.mul_one] <;> omega) | omega | (simp; done) | (simp; omega))) only [↓CR, MC, ↓PR, MR, lptree_run, nlen_run]
theorem lppairs_run (d : Nat) (h : Heap) : ∃ h', h.ext h' ∧ ∀ (Q : Res → Prop) (tg : Hid Q), Run (evFn Cw (d + 7) 37 [.nilp] h) Q tg = Q ([.sl false 3 []], h') := by
  refine ⟨_, (Heap.ext.push h (curO .nilp 0 [])).put (id := h.objs.length) (o := curO .nilp 2 []) (Nat.le_refl _), fun Q tg => ?_⟩
  have r : ∀ (Q : Res → Prop) (tg : Hid Q), Run (evFn Cw (d + 6) 38 [.nilp, .str [], .str [], .int .i64 0] h) Q tg = Q ([.sl false 3 []], (h.push (curO .nilp 0 [])).put h.objs.length (curO .nilp 2 [])) := fun Q tg => by
    rw [F38nil_eq]
    simp (disch := (first | assumption | (simp only [Bool.and_eq_true, Bool.and_eq_false_iff, decide_eq_true_eq, decide_eq_false_iff_not, bne_iff_ne, beq_iff_eq, beq_eq_false_iff_ne, bne_eq_false_iff_eq, Bool.not_eq_true', Bool.not_eq_false', bys_length, List.length_append, List.length_cons, List.length_nil, List.length_map, List.length_drop, List.length_take, Int.natCast_add, wrap_i64_eq, wrap_u64, wrap_u8, ne_eq, not_true_eq_false, not_false_eq_true, Nat.zero_add, Nat.mul_one] <;> omega) | omega | (simp; done) | (simp; omega))) only [↓CR, MC, ↓PR, MR, lptree_run, crangen_run]
  rw [F37nil_eq]
  simp (disch := (first | assumption | (simp only [Bool.and_eq_true, Bool.and_eq_false_iff, decide_eq_true_eq, decide_eq_false_iff_not, bne_iff_ne, beq_iff_eq, beq_eq_false_iff_ne, bne_eq_false_iff_eq, Bool.not_eq_true', Bool.not_eq_false', bys_length, List.length_append, List.length_cons, List.length_nil, List.length_map, List.length_drop, List.length_take, Int.natCast_add, wrap_i64_eq, wrap_u64, wrap_u8, ne_eq, not_true_eq_false, not_false_eq_true, Nat.zero_add, Nat.mul_one] <;> omega) | omega | (simp; done) | (simp; omega))) only [↓CR, MC, ↓PR, MR, lplen_run, r]

/-! ### Awake -/
theorem aw_right : cright [97] false true [] [120] 0 = true := by simp [cright]
noncomputable def awB : List UInt8 := cbytes [97] false true [] [120] 0
theorem aw_lit : awB = [2, 1, 97, 1, 120, 0] := by
  have p1 : pk [97] = [1, 97] := by unfold pk; rw [if_neg (by decide), enc_lt (by decide)]; rfl
  have p2 : pk [120] = [1, 120] := by unfold pk; rw [if_neg (by decide), enc_lt (by decide)]; rfl
  have p3 : enc (0 : Int).toNat = [0] := by rw [enc_lt (by decide)]; rfl
  unfold awB cbytes
  have e1 : cfields [97] false true [] [120] = [[97], [120]] := rfl
  have e2 : pks [[97], [120]] = pk [97] ++ pk [120] := by simp [pks]
  rw [e1, e2, p1, p2, p3]
  rfl
theorem aw_len : awB.length ≤ 600 := by rw [aw_lit]; decide
theorem aw_run : ∃ s, lrun lini [⟨5, 2, 1, 0, true, []⟩, ⟨6, 2, 2, 1, false, awB⟩] = some s ∧ s.hd = [0, 0, 2, 0] ∧ s.tab.length = 1 := by
  have hd : cdec awB = (⟨[97], false, true, [], [120], 0⟩, 0) := cdec_cbytes aw_right
  have s1 : lstep lini ⟨5, 2, 1, 0, true, []⟩ = some ⟨[], [0, 0, 1, 0], 0, 0, []⟩ := by
    unfold lstep lsone
    rfl
  have hc : lchange [] awB = some [⟨[97], [120]⟩] := by
    rw [lchange_eq, hd]
    rfl
  refine ⟨⟨[⟨[97], [120]⟩], [0, 0, 2, 0], 0, 0, []⟩, ?_, rfl, rfl⟩
  rw [lrun_cons, s1]
  simp only
  rw [lrun_cons, lstep_one (by decide) (by decide)]
  have : lsone ⟨[], [0, 0, 1, 0], 0, 0, []⟩ ⟨6, 2, 2, 1, false, awB⟩ = some ⟨[⟨[97], [120]⟩], [0, 0, 2, 0], 0, 0, []⟩ := by
    unfold lsone
    simp only [hc]
    rfl
  rw [this]
  rfl
theorem awake45_run (d : Nat) (h : Heap) : ∃ h', ∀ (Q : Res → Prop) (tg : Hid Q), Run (evFn Cw (d + 31027) 55 [] h) Q tg = Q ([.bool true], h') := by
  obtain ⟨s, hs, hh, hl⟩ := aw_run
  have rb := fun (Q : Res → Prop) (tg : Hid Q) => bytes42_run (d := d + 31023) aw_right (h := h) (Q := Q) (tg := tg)
  obtain ⟨h1, vs, H, r⟩ := lana_run d true [⟨5, 2, 1, 0, true, []⟩, ⟨6, 2, 2, 1, false, awB⟩] (by simp) (fun r hr => by
    simp only [List.mem_cons, List.not_mem_nil, or_false] at hr
    rcases hr with rfl | rfl
    · simp
    · exact aw_len) h
  have el : lcs [⟨5, 2, 1, 0, true, []⟩, ⟨6, 2, 2, 1, false, awB⟩] = [(AVal.agg [(AVal.int .i64 5), (AVal.int .i64 2), (AVal.int .i64 1), (AVal.int .i64 0), (AVal.sl true 0 [])]), (AVal.agg [(AVal.int .i64 6), (AVal.int .i64 2), (AVal.int .i64 2), (AVal.int .i64 1), (AVal.sl false 0 (bys awB))])] := of_eq_true (eq_self _)
  rw [el] at r
  rw [hs] at H
  obtain ⟨ti, tr, t, fl, x, y, z, w, hq, T, htl, rfl⟩ := H
  rw [hh] at hq
  cases hq
  have rt := fun (Q : Res → Prop) (tg : Hid Q) => tablen_run (d := d + 31024) (Q := Q) (tg := tg) T
  rw [htl, hl] at rt
  have rl := fun (Q : Res → Prop) (tg : Hid Q) => losers_run (d := d + 31025) (v0 := .obj ti 0) (x := 0) (y := 0) (z := 2) (w := 0) (a := (s.com : Int)) (b := (s.und : Int)) (f7 := fl) (l8 := ints s.ends) (h := h1) (Q := Q) (tg := tg)
  have eo : opn [0, 0, 2, 0] 0 = [2] := rfl
  rw [eo] at rl
  have q0 : ((0 : Int) == 0) = true := rfl
  have q1 : ((((1 : Nat) : Int)) == 1) = true := rfl
  have qe : eqCells [AVal.int .i64 0, AVal.int .i64 0, AVal.int .i64 2, AVal.int .i64 0] [AVal.int .i64 0, AVal.int .i64 0, AVal.int .i64 2, AVal.int .i64 0] = true := rfl
  have q3 : (((ints [2]).length : Int) == 1) = true := rfl
  refine ⟨h1, fun Q tg => ?_⟩
  rw [F55_eq]
  unfold awB at r
  simp (disch := (first | assumption | (simp only [Bool.and_eq_true, Bool.and_eq_false_iff, decide_eq_true_eq, decide_eq_false_iff_not, bne_iff_ne, beq_iff_eq, beq_eq_false_iff_ne, bne_eq_false_iff_eq, Bool.not_eq_true', Bool.not_eq_false', bys_length, List.length_append, List.length_cons, List.length_nil, List.length_map, List.length_drop, List.length_take, Int.natCast_add, wrap_i64_eq, wrap_u64, wrap_u8, ne_eq, not_true_eq_false, not_false_eq_true, Nat.zero_add, Nat.mul_one] <;> omega) | omega | (simp; done) | (simp; omega))) only [↓CR, MC, ↓PR, MR, rb, r, q0, rt, q1, arr4_3, qe, rl, q3]

/-! ### The law -/
theorem ends_loop (d : Nat) (v0 u0 : AVal) (x y z w a b : Int) (fl fr : Bool) (E : List Int) (hE : E.length ≤ 1000000) (h : Heap) (Q : Res → Prop) : ∀ (n j k : Nat) (tg : Hid Q), E.length = j + n → n < k →
    Run (P8_0 (d + 1) k j [v0, .int .i64 x, .int .i64 y, .int .i64 z, .int .i64 w, .int .i64 a, .int .i64 b, .sl fl 0 (ints E)] [u0, .int .i64 x, .int .i64 y, .int .i64 z, .int .i64 w, .int .i64 a, .int .i64 b, .sl fr 0 (ints E)] h) Q tg =
      Run (P8_1 (d + 1) rounds (ints (opn [x, y, z, w] 0)) 0 0 [u0, .int .i64 x, .int .i64 y, .int .i64 z, .int .i64 w, .int .i64 a, .int .i64 b, .sl fr 0 (ints E)] h) Q ⟨⟩ := by
  intro n
  induction n with
  | zero =>
    intro j k tg hj hk
    obtain ⟨k, rfl⟩ : ∃ m, k = m + 1 := ⟨k - 1, by omega⟩
    rw [P8_0_eq]
    simp (disch := (first | assumption | (simp only [Bool.and_eq_true, Bool.and_eq_false_iff, decide_eq_true_eq, decide_eq_false_iff_not, bne_iff_ne, beq_iff_eq, beq_eq_false_iff_ne, bne_eq_false_iff_eq, Bool.not_eq_true', Bool.not_eq_false', bys_length, List.length_append, List.length_cons, List.length_nil, List.length_map, List.length_drop, List.length_take, Int.natCast_add, wrap_i64_eq, wrap_u64, wrap_u8, ne_eq, not_true_eq_false, not_false_eq_true, Nat.zero_add, Nat.mul_one] <;> omega) | omega | (simp; done) | (simp; omega))) only [↓CR, MC, ↓PR, MR, ints_length, losers_run]
  | succ n ih =>
    intro j k tg hj hk
    obtain ⟨k, rfl⟩ : ∃ m, k = m + 1 := ⟨k - 1, by omega⟩
    have h1 : j < E.length := by omega
    have e1 := succ_wrap (i := j) (by omega)
    have bb : (E[j] != E[j]) = false := by simp
    rw [P8_0_eq]
    simp (disch := (first | assumption | (simp only [Bool.and_eq_true, Bool.and_eq_false_iff, decide_eq_true_eq, decide_eq_false_iff_not, bne_iff_ne, beq_iff_eq, beq_eq_false_iff_ne, bne_eq_false_iff_eq, Bool.not_eq_true', Bool.not_eq_false', bys_length, List.length_append, List.length_cons, List.length_nil, List.length_map, List.length_drop, List.length_take, Int.natCast_add, wrap_i64_eq, wrap_u64, wrap_u8, ne_eq, not_true_eq_false, not_false_eq_true, Nat.zero_add, Nat.mul_one] <;> omega) | omega | (simp; done) | (simp; omega))) only [↓CR, MC, ↓PR, MR, ints_length, ints_getD h1, bb, e1, ih (j + 1) k ⟨⟩ (by omega) (by omega)]
theorem opens_loop (d : Nat) (u0 : AVal) (x y z w a b : Int) (fr : Bool) (E : List Int) (h h' : Heap) (ra : ∀ (Q : Res → Prop) (tg : Hid Q), Run (evFn Cw d 55 [] h) Q tg = Q ([.bool true], h')) (Q : Res → Prop) :
    ∀ (n j k : Nat) (pre : List Int) (tg : Hid Q), pre.length ≤ j → 4 = j + n → n < k →
    Run (P8_1 d k (ints (pre ++ opn ([x, y, z, w].drop j) j)) (pre.length : Nat) j [u0, .int .i64 x, .int .i64 y, .int .i64 z, .int .i64 w, .int .i64 a, .int .i64 b, .sl fr 0 (ints E)] h) Q tg = Q ([.bool true], h') := by
  intro n
  induction n with
  | zero =>
    intro j k pre tg hp hj hk
    obtain ⟨k, rfl⟩ : ∃ m, k = m + 1 := ⟨k - 1, by omega⟩
    obtain rfl : j = 4 := by omega
    have eo : opn ([x, y, z, w].drop 4) 4 = [] := rfl
    have bb : (((pre.length : Nat) : Int) == ((pre.length : Nat) : Int)) = true := by simp
    rw [P8_1_eq, eo, List.append_nil]
    simp (disch := (first | assumption | (simp only [Bool.and_eq_true, Bool.and_eq_false_iff, decide_eq_true_eq, decide_eq_false_iff_not, bne_iff_ne, beq_iff_eq, beq_eq_false_iff_ne, bne_eq_false_iff_eq, Bool.not_eq_true', Bool.not_eq_false', bys_length, List.length_append, List.length_cons, List.length_nil, List.length_map, List.length_drop, List.length_take, Int.natCast_add, wrap_i64_eq, wrap_u64, wrap_u8, ne_eq, not_true_eq_false, not_false_eq_true, Nat.zero_add, Nat.mul_one] <;> omega) | omega | (simp; done) | (simp; omega))) only [↓CR, MC, ↓PR, MR, ints_length, bb, ra]
  | succ n ih =>
    intro j k pre tg hp hj hk
    obtain ⟨k, rfl⟩ : ∃ m, k = m + 1 := ⟨k - 1, by omega⟩
    have h1 : j < [x, y, z, w].length := by simp; omega
    have e1 := succ_wrap (i := j) (by omega)
    have g : [u0, AVal.int .i64 x, AVal.int .i64 y, AVal.int .i64 z, AVal.int .i64 w, AVal.int .i64 a, AVal.int .i64 b, AVal.sl fr 0 (ints E)][1 + j * 1]? = some (.int .i64 ([x, y, z, w][j])) := by
      match j, h1 with
      | 0, _ => rfl
      | 1, _ => rfl
      | 2, _ => rfl
      | 3, _ => rfl
    rw [List.drop_eq_getElem_cons h1]
    unfold opn
    by_cases c : [x, y, z, w][j] = 0
    · have b1 : (([x, y, z, w][j] : Int) != 0) = false := by simp [c]
      rw [if_pos c, P8_1_eq]
      simp (disch := (first | assumption | (simp only [Bool.and_eq_true, Bool.and_eq_false_iff, decide_eq_true_eq, decide_eq_false_iff_not, bne_iff_ne, beq_iff_eq, beq_eq_false_iff_ne, bne_eq_false_iff_eq, Bool.not_eq_true', Bool.not_eq_false', bys_length, List.length_append, List.length_cons, List.length_nil, List.length_map, List.length_drop, List.length_take, Int.natCast_add, wrap_i64_eq, wrap_u64, wrap_u8, ne_eq, not_true_eq_false, not_false_eq_true, Nat.zero_add, Nat.mul_one] <;> omega) | omega | (simp; done) | (simp; omega))) only [↓CR, MC, ↓PR, MR, g, b1, e1, ih (j + 1) k pre ⟨⟩ (by omega) (by omega) (by omega)]
    · have b1 : (([x, y, z, w][j] : Int) != 0) = true := by simp [c]
      have e2 := succ_wrap (i := pre.length) (by omega)
      have r := ih (j + 1) k (pre ++ [(j : Int)]) ⟨⟩ (by simp; omega) (by omega) (by omega)
      rw [List.append_assoc, List.singleton_append, List.length_append, List.length_singleton] at r
      rw [if_neg c, P8_1_eq]
      generalize opn (List.drop (j + 1) [x, y, z, w]) (j + 1) = R at r ⊢
      have q1 : decide (((pre.length : Nat) : Int) ≥ ((ints (pre ++ (j : Int) :: R)).length : Int)) = false := by simp [ints_length]; omega
      have q2 : (decide ((0 : Int) ≤ (pre.length : Nat)) && decide (((pre.length : Nat) : Int) < ((ints (pre ++ (j : Int) :: R)).length : Int))) = true := by simp [ints_length]; omega
      have q3 : (ints (pre ++ (j : Int) :: R)).getD pre.length AVal.undef = .int .i64 j := by simp [ints]
      have q4 : ((((j : Nat) : Int)) != ((j : Nat) : Int)) = false := by simp
      simp (disch := (first | assumption | (simp only [Bool.and_eq_true, Bool.and_eq_false_iff, decide_eq_true_eq, decide_eq_false_iff_not, bne_iff_ne, beq_iff_eq, beq_eq_false_iff_ne, bne_eq_false_iff_eq, Bool.not_eq_true', Bool.not_eq_false', bys_length, List.length_append, List.length_cons, List.length_nil, List.length_map, List.length_drop, List.length_take, Int.natCast_add, wrap_i64_eq, wrap_u64, wrap_u8, ne_eq, not_true_eq_false, not_false_eq_true, Nat.zero_add, Nat.mul_one] <;> omega) | omega | (simp; done) | (simp; omega))) only [↓CR, MC, ↓PR, MR, g, b1, q1, q2, q3, q4, e1, e2, r]
theorem lrun_inv : ∀ (l : List Rec) (n : Nat) (s s' : LS), LInv n s → lrun s l = some s' → LInv (n + l.length) s'
  | [], n, s, s', I, h => by unfold lrun at h; cases h; exact I
  | r :: l, n, s, s', I, h => by
    rw [lrun_cons] at h
    cases hs : lstep s r with
    | none => rw [hs] at h; cases h
    | some s1 =>
      rw [hs] at h
      have := lrun_inv l (n + 1) s1 s' (lstep_inv I hs) h
      rw [List.length_cons, Nat.add_comm l.length 1, ← Nat.add_assoc]
      exact this
/-- LoserTells. -/
theorem ltells_true (f : Bool) (l : List Rec) (hl : l.length ≤ 140737488351232) (hr : ∀ r ∈ l, r.data.length ≤ 140737488351232 ∧ r.full = false) (h : Heap) :
    ∃ d h', Ans (evFn Cw d 8 [.sl f 6 (lcs l)] h) ([.bool true], h') := by
  have rs := fun (Q : Res → Prop) (tg : Hid Q) => few_run (d := 31026) (f := f) hl hr (h := h) (Q := Q) (tg := tg)
  cases hs : fewB l with
  | false =>
    obtain ⟨h1, ra⟩ := awake45_run 0 h
    rw [hs] at rs
    refine ⟨31028, h1, Run.ans ?_⟩
    rw [F8_eq]
    simp (disch := (first | assumption | (simp only [Bool.and_eq_true, Bool.and_eq_false_iff, decide_eq_true_eq, decide_eq_false_iff_not, bne_iff_ne, beq_iff_eq, beq_eq_false_iff_ne, bne_eq_false_iff_eq, Bool.not_eq_true', Bool.not_eq_false', bys_length, List.length_append, List.length_cons, List.length_nil, List.length_map, List.length_drop, List.length_take, Int.natCast_add, wrap_i64_eq, wrap_u64, wrap_u8, ne_eq, not_true_eq_false, not_false_eq_true, Nat.zero_add, Nat.mul_one] <;> omega) | omega | (simp; done) | (simp; omega))) only [↓CR, MC, ↓PR, MR, rs, Bool.not_false, ra]
  | true =>
    rw [hs] at rs
    unfold fewB at hs
    simp only [Bool.and_eq_true, decide_eq_true_eq] at hs
    obtain ⟨h1, vs, H1, r1⟩ := lana_run 1 f l hs.2 (fewF_mem hs.1) h
    obtain ⟨h2, ws, E2, H2, r2⟩ := rana_run 31023 f l hs.2 (fun r hx => ⟨fewF_mem hs.1 r hx, (hr r hx).2⟩) h1
    have z0 : ∀ x : Int, (x != x) = false := fun x => by simp
    have z00 : ((0 : Int) == 0) = true := rfl
    have zt : (true == true) = true := rfl
    have zf : (false == false) = true := rfl
    have zb : ((12 : Int) != 0) = true := rfl
    have zc : ((0 : Int) != 0) = false := rfl
    have ze : ∀ (v0 u0 a b v7 u7 : AVal) (x y z w : Int), (!eqCells (List.take 4 (List.drop 1 [v0, AVal.int .i64 x, AVal.int .i64 y, AVal.int .i64 z, AVal.int .i64 w, a, b, v7])) (List.take 4 (List.drop 1 [u0, AVal.int .i64 x, AVal.int .i64 y, AVal.int .i64 z, AVal.int .i64 w, a, b, u7]))) = false := fun v0 u0 a b v7 u7 x y z w => by
      simp [eqCells_cons, eqCells_nil, eq1_int]
    cases hR : lrun lini l with
    | none =>
      rw [hR] at H1 H2
      subst H1 H2
      obtain ⟨h3, E3, rp⟩ := lppairs_run 31020 h2
      have r3 := fun (Q : Res → Prop) (tg : Hid Q) => same31_run (d := 31026) (f := false) (g := true) (l := []) (h := h3) (Q := Q) (tg := tg) (by simp)
      rw [prs_nil] at r3
      obtain ⟨h4, ra⟩ := awake45_run 0 h3
      have t0 := fun (Q : Res → Prop) (tg : Hid Q) => ends_loop 31026 .nilp (.sl true 3 []) 0 0 0 0 0 0 true true [] (by simp) h3 Q 0 0 rounds tg rfl (Nat.lt_of_lt_of_le (by omega) rounds_ge)
      have t1 := fun (Q : Res → Prop) (tg : Hid Q) => opens_loop 31027 (.sl true 3 []) 0 0 0 0 0 0 true [] h3 h4 ra Q 4 0 rounds [] tg (by simp) (by omega) (Nat.lt_of_lt_of_le (by omega) rounds_ge)
      simp only [ints_nil, e0, List.nil_append, List.drop_zero, List.length_nil] at t0 t1
      refine ⟨31028, h4, Run.ans ?_⟩
      rw [F8_eq]
      simp (disch := (first | assumption | (simp only [Bool.and_eq_true, Bool.and_eq_false_iff, decide_eq_true_eq, decide_eq_false_iff_not, bne_iff_ne, beq_iff_eq, beq_eq_false_iff_ne, bne_eq_false_iff_eq, Bool.not_eq_true', Bool.not_eq_false', bys_length, List.length_append, List.length_cons, List.length_nil, List.length_map, List.length_drop, List.length_take, Int.natCast_add, wrap_i64_eq, wrap_u64, wrap_u8, ne_eq, not_true_eq_false, not_false_eq_true, Nat.zero_add, Nat.mul_one] <;> omega) | omega | (simp; done) | (simp; omega))) only [↓CR, MC, ↓PR, MR, rs, Bool.not_true, r1, r2, z0, arr4_3, ze, rp, r3, isPtr_nilp, isNilp_nilp, zb, zt, t0, t1]
    | some s =>
      rw [hR] at H1 H2
      obtain ⟨ti, tr, t, fl, x, y, z, w, hq, T, htl, rfl⟩ := H1
      obtain ⟨ft, fr, x', y', z', w', hq', hst, rfl⟩ := H2
      rw [hq] at hq'
      cases hq'
      obtain ⟨h3, E3, rp⟩ := tabpairs_run 31020 ti tr t h2 (T.ext E2)
      rw [htl] at rp
      have hlen := T.ok.len
      rw [htl] at hlen
      have r3 := fun (Q : Res → Prop) (tg : Hid Q) => same31_run (d := 31026) (f := false) (g := ft) (l := s.tab) (h := h3) (Q := Q) (tg := tg) (by omega)
      obtain ⟨h4, ra⟩ := awake45_run 0 h3
      have hen : s.ends.length ≤ 1000000 := by have := (lrun_inv l 0 lini s lini_inv hR).ends; omega
      have t0 := fun (Q : Res → Prop) (tg : Hid Q) => ends_loop 31026 (.obj ti 0) (.sl ft 3 (prs s.tab)) x y z w s.com s.und fl fr s.ends hen h3 Q s.ends.length 0 rounds tg (by omega) (Nat.lt_of_lt_of_le (by omega) rounds_ge)
      have t1 := fun (Q : Res → Prop) (tg : Hid Q) => opens_loop 31027 (.sl ft 3 (prs s.tab)) x y z w s.com s.und fr s.ends h3 h4 ra Q 4 0 rounds [] tg (by simp) (by omega) (Nat.lt_of_lt_of_le (by omega) rounds_ge)
      simp only [e0, List.nil_append, List.drop_zero, List.length_nil] at t0 t1
      refine ⟨31028, h4, Run.ans ?_⟩
      rw [F8_eq]
      simp (disch := (first | assumption | (simp only [Bool.and_eq_true, Bool.and_eq_false_iff, decide_eq_true_eq, decide_eq_false_iff_not, bne_iff_ne, beq_iff_eq, beq_eq_false_iff_ne, bne_eq_false_iff_eq, Bool.not_eq_true', Bool.not_eq_false', bys_length, List.length_append, List.length_cons, List.length_nil, List.length_map, List.length_drop, List.length_take, Int.natCast_add, wrap_i64_eq, wrap_u64, wrap_u8, ne_eq, not_true_eq_false, not_false_eq_true, Nat.zero_add, Nat.mul_one] <;> omega) | omega | (simp; done) | (simp; omega))) only [↓CR, MC, ↓PR, MR, rs, Bool.not_true, r1, r2, z0, arr4_3, ze, ints_length, rp, r3, isPtr_obj, isNilp_obj, zc, zf, t0, t1]
end Go.Proofs.Ytdlcjibefbnckaa.Wa
end
