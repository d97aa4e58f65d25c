/- UndoPlans. -/
import Derived.Test.YtkpjkaikeeldfaaVud
namespace Go.Proofs.Ytkpjkaikeeldfaa.Wa
open Go Go.Weave
set_option maxRecDepth 100000
set_option linter.unusedSimpArgs false
set_option linter.unusedVariables false
set_option linter.unusedSectionVars false

theorem same44_loop (d : Nat) (f g : Bool) (h : Heap) (l : List Change) (hl : l.length ≤ 2000000) (Q : Res → Prop) : ∀ (n i k : Nat) (tg : Hid Q), l.length = i + n → n < k →
    Run (P14_0 d k f (chs l) g (chs l) i h) Q tg = Q ([.bool true], h) := by
  intro n
  induction n with
  | zero =>
    intro i k tg hi hk
    obtain ⟨k, rfl⟩ : ∃ m, k = m + 1 := ⟨k - 1, by omega⟩
    rw [P14_0_eq]
    simp (disch := (first | assumption | (simp only [Bool.and_eq_true, Bool.and_eq_false_iff, decide_eq_true_eq, decide_eq_false_iff_not, bne_iff_ne, beq_iff_eq, beq_eq_false_iff_ne, bne_eq_false_iff_eq, Bool.not_eq_true', Bool.not_eq_false', bys_length, List.length_append, List.length_cons, List.length_nil, List.length_map, List.length_drop, List.length_take, Int.natCast_add, wrap_i64_eq, wrap_u64, wrap_u8, ne_eq, not_true_eq_false, not_false_eq_true, Nat.zero_add, Nat.mul_one] <;> omega) | omega | (simp; done) | (simp; omega))) only [↓at_runK, ↓at_bind, ↓contQ_mk, ↓at_ret, ↓at_consK, ↓at_nilK, ↓at_optK, ↓at_intK, ↓at_boolK, ↓at_strK, ↓at_slK, ↓at_slOK, ↓at_slK0, ↓at_slOK0, ↓at_aggK, ↓at_cond_t, ↓at_cond_f, ↓at_sameL, ↓at_any1, ↓at_any, and_self, toBytes_bys, List.nil_append, List.append_nil, ↓at_nodeW, List.drop_zero, List.take_succ_cons, List.take_zero, List.getElem?_cons_succ, List.getElem?_cons_zero, cells_agg, eqCells_cons, eqCells_nil, eq1_int, eq1_bool, eq1_str, ↓at_ptr_whole, ↓at_ptr_cell, ↓at_ptr_obj, ↓at_ptr_objs, shift_obj, shift_elt, toA_val, toA_own, Int.toNat_natCast, List.cons_append, chs_length]
  | succ n ih =>
    intro i k tg hi hk
    obtain ⟨k, rfl⟩ : ∃ m, k = m + 1 := ⟨k - 1, by omega⟩
    have h1 : i < l.length := by omega
    have e1 := succ_wrap (i := i) (by omega)
    have ih' := fun tg => ih (i + 1) k tg (by omega) (by omega)
    have bi : ∀ x : Int, (x == x) = true := fun x => by simp
    have bs : ∀ x : List UInt8, (x == x) = true := fun x => by simp
    have bb : ∀ x : Bool, (x == x) = true := fun x => by simp
    rw [P14_0_eq]
    simp (disch := (first | assumption | (simp only [Bool.and_eq_true, Bool.and_eq_false_iff, decide_eq_true_eq, decide_eq_false_iff_not, bne_iff_ne, beq_iff_eq, beq_eq_false_iff_ne, bne_eq_false_iff_eq, Bool.not_eq_true', Bool.not_eq_false', bys_length, List.length_append, List.length_cons, List.length_nil, List.length_map, List.length_drop, List.length_take, Int.natCast_add, wrap_i64_eq, wrap_u64, wrap_u8, ne_eq, not_true_eq_false, not_false_eq_true, Nat.zero_add, Nat.mul_one] <;> omega) | omega | (simp; done) | (simp; omega))) only [↓at_runK, ↓at_bind, ↓contQ_mk, ↓at_ret, ↓at_consK, ↓at_nilK, ↓at_optK, ↓at_intK, ↓at_boolK, ↓at_strK, ↓at_slK, ↓at_slOK, ↓at_slK0, ↓at_slOK0, ↓at_aggK, ↓at_cond_t, ↓at_cond_f, ↓at_sameL, ↓at_any1, ↓at_any, and_self, toBytes_bys, List.nil_append, List.append_nil, ↓at_nodeW, List.drop_zero, List.take_succ_cons, List.take_zero, List.getElem?_cons_succ, List.getElem?_cons_zero, cells_agg, eqCells_cons, eqCells_nil, eq1_int, eq1_bool, eq1_str, ↓at_ptr_whole, ↓at_ptr_cell, ↓at_ptr_obj, ↓at_ptr_objs, shift_obj, shift_elt, toA_val, toA_own, Int.toNat_natCast, List.cons_append, chs_length, chs_getD h1, plain23, Bool.and_self, bi, bs, bb, Bool.not_true, e1, ih']
theorem same44_run {d : Nat} {f g : Bool} {l : List Change} {h : Heap} {Q : Res → Prop} {tg : Hid Q} (hl : l.length ≤ 2000000) :
    Run (evFn Cw (d + 1) 14 [.sl f 7 (chs l), .sl g 7 (chs l)] h) Q tg = Q ([.bool true], h) := by
  have := same44_loop d f g h l hl Q l.length 0 rounds ⟨⟩ (by omega) (Nat.lt_of_lt_of_le (by omega) rounds_ge)
  rw [e0] at this
  rw [F14_eq]
  simp (disch := (first | assumption | (simp only [Bool.and_eq_true, Bool.and_eq_false_iff, decide_eq_true_eq, decide_eq_false_iff_not, bne_iff_ne, beq_iff_eq, beq_eq_false_iff_ne, bne_eq_false_iff_eq, Bool.not_eq_true', Bool.not_eq_false', bys_length, List.length_append, List.length_cons, List.length_nil, List.length_map, List.length_drop, List.length_take, Int.natCast_add, wrap_i64_eq, wrap_u64, wrap_u8, ne_eq, not_true_eq_false, not_false_eq_true, Nat.zero_add, Nat.mul_one] <;> omega) | omega | (simp; done) | (simp; omega))) only [↓at_runK, ↓at_bind, ↓contQ_mk, ↓at_ret, ↓at_consK, ↓at_nilK, ↓at_optK, ↓at_intK, ↓at_boolK, ↓at_strK, ↓at_slK, ↓at_slOK, ↓at_slK0, ↓at_slOK0, ↓at_aggK, ↓at_cond_t, ↓at_cond_f, ↓at_sameL, ↓at_any1, ↓at_any, and_self, toBytes_bys, List.nil_append, List.append_nil, ↓at_nodeW, List.drop_zero, List.take_succ_cons, List.take_zero, List.getElem?_cons_succ, List.getElem?_cons_zero, cells_agg, eqCells_cons, eqCells_nil, eq1_int, eq1_bool, eq1_str, ↓at_ptr_whole, ↓at_ptr_cell, ↓at_ptr_obj, ↓at_ptr_objs, shift_obj, shift_elt, toA_val, toA_own, Int.toNat_natCast, List.cons_append, chs_length, this]

noncomputable def l44 : List Rec := [⟨5, 0, 1, 0, true, []⟩, ⟨6, 0, 2, 1, false, cbytes [97] false true [] [] 0⟩]
theorem right44 : cright [97] false true [] [] 0 = true := by decide
theorem first44 (x : Int) : firstR l44 x 2 0 = if (1 : Int) = x then some 0 else if (2 : Int) = x then some 1 else none := rfl
theorem upl44 : upl l44 3 2 = some ([⟨[97], true, false, [], [], 1⟩], [2], 1) := by
  have f2 : firstR l44 2 l44.length 0 = some 1 := by
    have : l44.length = 2 := rfl
    rw [this, first44, if_neg (by decide), if_pos rfl]
  have f1 : firstR l44 1 l44.length 0 = some 0 := by
    have : l44.length = 2 := rfl
    rw [this, first44, if_pos rfl]
  have hc := cdec_cbytes right44
  have s2 : ustep l44 2 = .undo ⟨[97], true, false, [], [], 1⟩ 1 := by
    rw [ustep_at f2 (by show 1 < 2; omega)]
    have e : l44[1]'(by show 1 < 2; omega) = ⟨6, 0, 2, 1, false, cbytes [97] false true [] [] 0⟩ := rfl
    rw [e]
    simp only [hc]
    rw [if_neg (by omega), if_neg (by simp), if_pos trivial, if_neg (by omega)]
    rfl
  have s1 : ustep l44 1 = .begins := by
    rw [ustep_at f1 (by show 0 < 2; omega)]
    have e : l44[0]'(by show 0 < 2; omega) = ⟨5, 0, 1, 0, true, []⟩ := rfl
    rw [e, if_pos rfl]
  rw [upl_succ, s2]
  simp only
  rw [upl_succ, s1]
theorem len44 : (cbytes [97] false true [] [] 0).length ≤ 1000 := by
  have h1 := cfields_pks right44
  have := (enc_length 9 (0 : Int).toNat (lt_128_10 (by decide))).2
  unfold cbytes
  simp only [List.length_cons, List.length_append]; omega
theorem awake44_run (d : Nat) (h : Heap) : ∃ h', h.ext h' ∧ ∀ (Q : Res → Prop) (tg : Hid Q), Run (evFn Cw (d + 7) 12 [] h) Q tg = Q ([.bool true], h') := by
  have hd : ∀ r ∈ l44, r.data.length ≤ 140737488351232 := fun r hr => by
    have := len44
    rcases List.mem_cons.1 hr with rfl | hr
    · simp
    · rcases List.mem_cons.1 hr with rfl | hr
      · simp only; omega
      · cases hr
  obtain ⟨h1, fl, E1, r1⟩ := uplan_run d true l44 (by show 2 ≤ _; omega) hd 2 h
  obtain ⟨h2, E2, r2⟩ := ubegins_run d true l44 (by show 2 ≤ _; omega) hd 2 h1
  have hu : upl l44 (l44.length + 1) 2 = some ([⟨[97], true, false, [], [], 1⟩], [2], 1) := upl44
  rw [hu] at r1 r2
  simp only [uA, uG, Option.isSome_some, if_true] at r1 r2
  refine ⟨h2, E1.trans E2, fun Q tg => ?_⟩
  have e : [AVal.agg [.int .i64 5, .int .i64 0, .int .i64 1, .int .i64 0, .sl true 0 []], AVal.agg [.int .i64 6, .int .i64 0, .int .i64 2, .int .i64 1, .sl false 0 (bys (cbytes [97] false true [] [] 0))]] = recs l44 := rfl
  have b := fun (Q : Res → Prop) (tg : Hid Q) => bytes42_run (d := d + 3) right44 (h := h) (Q := Q) (tg := tg)
  have c1 : (chs [⟨[97], true, false, [], [], 1⟩]).length = 1 := rfl
  have c2 : (chs [⟨[97], true, false, [], [], 1⟩]).getD 0 AVal.undef = .agg [.str [97], .bool true, .bool false, .str [], .str [], .int .i64 1] := rfl
  have z0 : ((0 : Int) == 0) = true := rfl
  have z1 : ((1 : Int) == 1) = true := rfl
  have z2 : (((1 : Nat) : Int) == 1) = true := rfl
  rw [F12_eq]
  simp (disch := (first | assumption | (simp only [Bool.and_eq_true, Bool.and_eq_false_iff, decide_eq_true_eq, decide_eq_false_iff_not, bne_iff_ne, beq_iff_eq, beq_eq_false_iff_ne, bne_eq_false_iff_eq, Bool.not_eq_true', Bool.not_eq_false', bys_length, List.length_append, List.length_cons, List.length_nil, List.length_map, List.length_drop, List.length_take, Int.natCast_add, wrap_i64_eq, wrap_u64, wrap_u8, ne_eq, not_true_eq_false, not_false_eq_true, Nat.zero_add, Nat.mul_one] <;> omega) | omega | (simp; done) | (simp; omega))) only [↓at_runK, ↓at_bind, ↓contQ_mk, ↓at_ret, ↓at_consK, ↓at_nilK, ↓at_optK, ↓at_intK, ↓at_boolK, ↓at_strK, ↓at_slK, ↓at_slOK, ↓at_slK0, ↓at_slOK0, ↓at_aggK, ↓at_cond_t, ↓at_cond_f, ↓at_sameL, ↓at_any1, ↓at_any, and_self, toBytes_bys, List.nil_append, List.append_nil, ↓at_nodeW, List.drop_zero, List.take_succ_cons, List.take_zero, List.getElem?_cons_succ, List.getElem?_cons_zero, cells_agg, eqCells_cons, eqCells_nil, eq1_int, eq1_bool, eq1_str, ↓at_ptr_whole, ↓at_ptr_cell, ↓at_ptr_obj, ↓at_ptr_objs, shift_obj, shift_elt, toA_val, toA_own, Int.toNat_natCast, List.cons_append, b, e, r1, c1, c2, z0, z1, z2, r2]

theorem left_loop (d : Nat) (f : Bool) (l : List Int) (hl : l.length ≤ 2000000) (h : Heap) : ∃ h', h.ext h' ∧ ∀ (n i k : Nat) (Q : Res → Prop) (tg : Hid Q), l.length = i + n → n < k →
    Run (P5_0 (d + 7) k f (ints l) (ints l) i h) Q tg = Q ([.bool true], h') := by
  obtain ⟨h', E, r⟩ := awake44_run d h
  refine ⟨h', E, fun n => ?_⟩
  induction n with
  | zero =>
    intro i k Q tg hi hk
    obtain ⟨k, rfl⟩ : ∃ m, k = m + 1 := ⟨k - 1, by omega⟩
    rw [P5_0_eq]
    simp (disch := (first | assumption | (simp only [Bool.and_eq_true, Bool.and_eq_false_iff, decide_eq_true_eq, decide_eq_false_iff_not, bne_iff_ne, beq_iff_eq, beq_eq_false_iff_ne, bne_eq_false_iff_eq, Bool.not_eq_true', Bool.not_eq_false', bys_length, List.length_append, List.length_cons, List.length_nil, List.length_map, List.length_drop, List.length_take, Int.natCast_add, wrap_i64_eq, wrap_u64, wrap_u8, ne_eq, not_true_eq_false, not_false_eq_true, Nat.zero_add, Nat.mul_one] <;> omega) | omega | (simp; done) | (simp; omega))) only [↓at_runK, ↓at_bind, ↓contQ_mk, ↓at_ret, ↓at_consK, ↓at_nilK, ↓at_optK, ↓at_intK, ↓at_boolK, ↓at_strK, ↓at_slK, ↓at_slOK, ↓at_slK0, ↓at_slOK0, ↓at_aggK, ↓at_cond_t, ↓at_cond_f, ↓at_sameL, ↓at_any1, ↓at_any, and_self, toBytes_bys, List.nil_append, List.append_nil, ↓at_nodeW, List.drop_zero, List.take_succ_cons, List.take_zero, List.getElem?_cons_succ, List.getElem?_cons_zero, cells_agg, eqCells_cons, eqCells_nil, eq1_int, eq1_bool, eq1_str, ↓at_ptr_whole, ↓at_ptr_cell, ↓at_ptr_obj, ↓at_ptr_objs, shift_obj, shift_elt, toA_val, toA_own, Int.toNat_natCast, List.cons_append, ints_length, r]
  | succ n ih =>
    intro i k Q tg hi hk
    obtain ⟨k, rfl⟩ : ∃ m, k = m + 1 := ⟨k - 1, by omega⟩
    have h1 : i < l.length := by omega
    have e1 := succ_wrap (i := i) (by omega)
    have ih' := fun tg => ih (i + 1) k Q tg (by omega) (by omega)
    have bn : ∀ x : Int, (x != x) = false := fun x => by simp
    rw [P5_0_eq]
    simp (disch := (first | assumption | (simp only [Bool.and_eq_true, Bool.and_eq_false_iff, decide_eq_true_eq, decide_eq_false_iff_not, bne_iff_ne, beq_iff_eq, beq_eq_false_iff_ne, bne_eq_false_iff_eq, Bool.not_eq_true', Bool.not_eq_false', bys_length, List.length_append, List.length_cons, List.length_nil, List.length_map, List.length_drop, List.length_take, Int.natCast_add, wrap_i64_eq, wrap_u64, wrap_u8, ne_eq, not_true_eq_false, not_false_eq_true, Nat.zero_add, Nat.mul_one] <;> omega) | omega | (simp; done) | (simp; omega))) only [↓at_runK, ↓at_bind, ↓contQ_mk, ↓at_ret, ↓at_consK, ↓at_nilK, ↓at_optK, ↓at_intK, ↓at_boolK, ↓at_strK, ↓at_slK, ↓at_slOK, ↓at_slK0, ↓at_slOK0, ↓at_aggK, ↓at_cond_t, ↓at_cond_f, ↓at_sameL, ↓at_any1, ↓at_any, and_self, toBytes_bys, List.nil_append, List.append_nil, ↓at_nodeW, List.drop_zero, List.take_succ_cons, List.take_zero, List.getElem?_cons_succ, List.getElem?_cons_zero, cells_agg, eqCells_cons, eqCells_nil, eq1_int, eq1_bool, eq1_str, ↓at_ptr_whole, ↓at_ptr_cell, ↓at_ptr_obj, ↓at_ptr_objs, shift_obj, shift_elt, toA_val, toA_own, Int.toNat_natCast, List.cons_append, ints_length, ints_getD h1, bn, e1, ih']
/-- UndoPlans. -/
theorem uplans_true (f : Bool) (l : List Rec) (x : Int) (hd : ∀ r ∈ l, r.data.length ≤ 140737488351232) (h : Heap) :
    ∃ d h', Ans (evFn Cw d 5 [.sl f 6 (recs l), .int .i64 x] h) ([.bool true], h') := by
  by_cases c : (l.length : Int) > 200
  · obtain ⟨h', E, r⟩ := awake44_run 0 h
    refine ⟨8, h', Run.ans ?_⟩
    rw [F5_eq]
    simp (disch := (first | assumption | (simp only [Bool.and_eq_true, Bool.and_eq_false_iff, decide_eq_true_eq, decide_eq_false_iff_not, bne_iff_ne, beq_iff_eq, beq_eq_false_iff_ne, bne_eq_false_iff_eq, Bool.not_eq_true', Bool.not_eq_false', bys_length, List.length_append, List.length_cons, List.length_nil, List.length_map, List.length_drop, List.length_take, Int.natCast_add, wrap_i64_eq, wrap_u64, wrap_u8, ne_eq, not_true_eq_false, not_false_eq_true, Nat.zero_add, Nat.mul_one] <;> omega) | omega | (simp; done) | (simp; omega))) only [↓at_runK, ↓at_bind, ↓contQ_mk, ↓at_ret, ↓at_consK, ↓at_nilK, ↓at_optK, ↓at_intK, ↓at_boolK, ↓at_strK, ↓at_slK, ↓at_slOK, ↓at_slK0, ↓at_slOK0, ↓at_aggK, ↓at_cond_t, ↓at_cond_f, ↓at_sameL, ↓at_any1, ↓at_any, and_self, toBytes_bys, List.nil_append, List.append_nil, ↓at_nodeW, List.drop_zero, List.take_succ_cons, List.take_zero, List.getElem?_cons_succ, List.getElem?_cons_zero, cells_agg, eqCells_cons, eqCells_nil, eq1_int, eq1_bool, eq1_str, ↓at_ptr_whole, ↓at_ptr_cell, ↓at_ptr_obj, ↓at_ptr_objs, shift_obj, shift_elt, toA_val, toA_own, Int.toNat_natCast, List.cons_append, recs_length, c, r]
  · have hl : l.length ≤ 2000000 := by omega
    obtain ⟨h1, fl, E1, r1⟩ := uplan_run (l.length + 2) f l hl hd x h
    obtain ⟨h2, fl2, E2, r2⟩ := uleft_run (l.length + 2) f l hl hd x h1
    obtain ⟨v1, v2, s1, s2, r3⟩ := rplan_run f l hl hd h2 (l.length + 1) x (by have := upto_le l x; omega) (by omega) 3
    obtain ⟨h3, E3, r4⟩ := ubegins_run (l.length + 2) f l hl hd x h2
    have hlen := upl_len l (l.length + 1) x
    have e : 3 + (l.length + 1) + 4 = l.length + 2 + 6 := by omega
    rw [e] at r3
    obtain ⟨h4, E4, r5⟩ := left_loop (l.length + 1) fl2 (uB (upl l (l.length + 1) x)) (by omega) h3
    have r5' := fun (Q : Res → Prop) (tg : Hid Q) => r5 _ 0 rounds Q tg (Nat.zero_add _).symm (Nat.lt_of_lt_of_le (by omega) rounds_ge)
    have r6 := fun (fl : Bool) (Q : Res → Prop) (tg : Hid Q) => same44_run (d := l.length + 7) (f := fl) (g := false) (l := uA (upl l (l.length + 1) x)) (h := h2) (Q := Q) (tg := tg) (by omega)
    rw [e0] at r5'
    have bn : ∀ x : Int, (x != x) = false := fun x => by simp
    have z0 : ((0 : Int) == 0) = true := rfl
    have z12 : ((12 : Int) == 0) = false := rfl
    refine ⟨l.length + 9, h4, Run.ans ?_⟩
    rw [F5_eq]
    cases ho : upl l (l.length + 1) x with
    | none =>
      rw [ho] at r1 r2 r3 r4 r5' r6 s1 s2
      simp only [uA, uB, uG, Option.isSome_none, Bool.false_eq_true, if_false, chs_nil, ints_nil] at r1 r2 r3 r4 r5' r6 s1 s2
      simp (disch := (first | assumption | (simp only [Bool.and_eq_true, Bool.and_eq_false_iff, decide_eq_true_eq, decide_eq_false_iff_not, bne_iff_ne, beq_iff_eq, beq_eq_false_iff_ne, bne_eq_false_iff_eq, Bool.not_eq_true', Bool.not_eq_false', bys_length, List.length_append, List.length_cons, List.length_nil, List.length_map, List.length_drop, List.length_take, Int.natCast_add, wrap_i64_eq, wrap_u64, wrap_u8, ne_eq, not_true_eq_false, not_false_eq_true, Nat.zero_add, Nat.mul_one] <;> omega) | omega | (simp; done) | (simp; omega))) only [↓at_runK, ↓at_bind, ↓contQ_mk, ↓at_ret, ↓at_consK, ↓at_nilK, ↓at_optK, ↓at_intK, ↓at_boolK, ↓at_strK, ↓at_slK, ↓at_slOK, ↓at_slK0, ↓at_slOK0, ↓at_aggK, ↓at_cond_t, ↓at_cond_f, ↓at_sameL, ↓at_any1, ↓at_any, and_self, toBytes_bys, List.nil_append, List.append_nil, ↓at_nodeW, List.drop_zero, List.take_succ_cons, List.take_zero, List.getElem?_cons_succ, List.getElem?_cons_zero, cells_agg, eqCells_cons, eqCells_nil, eq1_int, eq1_bool, eq1_str, ↓at_ptr_whole, ↓at_ptr_cell, ↓at_ptr_obj, ↓at_ptr_objs, shift_obj, shift_elt, toA_val, toA_own, Int.toNat_natCast, List.cons_append, recs_length, r1, r2, r3, s1.ok, s2.ok, r6, Bool.not_true, z12, bn, Bool.not_false, beq_self_eq_true, r4, List.length_nil, r5']
    | some p =>
      obtain ⟨a, b, g⟩ := p
      rw [ho] at r1 r2 r3 r4 r5' r6 s1 s2 hlen
      simp only [uA, uB, uG, Option.isSome_some, if_true] at r1 r2 r3 r4 r5' r6 s1 s2 hlen
      simp (disch := (first | assumption | (simp only [Bool.and_eq_true, Bool.and_eq_false_iff, decide_eq_true_eq, decide_eq_false_iff_not, bne_iff_ne, beq_iff_eq, beq_eq_false_iff_ne, bne_eq_false_iff_eq, Bool.not_eq_true', Bool.not_eq_false', bys_length, List.length_append, List.length_cons, List.length_nil, List.length_map, List.length_drop, List.length_take, Int.natCast_add, wrap_i64_eq, wrap_u64, wrap_u8, ne_eq, not_true_eq_false, not_false_eq_true, Nat.zero_add, Nat.mul_one] <;> omega) | omega | (simp; done) | (simp; omega))) only [↓at_runK, ↓at_bind, ↓contQ_mk, ↓at_ret, ↓at_consK, ↓at_nilK, ↓at_optK, ↓at_intK, ↓at_boolK, ↓at_strK, ↓at_slK, ↓at_slOK, ↓at_slK0, ↓at_slOK0, ↓at_aggK, ↓at_cond_t, ↓at_cond_f, ↓at_sameL, ↓at_any1, ↓at_any, and_self, toBytes_bys, List.nil_append, List.append_nil, ↓at_nodeW, List.drop_zero, List.take_succ_cons, List.take_zero, List.getElem?_cons_succ, List.getElem?_cons_zero, cells_agg, eqCells_cons, eqCells_nil, eq1_int, eq1_bool, eq1_str, ↓at_ptr_whole, ↓at_ptr_cell, ↓at_ptr_obj, ↓at_ptr_objs, shift_obj, shift_elt, toA_val, toA_own, Int.toNat_natCast, List.cons_append, recs_length, r1, r2, r3, s1.ok, s2.ok, r6, Bool.not_true, z0, bn, beq_self_eq_true, r4, ints_length, r5']
end Go.Proofs.Ytkpjkaikeeldfaa.Wa
