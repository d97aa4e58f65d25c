/- Records decoded by the reference; RecordDecodes, RecordEncodes. -/
import Derived.Test.YtfdkkhmaikgmcaaVr
namespace Go.Proofs.Ytfdkkhmaikgmcaa.Wa
open Go Go.Weave
set_option maxRecDepth 100000
set_option linter.unusedSimpArgs false
set_option linter.unusedVariables false
set_option linter.unusedSectionVars false

theorem part_drop' {l : List UInt8} {k : Nat} : Weave.part (k : Int) (l.length : Int) (bys l) = bys (l.drop k) := by
  have := part_drop (l := l) (k := k)
  rw [bys_length] at this
  exact this
theorem rsame'_self (k c l p : Int) (dt : List UInt8) : rsame' k c l p dt k c l p dt = true := by simp [rsame']
theorem part_two {l : List UInt8} : Weave.part 2 (l.length : Int) (bys l) = bys (l.drop 2) := part_drop' (k := 2)

theorem get_run' {d : Nat} {f : Bool} {l : List UInt8} {h : Heap} {Q : Res → Prop} {tg : Hid Q} (hl : l.length ≤ 140737488355328) :
    Run (evFn Cw (d + 1) 72 [.sl f 0 (bys l)] h) Q tg = Q ([.int .u64 (getF l 0 0).1, .int .i64 (getF l 0 0).2.1, .int .i64 (getF l 0 0).2.2], h) := (rget_ok d f l h hl).at
theorem rrdec_lit {d : Nat} {f : Bool} {b : List UInt8} {h : Heap} {N K M J : Nat} (h2 : 2 ≤ b.length) (hb : b.length ≤ 512) (hK : 2 + K + J ≤ b.length) (hN : N ≤ 2147483647) (hM : M ≤ N) {Q : Res → Prop} {tg : Hid Q} :
    Run (P17_0 d f (bys b) N K M J 0 0 0 0 [] h) Q tg = Run (P17_1 d 0 0 0 0 [] ((b[0]'(by omega)).toNat : Nat) ((b[1]'(by omega)).toNat : Nat) N ((N : Int) - M) (bys (b.drop (2 + K + J))) h) Q ⟨⟩ := by
  have g0 : (bys b).getD 0 AVal.undef = .int .u8 ((b[0]'(by omega)).toNat : Int) := bys_getD (by omega)
  have g1 : (bys b).getD 1 AVal.undef = .int .u8 ((b[1]'(by omega)).toNat : Int) := bys_getD (by omega)
  have w1 : IntKind.i64.wrap (2 + (K : Int)) = ((2 + K : Nat) : Int) := by rw [wrap_i64_id (by omega) (by omega)]; omega
  have w2 : IntKind.i64.wrap (((2 + K : Nat) : Int) + (J : Int)) = ((2 + K + J : Nat) : Int) := by rw [wrap_i64_id (by omega) (by omega)]; omega
  have w3 : IntKind.i64.wrap (N : Int) = N := wrap_i64_id (by omega) (by omega)
  have w4 : IntKind.i64.wrap (IntKind.u64.wrap ((N : Int) - (M : Int))) = (N : Int) - M := by rw [wrap_u64_id (by omega) (by omega), wrap_i64_id (by omega) (by omega)]
  rw [P17_0_eq]
  simp only [w1, w2, w3, w4, g0, g1, bys_length, part_drop', List.nil_append]
  have c1 : decide ((0 : Int) < (b.length : Int)) = true := by rw [decide_eq_true_eq]; omega
  have c2 : decide ((1 : Int) < (b.length : Int)) = true := by rw [decide_eq_true_eq]; omega
  have c3 : ((decide ((0 : Int) ≤ ((2 + K + J : Nat) : Int)) && decide (((2 + K + J : Nat) : Int) ≤ (b.length : Int))) && decide ((b.length : Int) ≤ (b.length : Int))) = true := by
    simp only [Bool.and_eq_true, decide_eq_true_eq]; omega
  have c4 : decide ((0 + (b.drop (2 + K + J)).length) * 1 ≤ 140737488355328) = true := by
    rw [decide_eq_true_eq, List.length_drop]; omega
  simp only [c1, c2, c3, c4, cond_true]
  simp only [↓at_any, ↓at_any1, ↓at_sameL, ↓at_intK, byte_wrap, and_self]
theorem rrdecode_run {d : Nat} {f : Bool} {b : List UInt8} {h : Heap} {Q : Res → Prop} {tg : Hid Q} :
    Run (evFn Cw (d + 3) 17 [.sl f 0 (bys b)] h) Q tg = Q ([(rdec b).A, .int .i64 (rdec b).e], h) := by
  rw [F17_eq]
  unfold rdec
  by_cases h1 : 512 < b.length
  · rw [dif_pos h1, RD.bad_A (by omega)]
    simp (disch := (first | assumption | (simp only [Bool.and_eq_true, Bool.and_eq_false_iff, decide_eq_true_eq, decide_eq_false_iff_not, bne_iff_ne, beq_iff_eq, beq_eq_false_iff_ne, bne_eq_false_iff_eq, Bool.not_eq_true', Bool.not_eq_false', bys_length, List.length_append, List.length_cons, List.length_nil, List.length_map, List.length_drop, List.length_take, Int.natCast_add, wrap_i64_eq, wrap_u64, wrap_u8, ne_eq, not_true_eq_false, not_false_eq_true, Nat.zero_add, Nat.mul_one] <;> omega) | omega | (simp; done) | (simp; omega))) only [↓at_runK, ↓at_bind, ↓contQ_mk, ↓at_ret, ↓at_consK, ↓at_nilK, ↓at_optK, ↓at_intK, ↓at_boolK, ↓at_strK, ↓at_slK, ↓at_slOK, ↓at_slK0, ↓at_slOK0, ↓at_aggK, ↓at_cond_t, ↓at_cond_f, ↓at_sameL, ↓at_any1, ↓at_any, and_self, toBytes_bys, List.nil_append, List.append_nil, List.drop_zero, List.take_succ_cons, List.take_zero, List.getElem?_cons_succ, List.getElem?_cons_zero, cells_agg, eqCells_cons, eqCells_nil, eq1_int, eq1_bool, eq1_str, ↓at_ptr_whole, ↓at_ptr_cell, ↓at_ptr_obj, ↓at_ptr_objs, shift_obj, shift_elt, toA_val, toA_own, Int.toNat_natCast, List.cons_append, bys_length]
    rfl
  · rw [dif_neg h1]
    by_cases h2 : b.length < 2
    · rw [dif_pos h2, RD.bad_A (by omega)]
      simp (disch := (first | assumption | (simp only [Bool.and_eq_true, Bool.and_eq_false_iff, decide_eq_true_eq, decide_eq_false_iff_not, bne_iff_ne, beq_iff_eq, beq_eq_false_iff_ne, bne_eq_false_iff_eq, Bool.not_eq_true', Bool.not_eq_false', bys_length, List.length_append, List.length_cons, List.length_nil, List.length_map, List.length_drop, List.length_take, Int.natCast_add, wrap_i64_eq, wrap_u64, wrap_u8, ne_eq, not_true_eq_false, not_false_eq_true, Nat.zero_add, Nat.mul_one] <;> omega) | omega | (simp; done) | (simp; omega))) only [↓at_runK, ↓at_bind, ↓contQ_mk, ↓at_ret, ↓at_consK, ↓at_nilK, ↓at_optK, ↓at_intK, ↓at_boolK, ↓at_strK, ↓at_slK, ↓at_slOK, ↓at_slK0, ↓at_slOK0, ↓at_aggK, ↓at_cond_t, ↓at_cond_f, ↓at_sameL, ↓at_any1, ↓at_any, and_self, toBytes_bys, List.nil_append, List.append_nil, List.drop_zero, List.take_succ_cons, List.take_zero, List.getElem?_cons_succ, List.getElem?_cons_zero, cells_agg, eqCells_cons, eqCells_nil, eq1_int, eq1_bool, eq1_str, ↓at_ptr_whole, ↓at_ptr_cell, ↓at_ptr_obj, ↓at_ptr_objs, shift_obj, shift_elt, toA_val, toA_own, Int.toNat_natCast, List.cons_append, bys_length]
      rfl
    · rw [dif_neg h2]
      have g0 : (bys b).getD 0 AVal.undef = .int .u8 ((b[0]'(by omega)).toNat : Int) := bys_getD (by omega)
      have g1 : (bys b).getD 1 AVal.undef = .int .u8 ((b[1]'(by omega)).toNat : Int) := bys_getD (by omega)
      have hl2 : (b.drop 2).length ≤ 140737488351232 := by rw [List.length_drop]; omega
      by_cases he : (getF (b.drop 2) 0 0).2.2 = 0
      · have ⟨q1, q2, q3⟩ := getF_ok he
        rw [if_neg (by simp [he])]
        rw [List.length_drop] at q2
        generalize hK : (getF (b.drop 2) 0 0).2.1 = K at *
        have w1 : IntKind.i64.wrap (2 + (K : Int)) = ((2 + K : Nat) : Int) := by rw [wrap_i64_id (by omega) (by omega)]; omega
        have hl3 : (b.drop (2 + K)).length ≤ 140737488351232 := by simp; omega
        by_cases he2 : (getF (b.drop (2 + K)) 0 0).2.2 = 0
        · have ⟨r1, r2, r3⟩ := getF_ok he2
          rw [List.length_drop] at r2
          rw [if_neg (by simp [he2])]
          generalize hN : (getF (b.drop 2) 0 0).1 = N at *
          generalize hM : (getF (b.drop (2 + K)) 0 0).1 = M at *
          generalize hJ : (getF (b.drop (2 + K)) 0 0).2.1 = J at *
          have w2 : IntKind.i64.wrap (((2 + K : Nat) : Int) + (J : Int)) = ((2 + K + J : Nat) : Int) := by rw [wrap_i64_id (by omega) (by omega)]; omega
          by_cases hok : N ≤ 2147483647 ∧ 1 ≤ M ∧ M ≤ N ∧ rright ((b[0]'(by omega)).toNat : Nat) ((b[1]'(by omega)).toNat : Nat) N (N - M) = true
          · have w3 : IntKind.i64.wrap (N : Int) = N := wrap_i64_id (by omega) (by omega)
            have w4 : IntKind.i64.wrap (IntKind.u64.wrap ((N : Int) - (M : Int))) = (N : Int) - M := by rw [wrap_u64_id (by omega) (by omega), wrap_i64_id (by omega) (by omega)]
            rw [if_pos hok]
            have hlit := fun (Q : Res → Prop) (tg : Hid Q) => rrdec_lit (d := d + 2) (f := f) (b := b) (h := h) (N := N) (K := K) (M := M) (J := J) (by omega) (by omega) (by omega) hok.1 hok.2.2.1 (Q := Q) (tg := tg)
            simp (disch := (first | assumption | (simp only [Bool.and_eq_true, Bool.and_eq_false_iff, decide_eq_true_eq, decide_eq_false_iff_not, bne_iff_ne, beq_iff_eq, beq_eq_false_iff_ne, bne_eq_false_iff_eq, Bool.not_eq_true', Bool.not_eq_false', bys_length, List.length_append, List.length_cons, List.length_nil, List.length_map, List.length_drop, List.length_take, Int.natCast_add, wrap_i64_eq, wrap_u64, wrap_u8, ne_eq, not_true_eq_false, not_false_eq_true, Nat.zero_add, Nat.mul_one] <;> omega) | omega | (simp; done) | (simp; omega))) only [↓at_runK, ↓at_bind, ↓contQ_mk, ↓at_ret, ↓at_consK, ↓at_nilK, ↓at_optK, ↓at_intK, ↓at_boolK, ↓at_strK, ↓at_slK, ↓at_slOK, ↓at_slK0, ↓at_slOK0, ↓at_aggK, ↓at_cond_t, ↓at_cond_f, ↓at_sameL, ↓at_any1, ↓at_any, and_self, toBytes_bys, List.nil_append, List.append_nil, List.drop_zero, List.take_succ_cons, List.take_zero, List.getElem?_cons_succ, List.getElem?_cons_zero, cells_agg, eqCells_cons, eqCells_nil, eq1_int, eq1_bool, eq1_str, ↓at_ptr_whole, ↓at_ptr_cell, ↓at_ptr_obj, ↓at_ptr_objs, shift_obj, shift_elt, toA_val, toA_own, Int.toNat_natCast, List.cons_append, bys_length, part_two, get_run', hK, w1, part_drop', hN, hM, hJ, he, he2, hlit, P17_1_eq, ref_right_run, hok.2.2.2]
            rfl
          · rw [if_neg hok, RD.bad_A (by omega)]
            by_cases c1 : N ≤ 2147483647
            · by_cases c2 : M ≤ N
              · by_cases c3 : 1 ≤ M
                · have hr : rright ((b[0]'(by omega)).toNat : Nat) ((b[1]'(by omega)).toNat : Nat) N (N - M) = false := by
                    cases hx : rright ((b[0]'(by omega)).toNat : Nat) ((b[1]'(by omega)).toNat : Nat) N (N - M)
                    · rfl
                    · exact absurd ⟨c1, c3, c2, hx⟩ hok
                  have w3 : IntKind.i64.wrap (N : Int) = N := wrap_i64_id (by omega) (by omega)
                  have w4 : IntKind.i64.wrap (IntKind.u64.wrap ((N : Int) - (M : Int))) = (N : Int) - M := by rw [wrap_u64_id (by omega) (by omega), wrap_i64_id (by omega) (by omega)]
                  have hlit := fun (Q : Res → Prop) (tg : Hid Q) => rrdec_lit (d := d + 2) (f := f) (b := b) (h := h) (N := N) (K := K) (M := M) (J := J) (by omega) (by omega) (by omega) c1 c2 (Q := Q) (tg := tg)
                  simp (disch := (first | assumption | (simp only [Bool.and_eq_true, Bool.and_eq_false_iff, decide_eq_true_eq, decide_eq_false_iff_not, bne_iff_ne, beq_iff_eq, beq_eq_false_iff_ne, bne_eq_false_iff_eq, Bool.not_eq_true', Bool.not_eq_false', bys_length, List.length_append, List.length_cons, List.length_nil, List.length_map, List.length_drop, List.length_take, Int.natCast_add, wrap_i64_eq, wrap_u64, wrap_u8, ne_eq, not_true_eq_false, not_false_eq_true, Nat.zero_add, Nat.mul_one] <;> omega) | omega | (simp; done) | (simp; omega))) only [↓at_runK, ↓at_bind, ↓contQ_mk, ↓at_ret, ↓at_consK, ↓at_nilK, ↓at_optK, ↓at_intK, ↓at_boolK, ↓at_strK, ↓at_slK, ↓at_slOK, ↓at_slK0, ↓at_slOK0, ↓at_aggK, ↓at_cond_t, ↓at_cond_f, ↓at_sameL, ↓at_any1, ↓at_any, and_self, toBytes_bys, List.nil_append, List.append_nil, List.drop_zero, List.take_succ_cons, List.take_zero, List.getElem?_cons_succ, List.getElem?_cons_zero, cells_agg, eqCells_cons, eqCells_nil, eq1_int, eq1_bool, eq1_str, ↓at_ptr_whole, ↓at_ptr_cell, ↓at_ptr_obj, ↓at_ptr_objs, shift_obj, shift_elt, toA_val, toA_own, Int.toNat_natCast, List.cons_append, bys_length, part_two, get_run', hK, w1, part_drop', hN, hM, hJ, he, he2, hlit, P17_1_eq, ref_right_run, hr]
                  rfl
                · simp (disch := (first | assumption | (simp only [Bool.and_eq_true, Bool.and_eq_false_iff, decide_eq_true_eq, decide_eq_false_iff_not, bne_iff_ne, beq_iff_eq, beq_eq_false_iff_ne, bne_eq_false_iff_eq, Bool.not_eq_true', Bool.not_eq_false', bys_length, List.length_append, List.length_cons, List.length_nil, List.length_map, List.length_drop, List.length_take, Int.natCast_add, wrap_i64_eq, wrap_u64, wrap_u8, ne_eq, not_true_eq_false, not_false_eq_true, Nat.zero_add, Nat.mul_one] <;> omega) | omega | (simp; done) | (simp; omega))) only [↓at_runK, ↓at_bind, ↓contQ_mk, ↓at_ret, ↓at_consK, ↓at_nilK, ↓at_optK, ↓at_intK, ↓at_boolK, ↓at_strK, ↓at_slK, ↓at_slOK, ↓at_slK0, ↓at_slOK0, ↓at_aggK, ↓at_cond_t, ↓at_cond_f, ↓at_sameL, ↓at_any1, ↓at_any, and_self, toBytes_bys, List.nil_append, List.append_nil, List.drop_zero, List.take_succ_cons, List.take_zero, List.getElem?_cons_succ, List.getElem?_cons_zero, cells_agg, eqCells_cons, eqCells_nil, eq1_int, eq1_bool, eq1_str, ↓at_ptr_whole, ↓at_ptr_cell, ↓at_ptr_obj, ↓at_ptr_objs, shift_obj, shift_elt, toA_val, toA_own, Int.toNat_natCast, List.cons_append, bys_length, part_two, get_run', hK, w1, part_drop', hN, hM, hJ, he, he2]
                  rfl
              · simp (disch := (first | assumption | (simp only [Bool.and_eq_true, Bool.and_eq_false_iff, decide_eq_true_eq, decide_eq_false_iff_not, bne_iff_ne, beq_iff_eq, beq_eq_false_iff_ne, bne_eq_false_iff_eq, Bool.not_eq_true', Bool.not_eq_false', bys_length, List.length_append, List.length_cons, List.length_nil, List.length_map, List.length_drop, List.length_take, Int.natCast_add, wrap_i64_eq, wrap_u64, wrap_u8, ne_eq, not_true_eq_false, not_false_eq_true, Nat.zero_add, Nat.mul_one] <;> omega) | omega | (simp; done) | (simp; omega))) only [↓at_runK, ↓at_bind, ↓contQ_mk, ↓at_ret, ↓at_consK, ↓at_nilK, ↓at_optK, ↓at_intK, ↓at_boolK, ↓at_strK, ↓at_slK, ↓at_slOK, ↓at_slK0, ↓at_slOK0, ↓at_aggK, ↓at_cond_t, ↓at_cond_f, ↓at_sameL, ↓at_any1, ↓at_any, and_self, toBytes_bys, List.nil_append, List.append_nil, List.drop_zero, List.take_succ_cons, List.take_zero, List.getElem?_cons_succ, List.getElem?_cons_zero, cells_agg, eqCells_cons, eqCells_nil, eq1_int, eq1_bool, eq1_str, ↓at_ptr_whole, ↓at_ptr_cell, ↓at_ptr_obj, ↓at_ptr_objs, shift_obj, shift_elt, toA_val, toA_own, Int.toNat_natCast, List.cons_append, bys_length, part_two, get_run', hK, w1, part_drop', hN, hM, hJ, he, he2]
                rfl
            · simp (disch := (first | assumption | (simp only [Bool.and_eq_true, Bool.and_eq_false_iff, decide_eq_true_eq, decide_eq_false_iff_not, bne_iff_ne, beq_iff_eq, beq_eq_false_iff_ne, bne_eq_false_iff_eq, Bool.not_eq_true', Bool.not_eq_false', bys_length, List.length_append, List.length_cons, List.length_nil, List.length_map, List.length_drop, List.length_take, Int.natCast_add, wrap_i64_eq, wrap_u64, wrap_u8, ne_eq, not_true_eq_false, not_false_eq_true, Nat.zero_add, Nat.mul_one] <;> omega) | omega | (simp; done) | (simp; omega))) only [↓at_runK, ↓at_bind, ↓contQ_mk, ↓at_ret, ↓at_consK, ↓at_nilK, ↓at_optK, ↓at_intK, ↓at_boolK, ↓at_strK, ↓at_slK, ↓at_slOK, ↓at_slK0, ↓at_slOK0, ↓at_aggK, ↓at_cond_t, ↓at_cond_f, ↓at_sameL, ↓at_any1, ↓at_any, and_self, toBytes_bys, List.nil_append, List.append_nil, List.drop_zero, List.take_succ_cons, List.take_zero, List.getElem?_cons_succ, List.getElem?_cons_zero, cells_agg, eqCells_cons, eqCells_nil, eq1_int, eq1_bool, eq1_str, ↓at_ptr_whole, ↓at_ptr_cell, ↓at_ptr_obj, ↓at_ptr_objs, shift_obj, shift_elt, toA_val, toA_own, Int.toNat_natCast, List.cons_append, bys_length, part_two, get_run', hK, w1, part_drop', hN, hM, hJ, he, he2]
              rfl
        · rw [if_pos he2, RD.bad_A he2]
          simp (disch := (first | assumption | (simp only [Bool.and_eq_true, Bool.and_eq_false_iff, decide_eq_true_eq, decide_eq_false_iff_not, bne_iff_ne, beq_iff_eq, beq_eq_false_iff_ne, bne_eq_false_iff_eq, Bool.not_eq_true', Bool.not_eq_false', bys_length, List.length_append, List.length_cons, List.length_nil, List.length_map, List.length_drop, List.length_take, Int.natCast_add, wrap_i64_eq, wrap_u64, wrap_u8, ne_eq, not_true_eq_false, not_false_eq_true, Nat.zero_add, Nat.mul_one] <;> omega) | omega | (simp; done) | (simp; omega))) only [↓at_runK, ↓at_bind, ↓contQ_mk, ↓at_ret, ↓at_consK, ↓at_nilK, ↓at_optK, ↓at_intK, ↓at_boolK, ↓at_strK, ↓at_slK, ↓at_slOK, ↓at_slK0, ↓at_slOK0, ↓at_aggK, ↓at_cond_t, ↓at_cond_f, ↓at_sameL, ↓at_any1, ↓at_any, and_self, toBytes_bys, List.nil_append, List.append_nil, List.drop_zero, List.take_succ_cons, List.take_zero, List.getElem?_cons_succ, List.getElem?_cons_zero, cells_agg, eqCells_cons, eqCells_nil, eq1_int, eq1_bool, eq1_str, ↓at_ptr_whole, ↓at_ptr_cell, ↓at_ptr_obj, ↓at_ptr_objs, shift_obj, shift_elt, toA_val, toA_own, Int.toNat_natCast, List.cons_append, bys_length, part_two, get_run', hK, w1, part_drop', he, he2]
          rfl
      · rw [if_pos he, RD.bad_A he]
        simp (disch := (first | assumption | (simp only [Bool.and_eq_true, Bool.and_eq_false_iff, decide_eq_true_eq, decide_eq_false_iff_not, bne_iff_ne, beq_iff_eq, beq_eq_false_iff_ne, bne_eq_false_iff_eq, Bool.not_eq_true', Bool.not_eq_false', bys_length, List.length_append, List.length_cons, List.length_nil, List.length_map, List.length_drop, List.length_take, Int.natCast_add, wrap_i64_eq, wrap_u64, wrap_u8, ne_eq, not_true_eq_false, not_false_eq_true, Nat.zero_add, Nat.mul_one] <;> omega) | omega | (simp; done) | (simp; omega))) only [↓at_runK, ↓at_bind, ↓contQ_mk, ↓at_ret, ↓at_consK, ↓at_nilK, ↓at_optK, ↓at_intK, ↓at_boolK, ↓at_strK, ↓at_slK, ↓at_slOK, ↓at_slK0, ↓at_slOK0, ↓at_aggK, ↓at_cond_t, ↓at_cond_f, ↓at_sameL, ↓at_any1, ↓at_any, and_self, toBytes_bys, List.nil_append, List.append_nil, List.drop_zero, List.take_succ_cons, List.take_zero, List.getElem?_cons_succ, List.getElem?_cons_zero, cells_agg, eqCells_cons, eqCells_nil, eq1_int, eq1_bool, eq1_str, ↓at_ptr_whole, ↓at_ptr_cell, ↓at_ptr_obj, ↓at_ptr_objs, shift_obj, shift_elt, toA_val, toA_own, Int.toNat_natCast, List.cons_append, bys_length, part_two, get_run']
        rfl

theorem two_of : ∀ {b : List UInt8} (h : 2 ≤ b.length), b = [b[0]'(by omega), b[1]'(by omega)] ++ b.drop 2
  | _ :: _ :: _, _ => rfl
/-- What is decoded is encoded by the same bytes. -/
theorem rdec_spec {b : List UInt8} (he : (rdec b).e = 0) : rencE (rdec b).k (rdec b).c (rdec b).l (rdec b).p (rdec b).dt = 0 ∧ rbytes (rdec b).k (rdec b).c (rdec b).l (rdec b).p (rdec b).dt = b := by
  unfold rdec at he ⊢
  by_cases h1 : 512 < b.length
  · rw [dif_pos h1] at he; simp [RD.bad] at he
  · rw [dif_neg h1] at he ⊢
    by_cases h2 : b.length < 2
    · rw [dif_pos h2] at he; simp [RD.bad] at he
    · rw [dif_neg h2] at he ⊢
      by_cases e1 : (getF (b.drop 2) 0 0).2.2 = 0
      · rw [if_neg (by simp [e1])] at he ⊢
        by_cases e2 : (getF (b.drop (2 + (getF (b.drop 2) 0 0).2.1)) 0 0).2.2 = 0
        · rw [if_neg (by simp [e2])] at he ⊢
          split at he
          · rename_i hok
            rw [if_pos hok]
            have key : rbytes ((b[0]'(by omega)).toNat : Nat) ((b[1]'(by omega)).toNat : Nat) (getF (b.drop 2) 0 0).1 ((getF (b.drop 2) 0 0).1 - (getF (b.drop (2 + (getF (b.drop 2) 0 0).2.1)) 0 0).1)
                (b.drop (2 + (getF (b.drop 2) 0 0).2.1 + (getF (b.drop (2 + (getF (b.drop 2) 0 0).2.1)) 0 0).2.1)) = b := by
              obtain ⟨c1, c2, c3, _⟩ := hok
              rcases getF_spec0 (b.drop 2) with ⟨m, g1, g2, g3, g4⟩ | ⟨e, g1, ge⟩
              · rw [g1] at c1 c2 c3 e2 ⊢
                simp only at c1 c2 c3 e2 ⊢
                rcases getF_spec0 (b.drop (2 + (enc m).length)) with ⟨q, k1, k2, k3, k4⟩ | ⟨e, k1, ke⟩
                · rw [k1] at c2 c3 ⊢
                  simp only at c2 c3 ⊢
                  unfold rbytes
                  have t1 : (((b[0]'(by omega)).toNat : Nat) : Int).toNat = (b[0]'(by omega)).toNat := by omega
                  have t2 : (((b[1]'(by omega)).toNat : Nat) : Int).toNat = (b[1]'(by omega)).toNat := by omega
                  have t3 : ((m : Nat) : Int).toNat = m := by omega
                  have t4 : ((m : Int) - ((m : Int) - (q : Int))).toNat = q := by omega
                  rw [t1, t2, t3, t4]
                  have u0 : UInt8.ofNat (b[0]'(by omega)).toNat = b[0]'(by omega) := by simp
                  have u1 : UInt8.ofNat (b[1]'(by omega)).toNat = b[1]'(by omega) := by simp
                  rw [u0, u1, ← g2, ← k2]
                  have v0 : b = [b[0]'(by omega), b[1]'(by omega)] ++ b.drop 2 := two_of (by omega)
                  have v1 : b.drop 2 = (b.drop 2).take (enc m).length ++ b.drop (2 + (enc m).length) := by
                    have := List.take_append_drop (enc m).length (b.drop 2)
                    rw [List.drop_drop] at this
                    exact this.symm
                  have v2 : b.drop (2 + (enc m).length) = (b.drop (2 + (enc m).length)).take (enc q).length ++ b.drop (2 + (enc m).length + (enc q).length) := by
                    have := List.take_append_drop (enc q).length (b.drop (2 + (enc m).length))
                    rw [List.drop_drop] at this
                    exact this.symm
                  have hq : (enc q).length ≤ (b.drop (2 + (enc m).length)).length := k3
                  have hm : (enc m).length ≤ (b.drop 2).length := g3
                  have t5 : ((b.drop 2).take (enc m).length).length = (enc m).length := by rw [List.length_take]; omega
                  have t6 : ((b.drop (2 + (enc m).length)).take (enc q).length).length = (enc q).length := by rw [List.length_take]; omega
                  rw [t5, t6]
                  rw [List.append_assoc, List.append_assoc, ← v2, ← v1, ← v0]
                · rw [k1] at c2; simp at c2
              · rw [g1] at e1; simp at e1; omega
            refine ⟨?_, key⟩
            simp only
            unfold rencE
            rw [key, hok.2.2.2, if_neg (by simp), if_neg (by omega)]
          · simp [RD.bad] at he
        · rw [if_pos e2] at he; simp [RD.bad] at he; exact absurd he e2
      · rw [if_pos e1] at he; simp [RD.bad] at he; exact absurd he e1
theorem rdec_len (b : List UInt8) : (rdec b).dt.length ≤ b.length := by
  unfold rdec
  repeat' split
  all_goals (simp [RD.bad]; try omega)

theorem awake11_run {d : Nat} {h : Heap} {Q : Res → Prop} {tg : Hid Q} : Run (evFn Cw (d + 4) 19 [] h) Q tg = Q ([.bool true], h) := by
  have e0 : bys ([] : List UInt8) = [] := of_eq_true (eq_self _)
  have e1 : enc (1 : Int).toNat = [1] := by rw [enc_lt (by decide)]; rfl
  have e2 : enc ((1 : Int) - 0).toNat = [1] := by rw [enc_lt (by decide)]; rfl
  have e3 : rbytes 1 0 1 0 [] = [1, 0, 1, 1] := by unfold rbytes; rw [e1, e2]; rfl
  have e4 : rencE 1 0 1 0 [] = 0 := by unfold rencE; rw [e3]; rfl
  have hr := fun (Q : Res → Prop) (tg : Hid Q) => rencode_run (d := d) (k := 1) (c := 0) (l := 1) (p := 0) (f := true) (dt := []) (h := h) (Q := Q) (tg := tg) (by simp)
  rw [e4, e3] at hr
  simp only [e0, if_true] at hr
  rw [F19_eq]
  simp (disch := (first | assumption | (simp only [Bool.and_eq_true, Bool.and_eq_false_iff, decide_eq_true_eq, decide_eq_false_iff_not, bne_iff_ne, beq_iff_eq, beq_eq_false_iff_ne, bne_eq_false_iff_eq, Bool.not_eq_true', Bool.not_eq_false', bys_length, List.length_append, List.length_cons, List.length_nil, List.length_map, List.length_drop, List.length_take, Int.natCast_add, wrap_i64_eq, wrap_u64, wrap_u8, ne_eq, not_true_eq_false, not_false_eq_true, Nat.zero_add, Nat.mul_one] <;> omega) | omega | (simp; done) | (simp; omega))) only [↓at_runK, ↓at_bind, ↓contQ_mk, ↓at_ret, ↓at_consK, ↓at_nilK, ↓at_optK, ↓at_intK, ↓at_boolK, ↓at_strK, ↓at_slK, ↓at_slOK, ↓at_slK0, ↓at_slOK0, ↓at_aggK, ↓at_cond_t, ↓at_cond_f, ↓at_sameL, ↓at_any1, ↓at_any, and_self, toBytes_bys, List.nil_append, List.append_nil, List.drop_zero, List.take_succ_cons, List.take_zero, List.getElem?_cons_succ, List.getElem?_cons_zero, cells_agg, eqCells_cons, eqCells_nil, eq1_int, eq1_bool, eq1_str, ↓at_ptr_whole, ↓at_ptr_cell, ↓at_ptr_obj, ↓at_ptr_objs, shift_obj, shift_elt, toA_val, toA_own, Int.toNat_natCast, List.cons_append, hr]
  simp
/-- RecordDecodes. -/
theorem rdecodes_true (d : Nat) (f : Bool) (b : List UInt8) (h : Heap) (hb : b.length ≤ 140737488351232) : Ans (evFn Cw (d + 5) 4 [.sl f 0 (bys b)] h) ([.bool true], h) := by
  refine Run.ans ?_
  have hl := rdec_len b
  rw [F4_eq]
  by_cases he : (rdec b).e = 0
  · obtain ⟨s1, s2⟩ := rdec_spec he
    simp (disch := (first | assumption | (simp only [Bool.and_eq_true, Bool.and_eq_false_iff, decide_eq_true_eq, decide_eq_false_iff_not, bne_iff_ne, beq_iff_eq, beq_eq_false_iff_ne, bne_eq_false_iff_eq, Bool.not_eq_true', Bool.not_eq_false', bys_length, List.length_append, List.length_cons, List.length_nil, List.length_map, List.length_drop, List.length_take, Int.natCast_add, wrap_i64_eq, wrap_u64, wrap_u8, ne_eq, not_true_eq_false, not_false_eq_true, Nat.zero_add, Nat.mul_one] <;> omega) | omega | (simp; done) | (simp; omega))) only [↓at_runK, ↓at_bind, ↓contQ_mk, ↓at_ret, ↓at_consK, ↓at_nilK, ↓at_optK, ↓at_intK, ↓at_boolK, ↓at_strK, ↓at_slK, ↓at_slOK, ↓at_slK0, ↓at_slOK0, ↓at_aggK, ↓at_cond_t, ↓at_cond_f, ↓at_sameL, ↓at_any1, ↓at_any, and_self, toBytes_bys, List.nil_append, List.append_nil, List.drop_zero, List.take_succ_cons, List.take_zero, List.getElem?_cons_succ, List.getElem?_cons_zero, cells_agg, eqCells_cons, eqCells_nil, eq1_int, eq1_bool, eq1_str, ↓at_ptr_whole, ↓at_ptr_cell, ↓at_ptr_obj, ↓at_ptr_objs, shift_obj, shift_elt, toA_val, toA_own, Int.toNat_natCast, List.cons_append, rdecode_run, rrdecode_run, RD.A, he, ref_same_run, rsame'_self, rencode_run, s1, s2, awake11_run, if_true]
  · simp (disch := (first | assumption | (simp only [Bool.and_eq_true, Bool.and_eq_false_iff, decide_eq_true_eq, decide_eq_false_iff_not, bne_iff_ne, beq_iff_eq, beq_eq_false_iff_ne, bne_eq_false_iff_eq, Bool.not_eq_true', Bool.not_eq_false', bys_length, List.length_append, List.length_cons, List.length_nil, List.length_map, List.length_drop, List.length_take, Int.natCast_add, wrap_i64_eq, wrap_u64, wrap_u8, ne_eq, not_true_eq_false, not_false_eq_true, Nat.zero_add, Nat.mul_one] <;> omega) | omega | (simp; done) | (simp; omega))) only [↓at_runK, ↓at_bind, ↓contQ_mk, ↓at_ret, ↓at_consK, ↓at_nilK, ↓at_optK, ↓at_intK, ↓at_boolK, ↓at_strK, ↓at_slK, ↓at_slOK, ↓at_slK0, ↓at_slOK0, ↓at_aggK, ↓at_cond_t, ↓at_cond_f, ↓at_sameL, ↓at_any1, ↓at_any, and_self, toBytes_bys, List.nil_append, List.append_nil, List.drop_zero, List.take_succ_cons, List.take_zero, List.getElem?_cons_succ, List.getElem?_cons_zero, cells_agg, eqCells_cons, eqCells_nil, eq1_int, eq1_bool, eq1_str, ↓at_ptr_whole, ↓at_ptr_cell, ↓at_ptr_obj, ↓at_ptr_objs, shift_obj, shift_elt, toA_val, toA_own, Int.toNat_natCast, List.cons_append, rdecode_run, rrdecode_run, RD.A, ref_same_run, rsame'_self, rencode_run, awake11_run]

/-- What is encoded is decoded. -/
theorem rdec_enc {k c l p : Int} {dt : List UInt8} (he : rencE k c l p dt = 0) : rdec (rbytes k c l p dt) = ⟨0, k, c, l, p, dt⟩ := by
  unfold rencE at he
  cases hr : rright k c l p
  · rw [hr] at he; simp at he
  · rw [hr, if_neg (by simp)] at he
    split at he
    · simp at he
    · rename_i hlen
      have hs := hr
      simp only [rright, decide_eq_true_eq] at hs
      have b2 : (rbytes k c l p dt).drop 2 = enc l.toNat ++ (enc (l - p).toNat ++ dt) := by simp [rbytes]
      have g1 := get_enc0 l.toNat (enc (l - p).toNat ++ dt) (by omega)
      have b3 : (rbytes k c l p dt).drop (2 + (enc l.toNat).length) = enc (l - p).toNat ++ dt := by rw [← List.drop_drop, b2]; simp
      have g2 := get_enc0 (l - p).toNat dt (by omega)
      have b4 : (rbytes k c l p dt).drop (2 + (enc l.toNat).length + (enc (l - p).toNat).length) = dt := by rw [← List.drop_drop, b3]; simp
      have hlen2 : ¬ (rbytes k c l p dt).length < 2 := by simp [rbytes]
      have c0 : ((rbytes k c l p dt)[0]'(by omega)) = UInt8.ofNat k.toNat := by simp [rbytes]
      have c1 : ((rbytes k c l p dt)[1]'(by omega)) = UInt8.ofNat c.toNat := by simp [rbytes]
      have d0 : (((UInt8.ofNat k.toNat).toNat : Nat) : Int) = k := by simp; omega
      have d1 : (((UInt8.ofNat c.toNat).toNat : Nat) : Int) = c := by simp; omega
      have d2 : ((l.toNat : Nat) : Int) = l := by omega
      have d3 : ((l.toNat : Nat) : Int) - (((l - p).toNat : Nat) : Int) = p := by omega
      unfold rdec
      rw [dif_neg (by omega), dif_neg hlen2]
      simp only [b2, g1, b3, g2, b4, c0, c1, d0, d1, d2, ne_eq, not_true_eq_false, if_false]
      have d4 : l - (((l - p).toNat : Nat) : Int) = p := by omega
      rw [d4, if_pos ⟨by omega, by omega, by omega, hr⟩]
/-- RecordEncodes. -/
theorem rencodes_true (d : Nat) (f : Bool) (k c l p : Int) (dt : List UInt8) (h : Heap) (hd : dt.length ≤ 140737488351232) : Ans (evFn Cw (d + 5) 5 [.agg [.int .i64 k, .int .i64 c, .int .i64 l, .int .i64 p, .sl f 0 (bys dt)]] h) ([.bool true], h) := by
  refine Run.ans ?_
  have sz0 : rright k c l p = false → ∀ (h : Heap) (Q : Res → Prop) (tg : Hid Q), Run (evFn Cw (d + 4) 25 [.agg [.int .i64 k, .int .i64 c, .int .i64 l, .int .i64 p, .sl f 0 (bys dt)]] h) Q tg = Q ([.int .i64 0], h) := fun hr h Q tg => by
    rw [F25_eq]
    simp (disch := (first | assumption | (simp only [Bool.and_eq_true, Bool.and_eq_false_iff, decide_eq_true_eq, decide_eq_false_iff_not, bne_iff_ne, beq_iff_eq, beq_eq_false_iff_ne, bne_eq_false_iff_eq, Bool.not_eq_true', Bool.not_eq_false', bys_length, List.length_append, List.length_cons, List.length_nil, List.length_map, List.length_drop, List.length_take, Int.natCast_add, wrap_i64_eq, wrap_u64, wrap_u8, ne_eq, not_true_eq_false, not_false_eq_true, Nat.zero_add, Nat.mul_one] <;> omega) | omega | (simp; done) | (simp; omega))) only [↓at_runK, ↓at_bind, ↓contQ_mk, ↓at_ret, ↓at_consK, ↓at_nilK, ↓at_optK, ↓at_intK, ↓at_boolK, ↓at_strK, ↓at_slK, ↓at_slOK, ↓at_slK0, ↓at_slOK0, ↓at_aggK, ↓at_cond_t, ↓at_cond_f, ↓at_sameL, ↓at_any1, ↓at_any, and_self, toBytes_bys, List.nil_append, List.append_nil, List.drop_zero, List.take_succ_cons, List.take_zero, List.getElem?_cons_succ, List.getElem?_cons_zero, cells_agg, eqCells_cons, eqCells_nil, eq1_int, eq1_bool, eq1_str, ↓at_ptr_whole, ↓at_ptr_cell, ↓at_ptr_obj, ↓at_ptr_objs, shift_obj, shift_elt, toA_val, toA_own, Int.toNat_natCast, List.cons_append, rright_run, hr]
  rw [F5_eq]
  by_cases he : rencE k c l p dt = 0
  · have hr : rright k c l p = true := by
      cases hx : rright k c l p
      · unfold rencE at he; rw [if_pos hx] at he; simp at he
      · rfl
    have hdec := rdec_enc he
    simp (disch := (first | assumption | (simp only [Bool.and_eq_true, Bool.and_eq_false_iff, decide_eq_true_eq, decide_eq_false_iff_not, bne_iff_ne, beq_iff_eq, beq_eq_false_iff_ne, bne_eq_false_iff_eq, Bool.not_eq_true', Bool.not_eq_false', bys_length, List.length_append, List.length_cons, List.length_nil, List.length_map, List.length_drop, List.length_take, Int.natCast_add, wrap_i64_eq, wrap_u64, wrap_u8, ne_eq, not_true_eq_false, not_false_eq_true, Nat.zero_add, Nat.mul_one] <;> omega) | omega | (simp; done) | (simp; omega))) only [↓at_runK, ↓at_bind, ↓contQ_mk, ↓at_ret, ↓at_consK, ↓at_nilK, ↓at_optK, ↓at_intK, ↓at_boolK, ↓at_strK, ↓at_slK, ↓at_slOK, ↓at_slK0, ↓at_slOK0, ↓at_aggK, ↓at_cond_t, ↓at_cond_f, ↓at_sameL, ↓at_any1, ↓at_any, and_self, toBytes_bys, List.nil_append, List.append_nil, List.drop_zero, List.take_succ_cons, List.take_zero, List.getElem?_cons_succ, List.getElem?_cons_zero, cells_agg, eqCells_cons, eqCells_nil, eq1_int, eq1_bool, eq1_str, ↓at_ptr_whole, ↓at_ptr_cell, ↓at_ptr_obj, ↓at_ptr_objs, shift_obj, shift_elt, toA_val, toA_own, Int.toNat_natCast, List.cons_append, rencode_run, rrencode_run, he, if_true, rright_run, ref_right_run, same_run, rsame'_self, hr, rrbytes_run, bys_length, P5_0_eq, rsize_run, rdecode_run, hdec, RD.A, ref_same_run, awake11_run]
  · cases hr : rright k c l p
    · simp (disch := (first | assumption | (simp only [Bool.and_eq_true, Bool.and_eq_false_iff, decide_eq_true_eq, decide_eq_false_iff_not, bne_iff_ne, beq_iff_eq, beq_eq_false_iff_ne, bne_eq_false_iff_eq, Bool.not_eq_true', Bool.not_eq_false', bys_length, List.length_append, List.length_cons, List.length_nil, List.length_map, List.length_drop, List.length_take, Int.natCast_add, wrap_i64_eq, wrap_u64, wrap_u8, ne_eq, not_true_eq_false, not_false_eq_true, Nat.zero_add, Nat.mul_one] <;> omega) | omega | (simp; done) | (simp; omega))) only [↓at_runK, ↓at_bind, ↓contQ_mk, ↓at_ret, ↓at_consK, ↓at_nilK, ↓at_optK, ↓at_intK, ↓at_boolK, ↓at_strK, ↓at_slK, ↓at_slOK, ↓at_slK0, ↓at_slOK0, ↓at_aggK, ↓at_cond_t, ↓at_cond_f, ↓at_sameL, ↓at_any1, ↓at_any, and_self, toBytes_bys, List.nil_append, List.append_nil, List.drop_zero, List.take_succ_cons, List.take_zero, List.getElem?_cons_succ, List.getElem?_cons_zero, cells_agg, eqCells_cons, eqCells_nil, eq1_int, eq1_bool, eq1_str, ↓at_ptr_whole, ↓at_ptr_cell, ↓at_ptr_obj, ↓at_ptr_objs, shift_obj, shift_elt, toA_val, toA_own, Int.toNat_natCast, List.cons_append, rencode_run, rrencode_run, he, if_false, rright_run, ref_right_run, same_run, rsame'_self, hr, P5_0_eq, sz0 hr, rdecode_run, RD.A, awake11_run]
    · simp (disch := (first | assumption | (simp only [Bool.and_eq_true, Bool.and_eq_false_iff, decide_eq_true_eq, decide_eq_false_iff_not, bne_iff_ne, beq_iff_eq, beq_eq_false_iff_ne, bne_eq_false_iff_eq, Bool.not_eq_true', Bool.not_eq_false', bys_length, List.length_append, List.length_cons, List.length_nil, List.length_map, List.length_drop, List.length_take, Int.natCast_add, wrap_i64_eq, wrap_u64, wrap_u8, ne_eq, not_true_eq_false, not_false_eq_true, Nat.zero_add, Nat.mul_one] <;> omega) | omega | (simp; done) | (simp; omega))) only [↓at_runK, ↓at_bind, ↓contQ_mk, ↓at_ret, ↓at_consK, ↓at_nilK, ↓at_optK, ↓at_intK, ↓at_boolK, ↓at_strK, ↓at_slK, ↓at_slOK, ↓at_slK0, ↓at_slOK0, ↓at_aggK, ↓at_cond_t, ↓at_cond_f, ↓at_sameL, ↓at_any1, ↓at_any, and_self, toBytes_bys, List.nil_append, List.append_nil, List.drop_zero, List.take_succ_cons, List.take_zero, List.getElem?_cons_succ, List.getElem?_cons_zero, cells_agg, eqCells_cons, eqCells_nil, eq1_int, eq1_bool, eq1_str, ↓at_ptr_whole, ↓at_ptr_cell, ↓at_ptr_obj, ↓at_ptr_objs, shift_obj, shift_elt, toA_val, toA_own, Int.toNat_natCast, List.cons_append, rencode_run, rrencode_run, he, if_false, rright_run, ref_right_run, same_run, rsame'_self, hr, rrbytes_run, bys_length, P5_0_eq, rsize_run, rdecode_run, RD.A, awake11_run]
end Go.Proofs.Ytfdkkhmaikgmcaa.Wa
