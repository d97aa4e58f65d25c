/- Tables: what the program does with them. -/
import Derived.Test.YtdlcjibefbnckaaVtk
namespace Go.Proofs.Ytdlcjibefbnckaa.Wa
open Go Go.Weave
set_option maxRecDepth 100000
set_option linter.unusedSimpArgs false
set_option linter.unusedVariables false
set_option linter.unusedSectionVars false

/-! ### Right operations -/
theorem opright_run {d : Nat} {o : KOp} {h : Heap} {Q : Res → Prop} {tg : Hid Q} : Run (evFn Cw (d + 1) 84 [.agg [.int .i64 o.kind, .str o.key, .str o.val]] h) Q tg = Q ([.bool (rightO o)], h) := by
  rw [F84_eq]
  by_cases c1 : 1 ≤ o.key.length
  · by_cases c2 : o.key.length ≤ 24
    · by_cases c3 : o.kind = 1
      · have c3' : (o.kind == 1) = true := by simp [c3]
        have e : rightO o = decide ((o.val.length : Int) ≤ 128) := by simp [rightO, c1, c2, c3]; omega
        rw [e]
        simp (disch := (first | assumption | (simp only [Bool.and_eq_true, Bool.and_eq_false_iff, decide_eq_true_eq, decide_eq_false_iff_not, bne_iff_ne, beq_iff_eq, beq_eq_false_iff_ne, bne_eq_false_iff_eq, Bool.not_eq_true', Bool.not_eq_false', bys_length, List.length_append, List.length_cons, List.length_nil, List.length_map, List.length_drop, List.length_take, Int.natCast_add, wrap_i64_eq, wrap_u64, wrap_u8, ne_eq, not_true_eq_false, not_false_eq_true, Nat.zero_add, Nat.mul_one] <;> omega) | omega | (simp; done) | (simp; omega))) only [↓at_runK, ↓at_bind, ↓contQ_mk, ↓at_ret, ↓at_consK, ↓at_nilK, ↓at_optK, ↓at_intK, ↓at_boolK, ↓at_strK, ↓at_slK, ↓at_slOK, ↓at_slK0, ↓at_slOK0, ↓at_aggK, ↓at_cond_t, ↓at_cond_f, ↓at_sameL, ↓at_any1, ↓at_any, and_self, toBytes_bys, List.nil_append, List.append_nil, ↓at_nodeW, List.drop_zero, List.take_succ_cons, List.take_zero, List.getElem?_cons_succ, List.getElem?_cons_zero, cells_agg, eqCells_cons, eqCells_nil, eq1_int, eq1_bool, eq1_str, ↓at_ptr_whole, ↓at_ptr_cell, ↓at_ptr_obj, ↓at_ptr_objs, shift_obj, shift_elt, toA_val, toA_own, Int.toNat_natCast, List.cons_append, c3']
      · have c3' : (o.kind == 1) = false := by simpa using c3
        by_cases c4 : o.kind = 2
        · have c4' : (o.kind == 2) = true := by simp [c4]
          have e : rightO o = (o.val == []) := by simp [rightO, c1, c2, c4]
          rw [e]
          simp (disch := (first | assumption | (simp only [Bool.and_eq_true, Bool.and_eq_false_iff, decide_eq_true_eq, decide_eq_false_iff_not, bne_iff_ne, beq_iff_eq, beq_eq_false_iff_ne, bne_eq_false_iff_eq, Bool.not_eq_true', Bool.not_eq_false', bys_length, List.length_append, List.length_cons, List.length_nil, List.length_map, List.length_drop, List.length_take, Int.natCast_add, wrap_i64_eq, wrap_u64, wrap_u8, ne_eq, not_true_eq_false, not_false_eq_true, Nat.zero_add, Nat.mul_one] <;> omega) | omega | (simp; done) | (simp; omega))) only [↓at_runK, ↓at_bind, ↓contQ_mk, ↓at_ret, ↓at_consK, ↓at_nilK, ↓at_optK, ↓at_intK, ↓at_boolK, ↓at_strK, ↓at_slK, ↓at_slOK, ↓at_slK0, ↓at_slOK0, ↓at_aggK, ↓at_cond_t, ↓at_cond_f, ↓at_sameL, ↓at_any1, ↓at_any, and_self, toBytes_bys, List.nil_append, List.append_nil, ↓at_nodeW, List.drop_zero, List.take_succ_cons, List.take_zero, List.getElem?_cons_succ, List.getElem?_cons_zero, cells_agg, eqCells_cons, eqCells_nil, eq1_int, eq1_bool, eq1_str, ↓at_ptr_whole, ↓at_ptr_cell, ↓at_ptr_obj, ↓at_ptr_objs, shift_obj, shift_elt, toA_val, toA_own, Int.toNat_natCast, List.cons_append, c3', c4']
        · have c4' : (o.kind == 2) = false := by simpa using c4
          have e : rightO o = false := by simp [rightO, c3, c4]
          rw [e]
          simp (disch := (first | assumption | (simp only [Bool.and_eq_true, Bool.and_eq_false_iff, decide_eq_true_eq, decide_eq_false_iff_not, bne_iff_ne, beq_iff_eq, beq_eq_false_iff_ne, bne_eq_false_iff_eq, Bool.not_eq_true', Bool.not_eq_false', bys_length, List.length_append, List.length_cons, List.length_nil, List.length_map, List.length_drop, List.length_take, Int.natCast_add, wrap_i64_eq, wrap_u64, wrap_u8, ne_eq, not_true_eq_false, not_false_eq_true, Nat.zero_add, Nat.mul_one] <;> omega) | omega | (simp; done) | (simp; omega))) only [↓at_runK, ↓at_bind, ↓contQ_mk, ↓at_ret, ↓at_consK, ↓at_nilK, ↓at_optK, ↓at_intK, ↓at_boolK, ↓at_strK, ↓at_slK, ↓at_slOK, ↓at_slK0, ↓at_slOK0, ↓at_aggK, ↓at_cond_t, ↓at_cond_f, ↓at_sameL, ↓at_any1, ↓at_any, and_self, toBytes_bys, List.nil_append, List.append_nil, ↓at_nodeW, List.drop_zero, List.take_succ_cons, List.take_zero, List.getElem?_cons_succ, List.getElem?_cons_zero, cells_agg, eqCells_cons, eqCells_nil, eq1_int, eq1_bool, eq1_str, ↓at_ptr_whole, ↓at_ptr_cell, ↓at_ptr_obj, ↓at_ptr_objs, shift_obj, shift_elt, toA_val, toA_own, Int.toNat_natCast, List.cons_append, c3', c4']
    · have e : rightO o = false := by simp [rightO, c2]
      rw [e]
      simp (disch := (first | assumption | (simp only [Bool.and_eq_true, Bool.and_eq_false_iff, decide_eq_true_eq, decide_eq_false_iff_not, bne_iff_ne, beq_iff_eq, beq_eq_false_iff_ne, bne_eq_false_iff_eq, Bool.not_eq_true', Bool.not_eq_false', bys_length, List.length_append, List.length_cons, List.length_nil, List.length_map, List.length_drop, List.length_take, Int.natCast_add, wrap_i64_eq, wrap_u64, wrap_u8, ne_eq, not_true_eq_false, not_false_eq_true, Nat.zero_add, Nat.mul_one] <;> omega) | omega | (simp; done) | (simp; omega))) only [↓at_runK, ↓at_bind, ↓contQ_mk, ↓at_ret, ↓at_consK, ↓at_nilK, ↓at_optK, ↓at_intK, ↓at_boolK, ↓at_strK, ↓at_slK, ↓at_slOK, ↓at_slK0, ↓at_slOK0, ↓at_aggK, ↓at_cond_t, ↓at_cond_f, ↓at_sameL, ↓at_any1, ↓at_any, and_self, toBytes_bys, List.nil_append, List.append_nil, ↓at_nodeW, List.drop_zero, List.take_succ_cons, List.take_zero, List.getElem?_cons_succ, List.getElem?_cons_zero, cells_agg, eqCells_cons, eqCells_nil, eq1_int, eq1_bool, eq1_str, ↓at_ptr_whole, ↓at_ptr_cell, ↓at_ptr_obj, ↓at_ptr_objs, shift_obj, shift_elt, toA_val, toA_own, Int.toNat_natCast, List.cons_append]
  · have e : rightO o = false := by simp [rightO, c1]
    rw [e]
    simp (disch := (first | assumption | (simp only [Bool.and_eq_true, Bool.and_eq_false_iff, decide_eq_true_eq, decide_eq_false_iff_not, bne_iff_ne, beq_iff_eq, beq_eq_false_iff_ne, bne_eq_false_iff_eq, Bool.not_eq_true', Bool.not_eq_false', bys_length, List.length_append, List.length_cons, List.length_nil, List.length_map, List.length_drop, List.length_take, Int.natCast_add, wrap_i64_eq, wrap_u64, wrap_u8, ne_eq, not_true_eq_false, not_false_eq_true, Nat.zero_add, Nat.mul_one] <;> omega) | omega | (simp; done) | (simp; omega))) only [↓at_runK, ↓at_bind, ↓contQ_mk, ↓at_ret, ↓at_consK, ↓at_nilK, ↓at_optK, ↓at_intK, ↓at_boolK, ↓at_strK, ↓at_slK, ↓at_slOK, ↓at_slK0, ↓at_slOK0, ↓at_aggK, ↓at_cond_t, ↓at_cond_f, ↓at_sameL, ↓at_any1, ↓at_any, and_self, toBytes_bys, List.nil_append, List.append_nil, ↓at_nodeW, List.drop_zero, List.take_succ_cons, List.take_zero, List.getElem?_cons_succ, List.getElem?_cons_zero, cells_agg, eqCells_cons, eqCells_nil, eq1_int, eq1_bool, eq1_str, ↓at_ptr_whole, ↓at_ptr_cell, ↓at_ptr_obj, ↓at_ptr_objs, shift_obj, shift_elt, toA_val, toA_own, Int.toNat_natCast, List.cons_append]
theorem r10right_run {d : Nat} {o : KOp} {h : Heap} {Q : Res → Prop} {tg : Hid Q} : Run (evFn Cw (d + 1) 40 [.agg [.int .i64 o.kind, .str o.key, .str o.val]] h) Q tg = Q ([.bool (rightO o)], h) := by
  rw [F40_eq]
  by_cases c1 : 1 ≤ o.key.length
  · have k1 : ((o.key.length : Int) == 0) = false := by simp; intro e; rw [e] at c1; simp at c1
    by_cases c2 : o.key.length ≤ 24
    · by_cases c5 : o.val.length ≤ 128
      · by_cases c3 : o.kind = 1
        · have c3' : (o.kind == 1) = true := by simp [c3]
          have e : rightO o = true := by simp [rightO, c1, c2, c3, c5]
          rw [e]
          simp (disch := (first | assumption | (simp only [Bool.and_eq_true, Bool.and_eq_false_iff, decide_eq_true_eq, decide_eq_false_iff_not, bne_iff_ne, beq_iff_eq, beq_eq_false_iff_ne, bne_eq_false_iff_eq, Bool.not_eq_true', Bool.not_eq_false', bys_length, List.length_append, List.length_cons, List.length_nil, List.length_map, List.length_drop, List.length_take, Int.natCast_add, wrap_i64_eq, wrap_u64, wrap_u8, ne_eq, not_true_eq_false, not_false_eq_true, Nat.zero_add, Nat.mul_one] <;> omega) | omega | (simp; done) | (simp; omega))) only [↓at_runK, ↓at_bind, ↓contQ_mk, ↓at_ret, ↓at_consK, ↓at_nilK, ↓at_optK, ↓at_intK, ↓at_boolK, ↓at_strK, ↓at_slK, ↓at_slOK, ↓at_slK0, ↓at_slOK0, ↓at_aggK, ↓at_cond_t, ↓at_cond_f, ↓at_sameL, ↓at_any1, ↓at_any, and_self, toBytes_bys, List.nil_append, List.append_nil, ↓at_nodeW, List.drop_zero, List.take_succ_cons, List.take_zero, List.getElem?_cons_succ, List.getElem?_cons_zero, cells_agg, eqCells_cons, eqCells_nil, eq1_int, eq1_bool, eq1_str, ↓at_ptr_whole, ↓at_ptr_cell, ↓at_ptr_obj, ↓at_ptr_objs, shift_obj, shift_elt, toA_val, toA_own, Int.toNat_natCast, List.cons_append, c3', k1]
        · have c3' : (o.kind == 1) = false := by simpa using c3
          by_cases c4 : o.kind = 2
          · have c4' : (o.kind == 2) = true := by simp [c4]
            have e : rightO o = (o.val == []) := by simp [rightO, c1, c2, c4]
            rw [e]
            simp (disch := (first | assumption | (simp only [Bool.and_eq_true, Bool.and_eq_false_iff, decide_eq_true_eq, decide_eq_false_iff_not, bne_iff_ne, beq_iff_eq, beq_eq_false_iff_ne, bne_eq_false_iff_eq, Bool.not_eq_true', Bool.not_eq_false', bys_length, List.length_append, List.length_cons, List.length_nil, List.length_map, List.length_drop, List.length_take, Int.natCast_add, wrap_i64_eq, wrap_u64, wrap_u8, ne_eq, not_true_eq_false, not_false_eq_true, Nat.zero_add, Nat.mul_one] <;> omega) | omega | (simp; done) | (simp; omega))) only [↓at_runK, ↓at_bind, ↓contQ_mk, ↓at_ret, ↓at_consK, ↓at_nilK, ↓at_optK, ↓at_intK, ↓at_boolK, ↓at_strK, ↓at_slK, ↓at_slOK, ↓at_slK0, ↓at_slOK0, ↓at_aggK, ↓at_cond_t, ↓at_cond_f, ↓at_sameL, ↓at_any1, ↓at_any, and_self, toBytes_bys, List.nil_append, List.append_nil, ↓at_nodeW, List.drop_zero, List.take_succ_cons, List.take_zero, List.getElem?_cons_succ, List.getElem?_cons_zero, cells_agg, eqCells_cons, eqCells_nil, eq1_int, eq1_bool, eq1_str, ↓at_ptr_whole, ↓at_ptr_cell, ↓at_ptr_obj, ↓at_ptr_objs, shift_obj, shift_elt, toA_val, toA_own, Int.toNat_natCast, List.cons_append, c3', c4', k1]
          · have c4' : (o.kind == 2) = false := by simpa using c4
            have e : rightO o = false := by simp [rightO, c3, c4]
            rw [e]
            simp (disch := (first | assumption | (simp only [Bool.and_eq_true, Bool.and_eq_false_iff, decide_eq_true_eq, decide_eq_false_iff_not, bne_iff_ne, beq_iff_eq, beq_eq_false_iff_ne, bne_eq_false_iff_eq, Bool.not_eq_true', Bool.not_eq_false', bys_length, List.length_append, List.length_cons, List.length_nil, List.length_map, List.length_drop, List.length_take, Int.natCast_add, wrap_i64_eq, wrap_u64, wrap_u8, ne_eq, not_true_eq_false, not_false_eq_true, Nat.zero_add, Nat.mul_one] <;> omega) | omega | (simp; done) | (simp; omega))) only [↓at_runK, ↓at_bind, ↓contQ_mk, ↓at_ret, ↓at_consK, ↓at_nilK, ↓at_optK, ↓at_intK, ↓at_boolK, ↓at_strK, ↓at_slK, ↓at_slOK, ↓at_slK0, ↓at_slOK0, ↓at_aggK, ↓at_cond_t, ↓at_cond_f, ↓at_sameL, ↓at_any1, ↓at_any, and_self, toBytes_bys, List.nil_append, List.append_nil, ↓at_nodeW, List.drop_zero, List.take_succ_cons, List.take_zero, List.getElem?_cons_succ, List.getElem?_cons_zero, cells_agg, eqCells_cons, eqCells_nil, eq1_int, eq1_bool, eq1_str, ↓at_ptr_whole, ↓at_ptr_cell, ↓at_ptr_obj, ↓at_ptr_objs, shift_obj, shift_elt, toA_val, toA_own, Int.toNat_natCast, List.cons_append, c3', c4', k1]
      · have c6 : (o.val == []) = false := by simp; intro e; rw [e] at c5; simp at c5
        have e : rightO o = false := by simp only [rightO, c6, Bool.and_false, Bool.or_false]; simp [c5]
        rw [e]
        simp (disch := (first | assumption | (simp only [Bool.and_eq_true, Bool.and_eq_false_iff, decide_eq_true_eq, decide_eq_false_iff_not, bne_iff_ne, beq_iff_eq, beq_eq_false_iff_ne, bne_eq_false_iff_eq, Bool.not_eq_true', Bool.not_eq_false', bys_length, List.length_append, List.length_cons, List.length_nil, List.length_map, List.length_drop, List.length_take, Int.natCast_add, wrap_i64_eq, wrap_u64, wrap_u8, ne_eq, not_true_eq_false, not_false_eq_true, Nat.zero_add, Nat.mul_one] <;> omega) | omega | (simp; done) | (simp; omega))) only [↓at_runK, ↓at_bind, ↓contQ_mk, ↓at_ret, ↓at_consK, ↓at_nilK, ↓at_optK, ↓at_intK, ↓at_boolK, ↓at_strK, ↓at_slK, ↓at_slOK, ↓at_slK0, ↓at_slOK0, ↓at_aggK, ↓at_cond_t, ↓at_cond_f, ↓at_sameL, ↓at_any1, ↓at_any, and_self, toBytes_bys, List.nil_append, List.append_nil, ↓at_nodeW, List.drop_zero, List.take_succ_cons, List.take_zero, List.getElem?_cons_succ, List.getElem?_cons_zero, cells_agg, eqCells_cons, eqCells_nil, eq1_int, eq1_bool, eq1_str, ↓at_ptr_whole, ↓at_ptr_cell, ↓at_ptr_obj, ↓at_ptr_objs, shift_obj, shift_elt, toA_val, toA_own, Int.toNat_natCast, List.cons_append, k1]
    · have e : rightO o = false := by simp [rightO, c2]
      rw [e]
      simp (disch := (first | assumption | (simp only [Bool.and_eq_true, Bool.and_eq_false_iff, decide_eq_true_eq, decide_eq_false_iff_not, bne_iff_ne, beq_iff_eq, beq_eq_false_iff_ne, bne_eq_false_iff_eq, Bool.not_eq_true', Bool.not_eq_false', bys_length, List.length_append, List.length_cons, List.length_nil, List.length_map, List.length_drop, List.length_take, Int.natCast_add, wrap_i64_eq, wrap_u64, wrap_u8, ne_eq, not_true_eq_false, not_false_eq_true, Nat.zero_add, Nat.mul_one] <;> omega) | omega | (simp; done) | (simp; omega))) only [↓at_runK, ↓at_bind, ↓contQ_mk, ↓at_ret, ↓at_consK, ↓at_nilK, ↓at_optK, ↓at_intK, ↓at_boolK, ↓at_strK, ↓at_slK, ↓at_slOK, ↓at_slK0, ↓at_slOK0, ↓at_aggK, ↓at_cond_t, ↓at_cond_f, ↓at_sameL, ↓at_any1, ↓at_any, and_self, toBytes_bys, List.nil_append, List.append_nil, ↓at_nodeW, List.drop_zero, List.take_succ_cons, List.take_zero, List.getElem?_cons_succ, List.getElem?_cons_zero, cells_agg, eqCells_cons, eqCells_nil, eq1_int, eq1_bool, eq1_str, ↓at_ptr_whole, ↓at_ptr_cell, ↓at_ptr_obj, ↓at_ptr_objs, shift_obj, shift_elt, toA_val, toA_own, Int.toNat_natCast, List.cons_append, k1]
  · have k1 : ((o.key.length : Int) == 0) = true := by rw [beq_iff_eq]; omega
    have e : rightO o = false := by simp [rightO, c1]
    rw [e]
    simp (disch := (first | assumption | (simp only [Bool.and_eq_true, Bool.and_eq_false_iff, decide_eq_true_eq, decide_eq_false_iff_not, bne_iff_ne, beq_iff_eq, beq_eq_false_iff_ne, bne_eq_false_iff_eq, Bool.not_eq_true', Bool.not_eq_false', bys_length, List.length_append, List.length_cons, List.length_nil, List.length_map, List.length_drop, List.length_take, Int.natCast_add, wrap_i64_eq, wrap_u64, wrap_u8, ne_eq, not_true_eq_false, not_false_eq_true, Nat.zero_add, Nat.mul_one] <;> omega) | omega | (simp; done) | (simp; omega))) only [↓at_runK, ↓at_bind, ↓contQ_mk, ↓at_ret, ↓at_consK, ↓at_nilK, ↓at_optK, ↓at_intK, ↓at_boolK, ↓at_strK, ↓at_slK, ↓at_slOK, ↓at_slK0, ↓at_slOK0, ↓at_aggK, ↓at_cond_t, ↓at_cond_f, ↓at_sameL, ↓at_any1, ↓at_any, and_self, toBytes_bys, List.nil_append, List.append_nil, ↓at_nodeW, List.drop_zero, List.take_succ_cons, List.take_zero, List.getElem?_cons_succ, List.getElem?_cons_zero, cells_agg, eqCells_cons, eqCells_nil, eq1_int, eq1_bool, eq1_str, ↓at_ptr_whole, ↓at_ptr_cell, ↓at_ptr_obj, ↓at_ptr_objs, shift_obj, shift_elt, toA_val, toA_own, Int.toNat_natCast, List.cons_append, k1]
theorem rightO_ok {o : KOp} (h : rightO o = true) : KPair.ok ⟨o.key, o.val⟩ := by
  unfold rightO at h
  simp only [Bool.and_eq_true, decide_eq_true_eq, Bool.or_eq_true, beq_iff_eq] at h
  obtain ⟨h1, h2, h3⟩ := h
  refine ⟨by show o.key.length ≤ _; omega, ?_⟩
  show o.val.length ≤ _
  rcases h3 with ⟨_, h3⟩ | ⟨_, h3⟩
  · omega
  · rw [h3]; simp

/-! ### A table -/
def tabO (ti : Nat) (b : Nat) : Weave.Obj := .cells [HCell.val (.obj ti 0), HCell.val (.int .i64 b)]
structure IsTab (h : Heap) (i ti : Nat) (t : Nd) : Prop where
  tb : h.objs[i]? = some (tabO ti (btot t.toL))
  tr : h.objs[ti]? = some (trT t)
  ne : i ≠ ti
  ok : TOk' t
  kv : ∀ p ∈ t.toL, p.key.length ≤ 140737488351232 ∧ p.val.length ≤ 140737488351232
theorem IsTab.bytes {h : Heap} {i ti : Nat} {t : Nd} (T : IsTab h i ti t) : btot t.toL ≤ 281474976702464000 := by
  have := btot_le T.kv
  have h2 := T.ok.len
  have : t.toL.length * (2 * 140737488351232) ≤ 1000 * (2 * 140737488351232) := Nat.mul_le_mul_right _ h2
  omega
def tabH (h : Heap) (i ti : Nat) (t : Nd) : Heap := (h.put ti (trT t)).put i (tabO ti (btot t.toL))
theorem tabH_len (h : Heap) (i ti : Nat) (t : Nd) : (tabH h i ti t).objs.length = h.objs.length := by unfold tabH; rw [Heap.put_len, Heap.put_len]
theorem tabH_ne {h : Heap} {i ti j : Nat} {t : Nd} (h1 : j ≠ i) (h2 : j ≠ ti) : (tabH h i ti t).objs[j]? = h.objs[j]? := by unfold tabH; rw [Heap.put_ne (Ne.symm h1), Heap.put_ne (Ne.symm h2)]
theorem tabH_tabH {h : Heap} {i ti : Nat} {t t' : Nd} (hne : i ≠ ti) : tabH (tabH h i ti t) i ti t' = tabH h i ti t' := by
  unfold tabH
  rw [Heap.put_comm _ _ _ hne, Heap.put_put, Heap.put_put]
theorem tabH_self {h : Heap} {i ti : Nat} {t : Nd} (T : IsTab h i ti t) : tabH h i ti t = h := by
  unfold tabH
  rw [Heap.put_self' T.tr, Heap.put_self' T.tb]
theorem IsTab.step {h : Heap} {i ti : Nat} {t t' : Nd} (T : IsTab h i ti t) (ok : TOk' t') (kv : ∀ p ∈ t'.toL, p.key.length ≤ 140737488351232 ∧ p.val.length ≤ 140737488351232) : IsTab (tabH h i ti t') i ti t' := by
  refine ⟨?_, ?_, T.ne, ok, kv⟩
  · unfold tabH; exact Heap.put_get (o' := tabO ti (btot t.toL)) (by rw [Heap.put_ne (Ne.symm T.ne)]; exact T.tb)
  · unfold tabH; rw [Heap.put_ne T.ne]; exact Heap.put_get T.tr
theorem IsTab.ext {h h' : Heap} {i ti : Nat} {t : Nd} (T : IsTab h i ti t) (E : h.ext h') : IsTab h' i ti t := ⟨E.get T.tb, E.get T.tr, T.ne, T.ok, T.kv⟩
theorem tab_t {h : Heap} {i ti b : Nat} (hm : h.objs[i]? = some (tabO ti b)) : h.cell? i 0 = some (HCell.val (.obj ti 0)) := by rw [Heap.cell_at hm]; rfl
theorem tab_b {h : Heap} {i ti b : Nat} (hm : h.objs[i]? = some (tabO ti b)) : h.cell? i 1 = some (HCell.val (.int .i64 b)) := by rw [Heap.cell_at hm]; rfl
theorem tab_s {h : Heap} {i ti b b' : Nat} (hm : h.objs[i]? = some (tabO ti b)) : h.setCell i 1 (HCell.val (.int .i64 b')) = h.put i (tabO ti b') := by rw [Heap.set_at hm]; rfl
theorem lput_kv {k v : List UInt8} {l : List KPair} (hk : k.length ≤ 140737488351232) (hv : v.length ≤ 140737488351232) (h : ∀ p ∈ l, p.key.length ≤ 140737488351232 ∧ p.val.length ≤ 140737488351232) : ∀ p ∈ lput k v l, p.key.length ≤ 140737488351232 ∧ p.val.length ≤ 140737488351232 := by
  intro p hp
  unfold lput at hp
  rcases List.mem_append.1 hp with hp | hp
  · exact h p (List.mem_filter.1 hp).1
  · rcases List.mem_cons.1 hp with rfl | hp
    · exact ⟨hk, hv⟩
    · exact h p (List.mem_filter.1 hp).1
theorem tabput_run {d i ti : Nat} {t : Nd} {k v : List UInt8} {h : Heap} {Q : Res → Prop} {tg : Hid Q} (T : IsTab h i ti t) (hl : t.toL.length ≤ 999) (hk : k.length ≤ 140737488351232) (hv : v.length ≤ 140737488351232) (hd : 1010 ≤ d) :
    Run (evFn Cw (d + 1) 85 [.obj i 0, .str k, .str v] h) Q tg = Q ([], tabH h i ti (t.put k v)) := by
  have rp := fun (Q : Res → Prop) (tg : Hid Q) => tput_run (d := d) (k := k) (v := v) (Q := Q) (tg := tg) T.ok hl T.tr hd
  have hb := T.bytes
  have m1 : (h.put ti (trT (t.put k v))).objs[i]? = some (tabO ti (btot t.toL)) := by rw [Heap.put_ne (Ne.symm T.ne)]; exact T.tb
  have eL := (T.ok.put k v hl).2
  rw [F85_eq]
  unfold tabH
  rw [eL]
  cases hg : (lget k t.toL).isSome
  · have eb := btot_new (v := v) hg
    have eo := oVal_new hg
    have e0' : (([] : List UInt8).length : Int) = 0 := rfl
    have e1 : IntKind.i64.wrap ((v.length : Int) - 0) = (v.length : Int) := by rw [wrap_i64_id (by omega) (by omega)]; omega
    have e2 : IntKind.i64.wrap (((btot t.toL : Nat) : Int) + (v.length : Int)) = ((btot t.toL + v.length : Nat) : Int) := by rw [wrap_i64_id (by omega) (by omega)]; omega
    have m2 : ((h.put ti (trT (t.put k v))).put i (tabO ti (btot t.toL + v.length))).objs[i]? = some (tabO ti (btot t.toL + v.length)) := Heap.put_get m1
    have e3 : IntKind.i64.wrap (((btot t.toL + v.length : Nat) : Int) + (k.length : Int)) = ((btot (lput k v t.toL) : Nat) : Int) := by rw [wrap_i64_id (by omega) (by omega)]; omega
    rw [hg, eo] at rp
    simp (disch := (first | assumption | (simp only [Bool.and_eq_true, Bool.and_eq_false_iff, decide_eq_true_eq, decide_eq_false_iff_not, bne_iff_ne, beq_iff_eq, beq_eq_false_iff_ne, bne_eq_false_iff_eq, Bool.not_eq_true', Bool.not_eq_false', bys_length, List.length_append, List.length_cons, List.length_nil, List.length_map, List.length_drop, List.length_take, Int.natCast_add, wrap_i64_eq, wrap_u64, wrap_u8, ne_eq, not_true_eq_false, not_false_eq_true, Nat.zero_add, Nat.mul_one] <;> omega) | omega | (simp; done) | (simp; omega))) only [↓at_runK, ↓at_bind, ↓contQ_mk, ↓at_ret, ↓at_consK, ↓at_nilK, ↓at_optK, ↓at_intK, ↓at_boolK, ↓at_strK, ↓at_slK, ↓at_slOK, ↓at_slK0, ↓at_slOK0, ↓at_aggK, ↓at_cond_t, ↓at_cond_f, ↓at_sameL, ↓at_any1, ↓at_any, and_self, toBytes_bys, List.nil_append, List.append_nil, ↓at_nodeW, List.drop_zero, List.take_succ_cons, List.take_zero, List.getElem?_cons_succ, List.getElem?_cons_zero, cells_agg, eqCells_cons, eqCells_nil, eq1_int, eq1_bool, eq1_str, ↓at_ptr_whole, ↓at_ptr_cell, ↓at_ptr_obj, ↓at_ptr_objs, shift_obj, shift_elt, toA_val, toA_own, Int.toNat_natCast, List.cons_append, tab_t T.tb, rp, tab_b m1, e0', e1, e2, tab_s m1, Bool.not_false, tab_b m2, e3, tab_s m2, Heap.put_put]
  · have eb := btot_old (v := v) T.ok.srt hg
    have el := btot_del T.ok.srt hg
    rw [hg] at rp
    generalize (oVal (lget k t.toL)).length = n at *
    have e1 : IntKind.i64.wrap ((v.length : Int) - ((oVal (lget k t.toL)).length : Int)) = (v.length : Int) - ((oVal (lget k t.toL)).length : Int) := wrap_i64_id (by have := btot_del T.ok.srt hg; omega) (by have := btot_del T.ok.srt hg; omega)
    have e2 : IntKind.i64.wrap (((btot t.toL : Nat) : Int) + ((v.length : Int) - ((oVal (lget k t.toL)).length : Int))) = ((btot (lput k v t.toL) : Nat) : Int) := by
      have h1 := btot_del T.ok.srt hg
      have h2 := btot_old (v := v) T.ok.srt hg
      rw [wrap_i64_id (by omega) (by omega)]; omega
    simp (disch := (first | assumption | (simp only [Bool.and_eq_true, Bool.and_eq_false_iff, decide_eq_true_eq, decide_eq_false_iff_not, bne_iff_ne, beq_iff_eq, beq_eq_false_iff_ne, bne_eq_false_iff_eq, Bool.not_eq_true', Bool.not_eq_false', bys_length, List.length_append, List.length_cons, List.length_nil, List.length_map, List.length_drop, List.length_take, Int.natCast_add, wrap_i64_eq, wrap_u64, wrap_u8, ne_eq, not_true_eq_false, not_false_eq_true, Nat.zero_add, Nat.mul_one] <;> omega) | omega | (simp; done) | (simp; omega))) only [↓at_runK, ↓at_bind, ↓contQ_mk, ↓at_ret, ↓at_consK, ↓at_nilK, ↓at_optK, ↓at_intK, ↓at_boolK, ↓at_strK, ↓at_slK, ↓at_slOK, ↓at_slK0, ↓at_slOK0, ↓at_aggK, ↓at_cond_t, ↓at_cond_f, ↓at_sameL, ↓at_any1, ↓at_any, and_self, toBytes_bys, List.nil_append, List.append_nil, ↓at_nodeW, List.drop_zero, List.take_succ_cons, List.take_zero, List.getElem?_cons_succ, List.getElem?_cons_zero, cells_agg, eqCells_cons, eqCells_nil, eq1_int, eq1_bool, eq1_str, ↓at_ptr_whole, ↓at_ptr_cell, ↓at_ptr_obj, ↓at_ptr_objs, shift_obj, shift_elt, toA_val, toA_own, Int.toNat_natCast, List.cons_append, tab_t T.tb, rp, tab_b m1, e1, e2, tab_s m1, Bool.not_true]
theorem tabnew_run {d : Nat} {h : Heap} {Q : Res → Prop} {tg : Hid Q} : Run (evFn Cw (d + 2) 29 [] h) Q tg = Q ([.obj (h.objs.length + 1) 0], (h.push (trT .nil)).push (tabO h.objs.length 0)) := by
  have e1 : (h.push (trT .nil)).objs.length = h.objs.length + 1 := Heap.push_len _ _
  have e2 : AVal.isAgg (.obj h.objs.length 0) = false := rfl
  have e3 : Weave.Obj.cells ([AVal.obj h.objs.length 0, AVal.int .i64 0].map HCell.val) = tabO h.objs.length 0 := of_eq_true (eq_self _)
  rw [F29_eq]
  simp (disch := (first | assumption | (simp only [Bool.and_eq_true, Bool.and_eq_false_iff, decide_eq_true_eq, decide_eq_false_iff_not, bne_iff_ne, beq_iff_eq, beq_eq_false_iff_ne, bne_eq_false_iff_eq, Bool.not_eq_true', Bool.not_eq_false', bys_length, List.length_append, List.length_cons, List.length_nil, List.length_map, List.length_drop, List.length_take, Int.natCast_add, wrap_i64_eq, wrap_u64, wrap_u8, ne_eq, not_true_eq_false, not_false_eq_true, Nat.zero_add, Nat.mul_one] <;> omega) | omega | (simp; done) | (simp; omega))) only [↓at_runK, ↓at_bind, ↓contQ_mk, ↓at_ret, ↓at_consK, ↓at_nilK, ↓at_optK, ↓at_intK, ↓at_boolK, ↓at_strK, ↓at_slK, ↓at_slOK, ↓at_slK0, ↓at_slOK0, ↓at_aggK, ↓at_cond_t, ↓at_cond_f, ↓at_sameL, ↓at_any1, ↓at_any, and_self, toBytes_bys, List.nil_append, List.append_nil, ↓at_nodeW, List.drop_zero, List.take_succ_cons, List.take_zero, List.getElem?_cons_succ, List.getElem?_cons_zero, cells_agg, eqCells_cons, eqCells_nil, eq1_int, eq1_bool, eq1_str, ↓at_ptr_whole, ↓at_ptr_cell, ↓at_ptr_obj, ↓at_ptr_objs, shift_obj, shift_elt, toA_val, toA_own, Int.toNat_natCast, List.cons_append, tnew_run, e1, e2, e3, Bool.not_false]
theorem tabnew_is (h : Heap) : h.ext ((h.push (trT .nil)).push (tabO h.objs.length 0)) ∧ IsTab ((h.push (trT .nil)).push (tabO h.objs.length 0)) (h.objs.length + 1) h.objs.length .nil := by
  have E1 := Heap.ext.push h (trT .nil)
  have E2 := Heap.ext.push (h.push (trT .nil)) (tabO h.objs.length 0)
  have e1 : (h.push (trT .nil)).objs.length = h.objs.length + 1 := Heap.push_len _ _
  have m := Heap.push_new (h.push (trT .nil)) (tabO h.objs.length 0)
  rw [e1] at m
  exact ⟨E1.trans E2, m, E2.get (Heap.push_new _ _), by omega, ⟨trivial, List.Pairwise.nil, by simp [Nd.toL]⟩, by simp [Nd.toL]⟩
theorem tabtree_run {d i ti : Nat} {t : Nd} {h : Heap} {Q : Res → Prop} {tg : Hid Q} (T : IsTab h i ti t) : Run (evFn Cw (d + 1) 86 [.obj i 0] h) Q tg = Q ([.obj ti 0], h) := by
  rw [F86_eq]
  simp (disch := (first | assumption | (simp only [Bool.and_eq_true, Bool.and_eq_false_iff, decide_eq_true_eq, decide_eq_false_iff_not, bne_iff_ne, beq_iff_eq, beq_eq_false_iff_ne, bne_eq_false_iff_eq, Bool.not_eq_true', Bool.not_eq_false', bys_length, List.length_append, List.length_cons, List.length_nil, List.length_map, List.length_drop, List.length_take, Int.natCast_add, wrap_i64_eq, wrap_u64, wrap_u8, ne_eq, not_true_eq_false, not_false_eq_true, Nat.zero_add, Nat.mul_one] <;> omega) | omega | (simp; done) | (simp; omega))) only [↓at_runK, ↓at_bind, ↓contQ_mk, ↓at_ret, ↓at_consK, ↓at_nilK, ↓at_optK, ↓at_intK, ↓at_boolK, ↓at_strK, ↓at_slK, ↓at_slOK, ↓at_slK0, ↓at_slOK0, ↓at_aggK, ↓at_cond_t, ↓at_cond_f, ↓at_sameL, ↓at_any1, ↓at_any, and_self, toBytes_bys, List.nil_append, List.append_nil, ↓at_nodeW, List.drop_zero, List.take_succ_cons, List.take_zero, List.getElem?_cons_succ, List.getElem?_cons_zero, cells_agg, eqCells_cons, eqCells_nil, eq1_int, eq1_bool, eq1_str, ↓at_ptr_whole, ↓at_ptr_cell, ↓at_ptr_obj, ↓at_ptr_objs, shift_obj, shift_elt, toA_val, toA_own, Int.toNat_natCast, List.cons_append, tab_t T.tb]
theorem tablen_run {d i ti : Nat} {t : Nd} {h : Heap} {Q : Res → Prop} {tg : Hid Q} (T : IsTab h i ti t) : Run (evFn Cw (d + 2) 33 [.obj i 0] h) Q tg = Q ([.int .i64 t.toL.length], h) := by
  have r := fun (Q : Res → Prop) (tg : Hid Q) => tabtree_run (d := d) (Q := Q) (tg := tg) T
  have q := fun (Q : Res → Prop) (tg : Hid Q) => tlen_run (d := d) (Q := Q) (tg := tg) T.tr
  rw [F33_eq]
  simp (disch := (first | assumption | (simp only [Bool.and_eq_true, Bool.and_eq_false_iff, decide_eq_true_eq, decide_eq_false_iff_not, bne_iff_ne, beq_iff_eq, beq_eq_false_iff_ne, bne_eq_false_iff_eq, Bool.not_eq_true', Bool.not_eq_false', bys_length, List.length_append, List.length_cons, List.length_nil, List.length_map, List.length_drop, List.length_take, Int.natCast_add, wrap_i64_eq, wrap_u64, wrap_u8, ne_eq, not_true_eq_false, not_false_eq_true, Nat.zero_add, Nat.mul_one] <;> omega) | omega | (simp; done) | (simp; omega))) only [↓at_runK, ↓at_bind, ↓contQ_mk, ↓at_ret, ↓at_consK, ↓at_nilK, ↓at_optK, ↓at_intK, ↓at_boolK, ↓at_strK, ↓at_slK, ↓at_slOK, ↓at_slK0, ↓at_slOK0, ↓at_aggK, ↓at_cond_t, ↓at_cond_f, ↓at_sameL, ↓at_any1, ↓at_any, and_self, toBytes_bys, List.nil_append, List.append_nil, ↓at_nodeW, List.drop_zero, List.take_succ_cons, List.take_zero, List.getElem?_cons_succ, List.getElem?_cons_zero, cells_agg, eqCells_cons, eqCells_nil, eq1_int, eq1_bool, eq1_str, ↓at_ptr_whole, ↓at_ptr_cell, ↓at_ptr_obj, ↓at_ptr_objs, shift_obj, shift_elt, toA_val, toA_own, Int.toNat_natCast, List.cons_append, r, q]
theorem tabbytes_run {d i ti : Nat} {t : Nd} {h : Heap} {Q : Res → Prop} {tg : Hid Q} (T : IsTab h i ti t) : Run (evFn Cw (d + 1) 34 [.obj i 0] h) Q tg = Q ([.int .i64 (btot t.toL : Nat)], h) := by
  rw [F34_eq]
  simp (disch := (first | assumption | (simp only [Bool.and_eq_true, Bool.and_eq_false_iff, decide_eq_true_eq, decide_eq_false_iff_not, bne_iff_ne, beq_iff_eq, beq_eq_false_iff_ne, bne_eq_false_iff_eq, Bool.not_eq_true', Bool.not_eq_false', bys_length, List.length_append, List.length_cons, List.length_nil, List.length_map, List.length_drop, List.length_take, Int.natCast_add, wrap_i64_eq, wrap_u64, wrap_u8, ne_eq, not_true_eq_false, not_false_eq_true, Nat.zero_add, Nat.mul_one] <;> omega) | omega | (simp; done) | (simp; omega))) only [↓at_runK, ↓at_bind, ↓contQ_mk, ↓at_ret, ↓at_consK, ↓at_nilK, ↓at_optK, ↓at_intK, ↓at_boolK, ↓at_strK, ↓at_slK, ↓at_slOK, ↓at_slK0, ↓at_slOK0, ↓at_aggK, ↓at_cond_t, ↓at_cond_f, ↓at_sameL, ↓at_any1, ↓at_any, and_self, toBytes_bys, List.nil_append, List.append_nil, ↓at_nodeW, List.drop_zero, List.take_succ_cons, List.take_zero, List.getElem?_cons_succ, List.getElem?_cons_zero, cells_agg, eqCells_cons, eqCells_nil, eq1_int, eq1_bool, eq1_str, ↓at_ptr_whole, ↓at_ptr_cell, ↓at_ptr_obj, ↓at_ptr_objs, shift_obj, shift_elt, toA_val, toA_own, Int.toNat_natCast, List.cons_append, tab_b T.tb]
theorem tabget_run {d i ti : Nat} {t : Nd} {s : List UInt8} {h : Heap} {Q : Res → Prop} {tg : Hid Q} (T : IsTab h i ti t) : Run (evFn Cw (d + 4) 32 [.obj i 0, .str s] h) Q tg = Q ([.str (oVal (lget s t.toL)), .bool (lget s t.toL).isSome], h) := by
  have r := fun (Q : Res → Prop) (tg : Hid Q) => tabtree_run (d := d + 2) (Q := Q) (tg := tg) T
  have q := fun (Q : Res → Prop) (tg : Hid Q) => tget_run (d := d) (s := s) (Q := Q) (tg := tg) T.ok T.tr
  rw [F32_eq]
  simp (disch := (first | assumption | (simp only [Bool.and_eq_true, Bool.and_eq_false_iff, decide_eq_true_eq, decide_eq_false_iff_not, bne_iff_ne, beq_iff_eq, beq_eq_false_iff_ne, bne_eq_false_iff_eq, Bool.not_eq_true', Bool.not_eq_false', bys_length, List.length_append, List.length_cons, List.length_nil, List.length_map, List.length_drop, List.length_take, Int.natCast_add, wrap_i64_eq, wrap_u64, wrap_u8, ne_eq, not_true_eq_false, not_false_eq_true, Nat.zero_add, Nat.mul_one] <;> omega) | omega | (simp; done) | (simp; omega))) only [↓at_runK, ↓at_bind, ↓contQ_mk, ↓at_ret, ↓at_consK, ↓at_nilK, ↓at_optK, ↓at_intK, ↓at_boolK, ↓at_strK, ↓at_slK, ↓at_slOK, ↓at_slK0, ↓at_slOK0, ↓at_aggK, ↓at_cond_t, ↓at_cond_f, ↓at_sameL, ↓at_any1, ↓at_any, and_self, toBytes_bys, List.nil_append, List.append_nil, ↓at_nodeW, List.drop_zero, List.take_succ_cons, List.take_zero, List.getElem?_cons_succ, List.getElem?_cons_zero, cells_agg, eqCells_cons, eqCells_nil, eq1_int, eq1_bool, eq1_str, ↓at_ptr_whole, ↓at_ptr_cell, ↓at_ptr_obj, ↓at_ptr_objs, shift_obj, shift_elt, toA_val, toA_own, Int.toNat_natCast, List.cons_append, r, q]
theorem tabrange_run (d i ti : Nat) (t : Nd) (fr to : List UInt8) (most : Int) (h : Heap) (T : IsTab h i ti t) :
    ∃ h', h.ext h' ∧ ∀ (Q : Res → Prop) (tg : Hid Q), Run (evFn Cw (d + 6) 38 [.obj i 0, .str fr, .str to, .int .i64 most] h) Q tg = Q ([.sl false 3 (prs (rngR fr to most t.toL []))], h') := by
  obtain ⟨h', E, q⟩ := crange_run d ti fr to most t T.ok (fun p hp => (T.kv p hp).1) h T.tr
  refine ⟨h', E, fun Q tg => ?_⟩
  have r := fun (Q : Res → Prop) (tg : Hid Q) => tabtree_run (d := d + 4) (Q := Q) (tg := tg) T
  rw [F38_eq]
  simp (disch := (first | assumption | (simp only [Bool.and_eq_true, Bool.and_eq_false_iff, decide_eq_true_eq, decide_eq_false_iff_not, bne_iff_ne, beq_iff_eq, beq_eq_false_iff_ne, bne_eq_false_iff_eq, Bool.not_eq_true', Bool.not_eq_false', bys_length, List.length_append, List.length_cons, List.length_nil, List.length_map, List.length_drop, List.length_take, Int.natCast_add, wrap_i64_eq, wrap_u64, wrap_u8, ne_eq, not_true_eq_false, not_false_eq_true, Nat.zero_add, Nat.mul_one] <;> omega) | omega | (simp; done) | (simp; omega))) only [↓at_runK, ↓at_bind, ↓contQ_mk, ↓at_ret, ↓at_consK, ↓at_nilK, ↓at_optK, ↓at_intK, ↓at_boolK, ↓at_strK, ↓at_slK, ↓at_slOK, ↓at_slK0, ↓at_slOK0, ↓at_aggK, ↓at_cond_t, ↓at_cond_f, ↓at_sameL, ↓at_any1, ↓at_any, and_self, toBytes_bys, List.nil_append, List.append_nil, ↓at_nodeW, List.drop_zero, List.take_succ_cons, List.take_zero, List.getElem?_cons_succ, List.getElem?_cons_zero, cells_agg, eqCells_cons, eqCells_nil, eq1_int, eq1_bool, eq1_str, ↓at_ptr_whole, ↓at_ptr_cell, ↓at_ptr_obj, ↓at_ptr_objs, shift_obj, shift_elt, toA_val, toA_own, Int.toNat_natCast, List.cons_append, r, q]
theorem rng_all {most : Int} : ∀ {l acc : List KPair}, ((acc.length + l.length : Nat) : Int) ≤ most → rngR [] [] most l acc = acc ++ l
  | [], acc, _ => by unfold rngR; simp
  | p :: l, acc, h => by
    unfold rngR
    simp only [List.length_cons] at h
    have e : (!blt p.key [] && inTo [] p.key) = true := by
      have : blt p.key [] = false := by cases p.key <;> rfl
      rw [this]; simp [inTo]
    rw [if_pos (by omega), if_pos e, rng_all (by simp; omega)]
    simp
theorem tabpairs_run (d i ti : Nat) (t : Nd) (h : Heap) (T : IsTab h i ti t) :
    ∃ h', h.ext h' ∧ ∀ (Q : Res → Prop) (tg : Hid Q), Run (evFn Cw (d + 7) 37 [.obj i 0] h) Q tg = Q ([.sl false 3 (prs t.toL)], h') := by
  obtain ⟨h', E, q⟩ := tabrange_run d i ti t [] [] (t.toL.length : Nat) h T
  have e : rngR [] [] (t.toL.length : Nat) t.toL [] = t.toL := by rw [rng_all (by simp)]; rfl
  rw [e] at q
  refine ⟨h', E, fun Q tg => ?_⟩
  have r := fun (Q : Res → Prop) (tg : Hid Q) => tablen_run (d := d + 4) (Q := Q) (tg := tg) T
  rw [F37_eq]
  simp (disch := (first | assumption | (simp only [Bool.and_eq_true, Bool.and_eq_false_iff, decide_eq_true_eq, decide_eq_false_iff_not, bne_iff_ne, beq_iff_eq, beq_eq_false_iff_ne, bne_eq_false_iff_eq, Bool.not_eq_true', Bool.not_eq_false', bys_length, List.length_append, List.length_cons, List.length_nil, List.length_map, List.length_drop, List.length_take, Int.natCast_add, wrap_i64_eq, wrap_u64, wrap_u8, ne_eq, not_true_eq_false, not_false_eq_true, Nat.zero_add, Nat.mul_one] <;> omega) | omega | (simp; done) | (simp; omega))) only [↓at_runK, ↓at_bind, ↓contQ_mk, ↓at_ret, ↓at_consK, ↓at_nilK, ↓at_optK, ↓at_intK, ↓at_boolK, ↓at_strK, ↓at_slK, ↓at_slOK, ↓at_slK0, ↓at_slOK0, ↓at_aggK, ↓at_cond_t, ↓at_cond_f, ↓at_sameL, ↓at_any1, ↓at_any, and_self, toBytes_bys, List.nil_append, List.append_nil, ↓at_nodeW, List.drop_zero, List.take_succ_cons, List.take_zero, List.getElem?_cons_succ, List.getElem?_cons_zero, cells_agg, eqCells_cons, eqCells_nil, eq1_int, eq1_bool, eq1_str, ↓at_ptr_whole, ↓at_ptr_cell, ↓at_ptr_obj, ↓at_ptr_objs, shift_obj, shift_elt, toA_val, toA_own, Int.toNat_natCast, List.cons_append, r, q]
theorem cntO_cons (o : KOp) (ops : List KOp) : cntO (o :: ops) = (if rightO o then 1 else 0) + cntO ops := by
  unfold cntO
  rw [List.filter_cons]
  cases rightO o <;> simp
  omega
theorem tabapply_loop (d i ti : Nat) (f : Bool) (ops : List KOp) (ho : ops.length ≤ 1000) : ∀ (n j k c : Nat) (t : Nd) (h : Heap), IsTab h i ti t → t.toL.length + n ≤ 1000 → ops.length = j + n → n < k → c ≤ j →
    ∃ t', IsTab (tabH h i ti t') i ti t' ∧ t'.toL = aps t.toL (ops.drop j) ∧ ∀ (Q : Res → Prop) (tg : Hid Q),
      Run (P30_0 (d + 1020) k i c f (kops ops) (ops.length : Int) j h) Q tg = Q ([.int .i64 (c + cntO (ops.drop j) : Nat)], tabH h i ti t') := by
  intro n
  induction n with
  | zero =>
    intro j k c t h T hl hj hk hc
    obtain ⟨k, rfl⟩ : ∃ m, k = m + 1 := ⟨k - 1, by omega⟩
    have hd : ops.drop j = [] := List.drop_eq_nil_of_le (by omega)
    refine ⟨t, by rw [tabH_self T]; exact T, by rw [hd]; rfl, fun Q tg => ?_⟩
    rw [tabH_self T, P30_0_eq, hd]
    have e : c + cntO [] = c := rfl
    rw [e]
    simp (disch := (first | assumption | (simp only [Bool.and_eq_true, Bool.and_eq_false_iff, decide_eq_true_eq, decide_eq_false_iff_not, bne_iff_ne, beq_iff_eq, beq_eq_false_iff_ne, bne_eq_false_iff_eq, Bool.not_eq_true', Bool.not_eq_false', bys_length, List.length_append, List.length_cons, List.length_nil, List.length_map, List.length_drop, List.length_take, Int.natCast_add, wrap_i64_eq, wrap_u64, wrap_u8, ne_eq, not_true_eq_false, not_false_eq_true, Nat.zero_add, Nat.mul_one] <;> omega) | omega | (simp; done) | (simp; omega))) only [↓at_runK, ↓at_bind, ↓contQ_mk, ↓at_ret, ↓at_consK, ↓at_nilK, ↓at_optK, ↓at_intK, ↓at_boolK, ↓at_strK, ↓at_slK, ↓at_slOK, ↓at_slK0, ↓at_slOK0, ↓at_aggK, ↓at_cond_t, ↓at_cond_f, ↓at_sameL, ↓at_any1, ↓at_any, and_self, toBytes_bys, List.nil_append, List.append_nil, ↓at_nodeW, List.drop_zero, List.take_succ_cons, List.take_zero, List.getElem?_cons_succ, List.getElem?_cons_zero, cells_agg, eqCells_cons, eqCells_nil, eq1_int, eq1_bool, eq1_str, ↓at_ptr_whole, ↓at_ptr_cell, ↓at_ptr_obj, ↓at_ptr_objs, shift_obj, shift_elt, toA_val, toA_own, Int.toNat_natCast, List.cons_append]
  | succ n ih =>
    intro j k c t h T hl hj hk hc
    obtain ⟨k, rfl⟩ : ∃ m, k = m + 1 := ⟨k - 1, by omega⟩
    have h1 : j < ops.length := by omega
    have e1 := succ_wrap (i := j) (by omega)
    have e2 := succ_wrap (i := c) (by omega)
    rw [List.drop_eq_getElem_cons h1, aps_cons, cntO_cons]
    cases hr : rightO ops[j]
    · obtain ⟨t', T', hL, r⟩ := ih (j + 1) k c t h T (by omega) (by omega) (by omega) (by omega)
      refine ⟨t', T', by simpa using hL, fun Q tg => ?_⟩
      have r' : ∀ (Q : Res → Prop) (tg : Hid Q), Run (P30_0 (d + 1020) k i c f (kops ops) (ops.length : Int) (j + 1 : Nat) h) Q tg = Q ([.int .i64 (c + ((if false = true then 1 else 0) + cntO (ops.drop (j + 1))) : Nat)], tabH h i ti t') := by simpa using r
      rw [P30_0_eq]
      simp (disch := (first | assumption | (simp only [Bool.and_eq_true, Bool.and_eq_false_iff, decide_eq_true_eq, decide_eq_false_iff_not, bne_iff_ne, beq_iff_eq, beq_eq_false_iff_ne, bne_eq_false_iff_eq, Bool.not_eq_true', Bool.not_eq_false', bys_length, List.length_append, List.length_cons, List.length_nil, List.length_map, List.length_drop, List.length_take, Int.natCast_add, wrap_i64_eq, wrap_u64, wrap_u8, ne_eq, not_true_eq_false, not_false_eq_true, Nat.zero_add, Nat.mul_one] <;> omega) | omega | (simp; done) | (simp; omega))) only [↓at_runK, ↓at_bind, ↓contQ_mk, ↓at_ret, ↓at_consK, ↓at_nilK, ↓at_optK, ↓at_intK, ↓at_boolK, ↓at_strK, ↓at_slK, ↓at_slOK, ↓at_slK0, ↓at_slOK0, ↓at_aggK, ↓at_cond_t, ↓at_cond_f, ↓at_sameL, ↓at_any1, ↓at_any, and_self, toBytes_bys, List.nil_append, List.append_nil, ↓at_nodeW, List.drop_zero, List.take_succ_cons, List.take_zero, List.getElem?_cons_succ, List.getElem?_cons_zero, cells_agg, eqCells_cons, eqCells_nil, eq1_int, eq1_bool, eq1_str, ↓at_ptr_whole, ↓at_ptr_cell, ↓at_ptr_obj, ↓at_ptr_objs, shift_obj, shift_elt, toA_val, toA_own, Int.toNat_natCast, List.cons_append, kops_length, kops_getD h1, opright_run, hr, Bool.not_false, e1, r']
    · have hok := rightO_ok hr
      by_cases c1 : ops[j].kind = 1
      · have c1' : (ops[j].kind == 1) = true := by simp [c1]
        have rp := fun (Q : Res → Prop) (tg : Hid Q) => tabput_run (d := d + 1019) (k := ops[j].key) (v := ops[j].val) (Q := Q) (tg := tg) T (by omega) hok.1 hok.2 (by omega)
        obtain ⟨ok', hP⟩ := T.ok.put ops[j].key ops[j].val (by omega)
        have T1 := T.step ok' (by rw [hP]; exact lput_kv hok.1 hok.2 T.kv)
        have hlen' : (t.put ops[j].key ops[j].val).toL.length + n ≤ 1000 := by rw [hP]; have := lput_len_le (k := ops[j].key) (v := ops[j].val) T.ok.srt; omega
        obtain ⟨t', T', hL, r⟩ := ih (j + 1) k (c + 1) _ _ T1 hlen' (by omega) (by omega) (by omega)
        rw [tabH_tabH T.ne] at T' r
        refine ⟨t', T', by rw [if_pos rfl]; unfold apO; rw [if_pos c1, hL, hP], fun Q tg => ?_⟩
        have r' : ∀ (Q : Res → Prop) (tg : Hid Q), Run (P30_0 (d + 1020) k i (c + 1 : Nat) f (kops ops) (ops.length : Int) (j + 1 : Nat) (tabH h i ti (t.put ops[j].key ops[j].val))) Q tg = Q ([.int .i64 (c + ((if true = true then 1 else 0) + cntO (ops.drop (j + 1))) : Nat)], tabH h i ti t') := fun Q tg => by
          rw [r Q tg, if_pos rfl, Nat.add_assoc]
        rw [P30_0_eq]
        simp (disch := (first | assumption | (simp only [Bool.and_eq_true, Bool.and_eq_false_iff, decide_eq_true_eq, decide_eq_false_iff_not, bne_iff_ne, beq_iff_eq, beq_eq_false_iff_ne, bne_eq_false_iff_eq, Bool.not_eq_true', Bool.not_eq_false', bys_length, List.length_append, List.length_cons, List.length_nil, List.length_map, List.length_drop, List.length_take, Int.natCast_add, wrap_i64_eq, wrap_u64, wrap_u8, ne_eq, not_true_eq_false, not_false_eq_true, Nat.zero_add, Nat.mul_one] <;> omega) | omega | (simp; done) | (simp; omega))) only [↓at_runK, ↓at_bind, ↓contQ_mk, ↓at_ret, ↓at_consK, ↓at_nilK, ↓at_optK, ↓at_intK, ↓at_boolK, ↓at_strK, ↓at_slK, ↓at_slOK, ↓at_slK0, ↓at_slOK0, ↓at_aggK, ↓at_cond_t, ↓at_cond_f, ↓at_sameL, ↓at_any1, ↓at_any, and_self, toBytes_bys, List.nil_append, List.append_nil, ↓at_nodeW, List.drop_zero, List.take_succ_cons, List.take_zero, List.getElem?_cons_succ, List.getElem?_cons_zero, cells_agg, eqCells_cons, eqCells_nil, eq1_int, eq1_bool, eq1_str, ↓at_ptr_whole, ↓at_ptr_cell, ↓at_ptr_obj, ↓at_ptr_objs, shift_obj, shift_elt, toA_val, toA_own, Int.toNat_natCast, List.cons_append, kops_length, kops_getD h1, opright_run, hr, Bool.not_true, c1', rp, e1, e2, r']
      · have c1' : (ops[j].kind == 1) = false := by simpa using c1
        have rd := fun (Q : Res → Prop) (tg : Hid Q) => tdel_run (d := d + 1020) (k := ops[j].key) (Q := Q) (tg := tg) T.ok T.tr (by omega)
        have hb := T.bytes
        obtain ⟨t1, ok1, hL1, hT1, hrun⟩ : ∃ t1, TOk' t1 ∧ t1.toL = ldel ops[j].key t.toL ∧ t1.toL.length ≤ t.toL.length ∧ ∀ (Q : Res → Prop) (tg : Hid Q),
            Run (P30_0 (d + 1020) (k + 1) i c f (kops ops) (ops.length : Int) j h) Q tg = Run (P30_0 (d + 1020) k i (c + 1 : Nat) f (kops ops) (ops.length : Int) (j + 1 : Nat) (tabH h i ti t1)) Q ⟨⟩ := by
          cases hg : (lget ops[j].key t.toL).isSome
          · have hn := ldel_none (lget_none hg)
            refine ⟨t, T.ok, hn.symm, Nat.le_refl _, fun Q tg => ?_⟩
            rw [hg] at rd
            simp only [Bool.false_eq_true, if_false] at rd
            rw [Heap.put_self' T.tr] at rd
            rw [tabH_self T, P30_0_eq]
            simp (disch := (first | assumption | (simp only [Bool.and_eq_true, Bool.and_eq_false_iff, decide_eq_true_eq, decide_eq_false_iff_not, bne_iff_ne, beq_iff_eq, beq_eq_false_iff_ne, bne_eq_false_iff_eq, Bool.not_eq_true', Bool.not_eq_false', bys_length, List.length_append, List.length_cons, List.length_nil, List.length_map, List.length_drop, List.length_take, Int.natCast_add, wrap_i64_eq, wrap_u64, wrap_u8, ne_eq, not_true_eq_false, not_false_eq_true, Nat.zero_add, Nat.mul_one] <;> omega) | omega | (simp; done) | (simp; omega))) only [↓at_runK, ↓at_bind, ↓contQ_mk, ↓at_ret, ↓at_consK, ↓at_nilK, ↓at_optK, ↓at_intK, ↓at_boolK, ↓at_strK, ↓at_slK, ↓at_slOK, ↓at_slK0, ↓at_slOK0, ↓at_aggK, ↓at_cond_t, ↓at_cond_f, ↓at_sameL, ↓at_any1, ↓at_any, and_self, toBytes_bys, List.nil_append, List.append_nil, ↓at_nodeW, List.drop_zero, List.take_succ_cons, List.take_zero, List.getElem?_cons_succ, List.getElem?_cons_zero, cells_agg, eqCells_cons, eqCells_nil, eq1_int, eq1_bool, eq1_str, ↓at_ptr_whole, ↓at_ptr_cell, ↓at_ptr_obj, ↓at_ptr_objs, shift_obj, shift_elt, toA_val, toA_own, Int.toNat_natCast, List.cons_append, kops_length, kops_getD h1, opright_run, hr, Bool.not_true, c1', tab_t T.tb, rd, e1, e2]
          · obtain ⟨ok1, hL1⟩ := T.ok.del hg
            have el := btot_del T.ok.srt hg
            refine ⟨t.without ops[j].key, ok1, hL1, by rw [hL1]; exact ldel_len_le _ _, fun Q tg => ?_⟩
            rw [hg] at rd
            simp only [if_true] at rd
            have m1 : (h.put ti (trT (t.without ops[j].key))).objs[i]? = some (tabO ti (btot t.toL)) := by rw [Heap.put_ne (Ne.symm T.ne)]; exact T.tb
            have w1 : IntKind.i64.wrap ((ops[j].key.length : Int) + ((oVal (lget ops[j].key t.toL)).length : Int)) = (ops[j].key.length : Int) + ((oVal (lget ops[j].key t.toL)).length : Int) := wrap_i64_id (by omega) (by omega)
            have w2 : IntKind.i64.wrap (((btot t.toL : Nat) : Int) - ((ops[j].key.length : Int) + ((oVal (lget ops[j].key t.toL)).length : Int))) = ((btot (t.without ops[j].key).toL : Nat) : Int) := by
              rw [hL1, wrap_i64_id (by omega) (by omega)]; omega
            unfold tabH
            rw [P30_0_eq]
            simp (disch := (first | assumption | (simp only [Bool.and_eq_true, Bool.and_eq_false_iff, decide_eq_true_eq, decide_eq_false_iff_not, bne_iff_ne, beq_iff_eq, beq_eq_false_iff_ne, bne_eq_false_iff_eq, Bool.not_eq_true', Bool.not_eq_false', bys_length, List.length_append, List.length_cons, List.length_nil, List.length_map, List.length_drop, List.length_take, Int.natCast_add, wrap_i64_eq, wrap_u64, wrap_u8, ne_eq, not_true_eq_false, not_false_eq_true, Nat.zero_add, Nat.mul_one] <;> omega) | omega | (simp; done) | (simp; omega))) only [↓at_runK, ↓at_bind, ↓contQ_mk, ↓at_ret, ↓at_consK, ↓at_nilK, ↓at_optK, ↓at_intK, ↓at_boolK, ↓at_strK, ↓at_slK, ↓at_slOK, ↓at_slK0, ↓at_slOK0, ↓at_aggK, ↓at_cond_t, ↓at_cond_f, ↓at_sameL, ↓at_any1, ↓at_any, and_self, toBytes_bys, List.nil_append, List.append_nil, ↓at_nodeW, List.drop_zero, List.take_succ_cons, List.take_zero, List.getElem?_cons_succ, List.getElem?_cons_zero, cells_agg, eqCells_cons, eqCells_nil, eq1_int, eq1_bool, eq1_str, ↓at_ptr_whole, ↓at_ptr_cell, ↓at_ptr_obj, ↓at_ptr_objs, shift_obj, shift_elt, toA_val, toA_own, Int.toNat_natCast, List.cons_append, kops_length, kops_getD h1, opright_run, hr, Bool.not_true, c1', tab_t T.tb, rd, tab_b m1, w1, w2, tab_s m1, e1, e2]
        have T1 := T.step ok1 (by rw [hL1]; intro p hp; exact T.kv p (List.mem_filter.1 hp).1)
        obtain ⟨t', T', hL, r⟩ := ih (j + 1) k (c + 1) _ _ T1 (by omega) (by omega) (by omega) (by omega)
        rw [tabH_tabH T.ne] at T' r
        refine ⟨t', T', by rw [if_pos rfl]; unfold apO; rw [if_neg c1, hL, hL1], fun Q tg => ?_⟩
        rw [hrun Q tg, r Q ⟨⟩, if_pos rfl, Nat.add_assoc]
theorem tabapply_run (d i ti : Nat) (f : Bool) (ops : List KOp) (t : Nd) (h : Heap) (T : IsTab h i ti t) (hl : t.toL.length + ops.length ≤ 1000) :
    ∃ t', IsTab (tabH h i ti t') i ti t' ∧ t'.toL = aps t.toL ops ∧ ∀ (Q : Res → Prop) (tg : Hid Q),
      Run (evFn Cw (d + 1021) 30 [.obj i 0, .sl f 4 (kops ops)] h) Q tg = Q ([.int .i64 (cntO ops : Nat)], tabH h i ti t') := by
  obtain ⟨t', T', hL, r⟩ := tabapply_loop d i ti f ops (by omega) ops.length 0 rounds 0 t h T (by omega) (by omega) (rounds_gt' (by omega)) (by omega)
  rw [List.drop_zero] at hL r
  rw [e0, Nat.zero_add] at r
  refine ⟨t', T', hL, fun Q tg => ?_⟩
  rw [F30_eq]
  simp (disch := (first | assumption | (simp only [Bool.and_eq_true, Bool.and_eq_false_iff, decide_eq_true_eq, decide_eq_false_iff_not, bne_iff_ne, beq_iff_eq, beq_eq_false_iff_ne, bne_eq_false_iff_eq, Bool.not_eq_true', Bool.not_eq_false', bys_length, List.length_append, List.length_cons, List.length_nil, List.length_map, List.length_drop, List.length_take, Int.natCast_add, wrap_i64_eq, wrap_u64, wrap_u8, ne_eq, not_true_eq_false, not_false_eq_true, Nat.zero_add, Nat.mul_one] <;> omega) | omega | (simp; done) | (simp; omega))) only [↓at_runK, ↓at_bind, ↓contQ_mk, ↓at_ret, ↓at_consK, ↓at_nilK, ↓at_optK, ↓at_intK, ↓at_boolK, ↓at_strK, ↓at_slK, ↓at_slOK, ↓at_slK0, ↓at_slOK0, ↓at_aggK, ↓at_cond_t, ↓at_cond_f, ↓at_sameL, ↓at_any1, ↓at_any, and_self, toBytes_bys, List.nil_append, List.append_nil, ↓at_nodeW, List.drop_zero, List.take_succ_cons, List.take_zero, List.getElem?_cons_succ, List.getElem?_cons_zero, cells_agg, eqCells_cons, eqCells_nil, eq1_int, eq1_bool, eq1_str, ↓at_ptr_whole, ↓at_ptr_cell, ↓at_ptr_obj, ↓at_ptr_objs, shift_obj, shift_elt, toA_val, toA_own, Int.toNat_natCast, List.cons_append, kops_length, r]
end Go.Proofs.Ytdlcjibefbnckaa.Wa
