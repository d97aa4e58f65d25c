/- TableNobody, TableApplies. -/
import Derived.Test.YtdlcjibefbnckaaVtm
import Derived.KernelRfl
namespace Go.Proofs.Ytdlcjibefbnckaa.Wa
open Go Go.Weave
set_option maxRecDepth 100000
set_option linter.unusedSimpArgs false
set_option linter.unusedVariables false
set_option linter.unusedSectionVars false

/-! ### The reference -/
def isSl (v : AVal) (l : List KPair) : Prop := (v = .sl true 0 [] ∧ l = []) ∨ v = .sl false 3 (prs l)
theorem isSl_slK {v : AVal} {l : List KPair} (hv : isSl v l) : ∃ fl, ∀ (K : Bool → List AVal → Tr Res) (Q : Res → Prop) (tg : Hid Q), Run (slK 3 v K) Q tg = Run (K fl (prs l)) Q ⟨⟩ := by
  rcases hv with ⟨rfl, rfl⟩ | rfl
  · refine ⟨true, fun K Q tg => ?_⟩
    rw [prs_nil]
    simp (disch := (first | assumption | (simp only [Bool.and_eq_true, Bool.and_eq_false_iff, decide_eq_true_eq, decide_eq_false_iff_not, bne_iff_ne, beq_iff_eq, beq_eq_false_iff_ne, bne_eq_false_iff_eq, Bool.not_eq_true', Bool.not_eq_false', bys_length, List.length_append, List.length_cons, List.length_nil, List.length_map, List.length_drop, List.length_take, Int.natCast_add, wrap_i64_eq, wrap_u64, wrap_u8, ne_eq, not_true_eq_false, not_false_eq_true, Nat.zero_add, Nat.mul_one] <;> omega) | omega | (simp; done) | (simp; omega))) only [↓at_runK, ↓at_bind, ↓contQ_mk, ↓at_ret, ↓at_consK, ↓at_nilK, ↓at_optK, ↓at_intK, ↓at_boolK, ↓at_strK, ↓at_slK, ↓at_slOK, ↓at_slK0, ↓at_slOK0, ↓at_aggK, ↓at_cond_t, ↓at_cond_f, ↓at_sameL, ↓at_any1, ↓at_any, and_self, toBytes_bys, List.nil_append, List.append_nil, ↓at_nodeW, List.drop_zero, List.take_succ_cons, List.take_zero, List.getElem?_cons_succ, List.getElem?_cons_zero, cells_agg, eqCells_cons, eqCells_nil, eq1_int, eq1_bool, eq1_str, ↓at_ptr_whole, ↓at_ptr_cell, ↓at_ptr_obj, ↓at_ptr_objs, shift_obj, shift_elt, toA_val, toA_own, Int.toNat_natCast, List.cons_append]
  · refine ⟨false, fun K Q tg => ?_⟩
    simp (disch := (first | assumption | (simp only [Bool.and_eq_true, Bool.and_eq_false_iff, decide_eq_true_eq, decide_eq_false_iff_not, bne_iff_ne, beq_iff_eq, beq_eq_false_iff_ne, bne_eq_false_iff_eq, Bool.not_eq_true', Bool.not_eq_false', bys_length, List.length_append, List.length_cons, List.length_nil, List.length_map, List.length_drop, List.length_take, Int.natCast_add, wrap_i64_eq, wrap_u64, wrap_u8, ne_eq, not_true_eq_false, not_false_eq_true, Nat.zero_add, Nat.mul_one] <;> omega) | omega | (simp; done) | (simp; omega))) only [↓at_runK, ↓at_bind, ↓contQ_mk, ↓at_ret, ↓at_consK, ↓at_nilK, ↓at_optK, ↓at_intK, ↓at_boolK, ↓at_strK, ↓at_slK, ↓at_slOK, ↓at_slK0, ↓at_slOK0, ↓at_aggK, ↓at_cond_t, ↓at_cond_f, ↓at_sameL, ↓at_any1, ↓at_any, and_self, toBytes_bys, List.nil_append, List.append_nil, ↓at_nodeW, List.drop_zero, List.take_succ_cons, List.take_zero, List.getElem?_cons_succ, List.getElem?_cons_zero, cells_agg, eqCells_cons, eqCells_nil, eq1_int, eq1_bool, eq1_str, ↓at_ptr_whole, ↓at_ptr_cell, ↓at_ptr_obj, ↓at_ptr_objs, shift_obj, shift_elt, toA_val, toA_own, Int.toNat_natCast, List.cons_append]
theorem rputs_run {d : Nat} {v : AVal} {l : List KPair} {s x : List UInt8} {h : Heap} {Q : Res → Prop} {tg : Hid Q} (hv : isSl v l) (hs : Srt l) (hl : l.length ≤ 900000) :
    Run (evFn Cw (d + 2) 22 [v, .str s, .str x] h) Q tg = Q ([.sl false 3 (prs (lput s x l))], h) := by
  rcases hv with ⟨rfl, rfl⟩ | rfl
  · obtain ⟨k, hk⟩ : ∃ m, rounds = m + 1 := ⟨rounds - 1, by have := rounds_ge; omega⟩
    have e : prs (lput s x []) = [.agg [.str s, .str x]] := rfl
    have ed : ∀ (Q : Res → Prop) (tg : Hid Q), Run (evFn Cw (d + 1) 24 [.sl true 0 [], .str s] h) Q tg = Q ([.sl false 3 []], h) := fun Q tg => by
      rw [F24n_eq, hk, P24n_0_eq]
      simp (disch := (first | assumption | (simp only [Bool.and_eq_true, Bool.and_eq_false_iff, decide_eq_true_eq, decide_eq_false_iff_not, bne_iff_ne, beq_iff_eq, beq_eq_false_iff_ne, bne_eq_false_iff_eq, Bool.not_eq_true', Bool.not_eq_false', bys_length, List.length_append, List.length_cons, List.length_nil, List.length_map, List.length_drop, List.length_take, Int.natCast_add, wrap_i64_eq, wrap_u64, wrap_u8, ne_eq, not_true_eq_false, not_false_eq_true, Nat.zero_add, Nat.mul_one] <;> omega) | omega | (simp; done) | (simp; omega))) only [↓at_runK, ↓at_bind, ↓contQ_mk, ↓at_ret, ↓at_consK, ↓at_nilK, ↓at_optK, ↓at_intK, ↓at_boolK, ↓at_strK, ↓at_slK, ↓at_slOK, ↓at_slK0, ↓at_slOK0, ↓at_aggK, ↓at_cond_t, ↓at_cond_f, ↓at_sameL, ↓at_any1, ↓at_any, and_self, toBytes_bys, List.nil_append, List.append_nil, ↓at_nodeW, List.drop_zero, List.take_succ_cons, List.take_zero, List.getElem?_cons_succ, List.getElem?_cons_zero, cells_agg, eqCells_cons, eqCells_nil, eq1_int, eq1_bool, eq1_str, ↓at_ptr_whole, ↓at_ptr_cell, ↓at_ptr_obj, ↓at_ptr_objs, shift_obj, shift_elt, toA_val, toA_own, Int.toNat_natCast, List.cons_append, List.length_nil]
    rw [F22n_eq, e]
    simp (disch := (first | assumption | (simp only [Bool.and_eq_true, Bool.and_eq_false_iff, decide_eq_true_eq, decide_eq_false_iff_not, bne_iff_ne, beq_iff_eq, beq_eq_false_iff_ne, bne_eq_false_iff_eq, Bool.not_eq_true', Bool.not_eq_false', bys_length, List.length_append, List.length_cons, List.length_nil, List.length_map, List.length_drop, List.length_take, Int.natCast_add, wrap_i64_eq, wrap_u64, wrap_u8, ne_eq, not_true_eq_false, not_false_eq_true, Nat.zero_add, Nat.mul_one] <;> omega) | omega | (simp; done) | (simp; omega))) only [↓at_runK, ↓at_bind, ↓contQ_mk, ↓at_ret, ↓at_consK, ↓at_nilK, ↓at_optK, ↓at_intK, ↓at_boolK, ↓at_strK, ↓at_slK, ↓at_slOK, ↓at_slK0, ↓at_slOK0, ↓at_aggK, ↓at_cond_t, ↓at_cond_f, ↓at_sameL, ↓at_any1, ↓at_any, and_self, toBytes_bys, List.nil_append, List.append_nil, ↓at_nodeW, List.drop_zero, List.take_succ_cons, List.take_zero, List.getElem?_cons_succ, List.getElem?_cons_zero, cells_agg, eqCells_cons, eqCells_nil, eq1_int, eq1_bool, eq1_str, ↓at_ptr_whole, ↓at_ptr_cell, ↓at_ptr_obj, ↓at_ptr_objs, shift_obj, shift_elt, toA_val, toA_own, Int.toNat_natCast, List.cons_append, ed]
    rw [hk, P22n_0_eq]
    simp (disch := (first | assumption | (simp only [Bool.and_eq_true, Bool.and_eq_false_iff, decide_eq_true_eq, decide_eq_false_iff_not, bne_iff_ne, beq_iff_eq, beq_eq_false_iff_ne, bne_eq_false_iff_eq, Bool.not_eq_true', Bool.not_eq_false', bys_length, List.length_append, List.length_cons, List.length_nil, List.length_map, List.length_drop, List.length_take, Int.natCast_add, wrap_i64_eq, wrap_u64, wrap_u8, ne_eq, not_true_eq_false, not_false_eq_true, Nat.zero_add, Nat.mul_one] <;> omega) | omega | (simp; done) | (simp; omega))) only [↓at_runK, ↓at_bind, ↓contQ_mk, ↓at_ret, ↓at_consK, ↓at_nilK, ↓at_optK, ↓at_intK, ↓at_boolK, ↓at_strK, ↓at_slK, ↓at_slOK, ↓at_slK0, ↓at_slOK0, ↓at_aggK, ↓at_cond_t, ↓at_cond_f, ↓at_sameL, ↓at_any1, ↓at_any, and_self, toBytes_bys, List.nil_append, List.append_nil, ↓at_nodeW, List.drop_zero, List.take_succ_cons, List.take_zero, List.getElem?_cons_succ, List.getElem?_cons_zero, cells_agg, eqCells_cons, eqCells_nil, eq1_int, eq1_bool, eq1_str, ↓at_ptr_whole, ↓at_ptr_cell, ↓at_ptr_obj, ↓at_ptr_objs, shift_obj, shift_elt, toA_val, toA_own, Int.toNat_natCast, List.cons_append, List.length_nil, Bool.not_false]
  · exact rput31_run hs hl
theorem rdels_run {d : Nat} {v : AVal} {l : List KPair} {s : List UInt8} {h : Heap} {Q : Res → Prop} {tg : Hid Q} (hv : isSl v l) (hl : l.length ≤ 900000) :
    Run (evFn Cw (d + 1) 24 [v, .str s] h) Q tg = Q ([.sl false 3 (prs (ldel s l))], h) := by
  rcases hv with ⟨rfl, rfl⟩ | rfl
  · obtain ⟨k, hk⟩ : ∃ m, rounds = m + 1 := ⟨rounds - 1, by have := rounds_ge; omega⟩
    have e : prs (ldel s []) = [] := rfl
    rw [F24n_eq, hk, P24n_0_eq, e]
    simp (disch := (first | assumption | (simp only [Bool.and_eq_true, Bool.and_eq_false_iff, decide_eq_true_eq, decide_eq_false_iff_not, bne_iff_ne, beq_iff_eq, beq_eq_false_iff_ne, bne_eq_false_iff_eq, Bool.not_eq_true', Bool.not_eq_false', bys_length, List.length_append, List.length_cons, List.length_nil, List.length_map, List.length_drop, List.length_take, Int.natCast_add, wrap_i64_eq, wrap_u64, wrap_u8, ne_eq, not_true_eq_false, not_false_eq_true, Nat.zero_add, Nat.mul_one] <;> omega) | omega | (simp; done) | (simp; omega))) only [↓at_runK, ↓at_bind, ↓contQ_mk, ↓at_ret, ↓at_consK, ↓at_nilK, ↓at_optK, ↓at_intK, ↓at_boolK, ↓at_strK, ↓at_slK, ↓at_slOK, ↓at_slK0, ↓at_slOK0, ↓at_aggK, ↓at_cond_t, ↓at_cond_f, ↓at_sameL, ↓at_any1, ↓at_any, and_self, toBytes_bys, List.nil_append, List.append_nil, ↓at_nodeW, List.drop_zero, List.take_succ_cons, List.take_zero, List.getElem?_cons_succ, List.getElem?_cons_zero, cells_agg, eqCells_cons, eqCells_nil, eq1_int, eq1_bool, eq1_str, ↓at_ptr_whole, ↓at_ptr_cell, ↓at_ptr_obj, ↓at_ptr_objs, shift_obj, shift_elt, toA_val, toA_own, Int.toNat_natCast, List.cons_append, List.length_nil]
  · exact rdel31_run (by omega)
theorem rapply_loop (d : Nat) (f : Bool) (ops : List KOp) (ho : ops.length ≤ 1000) (h : Heap) : ∀ (n j k c : Nat) (v : AVal) (l : List KPair), isSl v l → Srt l → l.length + n ≤ 2000 → ops.length = j + n → n < k → c ≤ j →
    ∃ v', isSl v' (aps l (ops.drop j)) ∧ ∀ (Q : Res → Prop) (tg : Hid Q),
      Run (P31n_0 (d + 2) k v f (kops ops) c j h) Q tg = Q ([v', .int .i64 (c + cntO (ops.drop j) : Nat)], h) := by
  intro n
  induction n with
  | zero =>
    intro j k c v l hv hs hl hj hk hc
    obtain ⟨k, rfl⟩ : ∃ m, k = m + 1 := ⟨k - 1, by omega⟩
    have hd : ops.drop j = [] := List.drop_eq_nil_of_le (by omega)
    have e : c + cntO [] = c := rfl
    refine ⟨v, by rw [hd]; exact hv, fun Q tg => ?_⟩
    rw [P31n_0_eq, hd, e]
    simp (disch := (first | assumption | (simp only [Bool.and_eq_true, Bool.and_eq_false_iff, decide_eq_true_eq, decide_eq_false_iff_not, bne_iff_ne, beq_iff_eq, beq_eq_false_iff_ne, bne_eq_false_iff_eq, Bool.not_eq_true', Bool.not_eq_false', bys_length, List.length_append, List.length_cons, List.length_nil, List.length_map, List.length_drop, List.length_take, Int.natCast_add, wrap_i64_eq, wrap_u64, wrap_u8, ne_eq, not_true_eq_false, not_false_eq_true, Nat.zero_add, Nat.mul_one] <;> omega) | omega | (simp; done) | (simp; omega))) only [↓at_runK, ↓at_bind, ↓contQ_mk, ↓at_ret, ↓at_consK, ↓at_nilK, ↓at_optK, ↓at_intK, ↓at_boolK, ↓at_strK, ↓at_slK, ↓at_slOK, ↓at_slK0, ↓at_slOK0, ↓at_aggK, ↓at_cond_t, ↓at_cond_f, ↓at_sameL, ↓at_any1, ↓at_any, and_self, toBytes_bys, List.nil_append, List.append_nil, ↓at_nodeW, List.drop_zero, List.take_succ_cons, List.take_zero, List.getElem?_cons_succ, List.getElem?_cons_zero, cells_agg, eqCells_cons, eqCells_nil, eq1_int, eq1_bool, eq1_str, ↓at_ptr_whole, ↓at_ptr_cell, ↓at_ptr_obj, ↓at_ptr_objs, shift_obj, shift_elt, toA_val, toA_own, Int.toNat_natCast, List.cons_append, kops_length]
  | succ n ih =>
    intro j k c v l hv hs hl hj hk hc
    obtain ⟨k, rfl⟩ : ∃ m, k = m + 1 := ⟨k - 1, by omega⟩
    have h1 : j < ops.length := by omega
    have e1 := succ_wrap (i := j) (by omega)
    have e2 := succ_wrap (i := c) (by omega)
    rw [List.drop_eq_getElem_cons h1, aps_cons, cntO_cons]
    cases hr : rightO ops[j]
    · obtain ⟨v', hv', r⟩ := ih (j + 1) k c v l hv hs (by omega) (by omega) (by omega) (by omega)
      refine ⟨v', by simpa using hv', fun Q tg => ?_⟩
      have r' : ∀ (Q : Res → Prop) (tg : Hid Q), Run (P31n_0 (d + 2) k v f (kops ops) c (j + 1 : Nat) h) Q tg = Q ([v', .int .i64 (c + ((if false = true then 1 else 0) + cntO (ops.drop (j + 1))) : Nat)], h) := by simpa using r
      rw [P31n_0_eq]
      simp (disch := (first | assumption | (simp only [Bool.and_eq_true, Bool.and_eq_false_iff, decide_eq_true_eq, decide_eq_false_iff_not, bne_iff_ne, beq_iff_eq, beq_eq_false_iff_ne, bne_eq_false_iff_eq, Bool.not_eq_true', Bool.not_eq_false', bys_length, List.length_append, List.length_cons, List.length_nil, List.length_map, List.length_drop, List.length_take, Int.natCast_add, wrap_i64_eq, wrap_u64, wrap_u8, ne_eq, not_true_eq_false, not_false_eq_true, Nat.zero_add, Nat.mul_one] <;> omega) | omega | (simp; done) | (simp; omega))) only [↓at_runK, ↓at_bind, ↓contQ_mk, ↓at_ret, ↓at_consK, ↓at_nilK, ↓at_optK, ↓at_intK, ↓at_boolK, ↓at_strK, ↓at_slK, ↓at_slOK, ↓at_slK0, ↓at_slOK0, ↓at_aggK, ↓at_cond_t, ↓at_cond_f, ↓at_sameL, ↓at_any1, ↓at_any, and_self, toBytes_bys, List.nil_append, List.append_nil, ↓at_nodeW, List.drop_zero, List.take_succ_cons, List.take_zero, List.getElem?_cons_succ, List.getElem?_cons_zero, cells_agg, eqCells_cons, eqCells_nil, eq1_int, eq1_bool, eq1_str, ↓at_ptr_whole, ↓at_ptr_cell, ↓at_ptr_obj, ↓at_ptr_objs, shift_obj, shift_elt, toA_val, toA_own, Int.toNat_natCast, List.cons_append, kops_length, kops_getD h1, r10right_run, hr, Bool.not_false, e1, r']
    · by_cases c1 : ops[j].kind = 1
      · have c1' : (ops[j].kind == 1) = true := by simp [c1]
        have rp := fun (Q : Res → Prop) (tg : Hid Q) => rputs_run (d := d) (s := ops[j].key) (x := ops[j].val) (h := h) (Q := Q) (tg := tg) hv hs (by omega)
        have hl' := lput_len_le (k := ops[j].key) (v := ops[j].val) hs
        obtain ⟨v', hv', r⟩ := ih (j + 1) k (c + 1) _ _ (.inr rfl) (hs.put (k := ops[j].key) (v := ops[j].val)) (by omega) (by omega) (by omega) (by omega)
        refine ⟨v', by rw [if_pos rfl]; unfold apO; rw [if_pos c1]; exact hv', fun Q tg => ?_⟩
        have r' : ∀ (Q : Res → Prop) (tg : Hid Q), Run (P31n_0 (d + 2) k (.sl false 3 (prs (lput ops[j].key ops[j].val l))) f (kops ops) (c + 1 : Nat) (j + 1 : Nat) h) Q tg = Q ([v', .int .i64 (c + ((if true = true then 1 else 0) + cntO (ops.drop (j + 1))) : Nat)], h) := fun Q tg => by
          rw [r Q tg, if_pos rfl, Nat.add_assoc]
        rw [P31n_0_eq]
        simp (disch := (first | assumption | (simp only [Bool.and_eq_true, Bool.and_eq_false_iff, decide_eq_true_eq, decide_eq_false_iff_not, bne_iff_ne, beq_iff_eq, beq_eq_false_iff_ne, bne_eq_false_iff_eq, Bool.not_eq_true', Bool.not_eq_false', bys_length, List.length_append, List.length_cons, List.length_nil, List.length_map, List.length_drop, List.length_take, Int.natCast_add, wrap_i64_eq, wrap_u64, wrap_u8, ne_eq, not_true_eq_false, not_false_eq_true, Nat.zero_add, Nat.mul_one] <;> omega) | omega | (simp; done) | (simp; omega))) only [↓at_runK, ↓at_bind, ↓contQ_mk, ↓at_ret, ↓at_consK, ↓at_nilK, ↓at_optK, ↓at_intK, ↓at_boolK, ↓at_strK, ↓at_slK, ↓at_slOK, ↓at_slK0, ↓at_slOK0, ↓at_aggK, ↓at_cond_t, ↓at_cond_f, ↓at_sameL, ↓at_any1, ↓at_any, and_self, toBytes_bys, List.nil_append, List.append_nil, ↓at_nodeW, List.drop_zero, List.take_succ_cons, List.take_zero, List.getElem?_cons_succ, List.getElem?_cons_zero, cells_agg, eqCells_cons, eqCells_nil, eq1_int, eq1_bool, eq1_str, ↓at_ptr_whole, ↓at_ptr_cell, ↓at_ptr_obj, ↓at_ptr_objs, shift_obj, shift_elt, toA_val, toA_own, Int.toNat_natCast, List.cons_append, kops_length, kops_getD h1, r10right_run, hr, Bool.not_true, c1', rp, e1, e2, r']
      · have c1' : (ops[j].kind == 1) = false := by simpa using c1
        have rp := fun (Q : Res → Prop) (tg : Hid Q) => rdels_run (d := d + 1) (s := ops[j].key) (h := h) (Q := Q) (tg := tg) hv (by omega)
        have hl' := ldel_len_le ops[j].key l
        obtain ⟨v', hv', r⟩ := ih (j + 1) k (c + 1) _ _ (.inr rfl) (hs.del (k := ops[j].key)) (by omega) (by omega) (by omega) (by omega)
        refine ⟨v', by rw [if_pos rfl]; unfold apO; rw [if_neg c1]; exact hv', fun Q tg => ?_⟩
        have r' : ∀ (Q : Res → Prop) (tg : Hid Q), Run (P31n_0 (d + 2) k (.sl false 3 (prs (ldel ops[j].key l))) f (kops ops) (c + 1 : Nat) (j + 1 : Nat) h) Q tg = Q ([v', .int .i64 (c + ((if true = true then 1 else 0) + cntO (ops.drop (j + 1))) : Nat)], h) := fun Q tg => by
          rw [r Q tg, if_pos rfl, Nat.add_assoc]
        rw [P31n_0_eq]
        simp (disch := (first | assumption | (simp only [Bool.and_eq_true, Bool.and_eq_false_iff, decide_eq_true_eq, decide_eq_false_iff_not, bne_iff_ne, beq_iff_eq, beq_eq_false_iff_ne, bne_eq_false_iff_eq, Bool.not_eq_true', Bool.not_eq_false', bys_length, List.length_append, List.length_cons, List.length_nil, List.length_map, List.length_drop, List.length_take, Int.natCast_add, wrap_i64_eq, wrap_u64, wrap_u8, ne_eq, not_true_eq_false, not_false_eq_true, Nat.zero_add, Nat.mul_one] <;> omega) | omega | (simp; done) | (simp; omega))) only [↓at_runK, ↓at_bind, ↓contQ_mk, ↓at_ret, ↓at_consK, ↓at_nilK, ↓at_optK, ↓at_intK, ↓at_boolK, ↓at_strK, ↓at_slK, ↓at_slOK, ↓at_slK0, ↓at_slOK0, ↓at_aggK, ↓at_cond_t, ↓at_cond_f, ↓at_sameL, ↓at_any1, ↓at_any, and_self, toBytes_bys, List.nil_append, List.append_nil, ↓at_nodeW, List.drop_zero, List.take_succ_cons, List.take_zero, List.getElem?_cons_succ, List.getElem?_cons_zero, cells_agg, eqCells_cons, eqCells_nil, eq1_int, eq1_bool, eq1_str, ↓at_ptr_whole, ↓at_ptr_cell, ↓at_ptr_obj, ↓at_ptr_objs, shift_obj, shift_elt, toA_val, toA_own, Int.toNat_natCast, List.cons_append, kops_length, kops_getD h1, r10right_run, hr, Bool.not_true, c1', rp, e1, e2, r']
theorem rapplyn_run (d : Nat) (f : Bool) (ops : List KOp) (ho : ops.length ≤ 1000) (h : Heap) : ∃ v', isSl v' (aps [] ops) ∧ ∀ (Q : Res → Prop) (tg : Hid Q),
    Run (evFn Cw (d + 3) 31 [.sl true 0 [], .sl f 4 (kops ops)] h) Q tg = Q ([v', .int .i64 (cntO ops : Nat)], h) := by
  obtain ⟨v', hv', r⟩ := rapply_loop d f ops ho h ops.length 0 rounds 0 (.sl true 0 []) [] (.inl ⟨rfl, rfl⟩) List.Pairwise.nil (by simp; omega) (by omega) (rounds_gt' (by omega)) (by omega)
  rw [List.drop_zero] at hv' r
  rw [e0, Nat.zero_add] at r
  refine ⟨v', hv', fun Q tg => ?_⟩
  rw [F31n_eq]
  simp (disch := (first | assumption | (simp only [Bool.and_eq_true, Bool.and_eq_false_iff, decide_eq_true_eq, decide_eq_false_iff_not, bne_iff_ne, beq_iff_eq, beq_eq_false_iff_ne, bne_eq_false_iff_eq, Bool.not_eq_true', Bool.not_eq_false', bys_length, List.length_append, List.length_cons, List.length_nil, List.length_map, List.length_drop, List.length_take, Int.natCast_add, wrap_i64_eq, wrap_u64, wrap_u8, ne_eq, not_true_eq_false, not_false_eq_true, Nat.zero_add, Nat.mul_one] <;> omega) | omega | (simp; done) | (simp; omega))) only [↓at_runK, ↓at_bind, ↓contQ_mk, ↓at_ret, ↓at_consK, ↓at_nilK, ↓at_optK, ↓at_intK, ↓at_boolK, ↓at_strK, ↓at_slK, ↓at_slOK, ↓at_slK0, ↓at_slOK0, ↓at_aggK, ↓at_cond_t, ↓at_cond_f, ↓at_sameL, ↓at_any1, ↓at_any, and_self, toBytes_bys, List.nil_append, List.append_nil, ↓at_nodeW, List.drop_zero, List.take_succ_cons, List.take_zero, List.getElem?_cons_succ, List.getElem?_cons_zero, cells_agg, eqCells_cons, eqCells_nil, eq1_int, eq1_bool, eq1_str, ↓at_ptr_whole, ↓at_ptr_cell, ↓at_ptr_obj, ↓at_ptr_objs, shift_obj, shift_elt, toA_val, toA_own, Int.toNat_natCast, List.cons_append, r]
theorem rbytes_loop (d : Nat) (f : Bool) (l : List KPair) (hl : l.length ≤ 1000) (hkv : ∀ p ∈ l, p.key.length ≤ 140737488351232 ∧ p.val.length ≤ 140737488351232) (h : Heap) (Q : Res → Prop) : ∀ (n j k a : Nat) (tg : Hid Q), l.length = j + n → n < k → a ≤ j * 281474976702464 →
    Run (P35_0 d k f (prs l) a j h) Q tg = Q ([.int .i64 (a + btot (l.drop j) : Nat)], h) := by
  intro n
  induction n with
  | zero =>
    intro j k a tg hj hk ha
    obtain ⟨k, rfl⟩ : ∃ m, k = m + 1 := ⟨k - 1, by omega⟩
    have hd : l.drop j = [] := List.drop_eq_nil_of_le (by omega)
    have e : a + btot [] = a := rfl
    rw [P35_0_eq, hd, e]
    simp (disch := (first | assumption | (simp only [Bool.and_eq_true, Bool.and_eq_false_iff, decide_eq_true_eq, decide_eq_false_iff_not, bne_iff_ne, beq_iff_eq, beq_eq_false_iff_ne, bne_eq_false_iff_eq, Bool.not_eq_true', Bool.not_eq_false', bys_length, List.length_append, List.length_cons, List.length_nil, List.length_map, List.length_drop, List.length_take, Int.natCast_add, wrap_i64_eq, wrap_u64, wrap_u8, ne_eq, not_true_eq_false, not_false_eq_true, Nat.zero_add, Nat.mul_one] <;> omega) | omega | (simp; done) | (simp; omega))) only [↓at_runK, ↓at_bind, ↓contQ_mk, ↓at_ret, ↓at_consK, ↓at_nilK, ↓at_optK, ↓at_intK, ↓at_boolK, ↓at_strK, ↓at_slK, ↓at_slOK, ↓at_slK0, ↓at_slOK0, ↓at_aggK, ↓at_cond_t, ↓at_cond_f, ↓at_sameL, ↓at_any1, ↓at_any, and_self, toBytes_bys, List.nil_append, List.append_nil, ↓at_nodeW, List.drop_zero, List.take_succ_cons, List.take_zero, List.getElem?_cons_succ, List.getElem?_cons_zero, cells_agg, eqCells_cons, eqCells_nil, eq1_int, eq1_bool, eq1_str, ↓at_ptr_whole, ↓at_ptr_cell, ↓at_ptr_obj, ↓at_ptr_objs, shift_obj, shift_elt, toA_val, toA_own, Int.toNat_natCast, List.cons_append, prs_length]
  | succ n ih =>
    intro j k a tg hj hk ha
    obtain ⟨k, rfl⟩ : ∃ m, k = m + 1 := ⟨k - 1, by omega⟩
    have h1 : j < l.length := by omega
    have e1 := succ_wrap (i := j) (by omega)
    have hb := hkv _ (List.getElem_mem h1)
    have hj2 : j * 281474976702464 ≤ 1000 * 281474976702464 := Nat.mul_le_mul_right _ (by omega)
    have w1 : IntKind.i64.wrap ((a : Int) + (l[j].key.length : Int)) = ((a + l[j].key.length : Nat) : Int) := by rw [wrap_i64_id (by omega) (by omega)]; omega
    have w2 : IntKind.i64.wrap (((a + l[j].key.length : Nat) : Int) + (l[j].val.length : Int)) = ((a + l[j].key.length + l[j].val.length : Nat) : Int) := by rw [wrap_i64_id (by omega) (by omega)]; omega
    have ih' := fun tg => ih (j + 1) k (a + l[j].key.length + l[j].val.length) tg (by omega) (by omega) (by rw [Nat.add_mul]; omega)
    rw [P35_0_eq, List.drop_eq_getElem_cons h1]
    have e3 : a + btot (l[j] :: l.drop (j + 1)) = a + l[j].key.length + l[j].val.length + btot (l.drop (j + 1)) := by simp only [btot]; omega
    rw [e3]
    simp (disch := (first | assumption | (simp only [Bool.and_eq_true, Bool.and_eq_false_iff, decide_eq_true_eq, decide_eq_false_iff_not, bne_iff_ne, beq_iff_eq, beq_eq_false_iff_ne, bne_eq_false_iff_eq, Bool.not_eq_true', Bool.not_eq_false', bys_length, List.length_append, List.length_cons, List.length_nil, List.length_map, List.length_drop, List.length_take, Int.natCast_add, wrap_i64_eq, wrap_u64, wrap_u8, ne_eq, not_true_eq_false, not_false_eq_true, Nat.zero_add, Nat.mul_one] <;> omega) | omega | (simp; done) | (simp; omega))) only [↓at_runK, ↓at_bind, ↓contQ_mk, ↓at_ret, ↓at_consK, ↓at_nilK, ↓at_optK, ↓at_intK, ↓at_boolK, ↓at_strK, ↓at_slK, ↓at_slOK, ↓at_slK0, ↓at_slOK0, ↓at_aggK, ↓at_cond_t, ↓at_cond_f, ↓at_sameL, ↓at_any1, ↓at_any, and_self, toBytes_bys, List.nil_append, List.append_nil, ↓at_nodeW, List.drop_zero, List.take_succ_cons, List.take_zero, List.getElem?_cons_succ, List.getElem?_cons_zero, cells_agg, eqCells_cons, eqCells_nil, eq1_int, eq1_bool, eq1_str, ↓at_ptr_whole, ↓at_ptr_cell, ↓at_ptr_obj, ↓at_ptr_objs, shift_obj, shift_elt, toA_val, toA_own, Int.toNat_natCast, List.cons_append, prs_length, prs_getD h1, w1, w2, e1, ih']
theorem rbytes_run {d : Nat} {f : Bool} {l : List KPair} {h : Heap} {Q : Res → Prop} {tg : Hid Q} (hl : l.length ≤ 1000) (hkv : ∀ p ∈ l, p.key.length ≤ 140737488351232 ∧ p.val.length ≤ 140737488351232) :
    Run (evFn Cw (d + 1) 35 [.sl f 3 (prs l)] h) Q tg = Q ([.int .i64 (btot l : Nat)], h) := by
  have := rbytes_loop d f l hl hkv h Q l.length 0 rounds 0 ⟨⟩ (by omega) (rounds_gt' (by omega)) (by omega)
  rw [List.drop_zero, e0, Nat.zero_add] at this
  rw [F35_eq]
  exact this
theorem rins_loop (d n0 : Nat) (f : Bool) (ops out : List KOp) (j : Nat) (hj : j < ops.length) (ho : ops.length ≤ 1000) (hl : out.length ≤ 1000) (h : Heap) (Q : Res → Prop) : ∀ (n i k : Nat) (b : Bool) (acc : List KOp) (tg : Hid Q), out.length = i + n → n < k → acc.length ≤ i + b.toNat →
    Run (P41_1 d n0 k f (kops ops) (kops out) j (kops acc) b i h) Q tg = Run (P41_0 d n0 f (kops ops) (kops (acc ++ insG ops[j] b (out.drop i))) (j + 1 : Nat) h) Q ⟨⟩ := by
  have e1 := succ_wrap (i := j) (by omega)
  intro n
  induction n with
  | zero =>
    intro i k b acc tg hi hk ha
    obtain ⟨k, rfl⟩ : ∃ m, k = m + 1 := ⟨k - 1, by omega⟩
    have hd : out.drop i = [] := List.drop_eq_nil_of_le (by omega)
    have hbt : b.toNat ≤ 1 := by cases b <;> simp
    rw [P41_1_eq, hd]
    cases b
    · have e : kops (acc ++ insG ops[j] false []) = kops acc ++ [.agg [.int .i64 ops[j].kind, .str ops[j].key, .str ops[j].val]] := by rw [kops_snoc]; rfl
      rw [e]
      simp (disch := (first | assumption | (simp only [Bool.and_eq_true, Bool.and_eq_false_iff, decide_eq_true_eq, decide_eq_false_iff_not, bne_iff_ne, beq_iff_eq, beq_eq_false_iff_ne, bne_eq_false_iff_eq, Bool.not_eq_true', Bool.not_eq_false', bys_length, List.length_append, List.length_cons, List.length_nil, List.length_map, List.length_drop, List.length_take, Int.natCast_add, wrap_i64_eq, wrap_u64, wrap_u8, ne_eq, not_true_eq_false, not_false_eq_true, Nat.zero_add, Nat.mul_one] <;> omega) | omega | (simp; done) | (simp; omega))) only [↓at_runK, ↓at_bind, ↓contQ_mk, ↓at_ret, ↓at_consK, ↓at_nilK, ↓at_optK, ↓at_intK, ↓at_boolK, ↓at_strK, ↓at_slK, ↓at_slOK, ↓at_slK0, ↓at_slOK0, ↓at_aggK, ↓at_cond_t, ↓at_cond_f, ↓at_sameL, ↓at_any1, ↓at_any, and_self, toBytes_bys, List.nil_append, List.append_nil, ↓at_nodeW, List.drop_zero, List.take_succ_cons, List.take_zero, List.getElem?_cons_succ, List.getElem?_cons_zero, cells_agg, eqCells_cons, eqCells_nil, eq1_int, eq1_bool, eq1_str, ↓at_ptr_whole, ↓at_ptr_cell, ↓at_ptr_obj, ↓at_ptr_objs, shift_obj, shift_elt, toA_val, toA_own, Int.toNat_natCast, List.cons_append, kops_length, kops_getD hj, Bool.not_false, e1]
    · have e : kops (acc ++ insG ops[j] true []) = kops acc := by simp [insG]
      rw [e]
      simp (disch := (first | assumption | (simp only [Bool.and_eq_true, Bool.and_eq_false_iff, decide_eq_true_eq, decide_eq_false_iff_not, bne_iff_ne, beq_iff_eq, beq_eq_false_iff_ne, bne_eq_false_iff_eq, Bool.not_eq_true', Bool.not_eq_false', bys_length, List.length_append, List.length_cons, List.length_nil, List.length_map, List.length_drop, List.length_take, Int.natCast_add, wrap_i64_eq, wrap_u64, wrap_u8, ne_eq, not_true_eq_false, not_false_eq_true, Nat.zero_add, Nat.mul_one] <;> omega) | omega | (simp; done) | (simp; omega))) only [↓at_runK, ↓at_bind, ↓contQ_mk, ↓at_ret, ↓at_consK, ↓at_nilK, ↓at_optK, ↓at_intK, ↓at_boolK, ↓at_strK, ↓at_slK, ↓at_slOK, ↓at_slK0, ↓at_slOK0, ↓at_aggK, ↓at_cond_t, ↓at_cond_f, ↓at_sameL, ↓at_any1, ↓at_any, and_self, toBytes_bys, List.nil_append, List.append_nil, ↓at_nodeW, List.drop_zero, List.take_succ_cons, List.take_zero, List.getElem?_cons_succ, List.getElem?_cons_zero, cells_agg, eqCells_cons, eqCells_nil, eq1_int, eq1_bool, eq1_str, ↓at_ptr_whole, ↓at_ptr_cell, ↓at_ptr_obj, ↓at_ptr_objs, shift_obj, shift_elt, toA_val, toA_own, Int.toNat_natCast, List.cons_append, kops_length, kops_getD hj, Bool.not_true, e1]
  | succ n ih =>
    intro i k b acc tg hi hk ha
    obtain ⟨k, rfl⟩ : ∃ m, k = m + 1 := ⟨k - 1, by omega⟩
    have h1 : i < out.length := by omega
    have e2 := succ_wrap (i := i) (by omega)
    -- behind the choice
    have tail : ∀ (b : Bool) (acc : List KOp), acc.length ≤ i + 2 → ∀ tg, Run (P41_2 d n0 k f (kops ops) (kops out) j (kops acc) b i h) Q tg = Run (P41_1 d n0 k f (kops ops) (kops out) j (kops (acc ++ if out[i].key = ops[j].key then [] else [out[i]])) b (i + 1 : Nat) h) Q ⟨⟩ := fun b acc ha tg => by
      rw [P41_2_eq]
      by_cases c : out[i].key = ops[j].key
      · have c' : (out[i].key == ops[j].key) = true := by simp [c]
        rw [if_pos c, List.append_nil]
        simp (disch := (first | assumption | (simp only [Bool.and_eq_true, Bool.and_eq_false_iff, decide_eq_true_eq, decide_eq_false_iff_not, bne_iff_ne, beq_iff_eq, beq_eq_false_iff_ne, bne_eq_false_iff_eq, Bool.not_eq_true', Bool.not_eq_false', bys_length, List.length_append, List.length_cons, List.length_nil, List.length_map, List.length_drop, List.length_take, Int.natCast_add, wrap_i64_eq, wrap_u64, wrap_u8, ne_eq, not_true_eq_false, not_false_eq_true, Nat.zero_add, Nat.mul_one] <;> omega) | omega | (simp; done) | (simp; omega))) only [↓at_runK, ↓at_bind, ↓contQ_mk, ↓at_ret, ↓at_consK, ↓at_nilK, ↓at_optK, ↓at_intK, ↓at_boolK, ↓at_strK, ↓at_slK, ↓at_slOK, ↓at_slK0, ↓at_slOK0, ↓at_aggK, ↓at_cond_t, ↓at_cond_f, ↓at_sameL, ↓at_any1, ↓at_any, and_self, toBytes_bys, List.nil_append, List.append_nil, ↓at_nodeW, List.drop_zero, List.take_succ_cons, List.take_zero, List.getElem?_cons_succ, List.getElem?_cons_zero, cells_agg, eqCells_cons, eqCells_nil, eq1_int, eq1_bool, eq1_str, ↓at_ptr_whole, ↓at_ptr_cell, ↓at_ptr_obj, ↓at_ptr_objs, shift_obj, shift_elt, toA_val, toA_own, Int.toNat_natCast, List.cons_append, kops_length, kops_getD hj, kops_getD h1, c', Bool.not_true, e2]
      · have c' : (out[i].key == ops[j].key) = false := by simpa using c
        rw [if_neg c, ← kops_snoc]
        simp (disch := (first | assumption | (simp only [Bool.and_eq_true, Bool.and_eq_false_iff, decide_eq_true_eq, decide_eq_false_iff_not, bne_iff_ne, beq_iff_eq, beq_eq_false_iff_ne, bne_eq_false_iff_eq, Bool.not_eq_true', Bool.not_eq_false', bys_length, List.length_append, List.length_cons, List.length_nil, List.length_map, List.length_drop, List.length_take, Int.natCast_add, wrap_i64_eq, wrap_u64, wrap_u8, ne_eq, not_true_eq_false, not_false_eq_true, Nat.zero_add, Nat.mul_one] <;> omega) | omega | (simp; done) | (simp; omega))) only [↓at_runK, ↓at_bind, ↓contQ_mk, ↓at_ret, ↓at_consK, ↓at_nilK, ↓at_optK, ↓at_intK, ↓at_boolK, ↓at_strK, ↓at_slK, ↓at_slOK, ↓at_slK0, ↓at_slOK0, ↓at_aggK, ↓at_cond_t, ↓at_cond_f, ↓at_sameL, ↓at_any1, ↓at_any, and_self, toBytes_bys, List.nil_append, List.append_nil, ↓at_nodeW, List.drop_zero, List.take_succ_cons, List.take_zero, List.getElem?_cons_succ, List.getElem?_cons_zero, cells_agg, eqCells_cons, eqCells_nil, eq1_int, eq1_bool, eq1_str, ↓at_ptr_whole, ↓at_ptr_cell, ↓at_ptr_obj, ↓at_ptr_objs, shift_obj, shift_elt, toA_val, toA_own, Int.toNat_natCast, List.cons_append, kops_length, kops_getD hj, kops_getD h1, c', Bool.not_false, e2]
    have hif : ∀ p : KOp, (if p.key = ops[j].key then [] else [p]).length ≤ 1 := fun p => by split <;> simp
    have hif' := hif out[i]
    rw [P41_1_eq, List.drop_eq_getElem_cons h1]
    cases b
    · simp only [Bool.toNat_false] at ha
      unfold insG
      cases c : blt out[i].key ops[j].key
      · have c' : Go.Op.bytesLess out[i].key ops[j].key = false := c
        have t := fun tg => tail true (acc ++ [ops[j]]) (by simp; omega) tg
        have ih' := fun tg => ih (i + 1) k true (acc ++ [ops[j]] ++ if out[i].key = ops[j].key then [] else [out[i]]) tg (by omega) (by omega) (by rw [List.length_append, List.length_append]; simp only [List.length_cons, List.length_nil, Bool.toNat_true]; omega)
        rw [← kops_snoc] at t
        rw [if_neg (by simp)]
        simp (disch := (first | assumption | (simp only [Bool.and_eq_true, Bool.and_eq_false_iff, decide_eq_true_eq, decide_eq_false_iff_not, bne_iff_ne, beq_iff_eq, beq_eq_false_iff_ne, bne_eq_false_iff_eq, Bool.not_eq_true', Bool.not_eq_false', bys_length, List.length_append, List.length_cons, List.length_nil, List.length_map, List.length_drop, List.length_take, Int.natCast_add, wrap_i64_eq, wrap_u64, wrap_u8, ne_eq, not_true_eq_false, not_false_eq_true, Nat.zero_add, Nat.mul_one] <;> omega) | omega | (simp; done) | (simp; omega))) only [↓at_runK, ↓at_bind, ↓contQ_mk, ↓at_ret, ↓at_consK, ↓at_nilK, ↓at_optK, ↓at_intK, ↓at_boolK, ↓at_strK, ↓at_slK, ↓at_slOK, ↓at_slK0, ↓at_slOK0, ↓at_aggK, ↓at_cond_t, ↓at_cond_f, ↓at_sameL, ↓at_any1, ↓at_any, and_self, toBytes_bys, List.nil_append, List.append_nil, ↓at_nodeW, List.drop_zero, List.take_succ_cons, List.take_zero, List.getElem?_cons_succ, List.getElem?_cons_zero, cells_agg, eqCells_cons, eqCells_nil, eq1_int, eq1_bool, eq1_str, ↓at_ptr_whole, ↓at_ptr_cell, ↓at_ptr_obj, ↓at_ptr_objs, shift_obj, shift_elt, toA_val, toA_own, Int.toNat_natCast, List.cons_append, kops_length, kops_getD hj, kops_getD h1, Bool.not_false, c', t, ih']
        simp
      · have c' : Go.Op.bytesLess out[i].key ops[j].key = true := c
        have t := fun tg => tail false acc (by omega) tg
        have e3 : (if out[i].key = ops[j].key then [] else [out[i]]) = [out[i]] := if_neg (blt_ne c)
        rw [e3] at t
        have ih' := fun tg => ih (i + 1) k false (acc ++ [out[i]]) tg (by omega) (by omega) (by simp; omega)
        rw [if_pos rfl]
        simp (disch := (first | assumption | (simp only [Bool.and_eq_true, Bool.and_eq_false_iff, decide_eq_true_eq, decide_eq_false_iff_not, bne_iff_ne, beq_iff_eq, beq_eq_false_iff_ne, bne_eq_false_iff_eq, Bool.not_eq_true', Bool.not_eq_false', bys_length, List.length_append, List.length_cons, List.length_nil, List.length_map, List.length_drop, List.length_take, Int.natCast_add, wrap_i64_eq, wrap_u64, wrap_u8, ne_eq, not_true_eq_false, not_false_eq_true, Nat.zero_add, Nat.mul_one] <;> omega) | omega | (simp; done) | (simp; omega))) only [↓at_runK, ↓at_bind, ↓contQ_mk, ↓at_ret, ↓at_consK, ↓at_nilK, ↓at_optK, ↓at_intK, ↓at_boolK, ↓at_strK, ↓at_slK, ↓at_slOK, ↓at_slK0, ↓at_slOK0, ↓at_aggK, ↓at_cond_t, ↓at_cond_f, ↓at_sameL, ↓at_any1, ↓at_any, and_self, toBytes_bys, List.nil_append, List.append_nil, ↓at_nodeW, List.drop_zero, List.take_succ_cons, List.take_zero, List.getElem?_cons_succ, List.getElem?_cons_zero, cells_agg, eqCells_cons, eqCells_nil, eq1_int, eq1_bool, eq1_str, ↓at_ptr_whole, ↓at_ptr_cell, ↓at_ptr_obj, ↓at_ptr_objs, shift_obj, shift_elt, toA_val, toA_own, Int.toNat_natCast, List.cons_append, kops_length, kops_getD hj, kops_getD h1, Bool.not_false, Bool.not_true, c', t, ih']
        simp
    · simp only [Bool.toNat_true] at ha
      unfold insG
      have t := fun tg => tail true acc (by omega) tg
      have ih' := fun tg => ih (i + 1) k true (acc ++ if out[i].key = ops[j].key then [] else [out[i]]) tg (by omega) (by omega) (by rw [List.length_append]; simp only [Bool.toNat_true]; omega)
      simp (disch := (first | assumption | (simp only [Bool.and_eq_true, Bool.and_eq_false_iff, decide_eq_true_eq, decide_eq_false_iff_not, bne_iff_ne, beq_iff_eq, beq_eq_false_iff_ne, bne_eq_false_iff_eq, Bool.not_eq_true', Bool.not_eq_false', bys_length, List.length_append, List.length_cons, List.length_nil, List.length_map, List.length_drop, List.length_take, Int.natCast_add, wrap_i64_eq, wrap_u64, wrap_u8, ne_eq, not_true_eq_false, not_false_eq_true, Nat.zero_add, Nat.mul_one] <;> omega) | omega | (simp; done) | (simp; omega))) only [↓at_runK, ↓at_bind, ↓contQ_mk, ↓at_ret, ↓at_consK, ↓at_nilK, ↓at_optK, ↓at_intK, ↓at_boolK, ↓at_strK, ↓at_slK, ↓at_slOK, ↓at_slK0, ↓at_slOK0, ↓at_aggK, ↓at_cond_t, ↓at_cond_f, ↓at_sameL, ↓at_any1, ↓at_any, and_self, toBytes_bys, List.nil_append, List.append_nil, ↓at_nodeW, List.drop_zero, List.take_succ_cons, List.take_zero, List.getElem?_cons_succ, List.getElem?_cons_zero, cells_agg, eqCells_cons, eqCells_nil, eq1_int, eq1_bool, eq1_str, ↓at_ptr_whole, ↓at_ptr_cell, ↓at_ptr_obj, ↓at_ptr_objs, shift_obj, shift_elt, toA_val, toA_own, Int.toNat_natCast, List.cons_append, kops_length, kops_getD hj, kops_getD h1, Bool.not_true, t, ih']
      simp
theorem rlast_loop (d : Nat) (f : Bool) (ops : List KOp) (ho : ops.length ≤ 900) (h : Heap) (Q : Res → Prop) : ∀ (n j k : Nat) (out : List KOp) (tg : Hid Q), ops.length = j + n → n < k → out.length ≤ j →
    Run (P41_0 d k f (kops ops) (kops out) j h) Q tg = Q ([.sl false 4 (kops ((ops.drop j).foldl (fun acc o => insG o false acc) out))], h) := by
  intro n
  induction n with
  | zero =>
    intro j k out tg hj hk hl
    obtain ⟨k, rfl⟩ : ∃ m, k = m + 1 := ⟨k - 1, by omega⟩
    have hd : ops.drop j = [] := List.drop_eq_nil_of_le (by omega)
    rw [P41_0_eq, hd]
    simp (disch := (first | assumption | (simp only [Bool.and_eq_true, Bool.and_eq_false_iff, decide_eq_true_eq, decide_eq_false_iff_not, bne_iff_ne, beq_iff_eq, beq_eq_false_iff_ne, bne_eq_false_iff_eq, Bool.not_eq_true', Bool.not_eq_false', bys_length, List.length_append, List.length_cons, List.length_nil, List.length_map, List.length_drop, List.length_take, Int.natCast_add, wrap_i64_eq, wrap_u64, wrap_u8, ne_eq, not_true_eq_false, not_false_eq_true, Nat.zero_add, Nat.mul_one] <;> omega) | omega | (simp; done) | (simp; omega))) only [↓at_runK, ↓at_bind, ↓contQ_mk, ↓at_ret, ↓at_consK, ↓at_nilK, ↓at_optK, ↓at_intK, ↓at_boolK, ↓at_strK, ↓at_slK, ↓at_slOK, ↓at_slK0, ↓at_slOK0, ↓at_aggK, ↓at_cond_t, ↓at_cond_f, ↓at_sameL, ↓at_any1, ↓at_any, and_self, toBytes_bys, List.nil_append, List.append_nil, ↓at_nodeW, List.drop_zero, List.take_succ_cons, List.take_zero, List.getElem?_cons_succ, List.getElem?_cons_zero, cells_agg, eqCells_cons, eqCells_nil, eq1_int, eq1_bool, eq1_str, ↓at_ptr_whole, ↓at_ptr_cell, ↓at_ptr_obj, ↓at_ptr_objs, shift_obj, shift_elt, toA_val, toA_own, Int.toNat_natCast, List.cons_append, kops_length]
    rfl
  | succ n ih =>
    intro j k out tg hj hk hl
    obtain ⟨k, rfl⟩ : ∃ m, k = m + 1 := ⟨k - 1, by omega⟩
    have h1 : j < ops.length := by omega
    have hi := insG_len ops[j] false out
    have r := fun (Q : Res → Prop) (tg : Hid Q) => rins_loop d k f ops out j h1 (by omega) (by omega) h Q out.length 0 rounds false [] tg (by omega) (rounds_gt' (by omega)) (by simp)
    rw [e0, kops_nil, List.drop_zero, List.nil_append] at r
    have ih' := fun tg => ih (j + 1) k (insG ops[j] false out) tg (by omega) (by omega) (by omega)
    rw [P41_0_eq, List.drop_eq_getElem_cons h1, List.foldl_cons]
    simp (disch := (first | assumption | (simp only [Bool.and_eq_true, Bool.and_eq_false_iff, decide_eq_true_eq, decide_eq_false_iff_not, bne_iff_ne, beq_iff_eq, beq_eq_false_iff_ne, bne_eq_false_iff_eq, Bool.not_eq_true', Bool.not_eq_false', bys_length, List.length_append, List.length_cons, List.length_nil, List.length_map, List.length_drop, List.length_take, Int.natCast_add, wrap_i64_eq, wrap_u64, wrap_u8, ne_eq, not_true_eq_false, not_false_eq_true, Nat.zero_add, Nat.mul_one] <;> omega) | omega | (simp; done) | (simp; omega))) only [↓at_runK, ↓at_bind, ↓contQ_mk, ↓at_ret, ↓at_consK, ↓at_nilK, ↓at_optK, ↓at_intK, ↓at_boolK, ↓at_strK, ↓at_slK, ↓at_slOK, ↓at_slK0, ↓at_slOK0, ↓at_aggK, ↓at_cond_t, ↓at_cond_f, ↓at_sameL, ↓at_any1, ↓at_any, and_self, toBytes_bys, List.nil_append, List.append_nil, ↓at_nodeW, List.drop_zero, List.take_succ_cons, List.take_zero, List.getElem?_cons_succ, List.getElem?_cons_zero, cells_agg, eqCells_cons, eqCells_nil, eq1_int, eq1_bool, eq1_str, ↓at_ptr_whole, ↓at_ptr_cell, ↓at_ptr_obj, ↓at_ptr_objs, shift_obj, shift_elt, toA_val, toA_own, Int.toNat_natCast, List.cons_append, kops_length, r, ih']
theorem rlast_run {d : Nat} {f : Bool} {ops : List KOp} {h : Heap} {Q : Res → Prop} {tg : Hid Q} (ho : ops.length ≤ 900) :
    Run (evFn Cw (d + 1) 41 [.sl f 4 (kops ops)] h) Q tg = Q ([.sl false 4 (kops (lastL ops))], h) := by
  have := rlast_loop d f ops ho h Q ops.length 0 rounds [] ⟨⟩ (by omega) (rounds_gt' (by omega)) (by simp)
  rw [List.drop_zero, e0, kops_nil] at this
  rw [F41_eq]
  exact this

/-! ### Tables that differ, or not -/
theorem tabH_ext {h0 h : Heap} {i ti : Nat} {t : Nd} (E : h0.ext h) (hi : h0.objs.length ≤ i) (ht : h0.objs.length ≤ ti) : h0.ext (tabH h i ti t) := (E.put ht).put hi
theorem IsTab.far {h : Heap} {i ti j tj : Nat} {t u : Nd} (T : IsTab h i ti t) (h1 : i ≠ j) (h2 : i ≠ tj) (h3 : ti ≠ j) (h4 : ti ≠ tj) : IsTab (tabH h j tj u) i ti t :=
  ⟨by rw [tabH_ne h1 h2]; exact T.tb, by rw [tabH_ne h3 h4]; exact T.tr, T.ne, T.ok, T.kv⟩
theorem len2 (h : Heap) (a b : Weave.Obj) : ((h.push a).push b).objs.length = h.objs.length + 1 + 1 := by rw [Heap.push_len, Heap.push_len]
theorem tabdiff_run (d i ti j tj : Nat) (t u : Nd) (h : Heap) (T : IsTab h i ti t) (U : IsTab h j tj u) :
    ∃ h', h.ext h' ∧ ∀ (Q : Res → Prop) (tg : Hid Q), Run (evFn Cw (d + 8) 44 [.obj i 0, .obj j 0] h) Q tg = Q ([.sl false 4 (kops (diffL t.toL u.toL))], h') := by
  have htl := T.ok.len
  have hul := U.ok.len
  obtain ⟨h1, E1, r1⟩ := tabpairs_run d i ti t h T
  obtain ⟨h2, E2, r2⟩ := tabpairs_run d j tj u h1 (U.ext E1)
  have A0 : Weave.Obj := .cells [HCell.val (.sl true 3 [])]
  have m1 : ((h2.push (.cells [HCell.val (.sl true 3 [])])).push (.cells [HCell.val (.sl true 3 [])])).objs[h2.objs.length]? = some (.cells [HCell.val (.sl true 3 [])]) := (Heap.ext.push (h2.push (.cells [HCell.val (.sl true 3 [])])) _).get (Heap.push_new h2 _)
  have e1 : (h2.push (.cells [HCell.val (.sl true 3 [])])).objs.length = h2.objs.length + 1 := Heap.push_len _ _
  have m2 : ((h2.push (.cells [HCell.val (.sl true 3 [])])).push (.cells [HCell.val (.sl true 3 [])])).objs[h2.objs.length + 1]? = some (.cells [HCell.val (.sl true 3 [])]) := by rw [← e1]; exact Heap.push_new _ _
  generalize hB : (h2.push (.cells [HCell.val (.sl true 3 [])])).push (.cells [HCell.val (.sl true 3 [])]) = hh at m1 m2
  have lB : hh.objs.length = h2.objs.length + 1 + 1 := by rw [← hB]; exact len2 _ _ _
  have EB : h2.ext hh := by rw [← hB]; exact (Heap.ext.push h2 _).trans (Heap.ext.push _ _)
  have c1 : hh.cell? h2.objs.length 0 = some (HCell.val (.sl true 3 [])) := by rw [Heap.cell_at m1]; rfl
  have s1 : hh.setCell h2.objs.length 0 (HCell.own 3 (prs t.toL)) = hh.put h2.objs.length (.cells [HCell.own 3 (prs t.toL)]) := by rw [Heap.set_at m1]; rfl
  have m3 : (hh.put h2.objs.length (.cells [HCell.own 3 (prs t.toL)])).objs[h2.objs.length + 1]? = some (.cells [HCell.val (.sl true 3 [])]) := by rw [Heap.put_ne (by omega)]; exact m2
  have c2 : (hh.put h2.objs.length (.cells [HCell.own 3 (prs t.toL)])).cell? (h2.objs.length + 1) 0 = some (HCell.val (.sl true 3 [])) := by rw [Heap.cell_at m3]; rfl
  have s2 : (hh.put h2.objs.length (.cells [HCell.own 3 (prs t.toL)])).setCell (h2.objs.length + 1) 0 (HCell.own 3 (prs u.toL)) = (hh.put h2.objs.length (.cells [HCell.own 3 (prs t.toL)])).put (h2.objs.length + 1) (.cells [HCell.own 3 (prs u.toL)]) := by rw [Heap.set_at m3]; rfl
  have l3 : ((hh.put h2.objs.length (.cells [HCell.own 3 (prs t.toL)])).put (h2.objs.length + 1) (.cells [HCell.own 3 (prs u.toL)])).objs.length = h2.objs.length + 1 + 1 := by rw [Heap.put_len, Heap.put_len, lB]
  have EC : h2.ext ((hh.put h2.objs.length (.cells [HCell.own 3 (prs t.toL)])).put (h2.objs.length + 1) (.cells [HCell.own 3 (prs u.toL)])) := (EB.put (Nat.le_refl _)).put (by omega)
  have ED := Heap.ext.push ((hh.put h2.objs.length (.cells [HCell.own 3 (prs t.toL)])).put (h2.objs.length + 1) (.cells [HCell.own 3 (prs u.toL)])) (.cells [HCell.val (.sl true 4 [])])
  have mO := Heap.push_new ((hh.put h2.objs.length (.cells [HCell.own 3 (prs t.toL)])).put (h2.objs.length + 1) (.cells [HCell.own 3 (prs u.toL)])) (.cells [HCell.val (.sl true 4 [])])
  rw [l3] at mO
  have mY := ED.get (Heap.put_get (o := .cells [HCell.own 3 (prs u.toL)]) m3)
  have mX := ED.get (i := h2.objs.length) (o := .cells [HCell.own 3 (prs t.toL)]) (by rw [Heap.put_ne (by omega)]; exact Heap.put_get m1)
  obtain ⟨h', E', r⟩ := diff_loop (d + 6) h2.objs.length (h2.objs.length + 1) (h2.objs.length + 1 + 1) (by omega) (by omega) (by omega) h2 (by omega) (by omega) (by omega) (t.toL.length + u.toL.length) rounds t.toL u.toL [] _ _ _ _
    (Nat.le_refl _) (rounds_gt' (by omega)) (by simp; omega) ⟨_, rfl, false, rfl⟩ ⟨_, rfl, false, rfl⟩ (.inl ⟨rfl, rfl⟩) mX mY mO (EC.trans ED)
  refine ⟨h', (E1.trans E2).trans E', fun Q tg => ?_⟩
  rw [List.nil_append] at r
  rw [F44_eq]
  simp (disch := (first | assumption | (simp only [Bool.and_eq_true, Bool.and_eq_false_iff, decide_eq_true_eq, decide_eq_false_iff_not, bne_iff_ne, beq_iff_eq, beq_eq_false_iff_ne, bne_eq_false_iff_eq, Bool.not_eq_true', Bool.not_eq_false', bys_length, List.length_append, List.length_cons, List.length_nil, List.length_map, List.length_drop, List.length_take, Int.natCast_add, wrap_i64_eq, wrap_u64, wrap_u8, ne_eq, not_true_eq_false, not_false_eq_true, Nat.zero_add, Nat.mul_one] <;> omega) | omega | (simp; done) | (simp; omega))) only [↓at_runK, ↓at_bind, ↓contQ_mk, ↓at_ret, ↓at_consK, ↓at_nilK, ↓at_optK, ↓at_intK, ↓at_boolK, ↓at_strK, ↓at_slK, ↓at_slOK, ↓at_slK0, ↓at_slOK0, ↓at_aggK, ↓at_cond_t, ↓at_cond_f, ↓at_sameL, ↓at_any1, ↓at_any, and_self, toBytes_bys, List.nil_append, List.append_nil, ↓at_nodeW, List.drop_zero, List.take_succ_cons, List.take_zero, List.getElem?_cons_succ, List.getElem?_cons_zero, cells_agg, eqCells_cons, eqCells_nil, eq1_int, eq1_bool, eq1_str, ↓at_ptr_whole, ↓at_ptr_cell, ↓at_ptr_obj, ↓at_ptr_objs, shift_obj, shift_elt, toA_val, toA_own, Int.toNat_natCast, List.cons_append, r1, r2, hB, e1, lB, c1, s1, c2, s2, l3, r]
theorem diffL_nil : ∀ (n : Nat) {x y : List KPair}, x.length + y.length ≤ n → diffL x y = [] → x = y
  | _, [], [], _, _ => rfl
  | _, p :: x, [], _, h => by rw [diffL_cn] at h; cases h
  | _, [], q :: y, _, h => by rw [diffL_nc] at h; cases h
  | 0, p :: x, q :: y, hn, _ => by simp at hn
  | n + 1, p :: x, q :: y, hn, h => by
    simp only [List.length_cons] at hn
    rw [diffL_cc] at h
    cases c1 : blt p.key q.key
    · rw [c1, if_neg (by simp)] at h
      cases c2 : blt q.key p.key
      · rw [c2, if_neg (by simp)] at h
        by_cases c3 : p.val = q.val
        · rw [if_pos c3] at h
          have ek := blt_tri c1 c2
          have e : p = q := by cases p; cases q; simp_all
          rw [e, diffL_nil n (by omega) h]
        · rw [if_neg c3] at h; cases h
      · rw [c2, if_pos rfl] at h; cases h
    · rw [c1, if_pos rfl] at h; cases h
def eqLB : List KPair → List KPair → Bool
  | [], [] => true
  | p :: a, q :: b => ((p.key == q.key) && (p.val == q.val)) && eqLB a b
  | _, _ => false
theorem eqLB_iff : ∀ {a b : List KPair}, eqLB a b = true ↔ a = b
  | [], [] => by simp [eqLB]
  | [], q :: b => by simp [eqLB]
  | p :: a, [] => by simp [eqLB]
  | p :: a, q :: b => by
    obtain ⟨pk, pv⟩ := p
    obtain ⟨qk, qv⟩ := q
    unfold eqLB
    simp only [Bool.and_eq_true, beq_iff_eq, eqLB_iff, List.cons.injEq, KPair.mk.injEq]
theorem tabsame_run (d i ti j tj : Nat) (t u : Nd) (h : Heap) (T : IsTab h i ti t) (U : IsTab h j tj u) :
    ∃ h', h.ext h' ∧ ∀ (Q : Res → Prop) (tg : Hid Q), Run (evFn Cw (d + 9) 42 [.obj i 0, .obj j 0] h) Q tg = Q ([.bool (eqLB t.toL u.toL)], h') := by
  have r1 := fun (Q : Res → Prop) (tg : Hid Q) => tablen_run (d := d + 6) (Q := Q) (tg := tg) T
  have r2 := fun (Q : Res → Prop) (tg : Hid Q) => tablen_run (d := d + 6) (Q := Q) (tg := tg) U
  obtain ⟨h', E, r⟩ := tabdiff_run d i ti j tj t u h T U
  by_cases c : t.toL.length = u.toL.length
  · refine ⟨h', E, fun Q tg => ?_⟩
    have c' : ((t.toL.length : Int) == (u.toL.length : Int)) = true := by simp [c]
    have e : eqLB t.toL u.toL = ((((kops (diffL t.toL u.toL)).length : Nat) : Int) == 0) := by
      rw [kops_length]
      cases hd : diffL t.toL u.toL with
      | nil =>
        have := diffL_nil _ (Nat.le_refl _) hd
        rw [eqLB_iff.2 this]; rfl
      | cons o l =>
        have : eqLB t.toL u.toL = false := by
          cases hq : eqLB t.toL u.toL
          · rfl
          · have := eqLB_iff.1 hq
            rw [this, diffL_self] at hd; cases hd
        rw [this]; simp; omega
    rw [F42_eq, e]
    simp (disch := (first | assumption | (simp only [Bool.and_eq_true, Bool.and_eq_false_iff, decide_eq_true_eq, decide_eq_false_iff_not, bne_iff_ne, beq_iff_eq, beq_eq_false_iff_ne, bne_eq_false_iff_eq, Bool.not_eq_true', Bool.not_eq_false', bys_length, List.length_append, List.length_cons, List.length_nil, List.length_map, List.length_drop, List.length_take, Int.natCast_add, wrap_i64_eq, wrap_u64, wrap_u8, ne_eq, not_true_eq_false, not_false_eq_true, Nat.zero_add, Nat.mul_one] <;> omega) | omega | (simp; done) | (simp; omega))) only [↓at_runK, ↓at_bind, ↓contQ_mk, ↓at_ret, ↓at_consK, ↓at_nilK, ↓at_optK, ↓at_intK, ↓at_boolK, ↓at_strK, ↓at_slK, ↓at_slOK, ↓at_slK0, ↓at_slOK0, ↓at_aggK, ↓at_cond_t, ↓at_cond_f, ↓at_sameL, ↓at_any1, ↓at_any, and_self, toBytes_bys, List.nil_append, List.append_nil, ↓at_nodeW, List.drop_zero, List.take_succ_cons, List.take_zero, List.getElem?_cons_succ, List.getElem?_cons_zero, cells_agg, eqCells_cons, eqCells_nil, eq1_int, eq1_bool, eq1_str, ↓at_ptr_whole, ↓at_ptr_cell, ↓at_ptr_obj, ↓at_ptr_objs, shift_obj, shift_elt, toA_val, toA_own, Int.toNat_natCast, List.cons_append, r1, r2, c', r]
  · refine ⟨h, Heap.ext.refl h, fun Q tg => ?_⟩
    have c' : ((t.toL.length : Int) == (u.toL.length : Int)) = false := by simp; omega
    have e : eqLB t.toL u.toL = false := by
      cases hq : eqLB t.toL u.toL
      · rfl
      · exact absurd (by rw [eqLB_iff.1 hq]) c
    rw [F42_eq, e]
    simp (disch := (first | assumption | (simp only [Bool.and_eq_true, Bool.and_eq_false_iff, decide_eq_true_eq, decide_eq_false_iff_not, bne_iff_ne, beq_iff_eq, beq_eq_false_iff_ne, bne_eq_false_iff_eq, Bool.not_eq_true', Bool.not_eq_false', bys_length, List.length_append, List.length_cons, List.length_nil, List.length_map, List.length_drop, List.length_take, Int.natCast_add, wrap_i64_eq, wrap_u64, wrap_u8, ne_eq, not_true_eq_false, not_false_eq_true, Nat.zero_add, Nat.mul_one] <;> omega) | omega | (simp; done) | (simp; omega))) only [↓at_runK, ↓at_bind, ↓contQ_mk, ↓at_ret, ↓at_consK, ↓at_nilK, ↓at_optK, ↓at_intK, ↓at_boolK, ↓at_strK, ↓at_slK, ↓at_slOK, ↓at_slK0, ↓at_slOK0, ↓at_aggK, ↓at_cond_t, ↓at_cond_f, ↓at_sameL, ↓at_any1, ↓at_any, and_self, toBytes_bys, List.nil_append, List.append_nil, ↓at_nodeW, List.drop_zero, List.take_succ_cons, List.take_zero, List.getElem?_cons_succ, List.getElem?_cons_zero, cells_agg, eqCells_cons, eqCells_nil, eq1_int, eq1_bool, eq1_str, ↓at_ptr_whole, ↓at_ptr_cell, ↓at_ptr_obj, ↓at_ptr_objs, shift_obj, shift_elt, toA_val, toA_own, Int.toNat_natCast, List.cons_append, r1, r2, c']
def ops33 : List KOp := [⟨1, [97], [120, 121]⟩, ⟨1, [98], []⟩, ⟨2, [98], []⟩, ⟨0, [], []⟩]
theorem ops33_aps : aps [] ops33 = [⟨[97], [120, 121]⟩] := by kernel_rfl
theorem ops33_cnt : cntO ops33 = 3 := by kernel_rfl
theorem ops33_A : [AVal.agg [.int .i64 1, .str [97], .str [120, 121]], .agg [.int .i64 1, .str [98], .str []], .agg [.int .i64 2, .str [98], .str []], .agg [.int .i64 0, .str [], .str []]] = kops ops33 := rfl
theorem awake33_run (d : Nat) (h : Heap) : ∃ h', h.ext h' ∧ ∀ (Q : Res → Prop) (tg : Hid Q), Run (evFn Cw (d + 1022) 28 [] h) Q tg = Q ([.bool true], h') := by
  obtain ⟨E0, T0⟩ := tabnew_is h
  obtain ⟨t', T', hL, r⟩ := tabapply_run d (h.objs.length + 1) h.objs.length true ops33 .nil _ T0 (by simp [Nd.toL, ops33])
  have hL' : t'.toL = [⟨[97], [120, 121]⟩] := by rw [hL]; exact ops33_aps
  have rl := fun (Q : Res → Prop) (tg : Hid Q) => tablen_run (d := d + 1019) (Q := Q) (tg := tg) T'
  have rb := fun (Q : Res → Prop) (tg : Hid Q) => tabbytes_run (d := d + 1020) (Q := Q) (tg := tg) T'
  have n1 : t'.toL.length = 1 := by rw [hL']; rfl
  have n2 : btot t'.toL = 3 := by rw [hL']; rfl
  rw [ops33_cnt] at r
  rw [n1] at rl
  rw [n2] at rb
  refine ⟨_, tabH_ext (i := h.objs.length + 1) (ti := h.objs.length) (t := t') E0 (by omega) (Nat.le_refl _), fun Q tg => ?_⟩
  have q3 : (((3 : Nat) : Int) == 3) = true := rfl
  have q1 : (((1 : Nat) : Int) == 1) = true := rfl
  rw [F28_eq]
  simp (disch := (first | assumption | (simp only [Bool.and_eq_true, Bool.and_eq_false_iff, decide_eq_true_eq, decide_eq_false_iff_not, bne_iff_ne, beq_iff_eq, beq_eq_false_iff_ne, bne_eq_false_iff_eq, Bool.not_eq_true', Bool.not_eq_false', bys_length, List.length_append, List.length_cons, List.length_nil, List.length_map, List.length_drop, List.length_take, Int.natCast_add, wrap_i64_eq, wrap_u64, wrap_u8, ne_eq, not_true_eq_false, not_false_eq_true, Nat.zero_add, Nat.mul_one] <;> omega) | omega | (simp; done) | (simp; omega))) only [↓at_runK, ↓at_bind, ↓contQ_mk, ↓at_ret, ↓at_consK, ↓at_nilK, ↓at_optK, ↓at_intK, ↓at_boolK, ↓at_strK, ↓at_slK, ↓at_slOK, ↓at_slK0, ↓at_slOK0, ↓at_aggK, ↓at_cond_t, ↓at_cond_f, ↓at_sameL, ↓at_any1, ↓at_any, and_self, toBytes_bys, List.nil_append, List.append_nil, ↓at_nodeW, List.drop_zero, List.take_succ_cons, List.take_zero, List.getElem?_cons_succ, List.getElem?_cons_zero, cells_agg, eqCells_cons, eqCells_nil, eq1_int, eq1_bool, eq1_str, ↓at_ptr_whole, ↓at_ptr_cell, ↓at_ptr_obj, ↓at_ptr_objs, shift_obj, shift_elt, toA_val, toA_own, Int.toNat_natCast, List.cons_append, tabnew_run, ops33_A, r, rl, rb, q3, q1]
theorem ntree_run {d : Nat} {h : Heap} {Q : Res → Prop} {tg : Hid Q} : Run (evFn Cw (d + 1) 86 [.nilp] h) Q tg = Q ([.nilp], h) := (at_eq (F86nil_eq _ _)).trans at_ret
theorem ntlen_run {d : Nat} {h : Heap} {Q : Res → Prop} {tg : Hid Q} : Run (evFn Cw (d + 2) 33 [.nilp] h) Q tg = Q ([.int .i64 0], h) := by
  rw [F33nil_eq]
  simp (disch := (first | assumption | (simp only [Bool.and_eq_true, Bool.and_eq_false_iff, decide_eq_true_eq, decide_eq_false_iff_not, bne_iff_ne, beq_iff_eq, beq_eq_false_iff_ne, bne_eq_false_iff_eq, Bool.not_eq_true', Bool.not_eq_false', bys_length, List.length_append, List.length_cons, List.length_nil, List.length_map, List.length_drop, List.length_take, Int.natCast_add, wrap_i64_eq, wrap_u64, wrap_u8, ne_eq, not_true_eq_false, not_false_eq_true, Nat.zero_add, Nat.mul_one] <;> omega) | omega | (simp; done) | (simp; omega))) only [↓at_runK, ↓at_bind, ↓contQ_mk, ↓at_ret, ↓at_consK, ↓at_nilK, ↓at_optK, ↓at_intK, ↓at_boolK, ↓at_strK, ↓at_slK, ↓at_slOK, ↓at_slK0, ↓at_slOK0, ↓at_aggK, ↓at_cond_t, ↓at_cond_f, ↓at_sameL, ↓at_any1, ↓at_any, and_self, toBytes_bys, List.nil_append, List.append_nil, ↓at_nodeW, List.drop_zero, List.take_succ_cons, List.take_zero, List.getElem?_cons_succ, List.getElem?_cons_zero, cells_agg, eqCells_cons, eqCells_nil, eq1_int, eq1_bool, eq1_str, ↓at_ptr_whole, ↓at_ptr_cell, ↓at_ptr_obj, ↓at_ptr_objs, shift_obj, shift_elt, toA_val, toA_own, Int.toNat_natCast, List.cons_append, ntree_run, nlen_run]
theorem ntget_run {d : Nat} {s : List UInt8} {h : Heap} {Q : Res → Prop} {tg : Hid Q} : Run (evFn Cw (d + 4) 32 [.nilp, .str s] h) Q tg = Q ([.str [], .bool false], h) := by
  rw [F32nil_eq]
  simp (disch := (first | assumption | (simp only [Bool.and_eq_true, Bool.and_eq_false_iff, decide_eq_true_eq, decide_eq_false_iff_not, bne_iff_ne, beq_iff_eq, beq_eq_false_iff_ne, bne_eq_false_iff_eq, Bool.not_eq_true', Bool.not_eq_false', bys_length, List.length_append, List.length_cons, List.length_nil, List.length_map, List.length_drop, List.length_take, Int.natCast_add, wrap_i64_eq, wrap_u64, wrap_u8, ne_eq, not_true_eq_false, not_false_eq_true, Nat.zero_add, Nat.mul_one] <;> omega) | omega | (simp; done) | (simp; omega))) only [↓at_runK, ↓at_bind, ↓contQ_mk, ↓at_ret, ↓at_consK, ↓at_nilK, ↓at_optK, ↓at_intK, ↓at_boolK, ↓at_strK, ↓at_slK, ↓at_slOK, ↓at_slK0, ↓at_slOK0, ↓at_aggK, ↓at_cond_t, ↓at_cond_f, ↓at_sameL, ↓at_any1, ↓at_any, and_self, toBytes_bys, List.nil_append, List.append_nil, ↓at_nodeW, List.drop_zero, List.take_succ_cons, List.take_zero, List.getElem?_cons_succ, List.getElem?_cons_zero, cells_agg, eqCells_cons, eqCells_nil, eq1_int, eq1_bool, eq1_str, ↓at_ptr_whole, ↓at_ptr_cell, ↓at_ptr_obj, ↓at_ptr_objs, shift_obj, shift_elt, toA_val, toA_own, Int.toNat_natCast, List.cons_append, ntree_run, nget_run]
theorem ntpairs_run (d : Nat) (h : Heap) : ∃ h', h.ext h' ∧ ∀ (Q : Res → Prop) (tg : Hid Q), Run (evFn Cw (d + 7) 37 [.nilp] h) Q tg = Q ([.sl false 3 []], h') := by
  refine ⟨_, (Heap.ext.push h (curO .nilp 0 [])).put (id := h.objs.length) (o := curO .nilp 2 []) (Nat.le_refl _), fun Q tg => ?_⟩
  have r : ∀ (Q : Res → Prop) (tg : Hid Q), Run (evFn Cw (d + 6) 38 [.nilp, .str [], .str [], .int .i64 0] h) Q tg = Q ([.sl false 3 []], (h.push (curO .nilp 0 [])).put h.objs.length (curO .nilp 2 [])) := fun Q tg => by
    rw [F38nil_eq]
    simp (disch := (first | assumption | (simp only [Bool.and_eq_true, Bool.and_eq_false_iff, decide_eq_true_eq, decide_eq_false_iff_not, bne_iff_ne, beq_iff_eq, beq_eq_false_iff_ne, bne_eq_false_iff_eq, Bool.not_eq_true', Bool.not_eq_false', bys_length, List.length_append, List.length_cons, List.length_nil, List.length_map, List.length_drop, List.length_take, Int.natCast_add, wrap_i64_eq, wrap_u64, wrap_u8, ne_eq, not_true_eq_false, not_false_eq_true, Nat.zero_add, Nat.mul_one] <;> omega) | omega | (simp; done) | (simp; omega))) only [↓at_runK, ↓at_bind, ↓contQ_mk, ↓at_ret, ↓at_consK, ↓at_nilK, ↓at_optK, ↓at_intK, ↓at_boolK, ↓at_strK, ↓at_slK, ↓at_slOK, ↓at_slK0, ↓at_slOK0, ↓at_aggK, ↓at_cond_t, ↓at_cond_f, ↓at_sameL, ↓at_any1, ↓at_any, and_self, toBytes_bys, List.nil_append, List.append_nil, ↓at_nodeW, List.drop_zero, List.take_succ_cons, List.take_zero, List.getElem?_cons_succ, List.getElem?_cons_zero, cells_agg, eqCells_cons, eqCells_nil, eq1_int, eq1_bool, eq1_str, ↓at_ptr_whole, ↓at_ptr_cell, ↓at_ptr_obj, ↓at_ptr_objs, shift_obj, shift_elt, toA_val, toA_own, Int.toNat_natCast, List.cons_append, ntree_run, crangen_run]
  rw [F37nil_eq]
  simp (disch := (first | assumption | (simp only [Bool.and_eq_true, Bool.and_eq_false_iff, decide_eq_true_eq, decide_eq_false_iff_not, bne_iff_ne, beq_iff_eq, beq_eq_false_iff_ne, bne_eq_false_iff_eq, Bool.not_eq_true', Bool.not_eq_false', bys_length, List.length_append, List.length_cons, List.length_nil, List.length_map, List.length_drop, List.length_take, Int.natCast_add, wrap_i64_eq, wrap_u64, wrap_u8, ne_eq, not_true_eq_false, not_false_eq_true, Nat.zero_add, Nat.mul_one] <;> omega) | omega | (simp; done) | (simp; omega))) only [↓at_runK, ↓at_bind, ↓contQ_mk, ↓at_ret, ↓at_consK, ↓at_nilK, ↓at_optK, ↓at_intK, ↓at_boolK, ↓at_strK, ↓at_slK, ↓at_slOK, ↓at_slK0, ↓at_slOK0, ↓at_aggK, ↓at_cond_t, ↓at_cond_f, ↓at_sameL, ↓at_any1, ↓at_any, and_self, toBytes_bys, List.nil_append, List.append_nil, ↓at_nodeW, List.drop_zero, List.take_succ_cons, List.take_zero, List.getElem?_cons_succ, List.getElem?_cons_zero, cells_agg, eqCells_cons, eqCells_nil, eq1_int, eq1_bool, eq1_str, ↓at_ptr_whole, ↓at_ptr_cell, ↓at_ptr_obj, ↓at_ptr_objs, shift_obj, shift_elt, toA_val, toA_own, Int.toNat_natCast, List.cons_append, ntlen_run, r]
theorem ntapply_loop (d : Nat) (f : Bool) (ops : List KOp) (ho : ops.length ≤ 140737488351232) (h : Heap) (Q : Res → Prop) : ∀ (n j k : Nat) (tg : Hid Q), ops.length = j + n → n < k →
    Run (P30nil_0 d k 0 f (kops ops) (ops.length : Int) j h) Q tg = Q ([.int .i64 0], h) := by
  intro n
  induction n with
  | zero =>
    intro j k tg hj hk
    obtain ⟨k, rfl⟩ : ∃ m, k = m + 1 := ⟨k - 1, by omega⟩
    rw [P30nil_0_eq]
    simp (disch := (first | assumption | (simp only [Bool.and_eq_true, Bool.and_eq_false_iff, decide_eq_true_eq, decide_eq_false_iff_not, bne_iff_ne, beq_iff_eq, beq_eq_false_iff_ne, bne_eq_false_iff_eq, Bool.not_eq_true', Bool.not_eq_false', bys_length, List.length_append, List.length_cons, List.length_nil, List.length_map, List.length_drop, List.length_take, Int.natCast_add, wrap_i64_eq, wrap_u64, wrap_u8, ne_eq, not_true_eq_false, not_false_eq_true, Nat.zero_add, Nat.mul_one] <;> omega) | omega | (simp; done) | (simp; omega))) only [↓at_runK, ↓at_bind, ↓contQ_mk, ↓at_ret, ↓at_consK, ↓at_nilK, ↓at_optK, ↓at_intK, ↓at_boolK, ↓at_strK, ↓at_slK, ↓at_slOK, ↓at_slK0, ↓at_slOK0, ↓at_aggK, ↓at_cond_t, ↓at_cond_f, ↓at_sameL, ↓at_any1, ↓at_any, and_self, toBytes_bys, List.nil_append, List.append_nil, ↓at_nodeW, List.drop_zero, List.take_succ_cons, List.take_zero, List.getElem?_cons_succ, List.getElem?_cons_zero, cells_agg, eqCells_cons, eqCells_nil, eq1_int, eq1_bool, eq1_str, ↓at_ptr_whole, ↓at_ptr_cell, ↓at_ptr_obj, ↓at_ptr_objs, shift_obj, shift_elt, toA_val, toA_own, Int.toNat_natCast, List.cons_append]
  | succ n ih =>
    intro j k tg hj hk
    obtain ⟨k, rfl⟩ : ∃ m, k = m + 1 := ⟨k - 1, by omega⟩
    have h1 : j < ops.length := by omega
    have e1 := succ_wrap (i := j) (by omega)
    have ih' := fun tg => ih (j + 1) k tg (by omega) (by omega)
    rw [P30nil_0_eq]
    simp (disch := (first | assumption | (simp only [Bool.and_eq_true, Bool.and_eq_false_iff, decide_eq_true_eq, decide_eq_false_iff_not, bne_iff_ne, beq_iff_eq, beq_eq_false_iff_ne, bne_eq_false_iff_eq, Bool.not_eq_true', Bool.not_eq_false', bys_length, List.length_append, List.length_cons, List.length_nil, List.length_map, List.length_drop, List.length_take, Int.natCast_add, wrap_i64_eq, wrap_u64, wrap_u8, ne_eq, not_true_eq_false, not_false_eq_true, Nat.zero_add, Nat.mul_one] <;> omega) | omega | (simp; done) | (simp; omega))) only [↓at_runK, ↓at_bind, ↓contQ_mk, ↓at_ret, ↓at_consK, ↓at_nilK, ↓at_optK, ↓at_intK, ↓at_boolK, ↓at_strK, ↓at_slK, ↓at_slOK, ↓at_slK0, ↓at_slOK0, ↓at_aggK, ↓at_cond_t, ↓at_cond_f, ↓at_sameL, ↓at_any1, ↓at_any, and_self, toBytes_bys, List.nil_append, List.append_nil, ↓at_nodeW, List.drop_zero, List.take_succ_cons, List.take_zero, List.getElem?_cons_succ, List.getElem?_cons_zero, cells_agg, eqCells_cons, eqCells_nil, eq1_int, eq1_bool, eq1_str, ↓at_ptr_whole, ↓at_ptr_cell, ↓at_ptr_obj, ↓at_ptr_objs, shift_obj, shift_elt, toA_val, toA_own, Int.toNat_natCast, List.cons_append, kops_length, kops_getD h1, e1, ih']
theorem ntapply_run {d : Nat} {f : Bool} {ops : List KOp} {h : Heap} {Q : Res → Prop} {tg : Hid Q} (ho : ops.length ≤ 140737488351232) : Run (evFn Cw (d + 1) 30 [.nilp, .sl f 4 (kops ops)] h) Q tg = Q ([.int .i64 0], h) := by
  have := ntapply_loop d f ops ho h Q ops.length 0 rounds ⟨⟩ (by omega) (rounds_gt' (by omega))
  rw [e0] at this
  rw [F30nil_eq]
  simp (disch := (first | assumption | (simp only [Bool.and_eq_true, Bool.and_eq_false_iff, decide_eq_true_eq, decide_eq_false_iff_not, bne_iff_ne, beq_iff_eq, beq_eq_false_iff_ne, bne_eq_false_iff_eq, Bool.not_eq_true', Bool.not_eq_false', bys_length, List.length_append, List.length_cons, List.length_nil, List.length_map, List.length_drop, List.length_take, Int.natCast_add, wrap_i64_eq, wrap_u64, wrap_u8, ne_eq, not_true_eq_false, not_false_eq_true, Nat.zero_add, Nat.mul_one] <;> omega) | omega | (simp; done) | (simp; omega))) only [↓at_runK, ↓at_bind, ↓contQ_mk, ↓at_ret, ↓at_consK, ↓at_nilK, ↓at_optK, ↓at_intK, ↓at_boolK, ↓at_strK, ↓at_slK, ↓at_slOK, ↓at_slK0, ↓at_slOK0, ↓at_aggK, ↓at_cond_t, ↓at_cond_f, ↓at_sameL, ↓at_any1, ↓at_any, and_self, toBytes_bys, List.nil_append, List.append_nil, ↓at_nodeW, List.drop_zero, List.take_succ_cons, List.take_zero, List.getElem?_cons_succ, List.getElem?_cons_zero, cells_agg, eqCells_cons, eqCells_nil, eq1_int, eq1_bool, eq1_str, ↓at_ptr_whole, ↓at_ptr_cell, ↓at_ptr_obj, ↓at_ptr_objs, shift_obj, shift_elt, toA_val, toA_own, Int.toNat_natCast, List.cons_append, kops_length, this]
/-- Of no table, and an empty one. -/
theorem dpush (h2 : Heap) : ∃ h', h2.ext h' ∧ (((h2.push (.cells [HCell.val (.sl true 3 [])])).push (.cells [HCell.val (.sl true 3 [])])).cell? h2.objs.length 0 = some (HCell.val (.sl true 3 []))) ∧
    (((h2.push (.cells [HCell.val (.sl true 3 [])])).push (.cells [HCell.val (.sl true 3 [])])).setCell h2.objs.length 0 (HCell.own 3 [])).cell? (h2.objs.length + 1) 0 = some (HCell.val (.sl true 3 [])) ∧
    ((((h2.push (.cells [HCell.val (.sl true 3 [])])).push (.cells [HCell.val (.sl true 3 [])])).setCell h2.objs.length 0 (HCell.own 3 [])).setCell (h2.objs.length + 1) 0 (HCell.own 3 [])).objs.length = h2.objs.length + 1 + 1 ∧
    ((((h2.push (.cells [HCell.val (.sl true 3 [])])).push (.cells [HCell.val (.sl true 3 [])])).setCell h2.objs.length 0 (HCell.own 3 [])).setCell (h2.objs.length + 1) 0 (HCell.own 3 [])).push (.cells [HCell.val (.sl true 4 [])]) = h' ∧
    h'.cell? h2.objs.length 0 = some (HCell.own 3 []) ∧ h'.cell? (h2.objs.length + 1) 0 = some (HCell.own 3 []) ∧ h'.cell? (h2.objs.length + 1 + 1) 0 = some (HCell.val (.sl true 4 [])) := by
  have m1 : ((h2.push (.cells [HCell.val (.sl true 3 [])])).push (.cells [HCell.val (.sl true 3 [])])).objs[h2.objs.length]? = some (.cells [HCell.val (.sl true 3 [])]) := (Heap.ext.push (h2.push (.cells [HCell.val (.sl true 3 [])])) _).get (Heap.push_new h2 _)
  have e1 : (h2.push (.cells [HCell.val (.sl true 3 [])])).objs.length = h2.objs.length + 1 := Heap.push_len _ _
  have m2 : ((h2.push (.cells [HCell.val (.sl true 3 [])])).push (.cells [HCell.val (.sl true 3 [])])).objs[h2.objs.length + 1]? = some (.cells [HCell.val (.sl true 3 [])]) := by rw [← e1]; exact Heap.push_new _ _
  generalize hB : (h2.push (.cells [HCell.val (.sl true 3 [])])).push (.cells [HCell.val (.sl true 3 [])]) = hh at m1 m2
  have lB : hh.objs.length = h2.objs.length + 1 + 1 := by rw [← hB]; exact len2 _ _ _
  have EB : h2.ext hh := by rw [← hB]; exact (Heap.ext.push h2 _).trans (Heap.ext.push _ _)
  have c1 : hh.cell? h2.objs.length 0 = some (HCell.val (.sl true 3 [])) := by rw [Heap.cell_at m1]; rfl
  have s1 : hh.setCell h2.objs.length 0 (HCell.own 3 []) = hh.put h2.objs.length (.cells [HCell.own 3 []]) := by rw [Heap.set_at m1]; rfl
  have m3 : (hh.put h2.objs.length (.cells [HCell.own 3 []])).objs[h2.objs.length + 1]? = some (.cells [HCell.val (.sl true 3 [])]) := by rw [Heap.put_ne (by omega)]; exact m2
  have c2 : (hh.put h2.objs.length (.cells [HCell.own 3 []])).cell? (h2.objs.length + 1) 0 = some (HCell.val (.sl true 3 [])) := by rw [Heap.cell_at m3]; rfl
  have s2 : (hh.put h2.objs.length (.cells [HCell.own 3 []])).setCell (h2.objs.length + 1) 0 (HCell.own 3 []) = (hh.put h2.objs.length (.cells [HCell.own 3 []])).put (h2.objs.length + 1) (.cells [HCell.own 3 []]) := by rw [Heap.set_at m3]; rfl
  have l3 : ((hh.put h2.objs.length (.cells [HCell.own 3 []])).put (h2.objs.length + 1) (.cells [HCell.own 3 []])).objs.length = h2.objs.length + 1 + 1 := by rw [Heap.put_len, Heap.put_len, lB]
  have EC : h2.ext ((hh.put h2.objs.length (.cells [HCell.own 3 []])).put (h2.objs.length + 1) (.cells [HCell.own 3 []])) := (EB.put (Nat.le_refl _)).put (by omega)
  have ED := Heap.ext.push ((hh.put h2.objs.length (.cells [HCell.own 3 []])).put (h2.objs.length + 1) (.cells [HCell.own 3 []])) (.cells [HCell.val (.sl true 4 [])])
  have mO := Heap.push_new ((hh.put h2.objs.length (.cells [HCell.own 3 []])).put (h2.objs.length + 1) (.cells [HCell.own 3 []])) (.cells [HCell.val (.sl true 4 [])])
  rw [l3] at mO
  have mY := ED.get (Heap.put_get (o := .cells [HCell.own 3 []]) m3)
  have mX := ED.get (i := h2.objs.length) (o := .cells [HCell.own 3 []]) (by rw [Heap.put_ne (by omega)]; exact Heap.put_get m1)
  refine ⟨_, EC.trans ED, c1, ?_, ?_, ?_, ?_, ?_, ?_⟩
  · rw [s1, c2]
  · rw [s1, s2, l3]
  · rw [s1, s2]
  · rw [Heap.cell_at mX]; rfl
  · rw [Heap.cell_at mY]; rfl
  · rw [Heap.cell_at mO]; rfl
theorem ndiff_run (d : Nat) (h : Heap) : ∃ h', h.ext h' ∧ ∀ (Q : Res → Prop) (tg : Hid Q), Run (evFn Cw (d + 8) 44 [.nilp, .nilp] h) Q tg = Q ([.sl false 4 []], h') := by
  obtain ⟨h1, E1, r1⟩ := ntpairs_run d h
  obtain ⟨h2, E2, r2⟩ := ntpairs_run d h1
  obtain ⟨h', E, c1, c2, l3, e5, cx, cy, cO⟩ := dpush h2
  obtain ⟨k, hk⟩ : ∃ m, rounds = m + 1 := ⟨rounds - 1, by have := rounds_ge; omega⟩
  refine ⟨h', (E1.trans E2).trans E, fun Q tg => ?_⟩
  have e1 : (h2.push (.cells [HCell.val (.sl true 3 [])])).objs.length = h2.objs.length + 1 := Heap.push_len _ _
  have r3 : ∀ (Q : Res → Prop) (tg : Hid Q), Run (P44nn_0 (d + 7) rounds h2.objs.length (h2.objs.length + 1) (h2.objs.length + 1 + 1) (h2.objs.length + 1 + 1) h2.objs.length (h2.objs.length + 1 + 1) (h2.objs.length + 1) h') Q tg = Q ([.sl false 4 []], h') := fun Q tg => by
    rw [hk, P44nn_0_eq]
    simp (disch := (first | assumption | (simp only [Bool.and_eq_true, Bool.and_eq_false_iff, decide_eq_true_eq, decide_eq_false_iff_not, bne_iff_ne, beq_iff_eq, beq_eq_false_iff_ne, bne_eq_false_iff_eq, Bool.not_eq_true', Bool.not_eq_false', bys_length, List.length_append, List.length_cons, List.length_nil, List.length_map, List.length_drop, List.length_take, Int.natCast_add, wrap_i64_eq, wrap_u64, wrap_u8, ne_eq, not_true_eq_false, not_false_eq_true, Nat.zero_add, Nat.mul_one] <;> omega) | omega | (simp; done) | (simp; omega))) only [↓at_runK, ↓at_bind, ↓contQ_mk, ↓at_ret, ↓at_consK, ↓at_nilK, ↓at_optK, ↓at_intK, ↓at_boolK, ↓at_strK, ↓at_slK, ↓at_slOK, ↓at_slK0, ↓at_slOK0, ↓at_aggK, ↓at_cond_t, ↓at_cond_f, ↓at_sameL, ↓at_any1, ↓at_any, and_self, toBytes_bys, List.nil_append, List.append_nil, ↓at_nodeW, List.drop_zero, List.take_succ_cons, List.take_zero, List.getElem?_cons_succ, List.getElem?_cons_zero, cells_agg, eqCells_cons, eqCells_nil, eq1_int, eq1_bool, eq1_str, ↓at_ptr_whole, ↓at_ptr_cell, ↓at_ptr_obj, ↓at_ptr_objs, shift_obj, shift_elt, toA_val, toA_own, Int.toNat_natCast, List.cons_append, cx, cy, cO, List.length_nil]
  rw [F44nn_eq]
  simp (disch := (first | assumption | (simp only [Bool.and_eq_true, Bool.and_eq_false_iff, decide_eq_true_eq, decide_eq_false_iff_not, bne_iff_ne, beq_iff_eq, beq_eq_false_iff_ne, bne_eq_false_iff_eq, Bool.not_eq_true', Bool.not_eq_false', bys_length, List.length_append, List.length_cons, List.length_nil, List.length_map, List.length_drop, List.length_take, Int.natCast_add, wrap_i64_eq, wrap_u64, wrap_u8, ne_eq, not_true_eq_false, not_false_eq_true, Nat.zero_add, Nat.mul_one] <;> omega) | omega | (simp; done) | (simp; omega))) only [↓at_runK, ↓at_bind, ↓contQ_mk, ↓at_ret, ↓at_consK, ↓at_nilK, ↓at_optK, ↓at_intK, ↓at_boolK, ↓at_strK, ↓at_slK, ↓at_slOK, ↓at_slK0, ↓at_slOK0, ↓at_aggK, ↓at_cond_t, ↓at_cond_f, ↓at_sameL, ↓at_any1, ↓at_any, and_self, toBytes_bys, List.nil_append, List.append_nil, ↓at_nodeW, List.drop_zero, List.take_succ_cons, List.take_zero, List.getElem?_cons_succ, List.getElem?_cons_zero, cells_agg, eqCells_cons, eqCells_nil, eq1_int, eq1_bool, eq1_str, ↓at_ptr_whole, ↓at_ptr_cell, ↓at_ptr_obj, ↓at_ptr_objs, shift_obj, shift_elt, toA_val, toA_own, Int.toNat_natCast, List.cons_append, r1, r2, e1, c1, c2, l3, e5, r3]
theorem ndiff2_run (d i ti : Nat) (t : Nd) (h : Heap) (T : IsTab h i ti t) (ht : t.toL = []) : ∃ h', h.ext h' ∧ ∀ (Q : Res → Prop) (tg : Hid Q), Run (evFn Cw (d + 8) 44 [.nilp, .obj i 0] h) Q tg = Q ([.sl false 4 []], h') := by
  obtain ⟨h1, E1, r1⟩ := ntpairs_run d h
  obtain ⟨h2, E2, r2⟩ := tabpairs_run d i ti t h1 (T.ext E1)
  rw [ht, prs_nil] at r2
  obtain ⟨h', E, c1, c2, l3, e5, cx, cy, cO⟩ := dpush h2
  obtain ⟨k, hk⟩ : ∃ m, rounds = m + 1 := ⟨rounds - 1, by have := rounds_ge; omega⟩
  refine ⟨h', (E1.trans E2).trans E, fun Q tg => ?_⟩
  have e1 : (h2.push (.cells [HCell.val (.sl true 3 [])])).objs.length = h2.objs.length + 1 := Heap.push_len _ _
  have r3 : ∀ (Q : Res → Prop) (tg : Hid Q), Run (P44no_0 (d + 7) rounds h2.objs.length (h2.objs.length + 1) (h2.objs.length + 1 + 1) (h2.objs.length + 1 + 1) h2.objs.length (h2.objs.length + 1 + 1) (h2.objs.length + 1) h') Q tg = Q ([.sl false 4 []], h') := fun Q tg => by
    rw [hk, P44no_0_eq]
    simp (disch := (first | assumption | (simp only [Bool.and_eq_true, Bool.and_eq_false_iff, decide_eq_true_eq, decide_eq_false_iff_not, bne_iff_ne, beq_iff_eq, beq_eq_false_iff_ne, bne_eq_false_iff_eq, Bool.not_eq_true', Bool.not_eq_false', bys_length, List.length_append, List.length_cons, List.length_nil, List.length_map, List.length_drop, List.length_take, Int.natCast_add, wrap_i64_eq, wrap_u64, wrap_u8, ne_eq, not_true_eq_false, not_false_eq_true, Nat.zero_add, Nat.mul_one] <;> omega) | omega | (simp; done) | (simp; omega))) only [↓at_runK, ↓at_bind, ↓contQ_mk, ↓at_ret, ↓at_consK, ↓at_nilK, ↓at_optK, ↓at_intK, ↓at_boolK, ↓at_strK, ↓at_slK, ↓at_slOK, ↓at_slK0, ↓at_slOK0, ↓at_aggK, ↓at_cond_t, ↓at_cond_f, ↓at_sameL, ↓at_any1, ↓at_any, and_self, toBytes_bys, List.nil_append, List.append_nil, ↓at_nodeW, List.drop_zero, List.take_succ_cons, List.take_zero, List.getElem?_cons_succ, List.getElem?_cons_zero, cells_agg, eqCells_cons, eqCells_nil, eq1_int, eq1_bool, eq1_str, ↓at_ptr_whole, ↓at_ptr_cell, ↓at_ptr_obj, ↓at_ptr_objs, shift_obj, shift_elt, toA_val, toA_own, Int.toNat_natCast, List.cons_append, cx, cy, cO, List.length_nil]
  rw [F44no_eq]
  simp (disch := (first | assumption | (simp only [Bool.and_eq_true, Bool.and_eq_false_iff, decide_eq_true_eq, decide_eq_false_iff_not, bne_iff_ne, beq_iff_eq, beq_eq_false_iff_ne, bne_eq_false_iff_eq, Bool.not_eq_true', Bool.not_eq_false', bys_length, List.length_append, List.length_cons, List.length_nil, List.length_map, List.length_drop, List.length_take, Int.natCast_add, wrap_i64_eq, wrap_u64, wrap_u8, ne_eq, not_true_eq_false, not_false_eq_true, Nat.zero_add, Nat.mul_one] <;> omega) | omega | (simp; done) | (simp; omega))) only [↓at_runK, ↓at_bind, ↓contQ_mk, ↓at_ret, ↓at_consK, ↓at_nilK, ↓at_optK, ↓at_intK, ↓at_boolK, ↓at_strK, ↓at_slK, ↓at_slOK, ↓at_slK0, ↓at_slOK0, ↓at_aggK, ↓at_cond_t, ↓at_cond_f, ↓at_sameL, ↓at_any1, ↓at_any, and_self, toBytes_bys, List.nil_append, List.append_nil, ↓at_nodeW, List.drop_zero, List.take_succ_cons, List.take_zero, List.getElem?_cons_succ, List.getElem?_cons_zero, cells_agg, eqCells_cons, eqCells_nil, eq1_int, eq1_bool, eq1_str, ↓at_ptr_whole, ↓at_ptr_cell, ↓at_ptr_obj, ↓at_ptr_objs, shift_obj, shift_elt, toA_val, toA_own, Int.toNat_natCast, List.cons_append, r1, r2, e1, c1, c2, l3, e5, r3]
/-- TableNobody. -/
theorem tnobody_true (l : List KOp) (s : List UInt8) (h : Heap) (hl : l.length ≤ 140737488351232) : ∃ d h', Ans (evFn Cw d 5 [.sl false 4 (kops l), .str s] h) ([.bool true], h') := by
  obtain ⟨h1, E1, r1⟩ := ntpairs_run 1020 h
  obtain ⟨E2, T⟩ := tabnew_is h1
  obtain ⟨h3, E3, r3⟩ := ndiff2_run 1018 (h1.objs.length + 1) h1.objs.length .nil _ T rfl
  obtain ⟨h4, E4, r4⟩ := ndiff_run 1019 h3
  obtain ⟨h5, E5, r5⟩ := awake33_run 5 h4
  have rl := fun (Q : Res → Prop) (tg : Hid Q) => tablen_run (d := 1024) (Q := Q) (tg := tg) T
  have el : ((Nd.nil.toL.length : Nat) : Int) = 0 := rfl
  rw [el] at rl
  have rs : ∀ (Q : Res → Prop) (tg : Hid Q), Run (evFn Cw 1027 42 [.nilp, .obj (h1.objs.length + 1) 0] ((h1.push (trT .nil)).push (tabO h1.objs.length 0))) Q tg = Q ([.bool true], h3) := fun Q tg => by
    rw [F42no_eq]
    simp (disch := (first | assumption | (simp only [Bool.and_eq_true, Bool.and_eq_false_iff, decide_eq_true_eq, decide_eq_false_iff_not, bne_iff_ne, beq_iff_eq, beq_eq_false_iff_ne, bne_eq_false_iff_eq, Bool.not_eq_true', Bool.not_eq_false', bys_length, List.length_append, List.length_cons, List.length_nil, List.length_map, List.length_drop, List.length_take, Int.natCast_add, wrap_i64_eq, wrap_u64, wrap_u8, ne_eq, not_true_eq_false, not_false_eq_true, Nat.zero_add, Nat.mul_one] <;> omega) | omega | (simp; done) | (simp; omega))) only [↓at_runK, ↓at_bind, ↓contQ_mk, ↓at_ret, ↓at_consK, ↓at_nilK, ↓at_optK, ↓at_intK, ↓at_boolK, ↓at_strK, ↓at_slK, ↓at_slOK, ↓at_slK0, ↓at_slOK0, ↓at_aggK, ↓at_cond_t, ↓at_cond_f, ↓at_sameL, ↓at_any1, ↓at_any, and_self, toBytes_bys, List.nil_append, List.append_nil, ↓at_nodeW, List.drop_zero, List.take_succ_cons, List.take_zero, List.getElem?_cons_succ, List.getElem?_cons_zero, cells_agg, eqCells_cons, eqCells_nil, eq1_int, eq1_bool, eq1_str, ↓at_ptr_whole, ↓at_ptr_cell, ↓at_ptr_obj, ↓at_ptr_objs, shift_obj, shift_elt, toA_val, toA_own, Int.toNat_natCast, List.cons_append, ntlen_run, rl, r3, List.length_nil]
    rfl
  have rb : ∀ (h : Heap) (Q : Res → Prop) (tg : Hid Q), Run (evFn Cw 1027 34 [.nilp] h) Q tg = Q ([.int .i64 0], h) := fun h Q tg => (at_eq (F34nil_eq _ _)).trans at_ret
  have rc : ∀ (h : Heap) (Q : Res → Prop) (tg : Hid Q), Run (evFn Cw 1027 43 [.nilp] h) Q tg = Q ([.nilp], h) := fun h Q tg => (at_eq (F43nil_eq _ _)).trans at_ret
  refine ⟨1028, h5, Run.ans ?_⟩
  rw [F5_eq]
  simp (disch := (first | assumption | (simp only [Bool.and_eq_true, Bool.and_eq_false_iff, decide_eq_true_eq, decide_eq_false_iff_not, bne_iff_ne, beq_iff_eq, beq_eq_false_iff_ne, bne_eq_false_iff_eq, Bool.not_eq_true', Bool.not_eq_false', bys_length, List.length_append, List.length_cons, List.length_nil, List.length_map, List.length_drop, List.length_take, Int.natCast_add, wrap_i64_eq, wrap_u64, wrap_u8, ne_eq, not_true_eq_false, not_false_eq_true, Nat.zero_add, Nat.mul_one] <;> omega) | omega | (simp; done) | (simp; omega))) only [↓at_runK, ↓at_bind, ↓contQ_mk, ↓at_ret, ↓at_consK, ↓at_nilK, ↓at_optK, ↓at_intK, ↓at_boolK, ↓at_strK, ↓at_slK, ↓at_slOK, ↓at_slK0, ↓at_slOK0, ↓at_aggK, ↓at_cond_t, ↓at_cond_f, ↓at_sameL, ↓at_any1, ↓at_any, and_self, toBytes_bys, List.nil_append, List.append_nil, ↓at_nodeW, List.drop_zero, List.take_succ_cons, List.take_zero, List.getElem?_cons_succ, List.getElem?_cons_zero, cells_agg, eqCells_cons, eqCells_nil, eq1_int, eq1_bool, eq1_str, ↓at_ptr_whole, ↓at_ptr_cell, ↓at_ptr_obj, ↓at_ptr_objs, shift_obj, shift_elt, toA_val, toA_own, Int.toNat_natCast, List.cons_append, ntget_run, Bool.not_false, ntapply_run, ntlen_run, rb, r1, List.length_nil, rc, isPtr_nilp, isNilp_nilp, tabnew_run, rs, r4, r5]
end Go.Proofs.Ytdlcjibefbnckaa.Wa
