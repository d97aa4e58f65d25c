/- Balanced trees: what the program's nodes do. -/
import Derived.Test.YtdlcjibefbnckaaWi
import Derived.Test.YtdlcjibefbnckaaVta
namespace Go.Proofs.Ytdlcjibefbnckaa.Wa
open Go Go.Weave
set_option maxRecDepth 100000
set_option linter.unusedSimpArgs false
set_option linter.unusedVariables false
set_option linter.unusedSectionVars false

theorem Heap.put_self' {h : Heap} {i : Nat} {o : Weave.Obj} (hm : h.objs[i]? = some o) : h.put i o = h := by
  obtain ⟨l⟩ := h
  simp only [Heap.put]
  congr 1
  apply List.ext_getElem?
  intro j
  rw [List.getElem?_set]
  split
  · rename_i e
    subst e
    split
    · exact hm.symm
    · rename_i hl
      rw [List.getElem?_eq_none (by omega)]
  · rfl
theorem A_node (k v : List UInt8) (l r : Nd) (h : Int) : (Nd.node k v l r h).A = .elt (.agg [.str k, .str v, l.A, r.A, .int .i64 h]) true 5 0 := of_eq_true (eq_self _)
theorem A_nil : Nd.nil.A = .nilp := of_eq_true (eq_self _)
theorem isPtr_A (t : Nd) : AVal.isPtr t.A = true := by cases t <;> exact of_eq_true (eq_self _)
theorem isAgg_A (t : Nd) : AVal.isAgg t.A = false := by cases t <;> exact of_eq_true (eq_self _)
theorem isNilp_node (k v : List UInt8) (l r : Nd) (h : Int) : AVal.isNilp (Nd.node k v l r h).A = false := of_eq_true (eq_self _)
theorem at_nodeN {k v : List UInt8} {l r : Nd} {x : Int} {K : List AVal → Tr Res} {Q : Res → Prop} {tg : Hid Q} : Run (nodeW 5 (Nd.node k v l r x).A K) Q tg = Run (K [.str k, .str v, l.A, r.A, .int .i64 x]) Q ⟨⟩ := at_nodeW
theorem high_run {d : Nat} {t : Nd} {h : Heap} {Q : Res → Prop} {tg : Hid Q} : Run (evFn Cw (d + 1) 118 [t.A] h) Q tg = Q ([.int .i64 t.high], h) := by
  rw [F118_eq]
  cases t
  · simp (disch := (first | assumption | (simp only [Bool.and_eq_true, Bool.and_eq_false_iff, decide_eq_true_eq, decide_eq_false_iff_not, bne_iff_ne, beq_iff_eq, beq_eq_false_iff_ne, bne_eq_false_iff_eq, Bool.not_eq_true', Bool.not_eq_false', bys_length, List.length_append, List.length_cons, List.length_nil, List.length_map, List.length_drop, List.length_take, Int.natCast_add, wrap_i64_eq, wrap_u64, wrap_u8, ne_eq, not_true_eq_false, not_false_eq_true, Nat.zero_add, Nat.mul_one] <;> omega) | omega | (simp; done) | (simp; omega))) only [↓at_runK, ↓at_bind, ↓contQ_mk, ↓at_ret, ↓at_consK, ↓at_nilK, ↓at_optK, ↓at_intK, ↓at_boolK, ↓at_strK, ↓at_slK, ↓at_slOK, ↓at_slK0, ↓at_slOK0, ↓at_aggK, ↓at_cond_t, ↓at_cond_f, ↓at_sameL, ↓at_any1, ↓at_any, and_self, toBytes_bys, List.nil_append, List.append_nil, ↓at_nodeW, List.drop_zero, List.take_succ_cons, List.take_zero, List.getElem?_cons_succ, List.getElem?_cons_zero, cells_agg, eqCells_cons, eqCells_nil, eq1_int, eq1_bool, eq1_str, ↓at_ptr_whole, ↓at_ptr_cell, ↓at_ptr_obj, ↓at_ptr_objs, shift_obj, shift_elt, toA_val, toA_own, Int.toNat_natCast, List.cons_append, A_nil, isPtr_nilp, isNilp_nilp]
    rfl
  · simp (disch := (first | assumption | (simp only [Bool.and_eq_true, Bool.and_eq_false_iff, decide_eq_true_eq, decide_eq_false_iff_not, bne_iff_ne, beq_iff_eq, beq_eq_false_iff_ne, bne_eq_false_iff_eq, Bool.not_eq_true', Bool.not_eq_false', bys_length, List.length_append, List.length_cons, List.length_nil, List.length_map, List.length_drop, List.length_take, Int.natCast_add, wrap_i64_eq, wrap_u64, wrap_u8, ne_eq, not_true_eq_false, not_false_eq_true, Nat.zero_add, Nat.mul_one] <;> omega) | omega | (simp; done) | (simp; omega))) only [↓at_runK, ↓at_bind, ↓contQ_mk, ↓at_ret, ↓at_consK, ↓at_nilK, ↓at_optK, ↓at_intK, ↓at_boolK, ↓at_strK, ↓at_slK, ↓at_slOK, ↓at_slK0, ↓at_slOK0, ↓at_aggK, ↓at_cond_t, ↓at_cond_f, ↓at_sameL, ↓at_any1, ↓at_any, and_self, toBytes_bys, List.nil_append, List.append_nil, ↓at_nodeW, List.drop_zero, List.take_succ_cons, List.take_zero, List.getElem?_cons_succ, List.getElem?_cons_zero, cells_agg, eqCells_cons, eqCells_nil, eq1_int, eq1_bool, eq1_str, ↓at_ptr_whole, ↓at_ptr_cell, ↓at_ptr_obj, ↓at_ptr_objs, shift_obj, shift_elt, toA_val, toA_own, Int.toNat_natCast, List.cons_append, isPtr_A, at_nodeN, isNilp_node]
    rfl
theorem with_run {d : Nat} {k v : List UInt8} {a b l r : Nd} {x : Int} {h : Heap} {Q : Res → Prop} {tg : Hid Q} (hl : 0 ≤ l.high ∧ l.high ≤ 2000000) (hr : 0 ≤ r.high ∧ r.high ≤ 2000000) :
    Run (evFn Cw (d + 2) 119 [(Nd.node k v a b x).A, l.A, r.A] h) Q tg = Q ([(Nd.mk k v l r).A], h) := by
  have e : IntKind.i64.wrap (1 + (if r.high > l.high then r.high else l.high)) = 1 + max l.high r.high := by
    rw [wrap_i64_id (by split <;> omega) (by split <;> omega)]
    split <;> omega
  rw [F119_eq]
  simp (disch := (first | assumption | (simp only [Bool.and_eq_true, Bool.and_eq_false_iff, decide_eq_true_eq, decide_eq_false_iff_not, bne_iff_ne, beq_iff_eq, beq_eq_false_iff_ne, bne_eq_false_iff_eq, Bool.not_eq_true', Bool.not_eq_false', bys_length, List.length_append, List.length_cons, List.length_nil, List.length_map, List.length_drop, List.length_take, Int.natCast_add, wrap_i64_eq, wrap_u64, wrap_u8, ne_eq, not_true_eq_false, not_false_eq_true, Nat.zero_add, Nat.mul_one] <;> omega) | omega | (simp; done) | (simp; omega))) only [↓at_runK, ↓at_bind, ↓contQ_mk, ↓at_ret, ↓at_consK, ↓at_nilK, ↓at_optK, ↓at_intK, ↓at_boolK, ↓at_strK, ↓at_slK, ↓at_slOK, ↓at_slK0, ↓at_slOK0, ↓at_aggK, ↓at_cond_t, ↓at_cond_f, ↓at_sameL, ↓at_any1, ↓at_any, and_self, toBytes_bys, List.nil_append, List.append_nil, ↓at_nodeW, List.drop_zero, List.take_succ_cons, List.take_zero, List.getElem?_cons_succ, List.getElem?_cons_zero, cells_agg, eqCells_cons, eqCells_nil, eq1_int, eq1_bool, eq1_str, ↓at_ptr_whole, ↓at_ptr_cell, ↓at_ptr_obj, ↓at_ptr_objs, shift_obj, shift_elt, toA_val, toA_own, Int.toNat_natCast, List.cons_append, at_nodeN, high_run, isAgg_A, e, Bool.not_false, Bool.and_true]
  rfl
theorem level_run {d : Nat} {k v : List UInt8} {a b l r : Nd} {x : Int} {h : Heap} {Q : Res → Prop} {tg : Hid Q} (hl : l.Avl) (hr : r.Avl) (bl : l.high ≤ 1000000) (br : r.high ≤ 1000000) :
    Run (evFn Cw (d + 3) 101 [(Nd.node k v a b x).A, l.A, r.A] h) Q tg = Q ([(Nd.level k v l r).A], h) := by
  have nl := hl.high_nn
  have nr := hr.high_nn
  have e1 : IntKind.i64.wrap (r.high + 1) = r.high + 1 := wrap_i64_id (by omega) (by omega)
  have e2 : IntKind.i64.wrap (l.high + 1) = l.high + 1 := wrap_i64_id (by omega) (by omega)
  rw [F101_eq]
  unfold Nd.level
  by_cases c1 : l.high > r.high + 1
  · rw [if_pos c1]
    cases l with
    | nil => rw [Nd.high_nil] at c1; omega
    | node lk lv ll lr lh =>
      obtain ⟨a1, a2, a3, a4, a5⟩ := hl
      have n1 := a1.high_nn
      have n2 := a2.high_nn
      simp only [Nd.high_node] at c1 bl nl e2 ⊢
      by_cases c2 : ll.high ≥ lr.high
      · rw [if_pos c2]
        have b1 : 0 ≤ (Nd.mk k v lr r).high ∧ (Nd.mk k v lr r).high ≤ 2000000 := by rw [Nd.high_mk]; omega
        have w1 := fun (Q : Res → Prop) (tg : Hid Q) => with_run (d := d) (k := k) (v := v) (a := a) (b := b) (l := lr) (r := r) (x := x) (h := h) (Q := Q) (tg := tg) (by omega) (by omega)
        have w2 := fun (Q : Res → Prop) (tg : Hid Q) => with_run (d := d) (k := lk) (v := lv) (a := ll) (b := lr) (l := ll) (r := Nd.mk k v lr r) (x := lh) (h := h) (Q := Q) (tg := tg) (by omega) b1
        simp (disch := (first | assumption | (simp only [Bool.and_eq_true, Bool.and_eq_false_iff, decide_eq_true_eq, decide_eq_false_iff_not, bne_iff_ne, beq_iff_eq, beq_eq_false_iff_ne, bne_eq_false_iff_eq, Bool.not_eq_true', Bool.not_eq_false', bys_length, List.length_append, List.length_cons, List.length_nil, List.length_map, List.length_drop, List.length_take, Int.natCast_add, wrap_i64_eq, wrap_u64, wrap_u8, ne_eq, not_true_eq_false, not_false_eq_true, Nat.zero_add, Nat.mul_one] <;> omega) | omega | (simp; done) | (simp; omega))) only [↓at_runK, ↓at_bind, ↓contQ_mk, ↓at_ret, ↓at_consK, ↓at_nilK, ↓at_optK, ↓at_intK, ↓at_boolK, ↓at_strK, ↓at_slK, ↓at_slOK, ↓at_slK0, ↓at_slOK0, ↓at_aggK, ↓at_cond_t, ↓at_cond_f, ↓at_sameL, ↓at_any1, ↓at_any, and_self, toBytes_bys, List.nil_append, List.append_nil, ↓at_nodeW, List.drop_zero, List.take_succ_cons, List.take_zero, List.getElem?_cons_succ, List.getElem?_cons_zero, cells_agg, eqCells_cons, eqCells_nil, eq1_int, eq1_bool, eq1_str, ↓at_ptr_whole, ↓at_ptr_cell, ↓at_ptr_obj, ↓at_ptr_objs, shift_obj, shift_elt, toA_val, toA_own, Int.toNat_natCast, List.cons_append, high_run, Nd.high_node, e1, at_nodeN, w1, w2]
      · rw [if_neg c2]
        cases lr with
        | nil => rw [Nd.high_nil] at c2; omega
        | node rk rv rl rr rh =>
          obtain ⟨b1, b2, b3, b4, b5⟩ := a2
          have n3 := b1.high_nn
          have n4 := b2.high_nn
          simp only [Nd.high_node] at c2 a3 a4 a5 n2
          have b1' : 0 ≤ (Nd.mk lk lv ll rl).high ∧ (Nd.mk lk lv ll rl).high ≤ 2000000 := by rw [Nd.high_mk]; omega
          have b2' : 0 ≤ (Nd.mk k v rr r).high ∧ (Nd.mk k v rr r).high ≤ 2000000 := by rw [Nd.high_mk]; omega
          have w1 := fun (Q : Res → Prop) (tg : Hid Q) => with_run (d := d) (k := lk) (v := lv) (a := ll) (b := .node rk rv rl rr rh) (l := ll) (r := rl) (x := lh) (h := h) (Q := Q) (tg := tg) (by omega) (by omega)
          have w2 := fun (Q : Res → Prop) (tg : Hid Q) => with_run (d := d) (k := k) (v := v) (a := a) (b := b) (l := rr) (r := r) (x := x) (h := h) (Q := Q) (tg := tg) (by omega) (by omega)
          have w3 := fun (Q : Res → Prop) (tg : Hid Q) => with_run (d := d) (k := rk) (v := rv) (a := rl) (b := rr) (l := Nd.mk lk lv ll rl) (r := Nd.mk k v rr r) (x := rh) (h := h) (Q := Q) (tg := tg) b1' b2'
          have hh : Nd.high (.node rk rv rl rr rh) = rh := rfl
          simp (disch := (first | assumption | (simp only [Bool.and_eq_true, Bool.and_eq_false_iff, decide_eq_true_eq, decide_eq_false_iff_not, bne_iff_ne, beq_iff_eq, beq_eq_false_iff_ne, bne_eq_false_iff_eq, Bool.not_eq_true', Bool.not_eq_false', bys_length, List.length_append, List.length_cons, List.length_nil, List.length_map, List.length_drop, List.length_take, Int.natCast_add, wrap_i64_eq, wrap_u64, wrap_u8, ne_eq, not_true_eq_false, not_false_eq_true, Nat.zero_add, Nat.mul_one] <;> omega) | omega | (simp; done) | (simp; omega))) only [↓at_runK, ↓at_bind, ↓contQ_mk, ↓at_ret, ↓at_consK, ↓at_nilK, ↓at_optK, ↓at_intK, ↓at_boolK, ↓at_strK, ↓at_slK, ↓at_slOK, ↓at_slK0, ↓at_slOK0, ↓at_aggK, ↓at_cond_t, ↓at_cond_f, ↓at_sameL, ↓at_any1, ↓at_any, and_self, toBytes_bys, List.nil_append, List.append_nil, ↓at_nodeW, List.drop_zero, List.take_succ_cons, List.take_zero, List.getElem?_cons_succ, List.getElem?_cons_zero, cells_agg, eqCells_cons, eqCells_nil, eq1_int, eq1_bool, eq1_str, ↓at_ptr_whole, ↓at_ptr_cell, ↓at_ptr_obj, ↓at_ptr_objs, shift_obj, shift_elt, toA_val, toA_own, Int.toNat_natCast, List.cons_append, high_run, Nd.high_node, e1, at_nodeN, w1, w2, w3]
  · rw [if_neg c1]
    by_cases c2 : r.high > l.high + 1
    · rw [if_pos c2]
      cases r with
      | nil => rw [Nd.high_nil] at c2; omega
      | node rk rv rl rr rh =>
        obtain ⟨a1, a2, a3, a4, a5⟩ := hr
        have n1 := a1.high_nn
        have n2 := a2.high_nn
        simp only [Nd.high_node] at c1 c2 br nr e1 ⊢
        by_cases c3 : rr.high ≥ rl.high
        · rw [if_pos c3]
          have b1 : 0 ≤ (Nd.mk k v l rl).high ∧ (Nd.mk k v l rl).high ≤ 2000000 := by rw [Nd.high_mk]; omega
          have w1 := fun (Q : Res → Prop) (tg : Hid Q) => with_run (d := d) (k := k) (v := v) (a := a) (b := b) (l := l) (r := rl) (x := x) (h := h) (Q := Q) (tg := tg) (by omega) (by omega)
          have w2 := fun (Q : Res → Prop) (tg : Hid Q) => with_run (d := d) (k := rk) (v := rv) (a := rl) (b := rr) (l := Nd.mk k v l rl) (r := rr) (x := rh) (h := h) (Q := Q) (tg := tg) b1 (by omega)
          simp (disch := (first | assumption | (simp only [Bool.and_eq_true, Bool.and_eq_false_iff, decide_eq_true_eq, decide_eq_false_iff_not, bne_iff_ne, beq_iff_eq, beq_eq_false_iff_ne, bne_eq_false_iff_eq, Bool.not_eq_true', Bool.not_eq_false', bys_length, List.length_append, List.length_cons, List.length_nil, List.length_map, List.length_drop, List.length_take, Int.natCast_add, wrap_i64_eq, wrap_u64, wrap_u8, ne_eq, not_true_eq_false, not_false_eq_true, Nat.zero_add, Nat.mul_one] <;> omega) | omega | (simp; done) | (simp; omega))) only [↓at_runK, ↓at_bind, ↓contQ_mk, ↓at_ret, ↓at_consK, ↓at_nilK, ↓at_optK, ↓at_intK, ↓at_boolK, ↓at_strK, ↓at_slK, ↓at_slOK, ↓at_slK0, ↓at_slOK0, ↓at_aggK, ↓at_cond_t, ↓at_cond_f, ↓at_sameL, ↓at_any1, ↓at_any, and_self, toBytes_bys, List.nil_append, List.append_nil, ↓at_nodeW, List.drop_zero, List.take_succ_cons, List.take_zero, List.getElem?_cons_succ, List.getElem?_cons_zero, cells_agg, eqCells_cons, eqCells_nil, eq1_int, eq1_bool, eq1_str, ↓at_ptr_whole, ↓at_ptr_cell, ↓at_ptr_obj, ↓at_ptr_objs, shift_obj, shift_elt, toA_val, toA_own, Int.toNat_natCast, List.cons_append, high_run, Nd.high_node, e1, e2, at_nodeN, w1, w2]
        · rw [if_neg c3]
          cases rl with
          | nil => rw [Nd.high_nil] at c3; omega
          | node lk lv ll lr lh =>
            obtain ⟨b1, b2, b3, b4, b5⟩ := a1
            have n3 := b1.high_nn
            have n4 := b2.high_nn
            simp only [Nd.high_node] at c3 a3 a4 a5 n1
            have b1' : 0 ≤ (Nd.mk k v l ll).high ∧ (Nd.mk k v l ll).high ≤ 2000000 := by rw [Nd.high_mk]; omega
            have b2' : 0 ≤ (Nd.mk rk rv lr rr).high ∧ (Nd.mk rk rv lr rr).high ≤ 2000000 := by rw [Nd.high_mk]; omega
            have w1 := fun (Q : Res → Prop) (tg : Hid Q) => with_run (d := d) (k := k) (v := v) (a := a) (b := b) (l := l) (r := ll) (x := x) (h := h) (Q := Q) (tg := tg) (by omega) (by omega)
            have w2 := fun (Q : Res → Prop) (tg : Hid Q) => with_run (d := d) (k := rk) (v := rv) (a := .node lk lv ll lr lh) (b := rr) (l := lr) (r := rr) (x := rh) (h := h) (Q := Q) (tg := tg) (by omega) (by omega)
            have w3 := fun (Q : Res → Prop) (tg : Hid Q) => with_run (d := d) (k := lk) (v := lv) (a := ll) (b := lr) (l := Nd.mk k v l ll) (r := Nd.mk rk rv lr rr) (x := lh) (h := h) (Q := Q) (tg := tg) b1' b2'
            simp (disch := (first | assumption | (simp only [Bool.and_eq_true, Bool.and_eq_false_iff, decide_eq_true_eq, decide_eq_false_iff_not, bne_iff_ne, beq_iff_eq, beq_eq_false_iff_ne, bne_eq_false_iff_eq, Bool.not_eq_true', Bool.not_eq_false', bys_length, List.length_append, List.length_cons, List.length_nil, List.length_map, List.length_drop, List.length_take, Int.natCast_add, wrap_i64_eq, wrap_u64, wrap_u8, ne_eq, not_true_eq_false, not_false_eq_true, Nat.zero_add, Nat.mul_one] <;> omega) | omega | (simp; done) | (simp; omega))) only [↓at_runK, ↓at_bind, ↓contQ_mk, ↓at_ret, ↓at_consK, ↓at_nilK, ↓at_optK, ↓at_intK, ↓at_boolK, ↓at_strK, ↓at_slK, ↓at_slOK, ↓at_slK0, ↓at_slOK0, ↓at_aggK, ↓at_cond_t, ↓at_cond_f, ↓at_sameL, ↓at_any1, ↓at_any, and_self, toBytes_bys, List.nil_append, List.append_nil, ↓at_nodeW, List.drop_zero, List.take_succ_cons, List.take_zero, List.getElem?_cons_succ, List.getElem?_cons_zero, cells_agg, eqCells_cons, eqCells_nil, eq1_int, eq1_bool, eq1_str, ↓at_ptr_whole, ↓at_ptr_cell, ↓at_ptr_obj, ↓at_ptr_objs, shift_obj, shift_elt, toA_val, toA_own, Int.toNat_natCast, List.cons_append, high_run, Nd.high_node, e1, e2, at_nodeN, w1, w2, w3]
    · rw [if_neg c2]
      have w1 := fun (Q : Res → Prop) (tg : Hid Q) => with_run (d := d) (k := k) (v := v) (a := a) (b := b) (l := l) (r := r) (x := x) (h := h) (Q := Q) (tg := tg) (by omega) (by omega)
      simp (disch := (first | assumption | (simp only [Bool.and_eq_true, Bool.and_eq_false_iff, decide_eq_true_eq, decide_eq_false_iff_not, bne_iff_ne, beq_iff_eq, beq_eq_false_iff_ne, bne_eq_false_iff_eq, Bool.not_eq_true', Bool.not_eq_false', bys_length, List.length_append, List.length_cons, List.length_nil, List.length_map, List.length_drop, List.length_take, Int.natCast_add, wrap_i64_eq, wrap_u64, wrap_u8, ne_eq, not_true_eq_false, not_false_eq_true, Nat.zero_add, Nat.mul_one] <;> omega) | omega | (simp; done) | (simp; omega))) only [↓at_runK, ↓at_bind, ↓contQ_mk, ↓at_ret, ↓at_consK, ↓at_nilK, ↓at_optK, ↓at_intK, ↓at_boolK, ↓at_strK, ↓at_slK, ↓at_slOK, ↓at_slK0, ↓at_slOK0, ↓at_aggK, ↓at_cond_t, ↓at_cond_f, ↓at_sameL, ↓at_any1, ↓at_any, and_self, toBytes_bys, List.nil_append, List.append_nil, ↓at_nodeW, List.drop_zero, List.take_succ_cons, List.take_zero, List.getElem?_cons_succ, List.getElem?_cons_zero, cells_agg, eqCells_cons, eqCells_nil, eq1_int, eq1_bool, eq1_str, ↓at_ptr_whole, ↓at_ptr_cell, ↓at_ptr_obj, ↓at_ptr_objs, shift_obj, shift_elt, toA_val, toA_own, Int.toNat_natCast, List.cons_append, high_run, e1, e2, w1]

theorem put_nd : ∀ (t : Nd) (d : Nat), t.dep + 6 ≤ d → t.Avl → t.high ≤ 900000 → ∀ (k v : List UInt8) (h : Heap) (Q : Res → Prop) (tg : Hid Q),
    Run (evFn Cw d 82 [t.A, .str k, .str v] h) Q tg = Q ([(t.put k v).A], h) := by
  intro t
  induction t with
  | nil =>
    intro d hd _ _ k v h Q tg
    obtain ⟨d, rfl⟩ : ∃ e, d = e + 6 := ⟨d - 6, by omega⟩
    rw [F82_eq]
    simp (disch := (first | assumption | (simp only [Bool.and_eq_true, Bool.and_eq_false_iff, decide_eq_true_eq, decide_eq_false_iff_not, bne_iff_ne, beq_iff_eq, beq_eq_false_iff_ne, bne_eq_false_iff_eq, Bool.not_eq_true', Bool.not_eq_false', bys_length, List.length_append, List.length_cons, List.length_nil, List.length_map, List.length_drop, List.length_take, Int.natCast_add, wrap_i64_eq, wrap_u64, wrap_u8, ne_eq, not_true_eq_false, not_false_eq_true, Nat.zero_add, Nat.mul_one] <;> omega) | omega | (simp; done) | (simp; omega))) only [↓at_runK, ↓at_bind, ↓contQ_mk, ↓at_ret, ↓at_consK, ↓at_nilK, ↓at_optK, ↓at_intK, ↓at_boolK, ↓at_strK, ↓at_slK, ↓at_slOK, ↓at_slK0, ↓at_slOK0, ↓at_aggK, ↓at_cond_t, ↓at_cond_f, ↓at_sameL, ↓at_any1, ↓at_any, and_self, toBytes_bys, List.nil_append, List.append_nil, ↓at_nodeW, List.drop_zero, List.take_succ_cons, List.take_zero, List.getElem?_cons_succ, List.getElem?_cons_zero, cells_agg, eqCells_cons, eqCells_nil, eq1_int, eq1_bool, eq1_str, ↓at_ptr_whole, ↓at_ptr_cell, ↓at_ptr_obj, ↓at_ptr_objs, shift_obj, shift_elt, toA_val, toA_own, Int.toNat_natCast, List.cons_append, A_nil, isPtr_nilp, isNilp_nilp]
    rfl
  | node k' v' l r x ihl ihr =>
    intro d hd ha hb k v h Q tg
    obtain ⟨d, rfl⟩ : ∃ e, d = e + 4 := ⟨d - 4, by omega⟩
    have ha' := ha
    obtain ⟨a1, a2, a3, a4, a5⟩ := ha
    simp only [Nd.high_node] at hb
    have n1 := a1.high_nn
    have n2 := a2.high_nn
    have q1 := ihl (d + 3) (by simp only [Nd.dep] at hd; omega) a1 (by omega) k v h
    have q2 := ihr (d + 3) (by simp only [Nd.dep] at hd; omega) a2 (by omega) k v h
    have ⟨p1, p2, p3⟩ := Nd.put_avl (k := k) (v := v) a1
    have ⟨p4, p5, p6⟩ := Nd.put_avl (k := k) (v := v) a2
    have w1 := fun (Q : Res → Prop) (tg : Hid Q) => level_run (d := d) (k := k') (v := v') (a := l) (b := r) (l := l.put k v) (r := r) (x := x) (h := h) (Q := Q) (tg := tg) p1 a2 (by omega) (by omega)
    have w2 := fun (Q : Res → Prop) (tg : Hid Q) => level_run (d := d) (k := k') (v := v') (a := l) (b := r) (l := l) (r := r.put k v) (x := x) (h := h) (Q := Q) (tg := tg) a1 p4 (by omega) (by omega)
    rw [F82_eq]
    unfold Nd.put
    by_cases c1 : blt k k' = true
    · have c1' : Go.Op.bytesLess k k' = true := c1
      rw [if_pos c1]
      simp (disch := (first | assumption | (simp only [Bool.and_eq_true, Bool.and_eq_false_iff, decide_eq_true_eq, decide_eq_false_iff_not, bne_iff_ne, beq_iff_eq, beq_eq_false_iff_ne, bne_eq_false_iff_eq, Bool.not_eq_true', Bool.not_eq_false', bys_length, List.length_append, List.length_cons, List.length_nil, List.length_map, List.length_drop, List.length_take, Int.natCast_add, wrap_i64_eq, wrap_u64, wrap_u8, ne_eq, not_true_eq_false, not_false_eq_true, Nat.zero_add, Nat.mul_one] <;> omega) | omega | (simp; done) | (simp; omega))) only [↓at_runK, ↓at_bind, ↓contQ_mk, ↓at_ret, ↓at_consK, ↓at_nilK, ↓at_optK, ↓at_intK, ↓at_boolK, ↓at_strK, ↓at_slK, ↓at_slOK, ↓at_slK0, ↓at_slOK0, ↓at_aggK, ↓at_cond_t, ↓at_cond_f, ↓at_sameL, ↓at_any1, ↓at_any, and_self, toBytes_bys, List.nil_append, List.append_nil, ↓at_nodeW, List.drop_zero, List.take_succ_cons, List.take_zero, List.getElem?_cons_succ, List.getElem?_cons_zero, cells_agg, eqCells_cons, eqCells_nil, eq1_int, eq1_bool, eq1_str, ↓at_ptr_whole, ↓at_ptr_cell, ↓at_ptr_obj, ↓at_ptr_objs, shift_obj, shift_elt, toA_val, toA_own, Int.toNat_natCast, List.cons_append, isPtr_A, isNilp_node, at_nodeN, c1', q1, w1]
    · have c1' : Go.Op.bytesLess k k' = false := by simpa using c1
      rw [if_neg c1]
      by_cases c2 : blt k' k = true
      · have c2' : (k == k') = false := by simpa using (blt_ne c2).symm
        rw [if_pos c2]
        simp (disch := (first | assumption | (simp only [Bool.and_eq_true, Bool.and_eq_false_iff, decide_eq_true_eq, decide_eq_false_iff_not, bne_iff_ne, beq_iff_eq, beq_eq_false_iff_ne, bne_eq_false_iff_eq, Bool.not_eq_true', Bool.not_eq_false', bys_length, List.length_append, List.length_cons, List.length_nil, List.length_map, List.length_drop, List.length_take, Int.natCast_add, wrap_i64_eq, wrap_u64, wrap_u8, ne_eq, not_true_eq_false, not_false_eq_true, Nat.zero_add, Nat.mul_one] <;> omega) | omega | (simp; done) | (simp; omega))) only [↓at_runK, ↓at_bind, ↓contQ_mk, ↓at_ret, ↓at_consK, ↓at_nilK, ↓at_optK, ↓at_intK, ↓at_boolK, ↓at_strK, ↓at_slK, ↓at_slOK, ↓at_slK0, ↓at_slOK0, ↓at_aggK, ↓at_cond_t, ↓at_cond_f, ↓at_sameL, ↓at_any1, ↓at_any, and_self, toBytes_bys, List.nil_append, List.append_nil, ↓at_nodeW, List.drop_zero, List.take_succ_cons, List.take_zero, List.getElem?_cons_succ, List.getElem?_cons_zero, cells_agg, eqCells_cons, eqCells_nil, eq1_int, eq1_bool, eq1_str, ↓at_ptr_whole, ↓at_ptr_cell, ↓at_ptr_obj, ↓at_ptr_objs, shift_obj, shift_elt, toA_val, toA_own, Int.toNat_natCast, List.cons_append, isPtr_A, isNilp_node, at_nodeN, c1', c2', Bool.or_false, Bool.not_false, q2, w2]
      · have e : k = k' := blt_tri (by simpa using c1) (by simpa using c2)
        subst e
        rw [if_neg c2]
        have e2 : (k == k) = true := by simp
        simp (disch := (first | assumption | (simp only [Bool.and_eq_true, Bool.and_eq_false_iff, decide_eq_true_eq, decide_eq_false_iff_not, bne_iff_ne, beq_iff_eq, beq_eq_false_iff_ne, bne_eq_false_iff_eq, Bool.not_eq_true', Bool.not_eq_false', bys_length, List.length_append, List.length_cons, List.length_nil, List.length_map, List.length_drop, List.length_take, Int.natCast_add, wrap_i64_eq, wrap_u64, wrap_u8, ne_eq, not_true_eq_false, not_false_eq_true, Nat.zero_add, Nat.mul_one] <;> omega) | omega | (simp; done) | (simp; omega))) only [↓at_runK, ↓at_bind, ↓contQ_mk, ↓at_ret, ↓at_consK, ↓at_nilK, ↓at_optK, ↓at_intK, ↓at_boolK, ↓at_strK, ↓at_slK, ↓at_slOK, ↓at_slK0, ↓at_slOK0, ↓at_aggK, ↓at_cond_t, ↓at_cond_f, ↓at_sameL, ↓at_any1, ↓at_any, and_self, toBytes_bys, List.nil_append, List.append_nil, ↓at_nodeW, List.drop_zero, List.take_succ_cons, List.take_zero, List.getElem?_cons_succ, List.getElem?_cons_zero, cells_agg, eqCells_cons, eqCells_nil, eq1_int, eq1_bool, eq1_str, ↓at_ptr_whole, ↓at_ptr_cell, ↓at_ptr_obj, ↓at_ptr_objs, shift_obj, shift_elt, toA_val, toA_own, Int.toNat_natCast, List.cons_append, isPtr_A, isNilp_node, at_nodeN, c1', e2, Bool.or_true, Bool.not_true, isAgg_A, Bool.not_false, Bool.and_true]
        rfl
theorem least_loop (d : Nat) (h : Heap) : ∀ (l : Nd) (k v : List UInt8) (r : Nd) (x : Int) (n : Nat), l.dep < n → ∃ a b y, ∀ (Q : Res → Prop) (tg : Hid Q),
    Run (P102_0 d n (Nd.node k v l r x).A h) Q tg = Q ([(Nd.node (l.least k v).1 (l.least k v).2 a b y).A], h) := by
  intro l
  induction l with
  | nil =>
    intro k v r x n hn
    obtain ⟨n, rfl⟩ : ∃ e, n = e + 1 := ⟨n - 1, by omega⟩
    refine ⟨.nil, r, x, fun Q tg => ?_⟩
    rw [P102_0_eq]
    simp (disch := (first | assumption | (simp only [Bool.and_eq_true, Bool.and_eq_false_iff, decide_eq_true_eq, decide_eq_false_iff_not, bne_iff_ne, beq_iff_eq, beq_eq_false_iff_ne, bne_eq_false_iff_eq, Bool.not_eq_true', Bool.not_eq_false', bys_length, List.length_append, List.length_cons, List.length_nil, List.length_map, List.length_drop, List.length_take, Int.natCast_add, wrap_i64_eq, wrap_u64, wrap_u8, ne_eq, not_true_eq_false, not_false_eq_true, Nat.zero_add, Nat.mul_one] <;> omega) | omega | (simp; done) | (simp; omega))) only [↓at_runK, ↓at_bind, ↓contQ_mk, ↓at_ret, ↓at_consK, ↓at_nilK, ↓at_optK, ↓at_intK, ↓at_boolK, ↓at_strK, ↓at_slK, ↓at_slOK, ↓at_slK0, ↓at_slOK0, ↓at_aggK, ↓at_cond_t, ↓at_cond_f, ↓at_sameL, ↓at_any1, ↓at_any, and_self, toBytes_bys, List.nil_append, List.append_nil, ↓at_nodeW, List.drop_zero, List.take_succ_cons, List.take_zero, List.getElem?_cons_succ, List.getElem?_cons_zero, cells_agg, eqCells_cons, eqCells_nil, eq1_int, eq1_bool, eq1_str, ↓at_ptr_whole, ↓at_ptr_cell, ↓at_ptr_obj, ↓at_ptr_objs, shift_obj, shift_elt, toA_val, toA_own, Int.toNat_natCast, List.cons_append, at_nodeN, A_nil, isPtr_nilp, isNilp_nilp]
    rfl
  | node k' v' l' r' x' ih _ =>
    intro k v r x n hn
    obtain ⟨n, rfl⟩ : ∃ e, n = e + 1 := ⟨n - 1, by omega⟩
    obtain ⟨a, b, y, q⟩ := ih k' v' r' x' n (by simp only [Nd.dep] at hn; omega)
    refine ⟨a, b, y, fun Q tg => ?_⟩
    rw [P102_0_eq]
    simp (disch := (first | assumption | (simp only [Bool.and_eq_true, Bool.and_eq_false_iff, decide_eq_true_eq, decide_eq_false_iff_not, bne_iff_ne, beq_iff_eq, beq_eq_false_iff_ne, bne_eq_false_iff_eq, Bool.not_eq_true', Bool.not_eq_false', bys_length, List.length_append, List.length_cons, List.length_nil, List.length_map, List.length_drop, List.length_take, Int.natCast_add, wrap_i64_eq, wrap_u64, wrap_u8, ne_eq, not_true_eq_false, not_false_eq_true, Nat.zero_add, Nat.mul_one] <;> omega) | omega | (simp; done) | (simp; omega))) only [↓at_runK, ↓at_bind, ↓contQ_mk, ↓at_ret, ↓at_consK, ↓at_nilK, ↓at_optK, ↓at_intK, ↓at_boolK, ↓at_strK, ↓at_slK, ↓at_slOK, ↓at_slK0, ↓at_slOK0, ↓at_aggK, ↓at_cond_t, ↓at_cond_f, ↓at_sameL, ↓at_any1, ↓at_any, and_self, toBytes_bys, List.nil_append, List.append_nil, ↓at_nodeW, List.drop_zero, List.take_succ_cons, List.take_zero, List.getElem?_cons_succ, List.getElem?_cons_zero, cells_agg, eqCells_cons, eqCells_nil, eq1_int, eq1_bool, eq1_str, ↓at_ptr_whole, ↓at_ptr_cell, ↓at_ptr_obj, ↓at_ptr_objs, shift_obj, shift_elt, toA_val, toA_own, Int.toNat_natCast, List.cons_append, at_nodeN, isPtr_A, isNilp_node, q]
    rfl
theorem least_run (d : Nat) (h : Heap) (l : Nd) (k v : List UInt8) (r : Nd) (x : Int) (hl : l.dep ≤ 1000000) : ∃ a b y, ∀ (Q : Res → Prop) (tg : Hid Q),
    Run (evFn Cw (d + 1) 102 [(Nd.node k v l r x).A] h) Q tg = Q ([(Nd.node (l.least k v).1 (l.least k v).2 a b y).A], h) := by
  obtain ⟨a, b, y, q⟩ := least_loop d h l k v r x rounds (rounds_gt' (by omega))
  refine ⟨a, b, y, fun Q tg => ?_⟩
  rw [F102_eq]
  exact q Q tg
theorem without_nd : ∀ (t : Nd) (d : Nat), t.dep + 6 ≤ d → t.dep ≤ 1000000 → t.Avl → t.high ≤ 900000 → Srt t.toL → ∀ (k : List UInt8), (∃ p ∈ t.toL, p.key = k) → ∀ (h : Heap) (Q : Res → Prop) (tg : Hid Q),
    Run (evFn Cw d 83 [t.A, .str k] h) Q tg = Q ([(t.without k).A], h) := by
  intro t
  induction t with
  | nil =>
    intro d hd _ _ _ _ k hk
    obtain ⟨p, hp, _⟩ := hk
    simp [Nd.toL] at hp
  | node k' v' l r x ihl ihr =>
    intro d hd hdep ha hb hs k hk h Q tg
    obtain ⟨d, rfl⟩ : ∃ e, d = e + 4 := ⟨d - 4, by omega⟩
    obtain ⟨a1, a2, a3, a4, a5⟩ := ha
    simp only [Nd.high_node] at hb
    have n1 := a1.high_nn
    have n2 := a2.high_nn
    simp only [Nd.dep] at hd hdep
    rw [Nd.toL_node] at hs
    simp only [Nd.toL_node] at hk
    obtain ⟨s1, s2, s3, s4⟩ := hs.mid
    rw [F83_eq]
    unfold Nd.without
    by_cases c1 : blt k k' = true
    · have c1' : Go.Op.bytesLess k k' = true := c1
      rw [if_pos c1]
      have hk1 : ∃ p ∈ l.toL, p.key = k := by
        obtain ⟨p, hp, e⟩ := hk
        rcases List.mem_append.1 hp with hp | hp
        · exact ⟨p, hp, e⟩
        · rcases List.mem_cons.1 hp with rfl | hp
          · subst e; rw [blt_irr] at c1; simp at c1
          · have := blt_asym (s4 p hp)
            rw [e] at this
            rw [this] at c1; simp at c1
      obtain ⟨b1, b2, b3, b4⟩ := Nd.without_ok a1 s1 hk1
      have q1 := ihl (d + 3) (by omega) (by omega) a1 (by omega) s1 k hk1 h
      have w1 := fun (Q : Res → Prop) (tg : Hid Q) => level_run (d := d) (k := k') (v := v') (a := l) (b := r) (l := l.without k) (r := r) (x := x) (h := h) (Q := Q) (tg := tg) b1 a2 (by omega) (by omega)
      simp (disch := (first | assumption | (simp only [Bool.and_eq_true, Bool.and_eq_false_iff, decide_eq_true_eq, decide_eq_false_iff_not, bne_iff_ne, beq_iff_eq, beq_eq_false_iff_ne, bne_eq_false_iff_eq, Bool.not_eq_true', Bool.not_eq_false', bys_length, List.length_append, List.length_cons, List.length_nil, List.length_map, List.length_drop, List.length_take, Int.natCast_add, wrap_i64_eq, wrap_u64, wrap_u8, ne_eq, not_true_eq_false, not_false_eq_true, Nat.zero_add, Nat.mul_one] <;> omega) | omega | (simp; done) | (simp; omega))) only [↓at_runK, ↓at_bind, ↓contQ_mk, ↓at_ret, ↓at_consK, ↓at_nilK, ↓at_optK, ↓at_intK, ↓at_boolK, ↓at_strK, ↓at_slK, ↓at_slOK, ↓at_slK0, ↓at_slOK0, ↓at_aggK, ↓at_cond_t, ↓at_cond_f, ↓at_sameL, ↓at_any1, ↓at_any, and_self, toBytes_bys, List.nil_append, List.append_nil, ↓at_nodeW, List.drop_zero, List.take_succ_cons, List.take_zero, List.getElem?_cons_succ, List.getElem?_cons_zero, cells_agg, eqCells_cons, eqCells_nil, eq1_int, eq1_bool, eq1_str, ↓at_ptr_whole, ↓at_ptr_cell, ↓at_ptr_obj, ↓at_ptr_objs, shift_obj, shift_elt, toA_val, toA_own, Int.toNat_natCast, List.cons_append, at_nodeN, c1', q1, w1]
    · have c1' : Go.Op.bytesLess k k' = false := by simpa using c1
      rw [if_neg c1]
      by_cases c2 : blt k' k = true
      · have c2' : (k == k') = false := by simpa using (blt_ne c2).symm
        rw [if_pos c2]
        have hk1 : ∃ p ∈ r.toL, p.key = k := by
          obtain ⟨p, hp, e⟩ := hk
          rcases List.mem_append.1 hp with hp | hp
          · have := blt_asym (s3 p hp)
            rw [e] at this
            rw [this] at c2; simp at c2
          · rcases List.mem_cons.1 hp with rfl | hp
            · subst e; rw [blt_irr] at c2; simp at c2
            · exact ⟨p, hp, e⟩
        obtain ⟨b1, b2, b3, b4⟩ := Nd.without_ok a2 s2 hk1
        have q1 := ihr (d + 3) (by omega) (by omega) a2 (by omega) s2 k hk1 h
        have w1 := fun (Q : Res → Prop) (tg : Hid Q) => level_run (d := d) (k := k') (v := v') (a := l) (b := r) (l := l) (r := r.without k) (x := x) (h := h) (Q := Q) (tg := tg) a1 b1 (by omega) (by omega)
        simp (disch := (first | assumption | (simp only [Bool.and_eq_true, Bool.and_eq_false_iff, decide_eq_true_eq, decide_eq_false_iff_not, bne_iff_ne, beq_iff_eq, beq_eq_false_iff_ne, bne_eq_false_iff_eq, Bool.not_eq_true', Bool.not_eq_false', bys_length, List.length_append, List.length_cons, List.length_nil, List.length_map, List.length_drop, List.length_take, Int.natCast_add, wrap_i64_eq, wrap_u64, wrap_u8, ne_eq, not_true_eq_false, not_false_eq_true, Nat.zero_add, Nat.mul_one] <;> omega) | omega | (simp; done) | (simp; omega))) only [↓at_runK, ↓at_bind, ↓contQ_mk, ↓at_ret, ↓at_consK, ↓at_nilK, ↓at_optK, ↓at_intK, ↓at_boolK, ↓at_strK, ↓at_slK, ↓at_slOK, ↓at_slK0, ↓at_slOK0, ↓at_aggK, ↓at_cond_t, ↓at_cond_f, ↓at_sameL, ↓at_any1, ↓at_any, and_self, toBytes_bys, List.nil_append, List.append_nil, ↓at_nodeW, List.drop_zero, List.take_succ_cons, List.take_zero, List.getElem?_cons_succ, List.getElem?_cons_zero, cells_agg, eqCells_cons, eqCells_nil, eq1_int, eq1_bool, eq1_str, ↓at_ptr_whole, ↓at_ptr_cell, ↓at_ptr_obj, ↓at_ptr_objs, shift_obj, shift_elt, toA_val, toA_own, Int.toNat_natCast, List.cons_append, at_nodeN, c1', c2', Bool.or_false, Bool.not_false, q1, w1]
      · have e : k = k' := blt_tri (by simpa using c1) (by simpa using c2)
        subst e
        rw [if_neg c2]
        have e2 : (k == k) = true := by simp
        cases l with
        | nil =>
          simp (disch := (first | assumption | (simp only [Bool.and_eq_true, Bool.and_eq_false_iff, decide_eq_true_eq, decide_eq_false_iff_not, bne_iff_ne, beq_iff_eq, beq_eq_false_iff_ne, bne_eq_false_iff_eq, Bool.not_eq_true', Bool.not_eq_false', bys_length, List.length_append, List.length_cons, List.length_nil, List.length_map, List.length_drop, List.length_take, Int.natCast_add, wrap_i64_eq, wrap_u64, wrap_u8, ne_eq, not_true_eq_false, not_false_eq_true, Nat.zero_add, Nat.mul_one] <;> omega) | omega | (simp; done) | (simp; omega))) only [↓at_runK, ↓at_bind, ↓contQ_mk, ↓at_ret, ↓at_consK, ↓at_nilK, ↓at_optK, ↓at_intK, ↓at_boolK, ↓at_strK, ↓at_slK, ↓at_slOK, ↓at_slK0, ↓at_slOK0, ↓at_aggK, ↓at_cond_t, ↓at_cond_f, ↓at_sameL, ↓at_any1, ↓at_any, and_self, toBytes_bys, List.nil_append, List.append_nil, ↓at_nodeW, List.drop_zero, List.take_succ_cons, List.take_zero, List.getElem?_cons_succ, List.getElem?_cons_zero, cells_agg, eqCells_cons, eqCells_nil, eq1_int, eq1_bool, eq1_str, ↓at_ptr_whole, ↓at_ptr_cell, ↓at_ptr_obj, ↓at_ptr_objs, shift_obj, shift_elt, toA_val, toA_own, Int.toNat_natCast, List.cons_append, at_nodeN, c1', e2, Bool.or_true, Bool.not_true, A_nil, isPtr_nilp, isNilp_nilp]
        | node lk lv ll lr lh =>
          cases r with
          | nil =>
            simp (disch := (first | assumption | (simp only [Bool.and_eq_true, Bool.and_eq_false_iff, decide_eq_true_eq, decide_eq_false_iff_not, bne_iff_ne, beq_iff_eq, beq_eq_false_iff_ne, bne_eq_false_iff_eq, Bool.not_eq_true', Bool.not_eq_false', bys_length, List.length_append, List.length_cons, List.length_nil, List.length_map, List.length_drop, List.length_take, Int.natCast_add, wrap_i64_eq, wrap_u64, wrap_u8, ne_eq, not_true_eq_false, not_false_eq_true, Nat.zero_add, Nat.mul_one] <;> omega) | omega | (simp; done) | (simp; omega))) only [↓at_runK, ↓at_bind, ↓contQ_mk, ↓at_ret, ↓at_consK, ↓at_nilK, ↓at_optK, ↓at_intK, ↓at_boolK, ↓at_strK, ↓at_slK, ↓at_slOK, ↓at_slK0, ↓at_slOK0, ↓at_aggK, ↓at_cond_t, ↓at_cond_f, ↓at_sameL, ↓at_any1, ↓at_any, and_self, toBytes_bys, List.nil_append, List.append_nil, ↓at_nodeW, List.drop_zero, List.take_succ_cons, List.take_zero, List.getElem?_cons_succ, List.getElem?_cons_zero, cells_agg, eqCells_cons, eqCells_nil, eq1_int, eq1_bool, eq1_str, ↓at_ptr_whole, ↓at_ptr_cell, ↓at_ptr_obj, ↓at_ptr_objs, shift_obj, shift_elt, toA_val, toA_own, Int.toNat_natCast, List.cons_append, at_nodeN, c1', e2, Bool.or_true, Bool.not_true, isPtr_A, isNilp_node, A_nil, isPtr_nilp, isNilp_nilp]
          | node rk rv rl rr rh =>
            simp only [Nd.dep] at hd hdep
            obtain ⟨a, b, y, ql⟩ := least_run (d + 2) h rl rk rv rr rh (by omega)
            obtain ⟨rest, hrest⟩ := Nd.least_toL (t := rl) (k := rk) (v := rv) rr.toL
            have hR : (Nd.node rk rv rl rr rh).toL = ⟨(rl.least rk rv).1, (rl.least rk rv).2⟩ :: rest := hrest
            have hmem : ∃ p ∈ (Nd.node rk rv rl rr rh).toL, p.key = (rl.least rk rv).1 := ⟨_, by rw [hR]; exact List.mem_cons_self, rfl⟩
            obtain ⟨b1, b2, b3, b4⟩ := Nd.without_ok (k := (rl.least rk rv).1) a2 s2 hmem
            have q1 := ihr (d + 3) (by simp only [Nd.dep]; omega) (by simp only [Nd.dep]; omega) a2 (by omega) s2 (rl.least rk rv).1 hmem h
            have w1 := fun (Q : Res → Prop) (tg : Hid Q) => level_run (d := d) (k := (rl.least rk rv).1) (v := (rl.least rk rv).2) (a := a) (b := b) (l := .node lk lv ll lr lh) (r := (Nd.node rk rv rl rr rh).without (rl.least rk rv).1) (x := y) (h := h) (Q := Q) (tg := tg) a1 b1 (by omega) (by omega)
            simp (disch := (first | assumption | (simp only [Bool.and_eq_true, Bool.and_eq_false_iff, decide_eq_true_eq, decide_eq_false_iff_not, bne_iff_ne, beq_iff_eq, beq_eq_false_iff_ne, bne_eq_false_iff_eq, Bool.not_eq_true', Bool.not_eq_false', bys_length, List.length_append, List.length_cons, List.length_nil, List.length_map, List.length_drop, List.length_take, Int.natCast_add, wrap_i64_eq, wrap_u64, wrap_u8, ne_eq, not_true_eq_false, not_false_eq_true, Nat.zero_add, Nat.mul_one] <;> omega) | omega | (simp; done) | (simp; omega))) only [↓at_runK, ↓at_bind, ↓contQ_mk, ↓at_ret, ↓at_consK, ↓at_nilK, ↓at_optK, ↓at_intK, ↓at_boolK, ↓at_strK, ↓at_slK, ↓at_slOK, ↓at_slK0, ↓at_slOK0, ↓at_aggK, ↓at_cond_t, ↓at_cond_f, ↓at_sameL, ↓at_any1, ↓at_any, and_self, toBytes_bys, List.nil_append, List.append_nil, ↓at_nodeW, List.drop_zero, List.take_succ_cons, List.take_zero, List.getElem?_cons_succ, List.getElem?_cons_zero, cells_agg, eqCells_cons, eqCells_nil, eq1_int, eq1_bool, eq1_str, ↓at_ptr_whole, ↓at_ptr_cell, ↓at_ptr_obj, ↓at_ptr_objs, shift_obj, shift_elt, toA_val, toA_own, Int.toNat_natCast, List.cons_append, at_nodeN, c1', e2, Bool.or_true, Bool.not_true, isPtr_A, isNilp_node, ql, q1, w1]

/-! ### Looks -/
def tellK : Option KPair → List AVal
  | none => [.str [], .str [], .bool false]
  | some p => [.str p.key, .str p.val, .bool true]
theorem told_run {d : Nat} {t : Nd} {h : Heap} {Q : Res → Prop} {tg : Hid Q} : Run (evFn Cw (d + 1) 99 [t.A] h) Q tg = Q (tellK t.kv, h) := by
  rw [F99_eq]
  cases t
  · simp (disch := (first | assumption | (simp only [Bool.and_eq_true, Bool.and_eq_false_iff, decide_eq_true_eq, decide_eq_false_iff_not, bne_iff_ne, beq_iff_eq, beq_eq_false_iff_ne, bne_eq_false_iff_eq, Bool.not_eq_true', Bool.not_eq_false', bys_length, List.length_append, List.length_cons, List.length_nil, List.length_map, List.length_drop, List.length_take, Int.natCast_add, wrap_i64_eq, wrap_u64, wrap_u8, ne_eq, not_true_eq_false, not_false_eq_true, Nat.zero_add, Nat.mul_one] <;> omega) | omega | (simp; done) | (simp; omega))) only [↓at_runK, ↓at_bind, ↓contQ_mk, ↓at_ret, ↓at_consK, ↓at_nilK, ↓at_optK, ↓at_intK, ↓at_boolK, ↓at_strK, ↓at_slK, ↓at_slOK, ↓at_slK0, ↓at_slOK0, ↓at_aggK, ↓at_cond_t, ↓at_cond_f, ↓at_sameL, ↓at_any1, ↓at_any, and_self, toBytes_bys, List.nil_append, List.append_nil, ↓at_nodeW, List.drop_zero, List.take_succ_cons, List.take_zero, List.getElem?_cons_succ, List.getElem?_cons_zero, cells_agg, eqCells_cons, eqCells_nil, eq1_int, eq1_bool, eq1_str, ↓at_ptr_whole, ↓at_ptr_cell, ↓at_ptr_obj, ↓at_ptr_objs, shift_obj, shift_elt, toA_val, toA_own, Int.toNat_natCast, List.cons_append, A_nil, isPtr_nilp, isNilp_nilp]
    rfl
  · simp (disch := (first | assumption | (simp only [Bool.and_eq_true, Bool.and_eq_false_iff, decide_eq_true_eq, decide_eq_false_iff_not, bne_iff_ne, beq_iff_eq, beq_eq_false_iff_ne, bne_eq_false_iff_eq, Bool.not_eq_true', Bool.not_eq_false', bys_length, List.length_append, List.length_cons, List.length_nil, List.length_map, List.length_drop, List.length_take, Int.natCast_add, wrap_i64_eq, wrap_u64, wrap_u8, ne_eq, not_true_eq_false, not_false_eq_true, Nat.zero_add, Nat.mul_one] <;> omega) | omega | (simp; done) | (simp; omega))) only [↓at_runK, ↓at_bind, ↓contQ_mk, ↓at_ret, ↓at_consK, ↓at_nilK, ↓at_optK, ↓at_intK, ↓at_boolK, ↓at_strK, ↓at_slK, ↓at_slOK, ↓at_slK0, ↓at_slOK0, ↓at_aggK, ↓at_cond_t, ↓at_cond_f, ↓at_sameL, ↓at_any1, ↓at_any, and_self, toBytes_bys, List.nil_append, List.append_nil, ↓at_nodeW, List.drop_zero, List.take_succ_cons, List.take_zero, List.getElem?_cons_succ, List.getElem?_cons_zero, cells_agg, eqCells_cons, eqCells_nil, eq1_int, eq1_bool, eq1_str, ↓at_ptr_whole, ↓at_ptr_cell, ↓at_ptr_obj, ↓at_ptr_objs, shift_obj, shift_elt, toA_val, toA_own, Int.toNat_natCast, List.cons_append, isPtr_A, isNilp_node, at_nodeN]
    rfl
theorem seek_find {s : List UInt8} {a b : List KPair} {p : KPair} (hs : Srt (a ++ p :: b)) : lseek s (a ++ p :: b) = if blt p.key s then lseek s b else (lseek s a).or (some p) := by
  obtain ⟨_, _, h3, _⟩ := hs.mid
  unfold lseek
  rw [List.find?_append, List.find?_cons]
  by_cases c : blt p.key s = true
  · rw [if_pos c]
    have : List.find? (fun q => !blt q.key s) a = none := by
      rw [List.find?_eq_none]
      intro x hx
      simp [blt_trans (h3 x hx) c]
    rw [this, c]; rfl
  · have c' : blt p.key s = false := by simpa using c
    rw [if_neg c, c']; rfl
theorem below_last {s : List UInt8} {a b : List KPair} {p : KPair} (hs : Srt (a ++ p :: b)) : lbelow s (a ++ p :: b) = if blt p.key s then (lbelow s b).or (some p) else lbelow s a := by
  obtain ⟨_, _, h3, h4⟩ := hs.mid
  unfold lbelow
  rw [List.filter_append, List.filter_cons]
  split
  · rename_i c
    rw [List.getLast?_append, List.getLast?_cons]
    cases (List.filter (fun q => blt q.key s) b).getLast? <;> simp
  · rename_i c
    have : List.filter (fun q => blt q.key s) b = [] := filter_none fun x hx => by
      cases hx' : blt x.key s
      · rfl
      · exact absurd (blt_trans (h4 x hx) hx') c
    rw [this]; simp
theorem seek_loop (d : Nat) (h : Heap) (s : List UInt8) : ∀ (t best : Nd) (n : Nat), t.dep < n → Srt t.toL → ∀ (Q : Res → Prop) (tg : Hid Q),
    Run (P75_0 (d + 1) n s best.A t.A h) Q tg = Q (tellK ((lseek s t.toL).or best.kv), h) := by
  intro t
  induction t with
  | nil =>
    intro best n hn _ Q tg
    obtain ⟨n, rfl⟩ : ∃ e, n = e + 1 := ⟨n - 1, by omega⟩
    have e : (lseek s Nd.nil.toL).or best.kv = best.kv := of_eq_true (eq_self _)
    rw [P75_0_eq, e]
    cases hb : best.kv <;> simp (disch := (first | assumption | (simp only [Bool.and_eq_true, Bool.and_eq_false_iff, decide_eq_true_eq, decide_eq_false_iff_not, bne_iff_ne, beq_iff_eq, beq_eq_false_iff_ne, bne_eq_false_iff_eq, Bool.not_eq_true', Bool.not_eq_false', bys_length, List.length_append, List.length_cons, List.length_nil, List.length_map, List.length_drop, List.length_take, Int.natCast_add, wrap_i64_eq, wrap_u64, wrap_u8, ne_eq, not_true_eq_false, not_false_eq_true, Nat.zero_add, Nat.mul_one] <;> omega) | omega | (simp; done) | (simp; omega))) only [↓at_runK, ↓at_bind, ↓contQ_mk, ↓at_ret, ↓at_consK, ↓at_nilK, ↓at_optK, ↓at_intK, ↓at_boolK, ↓at_strK, ↓at_slK, ↓at_slOK, ↓at_slK0, ↓at_slOK0, ↓at_aggK, ↓at_cond_t, ↓at_cond_f, ↓at_sameL, ↓at_any1, ↓at_any, and_self, toBytes_bys, List.nil_append, List.append_nil, ↓at_nodeW, List.drop_zero, List.take_succ_cons, List.take_zero, List.getElem?_cons_succ, List.getElem?_cons_zero, cells_agg, eqCells_cons, eqCells_nil, eq1_int, eq1_bool, eq1_str, ↓at_ptr_whole, ↓at_ptr_cell, ↓at_ptr_obj, ↓at_ptr_objs, shift_obj, shift_elt, toA_val, toA_own, Int.toNat_natCast, List.cons_append, A_nil, isPtr_nilp, isNilp_nilp, told_run, hb, tellK]
  | node k v l r x ihl ihr =>
    intro best n hn hs Q tg
    obtain ⟨n, rfl⟩ : ∃ e, n = e + 1 := ⟨n - 1, by omega⟩
    simp only [Nd.dep] at hn
    rw [Nd.toL_node] at hs ⊢
    obtain ⟨s1, s2, _, _⟩ := hs.mid
    rw [seek_find hs, P75_0_eq]
    by_cases c : blt k s = true
    · have c' : Go.Op.bytesLess k s = true := c
      rw [if_pos c]
      simp (disch := (first | assumption | (simp only [Bool.and_eq_true, Bool.and_eq_false_iff, decide_eq_true_eq, decide_eq_false_iff_not, bne_iff_ne, beq_iff_eq, beq_eq_false_iff_ne, bne_eq_false_iff_eq, Bool.not_eq_true', Bool.not_eq_false', bys_length, List.length_append, List.length_cons, List.length_nil, List.length_map, List.length_drop, List.length_take, Int.natCast_add, wrap_i64_eq, wrap_u64, wrap_u8, ne_eq, not_true_eq_false, not_false_eq_true, Nat.zero_add, Nat.mul_one] <;> omega) | omega | (simp; done) | (simp; omega))) only [↓at_runK, ↓at_bind, ↓contQ_mk, ↓at_ret, ↓at_consK, ↓at_nilK, ↓at_optK, ↓at_intK, ↓at_boolK, ↓at_strK, ↓at_slK, ↓at_slOK, ↓at_slK0, ↓at_slOK0, ↓at_aggK, ↓at_cond_t, ↓at_cond_f, ↓at_sameL, ↓at_any1, ↓at_any, and_self, toBytes_bys, List.nil_append, List.append_nil, ↓at_nodeW, List.drop_zero, List.take_succ_cons, List.take_zero, List.getElem?_cons_succ, List.getElem?_cons_zero, cells_agg, eqCells_cons, eqCells_nil, eq1_int, eq1_bool, eq1_str, ↓at_ptr_whole, ↓at_ptr_cell, ↓at_ptr_obj, ↓at_ptr_objs, shift_obj, shift_elt, toA_val, toA_own, Int.toNat_natCast, List.cons_append, isPtr_A, isNilp_node, Bool.not_false, at_nodeN, c']
      exact ihr best n (by omega) s2 Q ⟨⟩
    · have c' : Go.Op.bytesLess k s = false := by simpa using c
      rw [if_neg c]
      simp (disch := (first | assumption | (simp only [Bool.and_eq_true, Bool.and_eq_false_iff, decide_eq_true_eq, decide_eq_false_iff_not, bne_iff_ne, beq_iff_eq, beq_eq_false_iff_ne, bne_eq_false_iff_eq, Bool.not_eq_true', Bool.not_eq_false', bys_length, List.length_append, List.length_cons, List.length_nil, List.length_map, List.length_drop, List.length_take, Int.natCast_add, wrap_i64_eq, wrap_u64, wrap_u8, ne_eq, not_true_eq_false, not_false_eq_true, Nat.zero_add, Nat.mul_one] <;> omega) | omega | (simp; done) | (simp; omega))) only [↓at_runK, ↓at_bind, ↓contQ_mk, ↓at_ret, ↓at_consK, ↓at_nilK, ↓at_optK, ↓at_intK, ↓at_boolK, ↓at_strK, ↓at_slK, ↓at_slOK, ↓at_slK0, ↓at_slOK0, ↓at_aggK, ↓at_cond_t, ↓at_cond_f, ↓at_sameL, ↓at_any1, ↓at_any, and_self, toBytes_bys, List.nil_append, List.append_nil, ↓at_nodeW, List.drop_zero, List.take_succ_cons, List.take_zero, List.getElem?_cons_succ, List.getElem?_cons_zero, cells_agg, eqCells_cons, eqCells_nil, eq1_int, eq1_bool, eq1_str, ↓at_ptr_whole, ↓at_ptr_cell, ↓at_ptr_obj, ↓at_ptr_objs, shift_obj, shift_elt, toA_val, toA_own, Int.toNat_natCast, List.cons_append, isPtr_A, isNilp_node, Bool.not_false, at_nodeN, c']
      refine (ihl (.node k v l r x) n (by omega) s1 Q ⟨⟩).trans ?_
      cases hl : lseek s l.toL <;> rfl
theorem below_loop (d : Nat) (h : Heap) (s : List UInt8) : ∀ (t best : Nd) (n : Nat), t.dep < n → Srt t.toL → ∀ (Q : Res → Prop) (tg : Hid Q),
    Run (P77_0 (d + 1) n s best.A t.A h) Q tg = Q (tellK ((lbelow s t.toL).or best.kv), h) := by
  intro t
  induction t with
  | nil =>
    intro best n hn _ Q tg
    obtain ⟨n, rfl⟩ : ∃ e, n = e + 1 := ⟨n - 1, by omega⟩
    have e : (lbelow s Nd.nil.toL).or best.kv = best.kv := of_eq_true (eq_self _)
    rw [P77_0_eq, e]
    cases hb : best.kv <;> simp (disch := (first | assumption | (simp only [Bool.and_eq_true, Bool.and_eq_false_iff, decide_eq_true_eq, decide_eq_false_iff_not, bne_iff_ne, beq_iff_eq, beq_eq_false_iff_ne, bne_eq_false_iff_eq, Bool.not_eq_true', Bool.not_eq_false', bys_length, List.length_append, List.length_cons, List.length_nil, List.length_map, List.length_drop, List.length_take, Int.natCast_add, wrap_i64_eq, wrap_u64, wrap_u8, ne_eq, not_true_eq_false, not_false_eq_true, Nat.zero_add, Nat.mul_one] <;> omega) | omega | (simp; done) | (simp; omega))) only [↓at_runK, ↓at_bind, ↓contQ_mk, ↓at_ret, ↓at_consK, ↓at_nilK, ↓at_optK, ↓at_intK, ↓at_boolK, ↓at_strK, ↓at_slK, ↓at_slOK, ↓at_slK0, ↓at_slOK0, ↓at_aggK, ↓at_cond_t, ↓at_cond_f, ↓at_sameL, ↓at_any1, ↓at_any, and_self, toBytes_bys, List.nil_append, List.append_nil, ↓at_nodeW, List.drop_zero, List.take_succ_cons, List.take_zero, List.getElem?_cons_succ, List.getElem?_cons_zero, cells_agg, eqCells_cons, eqCells_nil, eq1_int, eq1_bool, eq1_str, ↓at_ptr_whole, ↓at_ptr_cell, ↓at_ptr_obj, ↓at_ptr_objs, shift_obj, shift_elt, toA_val, toA_own, Int.toNat_natCast, List.cons_append, A_nil, isPtr_nilp, isNilp_nilp, told_run, hb, tellK]
  | node k v l r x ihl ihr =>
    intro best n hn hs Q tg
    obtain ⟨n, rfl⟩ : ∃ e, n = e + 1 := ⟨n - 1, by omega⟩
    simp only [Nd.dep] at hn
    rw [Nd.toL_node] at hs ⊢
    obtain ⟨s1, s2, _, _⟩ := hs.mid
    rw [below_last hs, P77_0_eq]
    by_cases c : blt k s = true
    · have c' : Go.Op.bytesLess k s = true := c
      rw [if_pos c]
      simp (disch := (first | assumption | (simp only [Bool.and_eq_true, Bool.and_eq_false_iff, decide_eq_true_eq, decide_eq_false_iff_not, bne_iff_ne, beq_iff_eq, beq_eq_false_iff_ne, bne_eq_false_iff_eq, Bool.not_eq_true', Bool.not_eq_false', bys_length, List.length_append, List.length_cons, List.length_nil, List.length_map, List.length_drop, List.length_take, Int.natCast_add, wrap_i64_eq, wrap_u64, wrap_u8, ne_eq, not_true_eq_false, not_false_eq_true, Nat.zero_add, Nat.mul_one] <;> omega) | omega | (simp; done) | (simp; omega))) only [↓at_runK, ↓at_bind, ↓contQ_mk, ↓at_ret, ↓at_consK, ↓at_nilK, ↓at_optK, ↓at_intK, ↓at_boolK, ↓at_strK, ↓at_slK, ↓at_slOK, ↓at_slK0, ↓at_slOK0, ↓at_aggK, ↓at_cond_t, ↓at_cond_f, ↓at_sameL, ↓at_any1, ↓at_any, and_self, toBytes_bys, List.nil_append, List.append_nil, ↓at_nodeW, List.drop_zero, List.take_succ_cons, List.take_zero, List.getElem?_cons_succ, List.getElem?_cons_zero, cells_agg, eqCells_cons, eqCells_nil, eq1_int, eq1_bool, eq1_str, ↓at_ptr_whole, ↓at_ptr_cell, ↓at_ptr_obj, ↓at_ptr_objs, shift_obj, shift_elt, toA_val, toA_own, Int.toNat_natCast, List.cons_append, isPtr_A, isNilp_node, Bool.not_false, at_nodeN, c']
      refine (ihr (.node k v l r x) n (by omega) s2 Q ⟨⟩).trans ?_
      cases hl : lbelow s r.toL <;> rfl
    · have c' : Go.Op.bytesLess k s = false := by simpa using c
      rw [if_neg c]
      simp (disch := (first | assumption | (simp only [Bool.and_eq_true, Bool.and_eq_false_iff, decide_eq_true_eq, decide_eq_false_iff_not, bne_iff_ne, beq_iff_eq, beq_eq_false_iff_ne, bne_eq_false_iff_eq, Bool.not_eq_true', Bool.not_eq_false', bys_length, List.length_append, List.length_cons, List.length_nil, List.length_map, List.length_drop, List.length_take, Int.natCast_add, wrap_i64_eq, wrap_u64, wrap_u8, ne_eq, not_true_eq_false, not_false_eq_true, Nat.zero_add, Nat.mul_one] <;> omega) | omega | (simp; done) | (simp; omega))) only [↓at_runK, ↓at_bind, ↓contQ_mk, ↓at_ret, ↓at_consK, ↓at_nilK, ↓at_optK, ↓at_intK, ↓at_boolK, ↓at_strK, ↓at_slK, ↓at_slOK, ↓at_slK0, ↓at_slOK0, ↓at_aggK, ↓at_cond_t, ↓at_cond_f, ↓at_sameL, ↓at_any1, ↓at_any, and_self, toBytes_bys, List.nil_append, List.append_nil, ↓at_nodeW, List.drop_zero, List.take_succ_cons, List.take_zero, List.getElem?_cons_succ, List.getElem?_cons_zero, cells_agg, eqCells_cons, eqCells_nil, eq1_int, eq1_bool, eq1_str, ↓at_ptr_whole, ↓at_ptr_cell, ↓at_ptr_obj, ↓at_ptr_objs, shift_obj, shift_elt, toA_val, toA_own, Int.toNat_natCast, List.cons_append, isPtr_A, isNilp_node, Bool.not_false, at_nodeN, c']
      exact ihl best n (by omega) s1 Q ⟨⟩
end Go.Proofs.Ytdlcjibefbnckaa.Wa
