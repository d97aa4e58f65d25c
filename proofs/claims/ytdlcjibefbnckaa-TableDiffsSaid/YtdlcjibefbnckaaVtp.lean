/- TableApplies. -/
import Derived.Test.YtdlcjibefbnckaaVtn
namespace Go.Proofs.Ytdlcjibefbnckaa.Wa
open Go Go.Weave
set_option maxRecDepth 100000
set_option linter.unusedSimpArgs false
set_option linter.unusedVariables false
set_option linter.unusedSectionVars false

theorem eqLB_self (l : List KPair) : eqLB l l = true := eqLB_iff.2 rfl
theorem filter_snoc (ops : List KOp) {j : Nat} (h : j < ops.length) : (ops.take (j + 1)).filter rightO = (ops.take j).filter rightO ++ (if rightO ops[j] then [ops[j]] else []) := by
  rw [List.take_succ_eq_append_getElem h, List.filter_append, List.filter_cons, List.filter_nil]
theorem tapplies_loop (d i ti : Nat) (t : Nd) (f : Bool) (ops : List KOp) (ho : ops.length ≤ 200) (ht : t.toL = aps [] ops) : ∀ (n j k : Nat) (h : Heap), IsTab h i ti t → ops.length = j + n → n < k →
    ∃ h', ∀ (Q : Res → Prop) (tg : Hid Q), Run (P4_0 (d + 1030) k f (kops ops) (.obj i 0) (kops ((ops.take j).filter rightO)) j h) Q tg = Q ([.bool true], h') := by
  intro n
  induction n with
  | zero =>
    intro j k h T hj hk
    obtain ⟨k, rfl⟩ : ∃ m, k = m + 1 := ⟨k - 1, by omega⟩
    have he : ops.take j = ops := List.take_of_length_le (by omega)
    have hgl : (ops.filter rightO).length ≤ 200 := Nat.le_trans (List.length_filter_le _ _) ho
    have hll : (lastL (ops.filter rightO)).length ≤ 200 := by have := lastL_len (ops.filter rightO) []; unfold lastL; simp only [List.length_nil] at this; omega
    obtain ⟨E1, U⟩ := tabnew_is h
    have li := Heap.lt_of T.tb
    have lt := Heap.lt_of T.tr
    obtain ⟨u', U', hU, ru⟩ := tabapply_run (d + 9) (h.objs.length + 1) h.objs.length false (lastL (ops.filter rightO)) .nil _ U (by have e : Nd.nil.toL.length = 0 := rfl; omega)
    have T2 := (T.ext E1).far (u := u') (j := h.objs.length + 1) (tj := h.objs.length) (by omega) (by omega) (by omega) (by omega)
    obtain ⟨h3, E3, r3⟩ := tabsame_run (d + 1021) i ti (h.objs.length + 1) h.objs.length t u' _ T2 U'
    have eq : eqLB t.toL u'.toL = true := by
      rw [eqLB_iff, ht, hU]
      exact (aps_last ops).symm
    rw [eq] at r3
    obtain ⟨h4, E4, r4⟩ := awake33_run (d + 8) h3
    have rl := fun (h : Heap) (Q : Res → Prop) (tg : Hid Q) => rlast_run (d := d + 1029) (f := false) (ops := ops.filter rightO) (h := h) (Q := Q) (tg := tg) (by omega)
    refine ⟨h4, fun Q tg => ?_⟩
    rw [P4_0_eq, he]
    simp (disch := (first | assumption | (simp only [Bool.and_eq_true, Bool.and_eq_false_iff, decide_eq_true_eq, decide_eq_false_iff_not, bne_iff_ne, beq_iff_eq, beq_eq_false_iff_ne, bne_eq_false_iff_eq, Bool.not_eq_true', Bool.not_eq_false', bys_length, List.length_append, List.length_cons, List.length_nil, List.length_map, List.length_drop, List.length_take, Int.natCast_add, wrap_i64_eq, wrap_u64, wrap_u8, ne_eq, not_true_eq_false, not_false_eq_true, Nat.zero_add, Nat.mul_one] <;> omega) | omega | (simp; done) | (simp; omega))) only [↓at_runK, ↓at_bind, ↓contQ_mk, ↓at_ret, ↓at_consK, ↓at_nilK, ↓at_optK, ↓at_intK, ↓at_boolK, ↓at_strK, ↓at_slK, ↓at_slOK, ↓at_slK0, ↓at_slOK0, ↓at_aggK, ↓at_cond_t, ↓at_cond_f, ↓at_sameL, ↓at_any1, ↓at_any, and_self, toBytes_bys, List.nil_append, List.append_nil, ↓at_nodeW, List.drop_zero, List.take_succ_cons, List.take_zero, List.getElem?_cons_succ, List.getElem?_cons_zero, cells_agg, eqCells_cons, eqCells_nil, eq1_int, eq1_bool, eq1_str, ↓at_ptr_whole, ↓at_ptr_cell, ↓at_ptr_obj, ↓at_ptr_objs, shift_obj, shift_elt, toA_val, toA_own, Int.toNat_natCast, List.cons_append, kops_length, tabnew_run, rl, ru, r3, r4]
  | succ n ih =>
    intro j k h T hj hk
    obtain ⟨k, rfl⟩ : ∃ m, k = m + 1 := ⟨k - 1, by omega⟩
    have h1 : j < ops.length := by omega
    have e1 := succ_wrap (i := j) (by omega)
    have hgl : ((ops.take j).filter rightO).length ≤ 200 := Nat.le_trans (List.length_filter_le _ _) (by rw [List.length_take]; omega)
    obtain ⟨h', r⟩ := ih (j + 1) k h T (by omega) (by omega)
    rw [filter_snoc ops h1] at r
    refine ⟨h', fun Q tg => ?_⟩
    rw [P4_0_eq]
    cases hr : rightO ops[j]
    · rw [hr] at r
      simp only [Bool.false_eq_true, if_false, List.append_nil] at r
      simp (disch := (first | assumption | (simp only [Bool.and_eq_true, Bool.and_eq_false_iff, decide_eq_true_eq, decide_eq_false_iff_not, bne_iff_ne, beq_iff_eq, beq_eq_false_iff_ne, bne_eq_false_iff_eq, Bool.not_eq_true', Bool.not_eq_false', bys_length, List.length_append, List.length_cons, List.length_nil, List.length_map, List.length_drop, List.length_take, Int.natCast_add, wrap_i64_eq, wrap_u64, wrap_u8, ne_eq, not_true_eq_false, not_false_eq_true, Nat.zero_add, Nat.mul_one] <;> omega) | omega | (simp; done) | (simp; omega))) only [↓at_runK, ↓at_bind, ↓contQ_mk, ↓at_ret, ↓at_consK, ↓at_nilK, ↓at_optK, ↓at_intK, ↓at_boolK, ↓at_strK, ↓at_slK, ↓at_slOK, ↓at_slK0, ↓at_slOK0, ↓at_aggK, ↓at_cond_t, ↓at_cond_f, ↓at_sameL, ↓at_any1, ↓at_any, and_self, toBytes_bys, List.nil_append, List.append_nil, ↓at_nodeW, List.drop_zero, List.take_succ_cons, List.take_zero, List.getElem?_cons_succ, List.getElem?_cons_zero, cells_agg, eqCells_cons, eqCells_nil, eq1_int, eq1_bool, eq1_str, ↓at_ptr_whole, ↓at_ptr_cell, ↓at_ptr_obj, ↓at_ptr_objs, shift_obj, shift_elt, toA_val, toA_own, Int.toNat_natCast, List.cons_append, kops_length, kops_getD h1, r10right_run, hr, e1, r]
    · rw [hr, if_pos rfl, ← kops_snoc] at r
      simp (disch := (first | assumption | (simp only [Bool.and_eq_true, Bool.and_eq_false_iff, decide_eq_true_eq, decide_eq_false_iff_not, bne_iff_ne, beq_iff_eq, beq_eq_false_iff_ne, bne_eq_false_iff_eq, Bool.not_eq_true', Bool.not_eq_false', bys_length, List.length_append, List.length_cons, List.length_nil, List.length_map, List.length_drop, List.length_take, Int.natCast_add, wrap_i64_eq, wrap_u64, wrap_u8, ne_eq, not_true_eq_false, not_false_eq_true, Nat.zero_add, Nat.mul_one] <;> omega) | omega | (simp; done) | (simp; omega))) only [↓at_runK, ↓at_bind, ↓contQ_mk, ↓at_ret, ↓at_consK, ↓at_nilK, ↓at_optK, ↓at_intK, ↓at_boolK, ↓at_strK, ↓at_slK, ↓at_slOK, ↓at_slK0, ↓at_slOK0, ↓at_aggK, ↓at_cond_t, ↓at_cond_f, ↓at_sameL, ↓at_any1, ↓at_any, and_self, toBytes_bys, List.nil_append, List.append_nil, ↓at_nodeW, List.drop_zero, List.take_succ_cons, List.take_zero, List.getElem?_cons_succ, List.getElem?_cons_zero, cells_agg, eqCells_cons, eqCells_nil, eq1_int, eq1_bool, eq1_str, ↓at_ptr_whole, ↓at_ptr_cell, ↓at_ptr_obj, ↓at_ptr_objs, shift_obj, shift_elt, toA_val, toA_own, Int.toNat_natCast, List.cons_append, kops_length, kops_getD h1, r10right_run, hr, e1, r]
theorem rng_len {fr to : List UInt8} {most : Int} : ∀ (l acc : List KPair), (rngR fr to most l acc).length ≤ acc.length + l.length := by
  intro l
  induction l with
  | nil => intro acc; exact Nat.le_refl _
  | cons p l ih =>
    intro acc
    unfold rngR
    have h1 := ih (acc ++ [p])
    have h2 := ih acc
    simp only [List.length_append, List.length_cons, List.length_nil] at h1 ⊢
    split
    · split <;> omega
    · omega
/-- TableApplies. -/
theorem tapplies_true (l : List KOp) (a b : List UInt8) (most : Int) (h : Heap) : ∃ d h', Ans (evFn Cw d 4 [.sl false 4 (kops l), .agg [.str a, .str b], .int .i64 most] h) ([.bool true], h') := by
  by_cases hl : l.length ≤ 200
  · obtain ⟨E1, T⟩ := tabnew_is h
    obtain ⟨t, T1, ht, ra⟩ := tabapply_run 9 (h.objs.length + 1) h.objs.length false l .nil _ T (by have e : Nd.nil.toL.length = 0 := rfl; omega)
    have ht' : t.toL = aps [] l := ht
    generalize hh1 : tabH ((h.push (trT .nil)).push (tabO h.objs.length 0)) (h.objs.length + 1) h.objs.length t = h1 at T1 ra
    obtain ⟨v, hv, rv⟩ := rapplyn_run 1027 false l (by omega) h1
    rw [← ht'] at hv
    obtain ⟨fl, hsl⟩ := isSl_slK hv
    have rg := fun (Q : Res → Prop) (tg : Hid Q) => tabget_run (d := 1026) (s := a) (Q := Q) (tg := tg) T1
    have rl := fun (Q : Res → Prop) (tg : Hid Q) => tablen_run (d := 1028) (Q := Q) (tg := tg) T1
    have rb := fun (Q : Res → Prop) (tg : Hid Q) => tabbytes_run (d := 1029) (Q := Q) (tg := tg) T1
    have htl := T1.ok.len
    have rrb := fun (h : Heap) (Q : Res → Prop) (tg : Hid Q) => rbytes_run (d := 1029) (f := fl) (l := t.toL) (h := h) (Q := Q) (tg := tg) htl T1.kv
    obtain ⟨h2, E2, rp⟩ := tabpairs_run 1023 _ _ t _ T1
    obtain ⟨h3, E3, rr⟩ := tabrange_run 1024 _ _ t a b most _ (T1.ext E2)
    obtain ⟨h4, r4⟩ := tapplies_loop 0 _ _ t false l hl ht' l.length 0 rounds h3 ((T1.ext E2).ext E3) (by omega) (rounds_gt' (by omega))
    rw [List.take_zero, List.filter_nil, kops_nil, e0] at r4
    have hR : (rngR a b most t.toL []).length ≤ 1000 := by have := rng_len (fr := a) (to := b) (most := most) t.toL []; simp only [List.length_nil] at this; omega
    have rs := fun (h : Heap) (Q : Res → Prop) (tg : Hid Q) => same31_run (d := 1029) (f := false) (g := fl) (l := t.toL) (h := h) (Q := Q) (tg := tg) (by omega)
    have rs2 := fun (h : Heap) (Q : Res → Prop) (tg : Hid Q) => same31_run (d := 1029) (f := false) (g := false) (l := rngR a b most t.toL []) (h := h) (Q := Q) (tg := tg) (by omega)
    have rq := fun (h : Heap) (Q : Res → Prop) (tg : Hid Q) => rget31_run (d := 1029) (f := fl) (l := t.toL) (s := a) (h := h) (Q := Q) (tg := tg) (by omega)
    have rq2 := fun (h : Heap) (Q : Res → Prop) (tg : Hid Q) => rrange_run (d := 1029) (f := fl) (l := t.toL) (fr := a) (to := b) (most := most) (h := h) (Q := Q) (tg := tg) (by omega)
    have bb : ∀ b : Bool, (b == b) = true := fun b => by simp
    have bi : ∀ x : Int, (x != x) = false := fun b => by simp
    refine ⟨0 + 1030 + 1, h4, Run.ans ?_⟩
    rw [F4_eq]
    simp (disch := (first | assumption | (simp only [Bool.and_eq_true, Bool.and_eq_false_iff, decide_eq_true_eq, decide_eq_false_iff_not, bne_iff_ne, beq_iff_eq, beq_eq_false_iff_ne, bne_eq_false_iff_eq, Bool.not_eq_true', Bool.not_eq_false', bys_length, List.length_append, List.length_cons, List.length_nil, List.length_map, List.length_drop, List.length_take, Int.natCast_add, wrap_i64_eq, wrap_u64, wrap_u8, ne_eq, not_true_eq_false, not_false_eq_true, Nat.zero_add, Nat.mul_one] <;> omega) | omega | (simp; done) | (simp; omega))) only [↓at_runK, ↓at_bind, ↓contQ_mk, ↓at_ret, ↓at_consK, ↓at_nilK, ↓at_optK, ↓at_intK, ↓at_boolK, ↓at_strK, ↓at_slK, ↓at_slOK, ↓at_slK0, ↓at_slOK0, ↓at_aggK, ↓at_cond_t, ↓at_cond_f, ↓at_sameL, ↓at_any1, ↓at_any, and_self, toBytes_bys, List.nil_append, List.append_nil, ↓at_nodeW, List.drop_zero, List.take_succ_cons, List.take_zero, List.getElem?_cons_succ, List.getElem?_cons_zero, cells_agg, eqCells_cons, eqCells_nil, eq1_int, eq1_bool, eq1_str, ↓at_ptr_whole, ↓at_ptr_cell, ↓at_ptr_obj, ↓at_ptr_objs, shift_obj, shift_elt, toA_val, toA_own, Int.toNat_natCast, List.cons_append, kops_length, tabnew_run, ra, hh1, rv, hsl, rg, rq, bi, str_beq_self, bb, Bool.not_true, rl, prs_length, rb, rrb, rp, rs, rr, rq2, rs2, r4]
  · obtain ⟨h', _, r⟩ := awake33_run 9 h
    refine ⟨9 + 1022 + 1, h', Run.ans ?_⟩
    rw [F4_eq]
    simp (disch := (first | assumption | (simp only [Bool.and_eq_true, Bool.and_eq_false_iff, decide_eq_true_eq, decide_eq_false_iff_not, bne_iff_ne, beq_iff_eq, beq_eq_false_iff_ne, bne_eq_false_iff_eq, Bool.not_eq_true', Bool.not_eq_false', bys_length, List.length_append, List.length_cons, List.length_nil, List.length_map, List.length_drop, List.length_take, Int.natCast_add, wrap_i64_eq, wrap_u64, wrap_u8, ne_eq, not_true_eq_false, not_false_eq_true, Nat.zero_add, Nat.mul_one] <;> omega) | omega | (simp; done) | (simp; omega))) only [↓at_runK, ↓at_bind, ↓contQ_mk, ↓at_ret, ↓at_consK, ↓at_nilK, ↓at_optK, ↓at_intK, ↓at_boolK, ↓at_strK, ↓at_slK, ↓at_slOK, ↓at_slK0, ↓at_slOK0, ↓at_aggK, ↓at_cond_t, ↓at_cond_f, ↓at_sameL, ↓at_any1, ↓at_any, and_self, toBytes_bys, List.nil_append, List.append_nil, ↓at_nodeW, List.drop_zero, List.take_succ_cons, List.take_zero, List.getElem?_cons_succ, List.getElem?_cons_zero, cells_agg, eqCells_cons, eqCells_nil, eq1_int, eq1_bool, eq1_str, ↓at_ptr_whole, ↓at_ptr_cell, ↓at_ptr_obj, ↓at_ptr_objs, shift_obj, shift_elt, toA_val, toA_own, Int.toNat_natCast, List.cons_append, kops_length, r]
end Go.Proofs.Ytdlcjibefbnckaa.Wa
