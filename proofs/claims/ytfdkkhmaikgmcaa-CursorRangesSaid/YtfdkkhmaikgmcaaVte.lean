/- TreePlays. -/
import Derived.Test.YtfdkkhmaikgmcaaVtd
namespace Go.Proofs.Ytfdkkhmaikgmcaa.Wa
open Go Go.Weave
set_option maxRecDepth 100000
set_option linter.unusedSimpArgs false
set_option linter.unusedVariables false
set_option linter.unusedSectionVars false

def kops (l : List KOp) : List AVal := l.map fun x => KOp.A x
theorem kops_length (l : List KOp) : (kops l).length = l.length := by simp [kops]
theorem kops_getD {l : List KOp} {i : Nat} (h : i < l.length) : (kops l).getD i AVal.undef = .agg [.int .i64 l[i].kind, .str l[i].key, .str l[i].val] := by simp [kops, h, KOp.A, KOp.C]
def strs (l : List (List UInt8)) : List AVal := l.map fun x => AVal.str x
theorem strs_length (l : List (List UInt8)) : (strs l).length = l.length := by simp [strs]
theorem strs_getD {l : List (List UInt8)} {i : Nat} (h : i < l.length) : (strs l).getD i AVal.undef = .str l[i] := by simp [strs, h]
theorem ldel_len_le (k : List UInt8) (l : List KPair) : (ldel k l).length ≤ l.length := List.length_filter_le _ _
theorem lput_len_le {k v : List UInt8} {l : List KPair} (hs : Srt l) : (lput k v l).length ≤ l.length + 1 := by
  cases h : (lget k l).isSome
  · rw [lput_len_new hs h]; omega
  · rw [lput_len_old hs h]; omega
theorem plays2_loop (d i : Nat) (keys : List (List UInt8)) (f : Bool) (hk : keys.length ≤ 100) (t : Nd) (ok : TOk' t) : ∀ (n j k : Nat) (h : Heap), keys.length = j + n → n < k → h.objs[i]? = some (trT t) →
    ∃ h', ∀ (Q : Res → Prop) (tg : Hid Q), Run (P10_2 (d + 1030) k f (strs keys) (.obj i 0) (prs t.toL) j h) Q tg = Q ([.bool true], h') := by
  intro n
  induction n with
  | zero =>
    intro j k h hj hk hm
    obtain ⟨k, rfl⟩ : ∃ m, k = m + 1 := ⟨k - 1, by omega⟩
    obtain ⟨h', r⟩ := awake31_run (d + 9) h
    refine ⟨h', fun Q tg => ?_⟩
    rw [P10_2_eq]
    simp (disch := (first | assumption | (simp only [Bool.and_eq_true, Bool.and_eq_false_iff, decide_eq_true_eq, decide_eq_false_iff_not, bne_iff_ne, beq_iff_eq, beq_eq_false_iff_ne, bne_eq_false_iff_eq, Bool.not_eq_true', Bool.not_eq_false', bys_length, List.length_append, List.length_cons, List.length_nil, List.length_map, List.length_drop, List.length_take, Int.natCast_add, wrap_i64_eq, wrap_u64, wrap_u8, ne_eq, not_true_eq_false, not_false_eq_true, Nat.zero_add, Nat.mul_one] <;> omega) | omega | (simp; done) | (simp; omega))) only [↓at_runK, ↓at_bind, ↓contQ_mk, ↓at_ret, ↓at_consK, ↓at_nilK, ↓at_optK, ↓at_intK, ↓at_boolK, ↓at_strK, ↓at_slK, ↓at_slOK, ↓at_slK0, ↓at_slOK0, ↓at_aggK, ↓at_cond_t, ↓at_cond_f, ↓at_sameL, ↓at_any1, ↓at_any, and_self, toBytes_bys, List.nil_append, List.append_nil, ↓at_nodeW, List.drop_zero, List.take_succ_cons, List.take_zero, List.getElem?_cons_succ, List.getElem?_cons_zero, cells_agg, eqCells_cons, eqCells_nil, eq1_int, eq1_bool, eq1_str, ↓at_ptr_whole, ↓at_ptr_cell, ↓at_ptr_obj, ↓at_ptr_objs, shift_obj, shift_elt, toA_val, toA_own, Int.toNat_natCast, List.cons_append, strs_length, r]
  | succ n ih =>
    intro j k h hj hk hm
    obtain ⟨k, rfl⟩ : ∃ m, k = m + 1 := ⟨k - 1, by omega⟩
    have h1 : j < keys.length := by omega
    have e1 := succ_wrap (i := j) (by omega)
    obtain ⟨h2, E, rs⟩ := same_t_run (d := d + 1030) (f := false) (s := keys[j]) ok hm (by omega)
    obtain ⟨h', r⟩ := ih (j + 1) k h2 (by omega) (by omega) (E.get hm)
    refine ⟨h', fun Q tg => ?_⟩
    rw [P10_2_eq]
    simp (disch := (first | assumption | (simp only [Bool.and_eq_true, Bool.and_eq_false_iff, decide_eq_true_eq, decide_eq_false_iff_not, bne_iff_ne, beq_iff_eq, beq_eq_false_iff_ne, bne_eq_false_iff_eq, Bool.not_eq_true', Bool.not_eq_false', bys_length, List.length_append, List.length_cons, List.length_nil, List.length_map, List.length_drop, List.length_take, Int.natCast_add, wrap_i64_eq, wrap_u64, wrap_u8, ne_eq, not_true_eq_false, not_false_eq_true, Nat.zero_add, Nat.mul_one] <;> omega) | omega | (simp; done) | (simp; omega))) only [↓at_runK, ↓at_bind, ↓contQ_mk, ↓at_ret, ↓at_consK, ↓at_nilK, ↓at_optK, ↓at_intK, ↓at_boolK, ↓at_strK, ↓at_slK, ↓at_slOK, ↓at_slK0, ↓at_slOK0, ↓at_aggK, ↓at_cond_t, ↓at_cond_f, ↓at_sameL, ↓at_any1, ↓at_any, and_self, toBytes_bys, List.nil_append, List.append_nil, ↓at_nodeW, List.drop_zero, List.take_succ_cons, List.take_zero, List.getElem?_cons_succ, List.getElem?_cons_zero, cells_agg, eqCells_cons, eqCells_nil, eq1_int, eq1_bool, eq1_str, ↓at_ptr_whole, ↓at_ptr_cell, ↓at_ptr_obj, ↓at_ptr_objs, shift_obj, shift_elt, toA_val, toA_own, Int.toNat_natCast, List.cons_append, strs_length, strs_getD h1, rs, Bool.not_true, e1, r]
theorem plays_loop (d i : Nat) (l : List KOp) (keys : List (List UInt8)) (f g : Bool) (hl : l.length ≤ 100) (hk : keys.length ≤ 100) : ∀ (n j k : Nat) (t : Nd) (h : Heap), TOk' t → t.toL.length ≤ j → l.length = j + n → n < k → h.objs[i]? = some (trT t) →
    ∃ h', ∀ (Q : Res → Prop) (tg : Hid Q), Run (P10_0 (d + 1030) k f (kops l) g (strs keys) (.obj i 0) (prs t.toL) j h) Q tg = Q ([.bool true], h') := by
  intro n
  induction n with
  | zero =>
    intro j k t h ok hlen hj hk hm
    obtain ⟨k, rfl⟩ : ∃ m, k = m + 1 := ⟨k - 1, by omega⟩
    obtain ⟨h', r⟩ := plays2_loop d i keys g (by omega) t ok keys.length 0 rounds h (by omega) (rounds_gt' (by omega)) hm
    rw [e0] at r
    refine ⟨h', fun Q tg => ?_⟩
    rw [P10_0_eq]
    simp (disch := (first | assumption | (simp only [Bool.and_eq_true, Bool.and_eq_false_iff, decide_eq_true_eq, decide_eq_false_iff_not, bne_iff_ne, beq_iff_eq, beq_eq_false_iff_ne, bne_eq_false_iff_eq, Bool.not_eq_true', Bool.not_eq_false', bys_length, List.length_append, List.length_cons, List.length_nil, List.length_map, List.length_drop, List.length_take, Int.natCast_add, wrap_i64_eq, wrap_u64, wrap_u8, ne_eq, not_true_eq_false, not_false_eq_true, Nat.zero_add, Nat.mul_one] <;> omega) | omega | (simp; done) | (simp; omega))) only [↓at_runK, ↓at_bind, ↓contQ_mk, ↓at_ret, ↓at_consK, ↓at_nilK, ↓at_optK, ↓at_intK, ↓at_boolK, ↓at_strK, ↓at_slK, ↓at_slOK, ↓at_slK0, ↓at_slOK0, ↓at_aggK, ↓at_cond_t, ↓at_cond_f, ↓at_sameL, ↓at_any1, ↓at_any, and_self, toBytes_bys, List.nil_append, List.append_nil, ↓at_nodeW, List.drop_zero, List.take_succ_cons, List.take_zero, List.getElem?_cons_succ, List.getElem?_cons_zero, cells_agg, eqCells_cons, eqCells_nil, eq1_int, eq1_bool, eq1_str, ↓at_ptr_whole, ↓at_ptr_cell, ↓at_ptr_obj, ↓at_ptr_objs, shift_obj, shift_elt, toA_val, toA_own, Int.toNat_natCast, List.cons_append, kops_length, r]
  | succ n ih =>
    intro j k t h ok hlen hj hk hm
    obtain ⟨k, rfl⟩ : ∃ m, k = m + 1 := ⟨k - 1, by omega⟩
    have h1 : j < l.length := by omega
    have e1 := succ_wrap (i := j) (by omega)
    have bb : ∀ b : Bool, (b == b) = true := fun b => by simp
    by_cases c : l[j].kind = 2
    · have c' : (l[j].kind == 2) = true := by simp [c]
      have rd := fun (Q : Res → Prop) (tg : Hid Q) => tdel_run (d := d + 1030) (k := l[j].key) (Q := Q) (tg := tg) ok hm (by omega)
      obtain ⟨t', ok', hL, hT⟩ : ∃ t', TOk' t' ∧ t'.toL = ldel l[j].key t.toL ∧ (if (lget l[j].key t.toL).isSome then t.without l[j].key else t) = t' := by
        cases hg : (lget l[j].key t.toL).isSome
        · exact ⟨t, ok, (ldel_none (lget_none hg)).symm, by simp⟩
        · obtain ⟨a, b⟩ := ok.del hg
          exact ⟨_, a, b, by simp⟩
      rw [hT] at rd
      have hm' : (h.put i (trT t')).objs[i]? = some (trT t') := Heap.put_get hm
      obtain ⟨h2, E, rs⟩ := same_t_run (d := d + 1030) (f := false) (s := l[j].key) ok' hm' (by omega)
      have hlen' : t'.toL.length ≤ j + 1 := by rw [hL]; have := ldel_len_le l[j].key t.toL; omega
      obtain ⟨h', r⟩ := ih (j + 1) k t' h2 ok' hlen' (by omega) (by omega) (E.get hm')
      rw [hL] at rs r
      refine ⟨h', fun Q tg => ?_⟩
      rw [P10_0_eq]
      simp (disch := (first | assumption | (simp only [Bool.and_eq_true, Bool.and_eq_false_iff, decide_eq_true_eq, decide_eq_false_iff_not, bne_iff_ne, beq_iff_eq, beq_eq_false_iff_ne, bne_eq_false_iff_eq, Bool.not_eq_true', Bool.not_eq_false', bys_length, List.length_append, List.length_cons, List.length_nil, List.length_map, List.length_drop, List.length_take, Int.natCast_add, wrap_i64_eq, wrap_u64, wrap_u8, ne_eq, not_true_eq_false, not_false_eq_true, Nat.zero_add, Nat.mul_one] <;> omega) | omega | (simp; done) | (simp; omega))) only [↓at_runK, ↓at_bind, ↓contQ_mk, ↓at_ret, ↓at_consK, ↓at_nilK, ↓at_optK, ↓at_intK, ↓at_boolK, ↓at_strK, ↓at_slK, ↓at_slOK, ↓at_slK0, ↓at_slOK0, ↓at_aggK, ↓at_cond_t, ↓at_cond_f, ↓at_sameL, ↓at_any1, ↓at_any, and_self, toBytes_bys, List.nil_append, List.append_nil, ↓at_nodeW, List.drop_zero, List.take_succ_cons, List.take_zero, List.getElem?_cons_succ, List.getElem?_cons_zero, cells_agg, eqCells_cons, eqCells_nil, eq1_int, eq1_bool, eq1_str, ↓at_ptr_whole, ↓at_ptr_cell, ↓at_ptr_obj, ↓at_ptr_objs, shift_obj, shift_elt, toA_val, toA_own, Int.toNat_natCast, List.cons_append, kops_length, kops_getD h1, rget31_run, c', rd, rdel31_run, P10_1_eq, str_beq_self, bb, Bool.not_true, rs, e1, r]
    · have c' : (l[j].kind == 2) = false := by simpa using c
      have rd := fun (Q : Res → Prop) (tg : Hid Q) => tput_run (d := d + 1030) (k := l[j].key) (v := l[j].val) (Q := Q) (tg := tg) ok (by omega) hm (by omega)
      obtain ⟨ok', hL⟩ := ok.put l[j].key l[j].val (by omega)
      have hm' : (h.put i (trT (t.put l[j].key l[j].val))).objs[i]? = some (trT (t.put l[j].key l[j].val)) := Heap.put_get hm
      obtain ⟨h2, E, rs⟩ := same_t_run (d := d + 1030) (f := false) (s := l[j].key) ok' hm' (by omega)
      have hlen' : (t.put l[j].key l[j].val).toL.length ≤ j + 1 := by rw [hL]; have := lput_len_le (k := l[j].key) (v := l[j].val) ok.srt; omega
      obtain ⟨h', r⟩ := ih (j + 1) k _ h2 ok' hlen' (by omega) (by omega) (E.get hm')
      rw [hL] at rs r
      have hsr := ok.srt
      refine ⟨h', fun Q tg => ?_⟩
      rw [P10_0_eq]
      simp (disch := (first | assumption | (simp only [Bool.and_eq_true, Bool.and_eq_false_iff, decide_eq_true_eq, decide_eq_false_iff_not, bne_iff_ne, beq_iff_eq, beq_eq_false_iff_ne, bne_eq_false_iff_eq, Bool.not_eq_true', Bool.not_eq_false', bys_length, List.length_append, List.length_cons, List.length_nil, List.length_map, List.length_drop, List.length_take, Int.natCast_add, wrap_i64_eq, wrap_u64, wrap_u8, ne_eq, not_true_eq_false, not_false_eq_true, Nat.zero_add, Nat.mul_one] <;> omega) | omega | (simp; done) | (simp; omega))) only [↓at_runK, ↓at_bind, ↓contQ_mk, ↓at_ret, ↓at_consK, ↓at_nilK, ↓at_optK, ↓at_intK, ↓at_boolK, ↓at_strK, ↓at_slK, ↓at_slOK, ↓at_slK0, ↓at_slOK0, ↓at_aggK, ↓at_cond_t, ↓at_cond_f, ↓at_sameL, ↓at_any1, ↓at_any, and_self, toBytes_bys, List.nil_append, List.append_nil, ↓at_nodeW, List.drop_zero, List.take_succ_cons, List.take_zero, List.getElem?_cons_succ, List.getElem?_cons_zero, cells_agg, eqCells_cons, eqCells_nil, eq1_int, eq1_bool, eq1_str, ↓at_ptr_whole, ↓at_ptr_cell, ↓at_ptr_obj, ↓at_ptr_objs, shift_obj, shift_elt, toA_val, toA_own, Int.toNat_natCast, List.cons_append, kops_length, kops_getD h1, rget31_run, c', rd, rput31_run, P10_1_eq, str_beq_self, bb, Bool.not_true, rs, e1, r]
/-- TreePlays. -/
theorem tplays_true (l : List KOp) (keys : List (List UInt8)) (h : Heap) : ∃ d h', Ans (evFn Cw d 10 [.sl false 4 (kops l), .sl false 0 (strs keys)] h) ([.bool true], h') := by
  by_cases hl : l.length ≤ 100
  · by_cases hk : keys.length ≤ 100
    · obtain ⟨h', r⟩ := plays_loop 0 h.objs.length l keys false false hl hk l.length 0 rounds .nil (h.push (trT .nil)) ⟨trivial, List.Pairwise.nil, by simp [Nd.toL]⟩ (Nat.le_refl _) (by omega) (rounds_gt' (by omega)) (Heap.push_new h _)
      have hn : prs Nd.nil.toL = [] := of_eq_true (eq_self _)
      rw [e0, hn] at r
      refine ⟨0 + 1030 + 1, h', Run.ans ?_⟩
      rw [F10_eq]
      simp (disch := (first | assumption | (simp only [Bool.and_eq_true, Bool.and_eq_false_iff, decide_eq_true_eq, decide_eq_false_iff_not, bne_iff_ne, beq_iff_eq, beq_eq_false_iff_ne, bne_eq_false_iff_eq, Bool.not_eq_true', Bool.not_eq_false', bys_length, List.length_append, List.length_cons, List.length_nil, List.length_map, List.length_drop, List.length_take, Int.natCast_add, wrap_i64_eq, wrap_u64, wrap_u8, ne_eq, not_true_eq_false, not_false_eq_true, Nat.zero_add, Nat.mul_one] <;> omega) | omega | (simp; done) | (simp; omega))) only [↓at_runK, ↓at_bind, ↓contQ_mk, ↓at_ret, ↓at_consK, ↓at_nilK, ↓at_optK, ↓at_intK, ↓at_boolK, ↓at_strK, ↓at_slK, ↓at_slOK, ↓at_slK0, ↓at_slOK0, ↓at_aggK, ↓at_cond_t, ↓at_cond_f, ↓at_sameL, ↓at_any1, ↓at_any, and_self, toBytes_bys, List.nil_append, List.append_nil, ↓at_nodeW, List.drop_zero, List.take_succ_cons, List.take_zero, List.getElem?_cons_succ, List.getElem?_cons_zero, cells_agg, eqCells_cons, eqCells_nil, eq1_int, eq1_bool, eq1_str, ↓at_ptr_whole, ↓at_ptr_cell, ↓at_ptr_obj, ↓at_ptr_objs, shift_obj, shift_elt, toA_val, toA_own, Int.toNat_natCast, List.cons_append, kops_length, strs_length, tnew_run, r]
    · obtain ⟨h', r⟩ := awake31_run 9 h
      refine ⟨9 + 1021 + 1, h', Run.ans ?_⟩
      rw [F10_eq]
      simp (disch := (first | assumption | (simp only [Bool.and_eq_true, Bool.and_eq_false_iff, decide_eq_true_eq, decide_eq_false_iff_not, bne_iff_ne, beq_iff_eq, beq_eq_false_iff_ne, bne_eq_false_iff_eq, Bool.not_eq_true', Bool.not_eq_false', bys_length, List.length_append, List.length_cons, List.length_nil, List.length_map, List.length_drop, List.length_take, Int.natCast_add, wrap_i64_eq, wrap_u64, wrap_u8, ne_eq, not_true_eq_false, not_false_eq_true, Nat.zero_add, Nat.mul_one] <;> omega) | omega | (simp; done) | (simp; omega))) only [↓at_runK, ↓at_bind, ↓contQ_mk, ↓at_ret, ↓at_consK, ↓at_nilK, ↓at_optK, ↓at_intK, ↓at_boolK, ↓at_strK, ↓at_slK, ↓at_slOK, ↓at_slK0, ↓at_slOK0, ↓at_aggK, ↓at_cond_t, ↓at_cond_f, ↓at_sameL, ↓at_any1, ↓at_any, and_self, toBytes_bys, List.nil_append, List.append_nil, ↓at_nodeW, List.drop_zero, List.take_succ_cons, List.take_zero, List.getElem?_cons_succ, List.getElem?_cons_zero, cells_agg, eqCells_cons, eqCells_nil, eq1_int, eq1_bool, eq1_str, ↓at_ptr_whole, ↓at_ptr_cell, ↓at_ptr_obj, ↓at_ptr_objs, shift_obj, shift_elt, toA_val, toA_own, Int.toNat_natCast, List.cons_append, kops_length, strs_length, r]
  · obtain ⟨h', r⟩ := awake31_run 9 h
    refine ⟨9 + 1021 + 1, h', Run.ans ?_⟩
    rw [F10_eq]
    simp (disch := (first | assumption | (simp only [Bool.and_eq_true, Bool.and_eq_false_iff, decide_eq_true_eq, decide_eq_false_iff_not, bne_iff_ne, beq_iff_eq, beq_eq_false_iff_ne, bne_eq_false_iff_eq, Bool.not_eq_true', Bool.not_eq_false', bys_length, List.length_append, List.length_cons, List.length_nil, List.length_map, List.length_drop, List.length_take, Int.natCast_add, wrap_i64_eq, wrap_u64, wrap_u8, ne_eq, not_true_eq_false, not_false_eq_true, Nat.zero_add, Nat.mul_one] <;> omega) | omega | (simp; done) | (simp; omega))) only [↓at_runK, ↓at_bind, ↓contQ_mk, ↓at_ret, ↓at_consK, ↓at_nilK, ↓at_optK, ↓at_intK, ↓at_boolK, ↓at_strK, ↓at_slK, ↓at_slOK, ↓at_slK0, ↓at_slOK0, ↓at_aggK, ↓at_cond_t, ↓at_cond_f, ↓at_sameL, ↓at_any1, ↓at_any, and_self, toBytes_bys, List.nil_append, List.append_nil, ↓at_nodeW, List.drop_zero, List.take_succ_cons, List.take_zero, List.getElem?_cons_succ, List.getElem?_cons_zero, cells_agg, eqCells_cons, eqCells_nil, eq1_int, eq1_bool, eq1_str, ↓at_ptr_whole, ↓at_ptr_cell, ↓at_ptr_obj, ↓at_ptr_objs, shift_obj, shift_elt, toA_val, toA_own, Int.toNat_natCast, List.cons_append, kops_length, strs_length, r]
end Go.Proofs.Ytfdkkhmaikgmcaa.Wa
