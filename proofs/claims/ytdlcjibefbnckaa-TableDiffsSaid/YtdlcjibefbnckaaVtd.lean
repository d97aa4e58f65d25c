/- Trees: what the program does with them; TreePlays. -/
import Derived.Test.YtdlcjibefbnckaaVtc
namespace Go.Proofs.Ytdlcjibefbnckaa.Wa
open Go Go.Weave
set_option maxRecDepth 100000
set_option linter.unusedSimpArgs false
set_option linter.unusedVariables false
set_option linter.unusedSectionVars false

def trT (t : Nd) : Weave.Obj := .cells [HCell.val t.A, HCell.val (.int .i64 t.toL.length)]
structure TOk' (t : Nd) : Prop where
  avl : t.Avl
  srt : Srt t.toL
  len : t.toL.length ≤ 1000
theorem trT_root {h : Heap} {i : Nat} {t : Nd} (hm : h.objs[i]? = some (trT t)) : h.cell? i 0 = some (HCell.val t.A) := by rw [Heap.cell_at hm]; rfl
theorem trT_n {h : Heap} {i : Nat} {t : Nd} (hm : h.objs[i]? = some (trT t)) : h.cell? i 1 = some (HCell.val (.int .i64 t.toL.length)) := by rw [Heap.cell_at hm]; rfl
theorem TOk'.put {t : Nd} (ok : TOk' t) (k v : List UInt8) (hl : t.toL.length ≤ 999) : TOk' (t.put k v) ∧ (t.put k v).toL = lput k v t.toL := by
  have e := Nd.put_toL (k := k) (v := v) ok.srt
  refine ⟨⟨(Nd.put_avl ok.avl).1, by rw [e]; exact ok.srt.put, ?_⟩, e⟩
  rw [e]
  cases hg : (lget k t.toL).isSome
  · rw [lput_len_new ok.srt hg]; omega
  · rw [lput_len_old ok.srt hg]; omega
theorem TOk'.del {t : Nd} (ok : TOk' t) {k : List UInt8} (hk : (lget k t.toL).isSome = true) : TOk' (t.without k) ∧ (t.without k).toL = ldel k t.toL := by
  obtain ⟨a1, _, _, a4⟩ := Nd.without_ok ok.avl ok.srt (lget_mem hk)
  refine ⟨⟨a1, by rw [a4]; exact ok.srt.del, ?_⟩, a4⟩
  rw [a4]
  exact Nat.le_trans (List.length_filter_le _ _) ok.len

theorem tseek_run {d i : Nat} {t : Nd} {s : List UInt8} {h : Heap} {Q : Res → Prop} {tg : Hid Q} (ok : TOk' t) (hm : h.objs[i]? = some (trT t)) :
    Run (evFn Cw (d + 2) 75 [.obj i 0, .str s] h) Q tg = Q ([.str (oKey (lseek s t.toL)), .str (oVal (lseek s t.toL)), .bool (lseek s t.toL).isSome], h) := by
  have hl := ok.len
  have hd := Nd.dep_le t
  have := seek_loop d h s t .nil rounds (rounds_gt' (by omega)) ok.srt Q ⟨⟩
  have e : (lseek s t.toL).or Nd.nil.kv = lseek s t.toL := by cases lseek s t.toL <;> rfl
  rw [e, tellK_eq, A_nil] at this
  rw [F75_eq]
  simp (disch := (first | assumption | (simp only [Bool.and_eq_true, Bool.and_eq_false_iff, decide_eq_true_eq, decide_eq_false_iff_not, bne_iff_ne, beq_iff_eq, beq_eq_false_iff_ne, bne_eq_false_iff_eq, Bool.not_eq_true', Bool.not_eq_false', bys_length, List.length_append, List.length_cons, List.length_nil, List.length_map, List.length_drop, List.length_take, Int.natCast_add, wrap_i64_eq, wrap_u64, wrap_u8, ne_eq, not_true_eq_false, not_false_eq_true, Nat.zero_add, Nat.mul_one] <;> omega) | omega | (simp; done) | (simp; omega))) only [↓at_runK, ↓at_bind, ↓contQ_mk, ↓at_ret, ↓at_consK, ↓at_nilK, ↓at_optK, ↓at_intK, ↓at_boolK, ↓at_strK, ↓at_slK, ↓at_slOK, ↓at_slK0, ↓at_slOK0, ↓at_aggK, ↓at_cond_t, ↓at_cond_f, ↓at_sameL, ↓at_any1, ↓at_any, and_self, toBytes_bys, List.nil_append, List.append_nil, ↓at_nodeW, List.drop_zero, List.take_succ_cons, List.take_zero, List.getElem?_cons_succ, List.getElem?_cons_zero, cells_agg, eqCells_cons, eqCells_nil, eq1_int, eq1_bool, eq1_str, ↓at_ptr_whole, ↓at_ptr_cell, ↓at_ptr_obj, ↓at_ptr_objs, shift_obj, shift_elt, toA_val, toA_own, Int.toNat_natCast, List.cons_append, trT_root hm, this]
theorem tbelow_run {d i : Nat} {t : Nd} {s : List UInt8} {h : Heap} {Q : Res → Prop} {tg : Hid Q} (ok : TOk' t) (hm : h.objs[i]? = some (trT t)) :
    Run (evFn Cw (d + 2) 77 [.obj i 0, .str s] h) Q tg = Q ([.str (oKey (lbelow s t.toL)), .str (oVal (lbelow s t.toL)), .bool (lbelow s t.toL).isSome], h) := by
  have hl := ok.len
  have hd := Nd.dep_le t
  have := below_loop d h s t .nil rounds (rounds_gt' (by omega)) ok.srt Q ⟨⟩
  have e : (lbelow s t.toL).or Nd.nil.kv = lbelow s t.toL := by cases lbelow s t.toL <;> rfl
  rw [e, tellK_eq, A_nil] at this
  rw [F77_eq]
  simp (disch := (first | assumption | (simp only [Bool.and_eq_true, Bool.and_eq_false_iff, decide_eq_true_eq, decide_eq_false_iff_not, bne_iff_ne, beq_iff_eq, beq_eq_false_iff_ne, bne_eq_false_iff_eq, Bool.not_eq_true', Bool.not_eq_false', bys_length, List.length_append, List.length_cons, List.length_nil, List.length_map, List.length_drop, List.length_take, Int.natCast_add, wrap_i64_eq, wrap_u64, wrap_u8, ne_eq, not_true_eq_false, not_false_eq_true, Nat.zero_add, Nat.mul_one] <;> omega) | omega | (simp; done) | (simp; omega))) only [↓at_runK, ↓at_bind, ↓contQ_mk, ↓at_ret, ↓at_consK, ↓at_nilK, ↓at_optK, ↓at_intK, ↓at_boolK, ↓at_strK, ↓at_slK, ↓at_slOK, ↓at_slK0, ↓at_slOK0, ↓at_aggK, ↓at_cond_t, ↓at_cond_f, ↓at_sameL, ↓at_any1, ↓at_any, and_self, toBytes_bys, List.nil_append, List.append_nil, ↓at_nodeW, List.drop_zero, List.take_succ_cons, List.take_zero, List.getElem?_cons_succ, List.getElem?_cons_zero, cells_agg, eqCells_cons, eqCells_nil, eq1_int, eq1_bool, eq1_str, ↓at_ptr_whole, ↓at_ptr_cell, ↓at_ptr_obj, ↓at_ptr_objs, shift_obj, shift_elt, toA_val, toA_own, Int.toNat_natCast, List.cons_append, trT_root hm, this]
theorem tget_run {d i : Nat} {t : Nd} {s : List UInt8} {h : Heap} {Q : Res → Prop} {tg : Hid Q} (ok : TOk' t) (hm : h.objs[i]? = some (trT t)) :
    Run (evFn Cw (d + 3) 81 [.obj i 0, .str s] h) Q tg = Q ([.str (oVal (lget s t.toL)), .bool (lget s t.toL).isSome], h) := by
  have hs := fun (Q : Res → Prop) (tg : Hid Q) => tseek_run (d := d) (s := s) (Q := Q) (tg := tg) ok hm
  rw [F81_eq, lget_seek ok.srt]
  cases h1 : (lseek s t.toL).isSome
  · rw [h1] at hs
    rw [if_neg (by simp)]
    simp (disch := (first | assumption | (simp only [Bool.and_eq_true, Bool.and_eq_false_iff, decide_eq_true_eq, decide_eq_false_iff_not, bne_iff_ne, beq_iff_eq, beq_eq_false_iff_ne, bne_eq_false_iff_eq, Bool.not_eq_true', Bool.not_eq_false', bys_length, List.length_append, List.length_cons, List.length_nil, List.length_map, List.length_drop, List.length_take, Int.natCast_add, wrap_i64_eq, wrap_u64, wrap_u8, ne_eq, not_true_eq_false, not_false_eq_true, Nat.zero_add, Nat.mul_one] <;> omega) | omega | (simp; done) | (simp; omega))) only [↓at_runK, ↓at_bind, ↓contQ_mk, ↓at_ret, ↓at_consK, ↓at_nilK, ↓at_optK, ↓at_intK, ↓at_boolK, ↓at_strK, ↓at_slK, ↓at_slOK, ↓at_slK0, ↓at_slOK0, ↓at_aggK, ↓at_cond_t, ↓at_cond_f, ↓at_sameL, ↓at_any1, ↓at_any, and_self, toBytes_bys, List.nil_append, List.append_nil, ↓at_nodeW, List.drop_zero, List.take_succ_cons, List.take_zero, List.getElem?_cons_succ, List.getElem?_cons_zero, cells_agg, eqCells_cons, eqCells_nil, eq1_int, eq1_bool, eq1_str, ↓at_ptr_whole, ↓at_ptr_cell, ↓at_ptr_obj, ↓at_ptr_objs, shift_obj, shift_elt, toA_val, toA_own, Int.toNat_natCast, List.cons_append, hs, Bool.not_false]
    rfl
  · rw [h1] at hs
    by_cases h2 : oKey (lseek s t.toL) = s
    · have h2' : (oKey (lseek s t.toL) == s) = true := by simp [h2]
      rw [if_pos ⟨h2, rfl⟩]
      simp (disch := (first | assumption | (simp only [Bool.and_eq_true, Bool.and_eq_false_iff, decide_eq_true_eq, decide_eq_false_iff_not, bne_iff_ne, beq_iff_eq, beq_eq_false_iff_ne, bne_eq_false_iff_eq, Bool.not_eq_true', Bool.not_eq_false', bys_length, List.length_append, List.length_cons, List.length_nil, List.length_map, List.length_drop, List.length_take, Int.natCast_add, wrap_i64_eq, wrap_u64, wrap_u8, ne_eq, not_true_eq_false, not_false_eq_true, Nat.zero_add, Nat.mul_one] <;> omega) | omega | (simp; done) | (simp; omega))) only [↓at_runK, ↓at_bind, ↓contQ_mk, ↓at_ret, ↓at_consK, ↓at_nilK, ↓at_optK, ↓at_intK, ↓at_boolK, ↓at_strK, ↓at_slK, ↓at_slOK, ↓at_slK0, ↓at_slOK0, ↓at_aggK, ↓at_cond_t, ↓at_cond_f, ↓at_sameL, ↓at_any1, ↓at_any, and_self, toBytes_bys, List.nil_append, List.append_nil, ↓at_nodeW, List.drop_zero, List.take_succ_cons, List.take_zero, List.getElem?_cons_succ, List.getElem?_cons_zero, cells_agg, eqCells_cons, eqCells_nil, eq1_int, eq1_bool, eq1_str, ↓at_ptr_whole, ↓at_ptr_cell, ↓at_ptr_obj, ↓at_ptr_objs, shift_obj, shift_elt, toA_val, toA_own, Int.toNat_natCast, List.cons_append, hs, Bool.not_true, h2']
      rw [h1]
    · have h2' : (oKey (lseek s t.toL) == s) = false := by simpa using h2
      rw [if_neg (by simp [h2])]
      simp (disch := (first | assumption | (simp only [Bool.and_eq_true, Bool.and_eq_false_iff, decide_eq_true_eq, decide_eq_false_iff_not, bne_iff_ne, beq_iff_eq, beq_eq_false_iff_ne, bne_eq_false_iff_eq, Bool.not_eq_true', Bool.not_eq_false', bys_length, List.length_append, List.length_cons, List.length_nil, List.length_map, List.length_drop, List.length_take, Int.natCast_add, wrap_i64_eq, wrap_u64, wrap_u8, ne_eq, not_true_eq_false, not_false_eq_true, Nat.zero_add, Nat.mul_one] <;> omega) | omega | (simp; done) | (simp; omega))) only [↓at_runK, ↓at_bind, ↓contQ_mk, ↓at_ret, ↓at_consK, ↓at_nilK, ↓at_optK, ↓at_intK, ↓at_boolK, ↓at_strK, ↓at_slK, ↓at_slOK, ↓at_slK0, ↓at_slOK0, ↓at_aggK, ↓at_cond_t, ↓at_cond_f, ↓at_sameL, ↓at_any1, ↓at_any, and_self, toBytes_bys, List.nil_append, List.append_nil, ↓at_nodeW, List.drop_zero, List.take_succ_cons, List.take_zero, List.getElem?_cons_succ, List.getElem?_cons_zero, cells_agg, eqCells_cons, eqCells_nil, eq1_int, eq1_bool, eq1_str, ↓at_ptr_whole, ↓at_ptr_cell, ↓at_ptr_obj, ↓at_ptr_objs, shift_obj, shift_elt, toA_val, toA_own, Int.toNat_natCast, List.cons_append, hs, Bool.not_true, h2', Bool.not_false]
      rfl
theorem tput_run {d i : Nat} {t : Nd} {k v : List UInt8} {h : Heap} {Q : Res → Prop} {tg : Hid Q} (ok : TOk' t) (hl : t.toL.length ≤ 999) (hm : h.objs[i]? = some (trT t)) (hd : 1010 ≤ d) :
    Run (evFn Cw d 21 [.obj i 0, .str k, .str v] h) Q tg = Q ([.str (oVal (lget k t.toL)), .bool (lget k t.toL).isSome], h.put i (trT (t.put k v))) := by
  have hdp := Nd.dep_le t
  have hh := ok.avl.high_le
  have hlen := ok.len
  obtain ⟨d, rfl⟩ : ∃ e, d = e + 4 := ⟨d - 4, by omega⟩
  have hg := fun (Q : Res → Prop) (tg : Hid Q) => tget_run (d := d) (s := k) (Q := Q) (tg := tg) ok hm
  have hp := put_nd t (d + 3) (by omega) ok.avl (by omega) k v h
  have e := (ok.put k v hl).2
  have s1 : h.setCell i 0 (HCell.val (t.put k v).A) = h.put i (.cells [HCell.val (t.put k v).A, HCell.val (.int .i64 t.toL.length)]) := by rw [Heap.set_at hm]; rfl
  have hm2 : (h.put i (.cells [HCell.val (t.put k v).A, HCell.val (.int .i64 t.toL.length)])).objs[i]? = some (.cells [HCell.val (t.put k v).A, HCell.val (.int .i64 t.toL.length)]) := Heap.put_get hm
  have c2 : (h.put i (.cells [HCell.val (t.put k v).A, HCell.val (.int .i64 t.toL.length)])).cell? i 1 = some (HCell.val (.int .i64 t.toL.length)) := by rw [Heap.cell_at hm2]; rfl
  have e1 : IntKind.i64.wrap ((t.toL.length : Int) + 1) = ((t.toL.length + 1 : Nat) : Int) := succ_wrap (by omega)
  rw [F21_eq]
  cases h1 : (lget k t.toL).isSome
  · have e2 : (t.put k v).toL.length = t.toL.length + 1 := by rw [e, lput_len_new ok.srt h1]
    have s2 : (h.put i (.cells [HCell.val (t.put k v).A, HCell.val (.int .i64 t.toL.length)])).setCell i 1 (HCell.val (.int .i64 ((t.toL.length + 1 : Nat) : Int))) = h.put i (trT (t.put k v)) := by
      rw [Heap.set_at hm2, Heap.put_put]; unfold trT; rw [e2]; rfl
    simp (disch := (first | assumption | (simp only [Bool.and_eq_true, Bool.and_eq_false_iff, decide_eq_true_eq, decide_eq_false_iff_not, bne_iff_ne, beq_iff_eq, beq_eq_false_iff_ne, bne_eq_false_iff_eq, Bool.not_eq_true', Bool.not_eq_false', bys_length, List.length_append, List.length_cons, List.length_nil, List.length_map, List.length_drop, List.length_take, Int.natCast_add, wrap_i64_eq, wrap_u64, wrap_u8, ne_eq, not_true_eq_false, not_false_eq_true, Nat.zero_add, Nat.mul_one] <;> omega) | omega | (simp; done) | (simp; omega))) only [↓at_runK, ↓at_bind, ↓contQ_mk, ↓at_ret, ↓at_consK, ↓at_nilK, ↓at_optK, ↓at_intK, ↓at_boolK, ↓at_strK, ↓at_slK, ↓at_slOK, ↓at_slK0, ↓at_slOK0, ↓at_aggK, ↓at_cond_t, ↓at_cond_f, ↓at_sameL, ↓at_any1, ↓at_any, and_self, toBytes_bys, List.nil_append, List.append_nil, ↓at_nodeW, List.drop_zero, List.take_succ_cons, List.take_zero, List.getElem?_cons_succ, List.getElem?_cons_zero, cells_agg, eqCells_cons, eqCells_nil, eq1_int, eq1_bool, eq1_str, ↓at_ptr_whole, ↓at_ptr_cell, ↓at_ptr_obj, ↓at_ptr_objs, shift_obj, shift_elt, toA_val, toA_own, Int.toNat_natCast, List.cons_append, hg, h1, trT_root hm, hp, isAgg_A, s1, c2, e1, s2, Bool.not_false]
  · have e2 : (t.put k v).toL.length = t.toL.length := by rw [e, lput_len_old ok.srt h1]
    have s2 : h.put i (.cells [HCell.val (t.put k v).A, HCell.val (.int .i64 t.toL.length)]) = h.put i (trT (t.put k v)) := by unfold trT; rw [e2]
    rw [s2] at s1
    simp (disch := (first | assumption | (simp only [Bool.and_eq_true, Bool.and_eq_false_iff, decide_eq_true_eq, decide_eq_false_iff_not, bne_iff_ne, beq_iff_eq, beq_eq_false_iff_ne, bne_eq_false_iff_eq, Bool.not_eq_true', Bool.not_eq_false', bys_length, List.length_append, List.length_cons, List.length_nil, List.length_map, List.length_drop, List.length_take, Int.natCast_add, wrap_i64_eq, wrap_u64, wrap_u8, ne_eq, not_true_eq_false, not_false_eq_true, Nat.zero_add, Nat.mul_one] <;> omega) | omega | (simp; done) | (simp; omega))) only [↓at_runK, ↓at_bind, ↓contQ_mk, ↓at_ret, ↓at_consK, ↓at_nilK, ↓at_optK, ↓at_intK, ↓at_boolK, ↓at_strK, ↓at_slK, ↓at_slOK, ↓at_slK0, ↓at_slOK0, ↓at_aggK, ↓at_cond_t, ↓at_cond_f, ↓at_sameL, ↓at_any1, ↓at_any, and_self, toBytes_bys, List.nil_append, List.append_nil, ↓at_nodeW, List.drop_zero, List.take_succ_cons, List.take_zero, List.getElem?_cons_succ, List.getElem?_cons_zero, cells_agg, eqCells_cons, eqCells_nil, eq1_int, eq1_bool, eq1_str, ↓at_ptr_whole, ↓at_ptr_cell, ↓at_ptr_obj, ↓at_ptr_objs, shift_obj, shift_elt, toA_val, toA_own, Int.toNat_natCast, List.cons_append, hg, h1, trT_root hm, hp, isAgg_A, s1, Bool.not_true]
theorem tdel_run {d i : Nat} {t : Nd} {k : List UInt8} {h : Heap} {Q : Res → Prop} {tg : Hid Q} (ok : TOk' t) (hm : h.objs[i]? = some (trT t)) (hd : 1010 ≤ d) :
    Run (evFn Cw d 23 [.obj i 0, .str k] h) Q tg = Q ([.str (oVal (lget k t.toL)), .bool (lget k t.toL).isSome], h.put i (trT (if (lget k t.toL).isSome then t.without k else t))) := by
  have hdp := Nd.dep_le t
  have hh := ok.avl.high_le
  have hlen := ok.len
  obtain ⟨d, rfl⟩ : ∃ e, d = e + 4 := ⟨d - 4, by omega⟩
  have hg := fun (Q : Res → Prop) (tg : Hid Q) => tget_run (d := d) (s := k) (Q := Q) (tg := tg) ok hm
  rw [F23_eq]
  cases h1 : (lget k t.toL).isSome
  · rw [if_neg (by simp), Heap.put_self' hm]
    simp (disch := (first | assumption | (simp only [Bool.and_eq_true, Bool.and_eq_false_iff, decide_eq_true_eq, decide_eq_false_iff_not, bne_iff_ne, beq_iff_eq, beq_eq_false_iff_ne, bne_eq_false_iff_eq, Bool.not_eq_true', Bool.not_eq_false', bys_length, List.length_append, List.length_cons, List.length_nil, List.length_map, List.length_drop, List.length_take, Int.natCast_add, wrap_i64_eq, wrap_u64, wrap_u8, ne_eq, not_true_eq_false, not_false_eq_true, Nat.zero_add, Nat.mul_one] <;> omega) | omega | (simp; done) | (simp; omega))) only [↓at_runK, ↓at_bind, ↓contQ_mk, ↓at_ret, ↓at_consK, ↓at_nilK, ↓at_optK, ↓at_intK, ↓at_boolK, ↓at_strK, ↓at_slK, ↓at_slOK, ↓at_slK0, ↓at_slOK0, ↓at_aggK, ↓at_cond_t, ↓at_cond_f, ↓at_sameL, ↓at_any1, ↓at_any, and_self, toBytes_bys, List.nil_append, List.append_nil, ↓at_nodeW, List.drop_zero, List.take_succ_cons, List.take_zero, List.getElem?_cons_succ, List.getElem?_cons_zero, cells_agg, eqCells_cons, eqCells_nil, eq1_int, eq1_bool, eq1_str, ↓at_ptr_whole, ↓at_ptr_cell, ↓at_ptr_obj, ↓at_ptr_objs, shift_obj, shift_elt, toA_val, toA_own, Int.toNat_natCast, List.cons_append, hg, h1]
  · rw [if_pos rfl]
    have e := (ok.del h1).2
    have hp := without_nd t (d + 3) (by omega) (by omega) ok.avl (by omega) ok.srt k (lget_mem h1) h
    have s1 : h.setCell i 0 (HCell.val (t.without k).A) = h.put i (.cells [HCell.val (t.without k).A, HCell.val (.int .i64 t.toL.length)]) := by rw [Heap.set_at hm]; rfl
    have hm2 : (h.put i (.cells [HCell.val (t.without k).A, HCell.val (.int .i64 t.toL.length)])).objs[i]? = some (.cells [HCell.val (t.without k).A, HCell.val (.int .i64 t.toL.length)]) := Heap.put_get hm
    have c2 : (h.put i (.cells [HCell.val (t.without k).A, HCell.val (.int .i64 t.toL.length)])).cell? i 1 = some (HCell.val (.int .i64 t.toL.length)) := by rw [Heap.cell_at hm2]; rfl
    have e3 := ldel_len ok.srt h1
    have e1 : IntKind.i64.wrap ((t.toL.length : Int) - 1) = (((t.without k).toL.length : Nat) : Int) := by rw [wrap_i64_id (by omega) (by omega), e]; omega
    have s2 : (h.put i (.cells [HCell.val (t.without k).A, HCell.val (.int .i64 t.toL.length)])).setCell i 1 (HCell.val (.int .i64 (((t.without k).toL.length : Nat) : Int))) = h.put i (trT (t.without k)) := by
      rw [Heap.set_at hm2, Heap.put_put]; rfl
    simp (disch := (first | assumption | (simp only [Bool.and_eq_true, Bool.and_eq_false_iff, decide_eq_true_eq, decide_eq_false_iff_not, bne_iff_ne, beq_iff_eq, beq_eq_false_iff_ne, bne_eq_false_iff_eq, Bool.not_eq_true', Bool.not_eq_false', bys_length, List.length_append, List.length_cons, List.length_nil, List.length_map, List.length_drop, List.length_take, Int.natCast_add, wrap_i64_eq, wrap_u64, wrap_u8, ne_eq, not_true_eq_false, not_false_eq_true, Nat.zero_add, Nat.mul_one] <;> omega) | omega | (simp; done) | (simp; omega))) only [↓at_runK, ↓at_bind, ↓contQ_mk, ↓at_ret, ↓at_consK, ↓at_nilK, ↓at_optK, ↓at_intK, ↓at_boolK, ↓at_strK, ↓at_slK, ↓at_slOK, ↓at_slK0, ↓at_slOK0, ↓at_aggK, ↓at_cond_t, ↓at_cond_f, ↓at_sameL, ↓at_any1, ↓at_any, and_self, toBytes_bys, List.nil_append, List.append_nil, ↓at_nodeW, List.drop_zero, List.take_succ_cons, List.take_zero, List.getElem?_cons_succ, List.getElem?_cons_zero, cells_agg, eqCells_cons, eqCells_nil, eq1_int, eq1_bool, eq1_str, ↓at_ptr_whole, ↓at_ptr_cell, ↓at_ptr_obj, ↓at_ptr_objs, shift_obj, shift_elt, toA_val, toA_own, Int.toNat_natCast, List.cons_append, hg, h1, trT_root hm, hp, isAgg_A, s1, c2, e1, s2]
theorem tlen_run {d i : Nat} {t : Nd} {h : Heap} {Q : Res → Prop} {tg : Hid Q} (hm : h.objs[i]? = some (trT t)) :
    Run (evFn Cw (d + 1) 87 [.obj i 0] h) Q tg = Q ([.int .i64 t.toL.length], h) := by
  rw [F87_eq]
  simp (disch := (first | assumption | (simp only [Bool.and_eq_true, Bool.and_eq_false_iff, decide_eq_true_eq, decide_eq_false_iff_not, bne_iff_ne, beq_iff_eq, beq_eq_false_iff_ne, bne_eq_false_iff_eq, Bool.not_eq_true', Bool.not_eq_false', bys_length, List.length_append, List.length_cons, List.length_nil, List.length_map, List.length_drop, List.length_take, Int.natCast_add, wrap_i64_eq, wrap_u64, wrap_u8, ne_eq, not_true_eq_false, not_false_eq_true, Nat.zero_add, Nat.mul_one] <;> omega) | omega | (simp; done) | (simp; omega))) only [↓at_runK, ↓at_bind, ↓contQ_mk, ↓at_ret, ↓at_consK, ↓at_nilK, ↓at_optK, ↓at_intK, ↓at_boolK, ↓at_strK, ↓at_slK, ↓at_slOK, ↓at_slK0, ↓at_slOK0, ↓at_aggK, ↓at_cond_t, ↓at_cond_f, ↓at_sameL, ↓at_any1, ↓at_any, and_self, toBytes_bys, List.nil_append, List.append_nil, ↓at_nodeW, List.drop_zero, List.take_succ_cons, List.take_zero, List.getElem?_cons_succ, List.getElem?_cons_zero, cells_agg, eqCells_cons, eqCells_nil, eq1_int, eq1_bool, eq1_str, ↓at_ptr_whole, ↓at_ptr_cell, ↓at_ptr_obj, ↓at_ptr_objs, shift_obj, shift_elt, toA_val, toA_own, Int.toNat_natCast, List.cons_append, trT_n hm]
theorem tnew_run {d : Nat} {h : Heap} {Q : Res → Prop} {tg : Hid Q} : Run (evFn Cw (d + 1) 13 [] h) Q tg = Q ([.obj h.objs.length 0], h.push (trT .nil)) := by
  rw [F13_eq]
  simp (disch := (first | assumption | (simp only [Bool.and_eq_true, Bool.and_eq_false_iff, decide_eq_true_eq, decide_eq_false_iff_not, bne_iff_ne, beq_iff_eq, beq_eq_false_iff_ne, bne_eq_false_iff_eq, Bool.not_eq_true', Bool.not_eq_false', bys_length, List.length_append, List.length_cons, List.length_nil, List.length_map, List.length_drop, List.length_take, Int.natCast_add, wrap_i64_eq, wrap_u64, wrap_u8, ne_eq, not_true_eq_false, not_false_eq_true, Nat.zero_add, Nat.mul_one] <;> omega) | omega | (simp; done) | (simp; omega))) only [↓at_runK, ↓at_bind, ↓contQ_mk, ↓at_ret, ↓at_consK, ↓at_nilK, ↓at_optK, ↓at_intK, ↓at_boolK, ↓at_strK, ↓at_slK, ↓at_slOK, ↓at_slK0, ↓at_slOK0, ↓at_aggK, ↓at_cond_t, ↓at_cond_f, ↓at_sameL, ↓at_any1, ↓at_any, and_self, toBytes_bys, List.nil_append, List.append_nil, ↓at_nodeW, List.drop_zero, List.take_succ_cons, List.take_zero, List.getElem?_cons_succ, List.getElem?_cons_zero, cells_agg, eqCells_cons, eqCells_nil, eq1_int, eq1_bool, eq1_str, ↓at_ptr_whole, ↓at_ptr_cell, ↓at_ptr_obj, ↓at_ptr_objs, shift_obj, shift_elt, toA_val, toA_own, Int.toNat_natCast, List.cons_append]
  rfl

/-! ### All of a tree -/
def balO (c : Int) : Weave.Obj := .cells [HCell.val (.int .i64 c)]
def balS (s : List UInt8) : Weave.Obj := .cells [HCell.val (.str s)]
/-- The variable in which pairs are gathered. -/
def pvO (o : Weave.Obj) (l : List KPair) : Prop := (o = .cells [HCell.val (.sl true 3 [])] ∧ l = []) ∨ o = .cells [HCell.own 3 (prs l)]
theorem pvO.cell {o : Weave.Obj} {l : List KPair} (ho : pvO o l) {h : Heap} {i : Nat} (hm : h.objs[i]? = some o) : ∃ c, h.cell? i 0 = some c ∧ ∃ f, c.toA = .sl f 3 (prs l) := by
  rcases ho with ⟨rfl, rfl⟩ | rfl
  · exact ⟨_, by rw [Heap.cell_at hm]; rfl, true, rfl⟩
  · exact ⟨_, by rw [Heap.cell_at hm]; rfl, false, rfl⟩

/-! ### How many keys a balanced tree has at least -/
def lst : Nat → Nat × Nat
  | 0 => (0, 1)
  | n + 1 => ((lst n).2, (lst n).1 + (lst n).2 + 1)
theorem lst_le : ∀ n, (lst n).1 ≤ (lst n).2 ∧ (lst n).2 + 1 ≤ 2 ^ (n + 1)
  | 0 => by simp [lst]
  | n + 1 => by
    have ⟨h1, h2⟩ := lst_le n
    have : 2 ^ (n + 1 + 1) = 2 * 2 ^ (n + 1) := by rw [Nat.pow_succ]; omega
    simp only [lst]
    omega
theorem lst_mono {m n : Nat} (h : m ≤ n) : (lst m).1 ≤ (lst n).1 := by
  induction h with
  | refl => exact Nat.le_refl _
  | @step m' _ ih => exact Nat.le_trans ih (lst_le m').1
theorem avl_least : ∀ {t : Nd}, t.Avl → (lst t.high.toNat).1 ≤ t.toL.length
  | .nil, _ => by simp [lst, Nd.high]
  | .node k v l r h, a => by
    obtain ⟨a1, a2, a3, a4, a5⟩ := a
    have h1 := avl_least a1
    have h2 := avl_least a2
    have n1 := a1.high_nn
    have n2 := a2.high_nn
    rw [Nd.high_node, Nd.toL_node, List.length_append, List.length_cons]
    obtain ⟨m, hm⟩ : ∃ m : Nat, h.toNat = m + 1 := ⟨h.toNat - 1, by omega⟩
    rw [hm]
    cases m with
    | zero => simp only [lst]; omega
    | succ m =>
      simp only [lst]
      have e2 : (lst (m + 1)).1 = (lst m).2 := rfl
      rcases Int.le_total r.high l.high with c | c
      · have : l.high.toNat = m + 1 := by omega
        rw [this, e2] at h1
        have := lst_mono (m := m) (n := r.high.toNat) (by omega)
        omega
      · have : r.high.toNat = m + 1 := by omega
        rw [this, e2] at h2
        have := lst_mono (m := m) (n := l.high.toNat) (by omega)
        omega
/-! ### A tree tells what a list does -/
end Go.Proofs.Ytdlcjibefbnckaa.Wa
