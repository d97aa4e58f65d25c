/- Trees: what the program does with them; TreePlays. -/
import Derived.Test.YtfdkkhmaikgmcaaVtc
namespace Go.Proofs.Ytfdkkhmaikgmcaa.Wa
open Go Go.Weave
set_option maxRecDepth 100000
set_option linter.unusedSimpArgs false
set_option linter.unusedVariables false
set_option linter.unusedSectionVars false

def trT (t : Nd) : Weave.Obj := .cells [HCell.val t.A, HCell.val (.int .i64 t.toL.length)]
structure TOk' (t : Nd) : Prop where
  avl : t.Avl
  srt : Srt t.toL
  len : t.toL.length ≤ 1000
theorem trT_root {h : Heap} {i : Nat} {t : Nd} (hm : h.objs[i]? = some (trT t)) : h.cell? i 0 = some (HCell.val t.A) := by rw [Heap.cell_at hm]; rfl
theorem trT_n {h : Heap} {i : Nat} {t : Nd} (hm : h.objs[i]? = some (trT t)) : h.cell? i 1 = some (HCell.val (.int .i64 t.toL.length)) := by rw [Heap.cell_at hm]; rfl
theorem TOk'.put {t : Nd} (ok : TOk' t) (k v : List UInt8) (hl : t.toL.length ≤ 999) : TOk' (t.put k v) ∧ (t.put k v).toL = lput k v t.toL := by
  have e := Nd.put_toL (k := k) (v := v) ok.srt
  refine ⟨⟨(Nd.put_avl ok.avl).1, by rw [e]; exact ok.srt.put, ?_⟩, e⟩
  rw [e]
  cases hg : (lget k t.toL).isSome
  · rw [lput_len_new ok.srt hg]; omega
  · rw [lput_len_old ok.srt hg]; omega
theorem TOk'.del {t : Nd} (ok : TOk' t) {k : List UInt8} (hk : (lget k t.toL).isSome = true) : TOk' (t.without k) ∧ (t.without k).toL = ldel k t.toL := by
  obtain ⟨a1, _, _, a4⟩ := Nd.without_ok ok.avl ok.srt (lget_mem hk)
  refine ⟨⟨a1, by rw [a4]; exact ok.srt.del, ?_⟩, a4⟩
  rw [a4]
  exact Nat.le_trans (List.length_filter_le _ _) ok.len

theorem tseek_run {d i : Nat} {t : Nd} {s : List UInt8} {h : Heap} {Q : Res → Prop} {tg : Hid Q} (ok : TOk' t) (hm : h.objs[i]? = some (trT t)) :
    Run (evFn Cw (d + 2) 61 [.obj i 0, .str s] h) Q tg = Q ([.str (oKey (lseek s t.toL)), .str (oVal (lseek s t.toL)), .bool (lseek s t.toL).isSome], h) := by
  have hl := ok.len
  have hd := Nd.dep_le t
  have := seek_loop d h s t .nil rounds (rounds_gt' (by omega)) ok.srt Q ⟨⟩
  have e : (lseek s t.toL).or Nd.nil.kv = lseek s t.toL := by cases lseek s t.toL <;> rfl
  rw [e, tellK_eq, A_nil] at this
  rw [F61_eq]
  simp (disch := (first | assumption | (simp only [Bool.and_eq_true, Bool.and_eq_false_iff, decide_eq_true_eq, decide_eq_false_iff_not, bne_iff_ne, beq_iff_eq, beq_eq_false_iff_ne, bne_eq_false_iff_eq, Bool.not_eq_true', Bool.not_eq_false', bys_length, List.length_append, List.length_cons, List.length_nil, List.length_map, List.length_drop, List.length_take, Int.natCast_add, wrap_i64_eq, wrap_u64, wrap_u8, ne_eq, not_true_eq_false, not_false_eq_true, Nat.zero_add, Nat.mul_one] <;> omega) | omega | (simp; done) | (simp; omega))) only [↓at_runK, ↓at_bind, ↓contQ_mk, ↓at_ret, ↓at_consK, ↓at_nilK, ↓at_optK, ↓at_intK, ↓at_boolK, ↓at_strK, ↓at_slK, ↓at_slOK, ↓at_slK0, ↓at_slOK0, ↓at_aggK, ↓at_cond_t, ↓at_cond_f, ↓at_sameL, ↓at_any1, ↓at_any, and_self, toBytes_bys, List.nil_append, List.append_nil, ↓at_nodeW, List.drop_zero, List.take_succ_cons, List.take_zero, List.getElem?_cons_succ, List.getElem?_cons_zero, cells_agg, eqCells_cons, eqCells_nil, eq1_int, eq1_bool, eq1_str, ↓at_ptr_whole, ↓at_ptr_cell, ↓at_ptr_obj, ↓at_ptr_objs, shift_obj, shift_elt, toA_val, toA_own, Int.toNat_natCast, List.cons_append, trT_root hm, this]
theorem tbelow_run {d i : Nat} {t : Nd} {s : List UInt8} {h : Heap} {Q : Res → Prop} {tg : Hid Q} (ok : TOk' t) (hm : h.objs[i]? = some (trT t)) :
    Run (evFn Cw (d + 2) 62 [.obj i 0, .str s] h) Q tg = Q ([.str (oKey (lbelow s t.toL)), .str (oVal (lbelow s t.toL)), .bool (lbelow s t.toL).isSome], h) := by
  have hl := ok.len
  have hd := Nd.dep_le t
  have := below_loop d h s t .nil rounds (rounds_gt' (by omega)) ok.srt Q ⟨⟩
  have e : (lbelow s t.toL).or Nd.nil.kv = lbelow s t.toL := by cases lbelow s t.toL <;> rfl
  rw [e, tellK_eq, A_nil] at this
  rw [F62_eq]
  simp (disch := (first | assumption | (simp only [Bool.and_eq_true, Bool.and_eq_false_iff, decide_eq_true_eq, decide_eq_false_iff_not, bne_iff_ne, beq_iff_eq, beq_eq_false_iff_ne, bne_eq_false_iff_eq, Bool.not_eq_true', Bool.not_eq_false', bys_length, List.length_append, List.length_cons, List.length_nil, List.length_map, List.length_drop, List.length_take, Int.natCast_add, wrap_i64_eq, wrap_u64, wrap_u8, ne_eq, not_true_eq_false, not_false_eq_true, Nat.zero_add, Nat.mul_one] <;> omega) | omega | (simp; done) | (simp; omega))) only [↓at_runK, ↓at_bind, ↓contQ_mk, ↓at_ret, ↓at_consK, ↓at_nilK, ↓at_optK, ↓at_intK, ↓at_boolK, ↓at_strK, ↓at_slK, ↓at_slOK, ↓at_slK0, ↓at_slOK0, ↓at_aggK, ↓at_cond_t, ↓at_cond_f, ↓at_sameL, ↓at_any1, ↓at_any, and_self, toBytes_bys, List.nil_append, List.append_nil, ↓at_nodeW, List.drop_zero, List.take_succ_cons, List.take_zero, List.getElem?_cons_succ, List.getElem?_cons_zero, cells_agg, eqCells_cons, eqCells_nil, eq1_int, eq1_bool, eq1_str, ↓at_ptr_whole, ↓at_ptr_cell, ↓at_ptr_obj, ↓at_ptr_objs, shift_obj, shift_elt, toA_val, toA_own, Int.toNat_natCast, List.cons_append, trT_root hm, this]
theorem tget_run {d i : Nat} {t : Nd} {s : List UInt8} {h : Heap} {Q : Res → Prop} {tg : Hid Q} (ok : TOk' t) (hm : h.objs[i]? = some (trT t)) :
    Run (evFn Cw (d + 3) 60 [.obj i 0, .str s] h) Q tg = Q ([.str (oVal (lget s t.toL)), .bool (lget s t.toL).isSome], h) := by
  have hs := fun (Q : Res → Prop) (tg : Hid Q) => tseek_run (d := d) (s := s) (Q := Q) (tg := tg) ok hm
  rw [F60_eq, lget_seek ok.srt]
  cases h1 : (lseek s t.toL).isSome
  · rw [h1] at hs
    rw [if_neg (by simp)]
    simp (disch := (first | assumption | (simp only [Bool.and_eq_true, Bool.and_eq_false_iff, decide_eq_true_eq, decide_eq_false_iff_not, bne_iff_ne, beq_iff_eq, beq_eq_false_iff_ne, bne_eq_false_iff_eq, Bool.not_eq_true', Bool.not_eq_false', bys_length, List.length_append, List.length_cons, List.length_nil, List.length_map, List.length_drop, List.length_take, Int.natCast_add, wrap_i64_eq, wrap_u64, wrap_u8, ne_eq, not_true_eq_false, not_false_eq_true, Nat.zero_add, Nat.mul_one] <;> omega) | omega | (simp; done) | (simp; omega))) only [↓at_runK, ↓at_bind, ↓contQ_mk, ↓at_ret, ↓at_consK, ↓at_nilK, ↓at_optK, ↓at_intK, ↓at_boolK, ↓at_strK, ↓at_slK, ↓at_slOK, ↓at_slK0, ↓at_slOK0, ↓at_aggK, ↓at_cond_t, ↓at_cond_f, ↓at_sameL, ↓at_any1, ↓at_any, and_self, toBytes_bys, List.nil_append, List.append_nil, ↓at_nodeW, List.drop_zero, List.take_succ_cons, List.take_zero, List.getElem?_cons_succ, List.getElem?_cons_zero, cells_agg, eqCells_cons, eqCells_nil, eq1_int, eq1_bool, eq1_str, ↓at_ptr_whole, ↓at_ptr_cell, ↓at_ptr_obj, ↓at_ptr_objs, shift_obj, shift_elt, toA_val, toA_own, Int.toNat_natCast, List.cons_append, hs, Bool.not_false]
    rfl
  · rw [h1] at hs
    by_cases h2 : oKey (lseek s t.toL) = s
    · have h2' : (oKey (lseek s t.toL) == s) = true := by simp [h2]
      rw [if_pos ⟨h2, rfl⟩]
      simp (disch := (first | assumption | (simp only [Bool.and_eq_true, Bool.and_eq_false_iff, decide_eq_true_eq, decide_eq_false_iff_not, bne_iff_ne, beq_iff_eq, beq_eq_false_iff_ne, bne_eq_false_iff_eq, Bool.not_eq_true', Bool.not_eq_false', bys_length, List.length_append, List.length_cons, List.length_nil, List.length_map, List.length_drop, List.length_take, Int.natCast_add, wrap_i64_eq, wrap_u64, wrap_u8, ne_eq, not_true_eq_false, not_false_eq_true, Nat.zero_add, Nat.mul_one] <;> omega) | omega | (simp; done) | (simp; omega))) only [↓at_runK, ↓at_bind, ↓contQ_mk, ↓at_ret, ↓at_consK, ↓at_nilK, ↓at_optK, ↓at_intK, ↓at_boolK, ↓at_strK, ↓at_slK, ↓at_slOK, ↓at_slK0, ↓at_slOK0, ↓at_aggK, ↓at_cond_t, ↓at_cond_f, ↓at_sameL, ↓at_any1, ↓at_any, and_self, toBytes_bys, List.nil_append, List.append_nil, ↓at_nodeW, List.drop_zero, List.take_succ_cons, List.take_zero, List.getElem?_cons_succ, List.getElem?_cons_zero, cells_agg, eqCells_cons, eqCells_nil, eq1_int, eq1_bool, eq1_str, ↓at_ptr_whole, ↓at_ptr_cell, ↓at_ptr_obj, ↓at_ptr_objs, shift_obj, shift_elt, toA_val, toA_own, Int.toNat_natCast, List.cons_append, hs, Bool.not_true, h2']
      rw [h1]
    · have h2' : (oKey (lseek s t.toL) == s) = false := by simpa using h2
      rw [if_neg (by simp [h2])]
      simp (disch := (first | assumption | (simp only [Bool.and_eq_true, Bool.and_eq_false_iff, decide_eq_true_eq, decide_eq_false_iff_not, bne_iff_ne, beq_iff_eq, beq_eq_false_iff_ne, bne_eq_false_iff_eq, Bool.not_eq_true', Bool.not_eq_false', bys_length, List.length_append, List.length_cons, List.length_nil, List.length_map, List.length_drop, List.length_take, Int.natCast_add, wrap_i64_eq, wrap_u64, wrap_u8, ne_eq, not_true_eq_false, not_false_eq_true, Nat.zero_add, Nat.mul_one] <;> omega) | omega | (simp; done) | (simp; omega))) only [↓at_runK, ↓at_bind, ↓contQ_mk, ↓at_ret, ↓at_consK, ↓at_nilK, ↓at_optK, ↓at_intK, ↓at_boolK, ↓at_strK, ↓at_slK, ↓at_slOK, ↓at_slK0, ↓at_slOK0, ↓at_aggK, ↓at_cond_t, ↓at_cond_f, ↓at_sameL, ↓at_any1, ↓at_any, and_self, toBytes_bys, List.nil_append, List.append_nil, ↓at_nodeW, List.drop_zero, List.take_succ_cons, List.take_zero, List.getElem?_cons_succ, List.getElem?_cons_zero, cells_agg, eqCells_cons, eqCells_nil, eq1_int, eq1_bool, eq1_str, ↓at_ptr_whole, ↓at_ptr_cell, ↓at_ptr_obj, ↓at_ptr_objs, shift_obj, shift_elt, toA_val, toA_own, Int.toNat_natCast, List.cons_append, hs, Bool.not_true, h2', Bool.not_false]
      rfl
theorem tput_run {d i : Nat} {t : Nd} {k v : List UInt8} {h : Heap} {Q : Res → Prop} {tg : Hid Q} (ok : TOk' t) (hl : t.toL.length ≤ 999) (hm : h.objs[i]? = some (trT t)) (hd : 1010 ≤ d) :
    Run (evFn Cw d 44 [.obj i 0, .str k, .str v] h) Q tg = Q ([.str (oVal (lget k t.toL)), .bool (lget k t.toL).isSome], h.put i (trT (t.put k v))) := by
  have hdp := Nd.dep_le t
  have hh := ok.avl.high_le
  have hlen := ok.len
  obtain ⟨d, rfl⟩ : ∃ e, d = e + 4 := ⟨d - 4, by omega⟩
  have hg := fun (Q : Res → Prop) (tg : Hid Q) => tget_run (d := d) (s := k) (Q := Q) (tg := tg) ok hm
  have hp := put_nd t (d + 3) (by omega) ok.avl (by omega) k v h
  have e := (ok.put k v hl).2
  have s1 : h.setCell i 0 (HCell.val (t.put k v).A) = h.put i (.cells [HCell.val (t.put k v).A, HCell.val (.int .i64 t.toL.length)]) := by rw [Heap.set_at hm]; rfl
  have hm2 : (h.put i (.cells [HCell.val (t.put k v).A, HCell.val (.int .i64 t.toL.length)])).objs[i]? = some (.cells [HCell.val (t.put k v).A, HCell.val (.int .i64 t.toL.length)]) := Heap.put_get hm
  have c2 : (h.put i (.cells [HCell.val (t.put k v).A, HCell.val (.int .i64 t.toL.length)])).cell? i 1 = some (HCell.val (.int .i64 t.toL.length)) := by rw [Heap.cell_at hm2]; rfl
  have e1 : IntKind.i64.wrap ((t.toL.length : Int) + 1) = ((t.toL.length + 1 : Nat) : Int) := succ_wrap (by omega)
  rw [F44_eq]
  cases h1 : (lget k t.toL).isSome
  · have e2 : (t.put k v).toL.length = t.toL.length + 1 := by rw [e, lput_len_new ok.srt h1]
    have s2 : (h.put i (.cells [HCell.val (t.put k v).A, HCell.val (.int .i64 t.toL.length)])).setCell i 1 (HCell.val (.int .i64 ((t.toL.length + 1 : Nat) : Int))) = h.put i (trT (t.put k v)) := by
      rw [Heap.set_at hm2, Heap.put_put]; unfold trT; rw [e2]; rfl
    simp (disch := (first | assumption | (simp only [Bool.and_eq_true, Bool.and_eq_false_iff, decide_eq_true_eq, decide_eq_false_iff_not, bne_iff_ne, beq_iff_eq, beq_eq_false_iff_ne, bne_eq_false_iff_eq, Bool.not_eq_true', Bool.not_eq_false', bys_length, List.length_append, List.length_cons, List.length_nil, List.length_map, List.length_drop, List.length_take, Int.natCast_add, wrap_i64_eq, wrap_u64, wrap_u8, ne_eq, not_true_eq_false, not_false_eq_true, Nat.zero_add, Nat.mul_one] <;> omega) | omega | (simp; done) | (simp; omega))) only [↓at_runK, ↓at_bind, ↓contQ_mk, ↓at_ret, ↓at_consK, ↓at_nilK, ↓at_optK, ↓at_intK, ↓at_boolK, ↓at_strK, ↓at_slK, ↓at_slOK, ↓at_slK0, ↓at_slOK0, ↓at_aggK, ↓at_cond_t, ↓at_cond_f, ↓at_sameL, ↓at_any1, ↓at_any, and_self, toBytes_bys, List.nil_append, List.append_nil, ↓at_nodeW, List.drop_zero, List.take_succ_cons, List.take_zero, List.getElem?_cons_succ, List.getElem?_cons_zero, cells_agg, eqCells_cons, eqCells_nil, eq1_int, eq1_bool, eq1_str, ↓at_ptr_whole, ↓at_ptr_cell, ↓at_ptr_obj, ↓at_ptr_objs, shift_obj, shift_elt, toA_val, toA_own, Int.toNat_natCast, List.cons_append, hg, h1, trT_root hm, hp, isAgg_A, s1, c2, e1, s2, Bool.not_false]
  · have e2 : (t.put k v).toL.length = t.toL.length := by rw [e, lput_len_old ok.srt h1]
    have s2 : h.put i (.cells [HCell.val (t.put k v).A, HCell.val (.int .i64 t.toL.length)]) = h.put i (trT (t.put k v)) := by unfold trT; rw [e2]
    rw [s2] at s1
    simp (disch := (first | assumption | (simp only [Bool.and_eq_true, Bool.and_eq_false_iff, decide_eq_true_eq, decide_eq_false_iff_not, bne_iff_ne, beq_iff_eq, beq_eq_false_iff_ne, bne_eq_false_iff_eq, Bool.not_eq_true', Bool.not_eq_false', bys_length, List.length_append, List.length_cons, List.length_nil, List.length_map, List.length_drop, List.length_take, Int.natCast_add, wrap_i64_eq, wrap_u64, wrap_u8, ne_eq, not_true_eq_false, not_false_eq_true, Nat.zero_add, Nat.mul_one] <;> omega) | omega | (simp; done) | (simp; omega))) only [↓at_runK, ↓at_bind, ↓contQ_mk, ↓at_ret, ↓at_consK, ↓at_nilK, ↓at_optK, ↓at_intK, ↓at_boolK, ↓at_strK, ↓at_slK, ↓at_slOK, ↓at_slK0, ↓at_slOK0, ↓at_aggK, ↓at_cond_t, ↓at_cond_f, ↓at_sameL, ↓at_any1, ↓at_any, and_self, toBytes_bys, List.nil_append, List.append_nil, ↓at_nodeW, List.drop_zero, List.take_succ_cons, List.take_zero, List.getElem?_cons_succ, List.getElem?_cons_zero, cells_agg, eqCells_cons, eqCells_nil, eq1_int, eq1_bool, eq1_str, ↓at_ptr_whole, ↓at_ptr_cell, ↓at_ptr_obj, ↓at_ptr_objs, shift_obj, shift_elt, toA_val, toA_own, Int.toNat_natCast, List.cons_append, hg, h1, trT_root hm, hp, isAgg_A, s1, Bool.not_true]
theorem tdel_run {d i : Nat} {t : Nd} {k : List UInt8} {h : Heap} {Q : Res → Prop} {tg : Hid Q} (ok : TOk' t) (hm : h.objs[i]? = some (trT t)) (hd : 1010 ≤ d) :
    Run (evFn Cw d 42 [.obj i 0, .str k] h) Q tg = Q ([.str (oVal (lget k t.toL)), .bool (lget k t.toL).isSome], h.put i (trT (if (lget k t.toL).isSome then t.without k else t))) := by
  have hdp := Nd.dep_le t
  have hh := ok.avl.high_le
  have hlen := ok.len
  obtain ⟨d, rfl⟩ : ∃ e, d = e + 4 := ⟨d - 4, by omega⟩
  have hg := fun (Q : Res → Prop) (tg : Hid Q) => tget_run (d := d) (s := k) (Q := Q) (tg := tg) ok hm
  rw [F42_eq]
  cases h1 : (lget k t.toL).isSome
  · rw [if_neg (by simp), Heap.put_self' hm]
    simp (disch := (first | assumption | (simp only [Bool.and_eq_true, Bool.and_eq_false_iff, decide_eq_true_eq, decide_eq_false_iff_not, bne_iff_ne, beq_iff_eq, beq_eq_false_iff_ne, bne_eq_false_iff_eq, Bool.not_eq_true', Bool.not_eq_false', bys_length, List.length_append, List.length_cons, List.length_nil, List.length_map, List.length_drop, List.length_take, Int.natCast_add, wrap_i64_eq, wrap_u64, wrap_u8, ne_eq, not_true_eq_false, not_false_eq_true, Nat.zero_add, Nat.mul_one] <;> omega) | omega | (simp; done) | (simp; omega))) only [↓at_runK, ↓at_bind, ↓contQ_mk, ↓at_ret, ↓at_consK, ↓at_nilK, ↓at_optK, ↓at_intK, ↓at_boolK, ↓at_strK, ↓at_slK, ↓at_slOK, ↓at_slK0, ↓at_slOK0, ↓at_aggK, ↓at_cond_t, ↓at_cond_f, ↓at_sameL, ↓at_any1, ↓at_any, and_self, toBytes_bys, List.nil_append, List.append_nil, ↓at_nodeW, List.drop_zero, List.take_succ_cons, List.take_zero, List.getElem?_cons_succ, List.getElem?_cons_zero, cells_agg, eqCells_cons, eqCells_nil, eq1_int, eq1_bool, eq1_str, ↓at_ptr_whole, ↓at_ptr_cell, ↓at_ptr_obj, ↓at_ptr_objs, shift_obj, shift_elt, toA_val, toA_own, Int.toNat_natCast, List.cons_append, hg, h1]
  · rw [if_pos rfl]
    have e := (ok.del h1).2
    have hp := without_nd t (d + 3) (by omega) (by omega) ok.avl (by omega) ok.srt k (lget_mem h1) h
    have s1 : h.setCell i 0 (HCell.val (t.without k).A) = h.put i (.cells [HCell.val (t.without k).A, HCell.val (.int .i64 t.toL.length)]) := by rw [Heap.set_at hm]; rfl
    have hm2 : (h.put i (.cells [HCell.val (t.without k).A, HCell.val (.int .i64 t.toL.length)])).objs[i]? = some (.cells [HCell.val (t.without k).A, HCell.val (.int .i64 t.toL.length)]) := Heap.put_get hm
    have c2 : (h.put i (.cells [HCell.val (t.without k).A, HCell.val (.int .i64 t.toL.length)])).cell? i 1 = some (HCell.val (.int .i64 t.toL.length)) := by rw [Heap.cell_at hm2]; rfl
    have e3 := ldel_len ok.srt h1
    have e1 : IntKind.i64.wrap ((t.toL.length : Int) - 1) = (((t.without k).toL.length : Nat) : Int) := by rw [wrap_i64_id (by omega) (by omega), e]; omega
    have s2 : (h.put i (.cells [HCell.val (t.without k).A, HCell.val (.int .i64 t.toL.length)])).setCell i 1 (HCell.val (.int .i64 (((t.without k).toL.length : Nat) : Int))) = h.put i (trT (t.without k)) := by
      rw [Heap.set_at hm2, Heap.put_put]; rfl
    simp (disch := (first | assumption | (simp only [Bool.and_eq_true, Bool.and_eq_false_iff, decide_eq_true_eq, decide_eq_false_iff_not, bne_iff_ne, beq_iff_eq, beq_eq_false_iff_ne, bne_eq_false_iff_eq, Bool.not_eq_true', Bool.not_eq_false', bys_length, List.length_append, List.length_cons, List.length_nil, List.length_map, List.length_drop, List.length_take, Int.natCast_add, wrap_i64_eq, wrap_u64, wrap_u8, ne_eq, not_true_eq_false, not_false_eq_true, Nat.zero_add, Nat.mul_one] <;> omega) | omega | (simp; done) | (simp; omega))) only [↓at_runK, ↓at_bind, ↓contQ_mk, ↓at_ret, ↓at_consK, ↓at_nilK, ↓at_optK, ↓at_intK, ↓at_boolK, ↓at_strK, ↓at_slK, ↓at_slOK, ↓at_slK0, ↓at_slOK0, ↓at_aggK, ↓at_cond_t, ↓at_cond_f, ↓at_sameL, ↓at_any1, ↓at_any, and_self, toBytes_bys, List.nil_append, List.append_nil, ↓at_nodeW, List.drop_zero, List.take_succ_cons, List.take_zero, List.getElem?_cons_succ, List.getElem?_cons_zero, cells_agg, eqCells_cons, eqCells_nil, eq1_int, eq1_bool, eq1_str, ↓at_ptr_whole, ↓at_ptr_cell, ↓at_ptr_obj, ↓at_ptr_objs, shift_obj, shift_elt, toA_val, toA_own, Int.toNat_natCast, List.cons_append, hg, h1, trT_root hm, hp, isAgg_A, s1, c2, e1, s2]
theorem tlen_run {d i : Nat} {t : Nd} {h : Heap} {Q : Res → Prop} {tg : Hid Q} (hm : h.objs[i]? = some (trT t)) :
    Run (evFn Cw (d + 1) 63 [.obj i 0] h) Q tg = Q ([.int .i64 t.toL.length], h) := by
  rw [F63_eq]
  simp (disch := (first | assumption | (simp only [Bool.and_eq_true, Bool.and_eq_false_iff, decide_eq_true_eq, decide_eq_false_iff_not, bne_iff_ne, beq_iff_eq, beq_eq_false_iff_ne, bne_eq_false_iff_eq, Bool.not_eq_true', Bool.not_eq_false', bys_length, List.length_append, List.length_cons, List.length_nil, List.length_map, List.length_drop, List.length_take, Int.natCast_add, wrap_i64_eq, wrap_u64, wrap_u8, ne_eq, not_true_eq_false, not_false_eq_true, Nat.zero_add, Nat.mul_one] <;> omega) | omega | (simp; done) | (simp; omega))) only [↓at_runK, ↓at_bind, ↓contQ_mk, ↓at_ret, ↓at_consK, ↓at_nilK, ↓at_optK, ↓at_intK, ↓at_boolK, ↓at_strK, ↓at_slK, ↓at_slOK, ↓at_slK0, ↓at_slOK0, ↓at_aggK, ↓at_cond_t, ↓at_cond_f, ↓at_sameL, ↓at_any1, ↓at_any, and_self, toBytes_bys, List.nil_append, List.append_nil, ↓at_nodeW, List.drop_zero, List.take_succ_cons, List.take_zero, List.getElem?_cons_succ, List.getElem?_cons_zero, cells_agg, eqCells_cons, eqCells_nil, eq1_int, eq1_bool, eq1_str, ↓at_ptr_whole, ↓at_ptr_cell, ↓at_ptr_obj, ↓at_ptr_objs, shift_obj, shift_elt, toA_val, toA_own, Int.toNat_natCast, List.cons_append, trT_n hm]
theorem thigh_run {d i : Nat} {t : Nd} {h : Heap} {Q : Res → Prop} {tg : Hid Q} (hm : h.objs[i]? = some (trT t)) :
    Run (evFn Cw (d + 2) 64 [.obj i 0] h) Q tg = Q ([.int .i64 t.high], h) := by
  rw [F64_eq]
  simp (disch := (first | assumption | (simp only [Bool.and_eq_true, Bool.and_eq_false_iff, decide_eq_true_eq, decide_eq_false_iff_not, bne_iff_ne, beq_iff_eq, beq_eq_false_iff_ne, bne_eq_false_iff_eq, Bool.not_eq_true', Bool.not_eq_false', bys_length, List.length_append, List.length_cons, List.length_nil, List.length_map, List.length_drop, List.length_take, Int.natCast_add, wrap_i64_eq, wrap_u64, wrap_u8, ne_eq, not_true_eq_false, not_false_eq_true, Nat.zero_add, Nat.mul_one] <;> omega) | omega | (simp; done) | (simp; omega))) only [↓at_runK, ↓at_bind, ↓contQ_mk, ↓at_ret, ↓at_consK, ↓at_nilK, ↓at_optK, ↓at_intK, ↓at_boolK, ↓at_strK, ↓at_slK, ↓at_slOK, ↓at_slK0, ↓at_slOK0, ↓at_aggK, ↓at_cond_t, ↓at_cond_f, ↓at_sameL, ↓at_any1, ↓at_any, and_self, toBytes_bys, List.nil_append, List.append_nil, ↓at_nodeW, List.drop_zero, List.take_succ_cons, List.take_zero, List.getElem?_cons_succ, List.getElem?_cons_zero, cells_agg, eqCells_cons, eqCells_nil, eq1_int, eq1_bool, eq1_str, ↓at_ptr_whole, ↓at_ptr_cell, ↓at_ptr_obj, ↓at_ptr_objs, shift_obj, shift_elt, toA_val, toA_own, Int.toNat_natCast, List.cons_append, trT_root hm, high_run]
theorem tnew_run {d : Nat} {h : Heap} {Q : Res → Prop} {tg : Hid Q} : Run (evFn Cw (d + 1) 40 [] h) Q tg = Q ([.obj h.objs.length 0], h.push (trT .nil)) := by
  rw [F40_eq]
  simp (disch := (first | assumption | (simp only [Bool.and_eq_true, Bool.and_eq_false_iff, decide_eq_true_eq, decide_eq_false_iff_not, bne_iff_ne, beq_iff_eq, beq_eq_false_iff_ne, bne_eq_false_iff_eq, Bool.not_eq_true', Bool.not_eq_false', bys_length, List.length_append, List.length_cons, List.length_nil, List.length_map, List.length_drop, List.length_take, Int.natCast_add, wrap_i64_eq, wrap_u64, wrap_u8, ne_eq, not_true_eq_false, not_false_eq_true, Nat.zero_add, Nat.mul_one] <;> omega) | omega | (simp; done) | (simp; omega))) only [↓at_runK, ↓at_bind, ↓contQ_mk, ↓at_ret, ↓at_consK, ↓at_nilK, ↓at_optK, ↓at_intK, ↓at_boolK, ↓at_strK, ↓at_slK, ↓at_slOK, ↓at_slK0, ↓at_slOK0, ↓at_aggK, ↓at_cond_t, ↓at_cond_f, ↓at_sameL, ↓at_any1, ↓at_any, and_self, toBytes_bys, List.nil_append, List.append_nil, ↓at_nodeW, List.drop_zero, List.take_succ_cons, List.take_zero, List.getElem?_cons_succ, List.getElem?_cons_zero, cells_agg, eqCells_cons, eqCells_nil, eq1_int, eq1_bool, eq1_str, ↓at_ptr_whole, ↓at_ptr_cell, ↓at_ptr_obj, ↓at_ptr_objs, shift_obj, shift_elt, toA_val, toA_own, Int.toNat_natCast, List.cons_append]
  rfl
theorem balanced_nd : ∀ (t : Nd) (d : Nat), t.dep + 3 ≤ d → t.Avl → t.high ≤ 900000 → ∀ (h : Heap) (Q : Res → Prop) (tg : Hid Q), Run (evFn Cw d 94 [t.A] h) Q tg = Q ([.bool true], h) := by
  intro t
  induction t with
  | nil =>
    intro d hd _ _ h Q tg
    obtain ⟨d, rfl⟩ : ∃ e, d = e + 1 := ⟨d - 1, by omega⟩
    rw [F94_eq]
    simp (disch := (first | assumption | (simp only [Bool.and_eq_true, Bool.and_eq_false_iff, decide_eq_true_eq, decide_eq_false_iff_not, bne_iff_ne, beq_iff_eq, beq_eq_false_iff_ne, bne_eq_false_iff_eq, Bool.not_eq_true', Bool.not_eq_false', bys_length, List.length_append, List.length_cons, List.length_nil, List.length_map, List.length_drop, List.length_take, Int.natCast_add, wrap_i64_eq, wrap_u64, wrap_u8, ne_eq, not_true_eq_false, not_false_eq_true, Nat.zero_add, Nat.mul_one] <;> omega) | omega | (simp; done) | (simp; omega))) only [↓at_runK, ↓at_bind, ↓contQ_mk, ↓at_ret, ↓at_consK, ↓at_nilK, ↓at_optK, ↓at_intK, ↓at_boolK, ↓at_strK, ↓at_slK, ↓at_slOK, ↓at_slK0, ↓at_slOK0, ↓at_aggK, ↓at_cond_t, ↓at_cond_f, ↓at_sameL, ↓at_any1, ↓at_any, and_self, toBytes_bys, List.nil_append, List.append_nil, ↓at_nodeW, List.drop_zero, List.take_succ_cons, List.take_zero, List.getElem?_cons_succ, List.getElem?_cons_zero, cells_agg, eqCells_cons, eqCells_nil, eq1_int, eq1_bool, eq1_str, ↓at_ptr_whole, ↓at_ptr_cell, ↓at_ptr_obj, ↓at_ptr_objs, shift_obj, shift_elt, toA_val, toA_own, Int.toNat_natCast, List.cons_append, A_nil, isPtr_nilp, isNilp_nilp]
  | node k v l r x ihl ihr =>
    intro d hd ha hb h Q tg
    obtain ⟨d, rfl⟩ : ∃ e, d = e + 2 := ⟨d - 2, by omega⟩
    obtain ⟨a1, a2, a3, a4, a5⟩ := ha
    simp only [Nd.high_node] at hb
    simp only [Nd.dep] at hd
    have n1 := a1.high_nn
    have n2 := a2.high_nn
    have q1 := ihl (d + 1) (by omega) a1 (by omega) h
    have q2 := ihr (d + 1) (by omega) a2 (by omega) h
    have e1 : IntKind.i64.wrap (l.high - r.high) = l.high - r.high := wrap_i64_id (by omega) (by omega)
    have e2 : IntKind.i64.wrap (r.high - l.high) = r.high - l.high := wrap_i64_id (by omega) (by omega)
    have e3 : (x == IntKind.i64.wrap (1 + (if r.high > l.high then r.high else l.high))) = true := by
      rw [wrap_i64_id (by split <;> omega) (by split <;> omega), beq_iff_eq]
      split <;> omega
    rw [F94_eq]
    simp (disch := (first | assumption | (simp only [Bool.and_eq_true, Bool.and_eq_false_iff, decide_eq_true_eq, decide_eq_false_iff_not, bne_iff_ne, beq_iff_eq, beq_eq_false_iff_ne, bne_eq_false_iff_eq, Bool.not_eq_true', Bool.not_eq_false', bys_length, List.length_append, List.length_cons, List.length_nil, List.length_map, List.length_drop, List.length_take, Int.natCast_add, wrap_i64_eq, wrap_u64, wrap_u8, ne_eq, not_true_eq_false, not_false_eq_true, Nat.zero_add, Nat.mul_one] <;> omega) | omega | (simp; done) | (simp; omega))) only [↓at_runK, ↓at_bind, ↓contQ_mk, ↓at_ret, ↓at_consK, ↓at_nilK, ↓at_optK, ↓at_intK, ↓at_boolK, ↓at_strK, ↓at_slK, ↓at_slOK, ↓at_slK0, ↓at_slOK0, ↓at_aggK, ↓at_cond_t, ↓at_cond_f, ↓at_sameL, ↓at_any1, ↓at_any, and_self, toBytes_bys, List.nil_append, List.append_nil, ↓at_nodeW, List.drop_zero, List.take_succ_cons, List.take_zero, List.getElem?_cons_succ, List.getElem?_cons_zero, cells_agg, eqCells_cons, eqCells_nil, eq1_int, eq1_bool, eq1_str, ↓at_ptr_whole, ↓at_ptr_cell, ↓at_ptr_obj, ↓at_ptr_objs, shift_obj, shift_elt, toA_val, toA_own, Int.toNat_natCast, List.cons_append, isPtr_A, isNilp_node, at_nodeN, high_run, e1, e2, e3, q1, q2]

/-! ### All of a tree -/
def balO (c : Int) : Weave.Obj := .cells [HCell.val (.int .i64 c)]
def balS (s : List UInt8) : Weave.Obj := .cells [HCell.val (.str s)]
theorem bal1_run {d i j : Nat} {k v s : List UInt8} {c : Nat} {h : Heap} {Q : Res → Prop} {tg : Hid Q} (hij : i ≠ j) (h1 : h.objs[i]? = some (balO c)) (h2 : h.objs[j]? = some (balS s)) (hc : c ≤ 1000000) (hk : 0 < c → blt s k = true) :
    Run (evFn Cw (d + 1) 93 [.str k, .str v, .obj i 0, .obj j 0] h) Q tg = Q ([.bool true], (h.put i (balO (c + 1 : Nat))).put j (balS k)) := by
  have c1 : h.cell? i 0 = some (HCell.val (.int .i64 c)) := by rw [Heap.cell_at h1]; rfl
  have c2 : h.cell? j 0 = some (HCell.val (.str s)) := by rw [Heap.cell_at h2]; rfl
  have e1 := succ_wrap (i := c) (by omega)
  have s1 : h.setCell i 0 (HCell.val (.int .i64 (c + 1 : Nat))) = h.put i (balO (c + 1 : Nat)) := by rw [Heap.set_at h1]; rfl
  have h3 : (h.put i (balO (c + 1 : Nat))).objs[j]? = some (balS s) := by rw [Heap.put_ne hij]; exact h2
  have c3 : (h.put i (balO (c + 1 : Nat))).cell? j 0 = some (HCell.val (.str s)) := by rw [Heap.cell_at h3]; rfl
  have s2 : (h.put i (balO (c + 1 : Nat))).setCell j 0 (HCell.val (.str k)) = (h.put i (balO (c + 1 : Nat))).put j (balS k) := by rw [Heap.set_at h3]; rfl
  rw [F93_eq]
  rcases Nat.eq_zero_or_pos c with hz | hz
  · subst hz
    rw [e0] at c1 e1
    simp (disch := (first | assumption | (simp only [Bool.and_eq_true, Bool.and_eq_false_iff, decide_eq_true_eq, decide_eq_false_iff_not, bne_iff_ne, beq_iff_eq, beq_eq_false_iff_ne, bne_eq_false_iff_eq, Bool.not_eq_true', Bool.not_eq_false', bys_length, List.length_append, List.length_cons, List.length_nil, List.length_map, List.length_drop, List.length_take, Int.natCast_add, wrap_i64_eq, wrap_u64, wrap_u8, ne_eq, not_true_eq_false, not_false_eq_true, Nat.zero_add, Nat.mul_one] <;> omega) | omega | (simp; done) | (simp; omega))) only [↓at_runK, ↓at_bind, ↓contQ_mk, ↓at_ret, ↓at_consK, ↓at_nilK, ↓at_optK, ↓at_intK, ↓at_boolK, ↓at_strK, ↓at_slK, ↓at_slOK, ↓at_slK0, ↓at_slOK0, ↓at_aggK, ↓at_cond_t, ↓at_cond_f, ↓at_sameL, ↓at_any1, ↓at_any, and_self, toBytes_bys, List.nil_append, List.append_nil, ↓at_nodeW, List.drop_zero, List.take_succ_cons, List.take_zero, List.getElem?_cons_succ, List.getElem?_cons_zero, cells_agg, eqCells_cons, eqCells_nil, eq1_int, eq1_bool, eq1_str, ↓at_ptr_whole, ↓at_ptr_cell, ↓at_ptr_obj, ↓at_ptr_objs, shift_obj, shift_elt, toA_val, toA_own, Int.toNat_natCast, List.cons_append, c1, c2, e1, s1, c3, s2]
  · have b1 : Go.Op.bytesLess k s = false := blt_asym (hk hz)
    have b2 : (k == s) = false := by simpa using (blt_ne (hk hz)).symm
    simp (disch := (first | assumption | (simp only [Bool.and_eq_true, Bool.and_eq_false_iff, decide_eq_true_eq, decide_eq_false_iff_not, bne_iff_ne, beq_iff_eq, beq_eq_false_iff_ne, bne_eq_false_iff_eq, Bool.not_eq_true', Bool.not_eq_false', bys_length, List.length_append, List.length_cons, List.length_nil, List.length_map, List.length_drop, List.length_take, Int.natCast_add, wrap_i64_eq, wrap_u64, wrap_u8, ne_eq, not_true_eq_false, not_false_eq_true, Nat.zero_add, Nat.mul_one] <;> omega) | omega | (simp; done) | (simp; omega))) only [↓at_runK, ↓at_bind, ↓contQ_mk, ↓at_ret, ↓at_consK, ↓at_nilK, ↓at_optK, ↓at_intK, ↓at_boolK, ↓at_strK, ↓at_slK, ↓at_slOK, ↓at_slK0, ↓at_slOK0, ↓at_aggK, ↓at_cond_t, ↓at_cond_f, ↓at_sameL, ↓at_any1, ↓at_any, and_self, toBytes_bys, List.nil_append, List.append_nil, ↓at_nodeW, List.drop_zero, List.take_succ_cons, List.take_zero, List.getElem?_cons_succ, List.getElem?_cons_zero, cells_agg, eqCells_cons, eqCells_nil, eq1_int, eq1_bool, eq1_str, ↓at_ptr_whole, ↓at_ptr_cell, ↓at_ptr_obj, ↓at_ptr_objs, shift_obj, shift_elt, toA_val, toA_own, Int.toNat_natCast, List.cons_append, c1, c2, b1, b2, Bool.or_false, e1, s1, c3, s2]
theorem bal_each {i j : Nat} (hij : i ≠ j) : ∀ (t : Nd) (d c : Nat) (s : List UInt8) (h : Heap), t.dep + 3 ≤ d → Srt t.toL → c + t.toL.length ≤ 1000000 → h.objs[i]? = some (balO c) → h.objs[j]? = some (balS s) → (∀ p ∈ t.toL, 0 < c → blt s p.key = true) →
    ∃ s', (∀ x : List UInt8, (∀ p ∈ t.toL, blt p.key x = true) → (0 < c → blt s x = true) → 0 < c + t.toL.length → blt s' x = true) ∧ ∀ (Q : Res → Prop) (tg : Hid Q),
      Run (evFn Cw d 90 [t.A, .fn 93 [] [.obj i 0, .obj j 0]] h) Q tg = Q ([.bool true], (h.put i (balO (c + t.toL.length : Nat))).put j (balS s')) := by
  intro t
  induction t with
  | nil =>
    intro d c s h hd _ _ h1 h2 _
    obtain ⟨d, rfl⟩ : ∃ e, d = e + 1 := ⟨d - 1, by omega⟩
    refine ⟨s, fun x _ hx hc => hx hc, fun Q tg => ?_⟩
    have e : c + Nd.nil.toL.length = c := rfl
    have e2 : (h.put i (balO c)).put j (balS s) = h := by rw [Heap.put_self' h1, Heap.put_self' h2]
    rw [F90bal_eq, e, e2]
    simp (disch := (first | assumption | (simp only [Bool.and_eq_true, Bool.and_eq_false_iff, decide_eq_true_eq, decide_eq_false_iff_not, bne_iff_ne, beq_iff_eq, beq_eq_false_iff_ne, bne_eq_false_iff_eq, Bool.not_eq_true', Bool.not_eq_false', bys_length, List.length_append, List.length_cons, List.length_nil, List.length_map, List.length_drop, List.length_take, Int.natCast_add, wrap_i64_eq, wrap_u64, wrap_u8, ne_eq, not_true_eq_false, not_false_eq_true, Nat.zero_add, Nat.mul_one] <;> omega) | omega | (simp; done) | (simp; omega))) only [↓at_runK, ↓at_bind, ↓contQ_mk, ↓at_ret, ↓at_consK, ↓at_nilK, ↓at_optK, ↓at_intK, ↓at_boolK, ↓at_strK, ↓at_slK, ↓at_slOK, ↓at_slK0, ↓at_slOK0, ↓at_aggK, ↓at_cond_t, ↓at_cond_f, ↓at_sameL, ↓at_any1, ↓at_any, and_self, toBytes_bys, List.nil_append, List.append_nil, ↓at_nodeW, List.drop_zero, List.take_succ_cons, List.take_zero, List.getElem?_cons_succ, List.getElem?_cons_zero, cells_agg, eqCells_cons, eqCells_nil, eq1_int, eq1_bool, eq1_str, ↓at_ptr_whole, ↓at_ptr_cell, ↓at_ptr_obj, ↓at_ptr_objs, shift_obj, shift_elt, toA_val, toA_own, Int.toNat_natCast, List.cons_append, A_nil, isPtr_nilp, isNilp_nilp]
  | node k v l r x ihl ihr =>
    intro d c s h hd hs hc h1 h2 hlt
    obtain ⟨d, rfl⟩ : ∃ e, d = e + 2 := ⟨d - 2, by omega⟩
    simp only [Nd.dep] at hd
    rw [Nd.toL_node] at hs
    simp only [Nd.toL_node, List.length_append, List.length_cons] at hc hlt ⊢
    obtain ⟨s1, s2, s3, s4⟩ := hs.mid
    obtain ⟨sl, pl, rl⟩ := ihl (d + 1) c s h (by omega) s1 (by omega) h1 h2 (fun p hp h0 => hlt p (by simp [hp]) h0)
    have m1 : ((h.put i (balO (c + l.toL.length : Nat))).put j (balS sl)).objs[i]? = some (balO (c + l.toL.length : Nat)) := by rw [Heap.put_ne (Ne.symm hij)]; exact Heap.put_get h1
    have m2 : ((h.put i (balO (c + l.toL.length : Nat))).put j (balS sl)).objs[j]? = some (balS sl) := Heap.put_get (o' := balS s) (by rw [Heap.put_ne hij]; exact h2)
    have rb := fun (Q : Res → Prop) (tg : Hid Q) => bal1_run (d := d) (k := k) (v := v) (Q := Q) (tg := tg) hij m1 m2 (by omega) (fun h0 => pl k s3 (fun h0' => hlt ⟨k, v⟩ (by simp) h0') h0)
    have e1 : ((((h.put i (balO (c + l.toL.length : Nat))).put j (balS sl)).put i (balO (c + l.toL.length + 1 : Nat))).put j (balS k)) = (h.put i (balO (c + l.toL.length + 1 : Nat))).put j (balS k) := by
      rw [Heap.put_comm _ _ _ (Ne.symm hij), Heap.put_put, Heap.put_put]
    rw [e1] at rb
    have m3 : ((h.put i (balO (c + l.toL.length + 1 : Nat))).put j (balS k)).objs[i]? = some (balO (c + l.toL.length + 1 : Nat)) := by rw [Heap.put_ne (Ne.symm hij)]; exact Heap.put_get h1
    have m4 : ((h.put i (balO (c + l.toL.length + 1 : Nat))).put j (balS k)).objs[j]? = some (balS k) := Heap.put_get (o' := balS s) (by rw [Heap.put_ne hij]; exact h2)
    obtain ⟨sr, pr, rr⟩ := ihr (d + 1) (c + l.toL.length + 1) k _ (by omega) s2 (by omega) m3 m4 (fun p hp _ => s4 p hp)
    have e2 : ((((h.put i (balO (c + l.toL.length + 1 : Nat))).put j (balS k)).put i (balO (c + l.toL.length + 1 + r.toL.length : Nat))).put j (balS sr)) = (h.put i (balO (c + (l.toL.length + (r.toL.length + 1)) : Nat))).put j (balS sr) := by
      rw [Heap.put_comm _ _ _ (Ne.symm hij), Heap.put_put, Heap.put_put]
      congr 3
      omega
    rw [e2] at rr
    refine ⟨sr, fun y hy hy0 _ => ?_, fun Q tg => ?_⟩
    · exact pr y (fun p hp => hy p (by simp [hp])) (fun _ => hy ⟨k, v⟩ (by simp)) (by omega)
    · rw [F90bal_eq]
      simp (disch := (first | assumption | (simp only [Bool.and_eq_true, Bool.and_eq_false_iff, decide_eq_true_eq, decide_eq_false_iff_not, bne_iff_ne, beq_iff_eq, beq_eq_false_iff_ne, bne_eq_false_iff_eq, Bool.not_eq_true', Bool.not_eq_false', bys_length, List.length_append, List.length_cons, List.length_nil, List.length_map, List.length_drop, List.length_take, Int.natCast_add, wrap_i64_eq, wrap_u64, wrap_u8, ne_eq, not_true_eq_false, not_false_eq_true, Nat.zero_add, Nat.mul_one] <;> omega) | omega | (simp; done) | (simp; omega))) only [↓at_runK, ↓at_bind, ↓contQ_mk, ↓at_ret, ↓at_consK, ↓at_nilK, ↓at_optK, ↓at_intK, ↓at_boolK, ↓at_strK, ↓at_slK, ↓at_slOK, ↓at_slK0, ↓at_slOK0, ↓at_aggK, ↓at_cond_t, ↓at_cond_f, ↓at_sameL, ↓at_any1, ↓at_any, and_self, toBytes_bys, List.nil_append, List.append_nil, ↓at_nodeW, List.drop_zero, List.take_succ_cons, List.take_zero, List.getElem?_cons_succ, List.getElem?_cons_zero, cells_agg, eqCells_cons, eqCells_nil, eq1_int, eq1_bool, eq1_str, ↓at_ptr_whole, ↓at_ptr_cell, ↓at_ptr_obj, ↓at_ptr_objs, shift_obj, shift_elt, toA_val, toA_own, Int.toNat_natCast, List.cons_append, isPtr_A, isNilp_node, at_nodeN, rl, rb, rr]

theorem tbalanced_run {d i : Nat} {t : Nd} {h : Heap} (ok : TOk' t) (hm : h.objs[i]? = some (trT t)) (hd : 1010 ≤ d) :
    ∃ h', h.ext h' ∧ ∀ (Q : Res → Prop) (tg : Hid Q), Run (evFn Cw d 65 [.obj i 0] h) Q tg = Q ([.bool true], h') := by
  have hdp := Nd.dep_le t
  have hh := ok.avl.high_le
  have hlen := ok.len
  obtain ⟨d, rfl⟩ : ∃ e, d = e + 2 := ⟨d - 2, by omega⟩
  have hi := Heap.lt_of hm
  have E1 := Heap.ext.push h (balO 0)
  have E2 := E1.trans (Heap.ext.push (h.push (balO 0)) (balS []))
  have ln : (h.push (balO 0)).objs.length = h.objs.length + 1 := Heap.push_len h _
  have m1 : ((h.push (balO 0)).push (balS [])).objs[h.objs.length]? = some (balO 0) := by rw [Heap.push_old (by rw [ln]; omega)]; exact Heap.push_new h _
  have m2 : ((h.push (balO 0)).push (balS [])).objs[h.objs.length + 1]? = some (balS []) := by rw [← ln]; exact Heap.push_new _ _
  have m1' : ((h.push (balO 0)).push (balS [])).objs[h.objs.length]? = some (balO (0 : Nat)) := m1
  obtain ⟨s', _, re⟩ := bal_each (i := h.objs.length) (j := h.objs.length + 1) (by omega) t d 0 [] ((h.push (balO 0)).push (balS [])) (by omega) ok.srt (by omega) m1' m2 (fun _ _ h0 => absurd h0 (by omega))
  rw [Nat.zero_add] at re
  have hm' := E2.get hm
  have c1 : ((h.push (balO 0)).push (balS [])).cell? h.objs.length 0 = some (HCell.val (.int .i64 0)) := by rw [Heap.cell_at m1]; rfl
  have c2 : ((h.push (balO 0)).push (balS [])).cell? (h.objs.length + 1) 0 = some (HCell.val (.str [])) := by rw [Heap.cell_at m2]; rfl
  have s1 : ((h.push (balO 0)).push (balS [])).setCell h.objs.length 0 (HCell.val (.int .i64 0)) = (h.push (balO 0)).push (balS []) := by
    rw [Heap.set_at m1]; exact Heap.put_self' m1
  have s2 : ((h.push (balO 0)).push (balS [])).setCell (h.objs.length + 1) 0 (HCell.val (.str [])) = (h.push (balO 0)).push (balS []) := by
    rw [Heap.set_at m2]; exact Heap.put_self' m2
  have o1 : Weave.Obj.cells [HCell.val (.int .i64 0)] = balO 0 := of_eq_true (eq_self _)
  have o2 : Weave.Obj.cells [HCell.val (.str [])] = balS [] := of_eq_true (eq_self _)
  -- behind Each
  have E3 := (E2.put (id := h.objs.length) (o := balO (t.toL.length : Nat)) (Nat.le_refl _)).put (id := h.objs.length + 1) (o := balS s') (by omega)
  have hm3 := E3.get hm
  have r0 := trT_root hm3
  have r1 := trT_n hm3
  have m3 : ((((h.push (balO 0)).push (balS [])).put h.objs.length (balO (t.toL.length : Nat))).put (h.objs.length + 1) (balS s')).objs[h.objs.length]? = some (balO (t.toL.length : Nat)) := by
    rw [Heap.put_ne (by omega)]; exact Heap.put_get m1
  have c3 : ((((h.push (balO 0)).push (balS [])).put h.objs.length (balO (t.toL.length : Nat))).put (h.objs.length + 1) (balS s')).cell? h.objs.length 0 = some (HCell.val (.int .i64 (t.toL.length : Nat))) := by rw [Heap.cell_at m3]; rfl
  have rE : ∀ (Q : Res → Prop) (tg : Hid Q), Run (evFn Cw (d + 1) 58 [.obj i 0, .fn 93 [] [.obj h.objs.length 0, .obj (h.objs.length + 1) 0]] ((h.push (balO 0)).push (balS []))) Q tg
      = Q ([], (((h.push (balO 0)).push (balS [])).put h.objs.length (balO (t.toL.length : Nat))).put (h.objs.length + 1) (balS s')) := fun Q tg => by
    rw [F58bal_eq]
    simp (disch := (first | assumption | (simp only [Bool.and_eq_true, Bool.and_eq_false_iff, decide_eq_true_eq, decide_eq_false_iff_not, bne_iff_ne, beq_iff_eq, beq_eq_false_iff_ne, bne_eq_false_iff_eq, Bool.not_eq_true', Bool.not_eq_false', bys_length, List.length_append, List.length_cons, List.length_nil, List.length_map, List.length_drop, List.length_take, Int.natCast_add, wrap_i64_eq, wrap_u64, wrap_u8, ne_eq, not_true_eq_false, not_false_eq_true, Nat.zero_add, Nat.mul_one] <;> omega) | omega | (simp; done) | (simp; omega))) only [↓at_runK, ↓at_bind, ↓contQ_mk, ↓at_ret, ↓at_consK, ↓at_nilK, ↓at_optK, ↓at_intK, ↓at_boolK, ↓at_strK, ↓at_slK, ↓at_slOK, ↓at_slK0, ↓at_slOK0, ↓at_aggK, ↓at_cond_t, ↓at_cond_f, ↓at_sameL, ↓at_any1, ↓at_any, and_self, toBytes_bys, List.nil_append, List.append_nil, ↓at_nodeW, List.drop_zero, List.take_succ_cons, List.take_zero, List.getElem?_cons_succ, List.getElem?_cons_zero, cells_agg, eqCells_cons, eqCells_nil, eq1_int, eq1_bool, eq1_str, ↓at_ptr_whole, ↓at_ptr_cell, ↓at_ptr_obj, ↓at_ptr_objs, shift_obj, shift_elt, toA_val, toA_own, Int.toNat_natCast, List.cons_append, trT_root hm', re]
  have rb := balanced_nd t (d + 1) (by omega) ok.avl (by omega)
  refine ⟨_, E3, fun Q tg => ?_⟩
  rw [F65_eq]
  simp (disch := (first | assumption | (simp only [Bool.and_eq_true, Bool.and_eq_false_iff, decide_eq_true_eq, decide_eq_false_iff_not, bne_iff_ne, beq_iff_eq, beq_eq_false_iff_ne, bne_eq_false_iff_eq, Bool.not_eq_true', Bool.not_eq_false', bys_length, List.length_append, List.length_cons, List.length_nil, List.length_map, List.length_drop, List.length_take, Int.natCast_add, wrap_i64_eq, wrap_u64, wrap_u8, ne_eq, not_true_eq_false, not_false_eq_true, Nat.zero_add, Nat.mul_one] <;> omega) | omega | (simp; done) | (simp; omega))) only [↓at_runK, ↓at_bind, ↓contQ_mk, ↓at_ret, ↓at_consK, ↓at_nilK, ↓at_optK, ↓at_intK, ↓at_boolK, ↓at_strK, ↓at_slK, ↓at_slOK, ↓at_slK0, ↓at_slOK0, ↓at_aggK, ↓at_cond_t, ↓at_cond_f, ↓at_sameL, ↓at_any1, ↓at_any, and_self, toBytes_bys, List.nil_append, List.append_nil, ↓at_nodeW, List.drop_zero, List.take_succ_cons, List.take_zero, List.getElem?_cons_succ, List.getElem?_cons_zero, cells_agg, eqCells_cons, eqCells_nil, eq1_int, eq1_bool, eq1_str, ↓at_ptr_whole, ↓at_ptr_cell, ↓at_ptr_obj, ↓at_ptr_objs, shift_obj, shift_elt, toA_val, toA_own, Int.toNat_natCast, List.cons_append, o1, o2, ln, c1, s1, c2, s2, rE, c3, r1, r0, rb]

/-- The variable in which pairs are gathered. -/
def pvO (o : Weave.Obj) (l : List KPair) : Prop := (o = .cells [HCell.val (.sl true 3 [])] ∧ l = []) ∨ o = .cells [HCell.own 3 (prs l)]
theorem pvO.cell {o : Weave.Obj} {l : List KPair} (ho : pvO o l) {h : Heap} {i : Nat} (hm : h.objs[i]? = some o) : ∃ c, h.cell? i 0 = some c ∧ ∃ f, c.toA = .sl f 3 (prs l) := by
  rcases ho with ⟨rfl, rfl⟩ | rfl
  · exact ⟨_, by rw [Heap.cell_at hm]; rfl, true, rfl⟩
  · exact ⟨_, by rw [Heap.cell_at hm]; rfl, false, rfl⟩
theorem prs1_run {d i : Nat} {k v : List UInt8} {o : Weave.Obj} {l : List KPair} {h : Heap} {Q : Res → Prop} {tg : Hid Q} (ho : pvO o l) (hm : h.objs[i]? = some o) (hl : l.length ≤ 1000000) :
    Run (evFn Cw (d + 1) 95 [.str k, .str v, .obj i 0] h) Q tg = Q ([.bool true], h.put i (.cells [HCell.own 3 (prs (l ++ [⟨k, v⟩]))])) := by
  rw [F95_eq]
  rcases ho with ⟨rfl, rfl⟩ | rfl
  · have c1 : h.cell? i 0 = some (HCell.val (.sl true 3 [])) := by rw [Heap.cell_at hm]; rfl
    have s1 : h.setCell i 0 (HCell.own 3 [.agg [.str k, .str v]]) = h.put i (.cells [HCell.own 3 (prs ([] ++ [⟨k, v⟩]))]) := by rw [Heap.set_at hm]; rfl
    simp (disch := (first | assumption | (simp only [Bool.and_eq_true, Bool.and_eq_false_iff, decide_eq_true_eq, decide_eq_false_iff_not, bne_iff_ne, beq_iff_eq, beq_eq_false_iff_ne, bne_eq_false_iff_eq, Bool.not_eq_true', Bool.not_eq_false', bys_length, List.length_append, List.length_cons, List.length_nil, List.length_map, List.length_drop, List.length_take, Int.natCast_add, wrap_i64_eq, wrap_u64, wrap_u8, ne_eq, not_true_eq_false, not_false_eq_true, Nat.zero_add, Nat.mul_one] <;> omega) | omega | (simp; done) | (simp; omega))) only [↓at_runK, ↓at_bind, ↓contQ_mk, ↓at_ret, ↓at_consK, ↓at_nilK, ↓at_optK, ↓at_intK, ↓at_boolK, ↓at_strK, ↓at_slK, ↓at_slOK, ↓at_slK0, ↓at_slOK0, ↓at_aggK, ↓at_cond_t, ↓at_cond_f, ↓at_sameL, ↓at_any1, ↓at_any, and_self, toBytes_bys, List.nil_append, List.append_nil, ↓at_nodeW, List.drop_zero, List.take_succ_cons, List.take_zero, List.getElem?_cons_succ, List.getElem?_cons_zero, cells_agg, eqCells_cons, eqCells_nil, eq1_int, eq1_bool, eq1_str, ↓at_ptr_whole, ↓at_ptr_cell, ↓at_ptr_obj, ↓at_ptr_objs, shift_obj, shift_elt, toA_val, toA_own, Int.toNat_natCast, List.cons_append, c1, at_lentK_full c1, s1]
  · have c1 : h.cell? i 0 = some (HCell.own 3 (prs l)) := by rw [Heap.cell_at hm]; rfl
    have s1 : h.setCell i 0 (HCell.val (.sl false 3 (prs l))) = h.put i (.cells [HCell.val (.sl false 3 (prs l))]) := by rw [Heap.set_at hm]; rfl
    have hm2 : (h.put i (.cells [HCell.val (.sl false 3 (prs l))])).objs[i]? = some (.cells [HCell.val (.sl false 3 (prs l))]) := Heap.put_get hm
    have c2 : (h.put i (.cells [HCell.val (.sl false 3 (prs l))])).cell? i 0 = some (HCell.val (.sl false 3 (prs l))) := by rw [Heap.cell_at hm2]; rfl
    have s2 : (h.put i (.cells [HCell.val (.sl false 3 (prs l))])).setCell i 0 (HCell.own 3 (prs (l ++ [⟨k, v⟩]))) = h.put i (.cells [HCell.own 3 (prs (l ++ [⟨k, v⟩]))]) := by rw [Heap.set_at hm2, Heap.put_put]; rfl
    simp (disch := (first | assumption | (simp only [Bool.and_eq_true, Bool.and_eq_false_iff, decide_eq_true_eq, decide_eq_false_iff_not, bne_iff_ne, beq_iff_eq, beq_eq_false_iff_ne, bne_eq_false_iff_eq, Bool.not_eq_true', Bool.not_eq_false', bys_length, List.length_append, List.length_cons, List.length_nil, List.length_map, List.length_drop, List.length_take, Int.natCast_add, wrap_i64_eq, wrap_u64, wrap_u8, ne_eq, not_true_eq_false, not_false_eq_true, Nat.zero_add, Nat.mul_one] <;> omega) | omega | (simp; done) | (simp; omega))) only [↓at_runK, ↓at_bind, ↓contQ_mk, ↓at_ret, ↓at_consK, ↓at_nilK, ↓at_optK, ↓at_intK, ↓at_boolK, ↓at_strK, ↓at_slK, ↓at_slOK, ↓at_slK0, ↓at_slOK0, ↓at_aggK, ↓at_cond_t, ↓at_cond_f, ↓at_sameL, ↓at_any1, ↓at_any, and_self, toBytes_bys, List.nil_append, List.append_nil, ↓at_nodeW, List.drop_zero, List.take_succ_cons, List.take_zero, List.getElem?_cons_succ, List.getElem?_cons_zero, cells_agg, eqCells_cons, eqCells_nil, eq1_int, eq1_bool, eq1_str, ↓at_ptr_whole, ↓at_ptr_cell, ↓at_ptr_obj, ↓at_ptr_objs, shift_obj, shift_elt, toA_val, toA_own, Int.toNat_natCast, List.cons_append, c1, at_lentK_own c1, s1, c2, prs_length, prs_snoc, s2]
theorem prs_each {i : Nat} : ∀ (t : Nd) (d : Nat) (o : Weave.Obj) (l0 : List KPair) (h : Heap), t.dep + 3 ≤ d → l0.length + t.toL.length ≤ 1000000 → pvO o l0 → h.objs[i]? = some o →
    ∃ o', pvO o' (l0 ++ t.toL) ∧ ∀ (Q : Res → Prop) (tg : Hid Q), Run (evFn Cw d 90 [t.A, .fn 95 [] [.obj i 0]] h) Q tg = Q ([.bool true], h.put i o') := by
  intro t
  induction t with
  | nil =>
    intro d o l0 h hd _ ho hm
    obtain ⟨d, rfl⟩ : ∃ e, d = e + 1 := ⟨d - 1, by omega⟩
    refine ⟨o, by simpa [Nd.toL] using ho, fun Q tg => ?_⟩
    rw [F90prs_eq, Heap.put_self' hm]
    simp (disch := (first | assumption | (simp only [Bool.and_eq_true, Bool.and_eq_false_iff, decide_eq_true_eq, decide_eq_false_iff_not, bne_iff_ne, beq_iff_eq, beq_eq_false_iff_ne, bne_eq_false_iff_eq, Bool.not_eq_true', Bool.not_eq_false', bys_length, List.length_append, List.length_cons, List.length_nil, List.length_map, List.length_drop, List.length_take, Int.natCast_add, wrap_i64_eq, wrap_u64, wrap_u8, ne_eq, not_true_eq_false, not_false_eq_true, Nat.zero_add, Nat.mul_one] <;> omega) | omega | (simp; done) | (simp; omega))) only [↓at_runK, ↓at_bind, ↓contQ_mk, ↓at_ret, ↓at_consK, ↓at_nilK, ↓at_optK, ↓at_intK, ↓at_boolK, ↓at_strK, ↓at_slK, ↓at_slOK, ↓at_slK0, ↓at_slOK0, ↓at_aggK, ↓at_cond_t, ↓at_cond_f, ↓at_sameL, ↓at_any1, ↓at_any, and_self, toBytes_bys, List.nil_append, List.append_nil, ↓at_nodeW, List.drop_zero, List.take_succ_cons, List.take_zero, List.getElem?_cons_succ, List.getElem?_cons_zero, cells_agg, eqCells_cons, eqCells_nil, eq1_int, eq1_bool, eq1_str, ↓at_ptr_whole, ↓at_ptr_cell, ↓at_ptr_obj, ↓at_ptr_objs, shift_obj, shift_elt, toA_val, toA_own, Int.toNat_natCast, List.cons_append, A_nil, isPtr_nilp, isNilp_nilp]
  | node k v l r x ihl ihr =>
    intro d o l0 h hd hlen ho hm
    obtain ⟨d, rfl⟩ : ∃ e, d = e + 2 := ⟨d - 2, by omega⟩
    simp only [Nd.dep] at hd
    simp only [Nd.toL_node, List.length_append, List.length_cons] at hlen ⊢
    obtain ⟨o1, po1, r1⟩ := ihl (d + 1) o l0 h (by omega) (by omega) ho hm
    have m1 : (h.put i o1).objs[i]? = some o1 := Heap.put_get hm
    have r2 := fun (Q : Res → Prop) (tg : Hid Q) => prs1_run (d := d) (k := k) (v := v) (Q := Q) (tg := tg) po1 m1 (by rw [List.length_append]; omega)
    rw [Heap.put_put] at r2
    have m2 : (h.put i (.cells [HCell.own 3 (prs (l0 ++ l.toL ++ [⟨k, v⟩]))])).objs[i]? = some (.cells [HCell.own 3 (prs (l0 ++ l.toL ++ [⟨k, v⟩]))]) := Heap.put_get hm
    obtain ⟨o3, po3, r3⟩ := ihr (d + 1) _ (l0 ++ l.toL ++ [⟨k, v⟩]) _ (by omega) (by simp; omega) (.inr rfl) m2
    rw [Heap.put_put] at r3
    refine ⟨o3, by simpa using po3, fun Q tg => ?_⟩
    rw [F90prs_eq]
    simp (disch := (first | assumption | (simp only [Bool.and_eq_true, Bool.and_eq_false_iff, decide_eq_true_eq, decide_eq_false_iff_not, bne_iff_ne, beq_iff_eq, beq_eq_false_iff_ne, bne_eq_false_iff_eq, Bool.not_eq_true', Bool.not_eq_false', bys_length, List.length_append, List.length_cons, List.length_nil, List.length_map, List.length_drop, List.length_take, Int.natCast_add, wrap_i64_eq, wrap_u64, wrap_u8, ne_eq, not_true_eq_false, not_false_eq_true, Nat.zero_add, Nat.mul_one] <;> omega) | omega | (simp; done) | (simp; omega))) only [↓at_runK, ↓at_bind, ↓contQ_mk, ↓at_ret, ↓at_consK, ↓at_nilK, ↓at_optK, ↓at_intK, ↓at_boolK, ↓at_strK, ↓at_slK, ↓at_slOK, ↓at_slK0, ↓at_slOK0, ↓at_aggK, ↓at_cond_t, ↓at_cond_f, ↓at_sameL, ↓at_any1, ↓at_any, and_self, toBytes_bys, List.nil_append, List.append_nil, ↓at_nodeW, List.drop_zero, List.take_succ_cons, List.take_zero, List.getElem?_cons_succ, List.getElem?_cons_zero, cells_agg, eqCells_cons, eqCells_nil, eq1_int, eq1_bool, eq1_str, ↓at_ptr_whole, ↓at_ptr_cell, ↓at_ptr_obj, ↓at_ptr_objs, shift_obj, shift_elt, toA_val, toA_own, Int.toNat_natCast, List.cons_append, isPtr_A, isNilp_node, at_nodeN, r1, r2, r3]
theorem pairs31_run {d i : Nat} {t : Nd} {h : Heap} (ok : TOk' t) (hm : h.objs[i]? = some (trT t)) (hd : 1010 ≤ d) :
    ∃ h', h.ext h' ∧ ∀ (Q : Res → Prop) (tg : Hid Q), Run (evFn Cw d 66 [.obj i 0] h) Q tg = Q ([.sl false 3 (prs t.toL)], h') := by
  have hdp := Nd.dep_le t
  have hlen := ok.len
  obtain ⟨d, rfl⟩ : ∃ e, d = e + 2 := ⟨d - 2, by omega⟩
  have E1 := Heap.ext.push h (.cells [HCell.val (.sl true 3 [])])
  have m1 := Heap.push_new h (.cells [HCell.val (.sl true 3 [])])
  obtain ⟨o', po, re⟩ := prs_each t d (.cells [HCell.val (.sl true 3 [])]) [] (h.push (.cells [HCell.val (.sl true 3 [])])) (by omega) (by simp; omega) (.inl ⟨rfl, rfl⟩) m1
  have hm' := E1.get hm
  have E2 := E1.put (id := h.objs.length) (o := o') (Nat.le_refl _)
  have m2 : ((h.push (.cells [HCell.val (.sl true 3 [])])).put h.objs.length o').objs[h.objs.length]? = some o' := Heap.put_get m1
  obtain ⟨c, hc, f, hf⟩ := po.cell m2
  rw [List.nil_append] at hf
  have rE : ∀ (Q : Res → Prop) (tg : Hid Q), Run (evFn Cw (d + 1) 58 [.obj i 0, .fn 95 [] [.obj h.objs.length 0]] (h.push (.cells [HCell.val (.sl true 3 [])]))) Q tg
      = Q ([], (h.push (.cells [HCell.val (.sl true 3 [])])).put h.objs.length o') := fun Q tg => by
    rw [F58prs_eq]
    simp (disch := (first | assumption | (simp only [Bool.and_eq_true, Bool.and_eq_false_iff, decide_eq_true_eq, decide_eq_false_iff_not, bne_iff_ne, beq_iff_eq, beq_eq_false_iff_ne, bne_eq_false_iff_eq, Bool.not_eq_true', Bool.not_eq_false', bys_length, List.length_append, List.length_cons, List.length_nil, List.length_map, List.length_drop, List.length_take, Int.natCast_add, wrap_i64_eq, wrap_u64, wrap_u8, ne_eq, not_true_eq_false, not_false_eq_true, Nat.zero_add, Nat.mul_one] <;> omega) | omega | (simp; done) | (simp; omega))) only [↓at_runK, ↓at_bind, ↓contQ_mk, ↓at_ret, ↓at_consK, ↓at_nilK, ↓at_optK, ↓at_intK, ↓at_boolK, ↓at_strK, ↓at_slK, ↓at_slOK, ↓at_slK0, ↓at_slOK0, ↓at_aggK, ↓at_cond_t, ↓at_cond_f, ↓at_sameL, ↓at_any1, ↓at_any, and_self, toBytes_bys, List.nil_append, List.append_nil, ↓at_nodeW, List.drop_zero, List.take_succ_cons, List.take_zero, List.getElem?_cons_succ, List.getElem?_cons_zero, cells_agg, eqCells_cons, eqCells_nil, eq1_int, eq1_bool, eq1_str, ↓at_ptr_whole, ↓at_ptr_cell, ↓at_ptr_obj, ↓at_ptr_objs, shift_obj, shift_elt, toA_val, toA_own, Int.toNat_natCast, List.cons_append, trT_root hm', re]
  refine ⟨_, E2, fun Q tg => ?_⟩
  rw [F66_eq]
  simp (disch := (first | assumption | (simp only [Bool.and_eq_true, Bool.and_eq_false_iff, decide_eq_true_eq, decide_eq_false_iff_not, bne_iff_ne, beq_iff_eq, beq_eq_false_iff_ne, bne_eq_false_iff_eq, Bool.not_eq_true', Bool.not_eq_false', bys_length, List.length_append, List.length_cons, List.length_nil, List.length_map, List.length_drop, List.length_take, Int.natCast_add, wrap_i64_eq, wrap_u64, wrap_u8, ne_eq, not_true_eq_false, not_false_eq_true, Nat.zero_add, Nat.mul_one] <;> omega) | omega | (simp; done) | (simp; omega))) only [↓at_runK, ↓at_bind, ↓contQ_mk, ↓at_ret, ↓at_consK, ↓at_nilK, ↓at_optK, ↓at_intK, ↓at_boolK, ↓at_strK, ↓at_slK, ↓at_slOK, ↓at_slK0, ↓at_slOK0, ↓at_aggK, ↓at_cond_t, ↓at_cond_f, ↓at_sameL, ↓at_any1, ↓at_any, and_self, toBytes_bys, List.nil_append, List.append_nil, ↓at_nodeW, List.drop_zero, List.take_succ_cons, List.take_zero, List.getElem?_cons_succ, List.getElem?_cons_zero, cells_agg, eqCells_cons, eqCells_nil, eq1_int, eq1_bool, eq1_str, ↓at_ptr_whole, ↓at_ptr_cell, ↓at_ptr_obj, ↓at_ptr_objs, shift_obj, shift_elt, toA_val, toA_own, Int.toNat_natCast, List.cons_append, rE, hc, hf]

/-! ### How many keys a balanced tree has at least -/
def lst : Nat → Nat × Nat
  | 0 => (0, 1)
  | n + 1 => ((lst n).2, (lst n).1 + (lst n).2 + 1)
theorem lst_le : ∀ n, (lst n).1 ≤ (lst n).2 ∧ (lst n).2 + 1 ≤ 2 ^ (n + 1)
  | 0 => by simp [lst]
  | n + 1 => by
    have ⟨h1, h2⟩ := lst_le n
    have : 2 ^ (n + 1 + 1) = 2 * 2 ^ (n + 1) := by rw [Nat.pow_succ]; omega
    simp only [lst]
    omega
theorem lst_mono {m n : Nat} (h : m ≤ n) : (lst m).1 ≤ (lst n).1 := by
  induction h with
  | refl => exact Nat.le_refl _
  | @step m' _ ih => exact Nat.le_trans ih (lst_le m').1
theorem avl_least : ∀ {t : Nd}, t.Avl → (lst t.high.toNat).1 ≤ t.toL.length
  | .nil, _ => by simp [lst, Nd.high]
  | .node k v l r h, a => by
    obtain ⟨a1, a2, a3, a4, a5⟩ := a
    have h1 := avl_least a1
    have h2 := avl_least a2
    have n1 := a1.high_nn
    have n2 := a2.high_nn
    rw [Nd.high_node, Nd.toL_node, List.length_append, List.length_cons]
    obtain ⟨m, hm⟩ : ∃ m : Nat, h.toNat = m + 1 := ⟨h.toNat - 1, by omega⟩
    rw [hm]
    cases m with
    | zero => simp only [lst]; omega
    | succ m =>
      simp only [lst]
      have e2 : (lst (m + 1)).1 = (lst m).2 := rfl
      rcases Int.le_total r.high l.high with c | c
      · have : l.high.toNat = m + 1 := by omega
        rw [this, e2] at h1
        have := lst_mono (m := m) (n := r.high.toNat) (by omega)
        omega
      · have : r.high.toNat = m + 1 := by omega
        rw [this, e2] at h2
        have := lst_mono (m := m) (n := l.high.toNat) (by omega)
        omega
theorem least31_loop (d : Nat) (x : Int) (h : Heap) : ∀ (n i k : Nat), 40 = i + n → n < k → (i : Int) ≤ max x 0 →
    ∃ j : Nat, (j : Int) ≤ max x 0 ∧ ∀ (Q : Res → Prop) (tg : Hid Q), Run (P87_0 d k x (lst i).1 (lst i).2 i h) Q tg = Q ([.int .i64 (lst j).1], h) := by
  intro n
  induction n with
  | zero =>
    intro i k hi hk hx
    obtain ⟨k, rfl⟩ : ∃ m, k = m + 1 := ⟨k - 1, by omega⟩
    refine ⟨i, hx, fun Q tg => ?_⟩
    rw [P87_0_eq]
    by_cases c : (i : Int) < x
    · simp (disch := (first | assumption | (simp only [Bool.and_eq_true, Bool.and_eq_false_iff, decide_eq_true_eq, decide_eq_false_iff_not, bne_iff_ne, beq_iff_eq, beq_eq_false_iff_ne, bne_eq_false_iff_eq, Bool.not_eq_true', Bool.not_eq_false', bys_length, List.length_append, List.length_cons, List.length_nil, List.length_map, List.length_drop, List.length_take, Int.natCast_add, wrap_i64_eq, wrap_u64, wrap_u8, ne_eq, not_true_eq_false, not_false_eq_true, Nat.zero_add, Nat.mul_one] <;> omega) | omega | (simp; done) | (simp; omega))) only [↓at_runK, ↓at_bind, ↓contQ_mk, ↓at_ret, ↓at_consK, ↓at_nilK, ↓at_optK, ↓at_intK, ↓at_boolK, ↓at_strK, ↓at_slK, ↓at_slOK, ↓at_slK0, ↓at_slOK0, ↓at_aggK, ↓at_cond_t, ↓at_cond_f, ↓at_sameL, ↓at_any1, ↓at_any, and_self, toBytes_bys, List.nil_append, List.append_nil, ↓at_nodeW, List.drop_zero, List.take_succ_cons, List.take_zero, List.getElem?_cons_succ, List.getElem?_cons_zero, cells_agg, eqCells_cons, eqCells_nil, eq1_int, eq1_bool, eq1_str, ↓at_ptr_whole, ↓at_ptr_cell, ↓at_ptr_obj, ↓at_ptr_objs, shift_obj, shift_elt, toA_val, toA_own, Int.toNat_natCast, List.cons_append, c]
    · simp (disch := (first | assumption | (simp only [Bool.and_eq_true, Bool.and_eq_false_iff, decide_eq_true_eq, decide_eq_false_iff_not, bne_iff_ne, beq_iff_eq, beq_eq_false_iff_ne, bne_eq_false_iff_eq, Bool.not_eq_true', Bool.not_eq_false', bys_length, List.length_append, List.length_cons, List.length_nil, List.length_map, List.length_drop, List.length_take, Int.natCast_add, wrap_i64_eq, wrap_u64, wrap_u8, ne_eq, not_true_eq_false, not_false_eq_true, Nat.zero_add, Nat.mul_one] <;> omega) | omega | (simp; done) | (simp; omega))) only [↓at_runK, ↓at_bind, ↓contQ_mk, ↓at_ret, ↓at_consK, ↓at_nilK, ↓at_optK, ↓at_intK, ↓at_boolK, ↓at_strK, ↓at_slK, ↓at_slOK, ↓at_slK0, ↓at_slOK0, ↓at_aggK, ↓at_cond_t, ↓at_cond_f, ↓at_sameL, ↓at_any1, ↓at_any, and_self, toBytes_bys, List.nil_append, List.append_nil, ↓at_nodeW, List.drop_zero, List.take_succ_cons, List.take_zero, List.getElem?_cons_succ, List.getElem?_cons_zero, cells_agg, eqCells_cons, eqCells_nil, eq1_int, eq1_bool, eq1_str, ↓at_ptr_whole, ↓at_ptr_cell, ↓at_ptr_obj, ↓at_ptr_objs, shift_obj, shift_elt, toA_val, toA_own, Int.toNat_natCast, List.cons_append, c]
  | succ n ih =>
    intro i k hi hk hx
    obtain ⟨k, rfl⟩ : ∃ m, k = m + 1 := ⟨k - 1, by omega⟩
    by_cases c : (i : Int) < x
    · obtain ⟨j, hj, r⟩ := ih (i + 1) k (by omega) (by omega) (by omega)
      refine ⟨j, hj, fun Q tg => ?_⟩
      have e1 := succ_wrap (i := i) (by omega)
      have hb := lst_le i
      have hp : 2 ^ (i + 1) ≤ 2 ^ 41 := Nat.pow_le_pow_right (by omega) (by omega)
      have hp2 : (2 : Nat) ^ 41 = 2199023255552 := by decide
      have e2 : IntKind.i64.wrap (((lst i).1 : Int) + ((lst i).2 : Int)) = (((lst i).1 + (lst i).2 : Nat) : Int) := by rw [wrap_i64_id (by omega) (by omega)]; omega
      have e3 : IntKind.i64.wrap ((((lst i).1 + (lst i).2 : Nat) : Int) + 1) = (((lst i).1 + (lst i).2 + 1 : Nat) : Int) := succ_wrap (by omega)
      have r' : ∀ (Q : Res → Prop) (tg : Hid Q), Run (P87_0 d k x (lst i).2 ((lst i).1 + (lst i).2 + 1 : Nat) (i + 1 : Nat) h) Q tg = Q ([.int .i64 (lst j).1], h) := r
      rw [P87_0_eq]
      simp (disch := (first | assumption | (simp only [Bool.and_eq_true, Bool.and_eq_false_iff, decide_eq_true_eq, decide_eq_false_iff_not, bne_iff_ne, beq_iff_eq, beq_eq_false_iff_ne, bne_eq_false_iff_eq, Bool.not_eq_true', Bool.not_eq_false', bys_length, List.length_append, List.length_cons, List.length_nil, List.length_map, List.length_drop, List.length_take, Int.natCast_add, wrap_i64_eq, wrap_u64, wrap_u8, ne_eq, not_true_eq_false, not_false_eq_true, Nat.zero_add, Nat.mul_one] <;> omega) | omega | (simp; done) | (simp; omega))) only [↓at_runK, ↓at_bind, ↓contQ_mk, ↓at_ret, ↓at_consK, ↓at_nilK, ↓at_optK, ↓at_intK, ↓at_boolK, ↓at_strK, ↓at_slK, ↓at_slOK, ↓at_slK0, ↓at_slOK0, ↓at_aggK, ↓at_cond_t, ↓at_cond_f, ↓at_sameL, ↓at_any1, ↓at_any, and_self, toBytes_bys, List.nil_append, List.append_nil, ↓at_nodeW, List.drop_zero, List.take_succ_cons, List.take_zero, List.getElem?_cons_succ, List.getElem?_cons_zero, cells_agg, eqCells_cons, eqCells_nil, eq1_int, eq1_bool, eq1_str, ↓at_ptr_whole, ↓at_ptr_cell, ↓at_ptr_obj, ↓at_ptr_objs, shift_obj, shift_elt, toA_val, toA_own, Int.toNat_natCast, List.cons_append, c, e1, e2, e3, r']
    · refine ⟨i, hx, fun Q tg => ?_⟩
      rw [P87_0_eq]
      simp (disch := (first | assumption | (simp only [Bool.and_eq_true, Bool.and_eq_false_iff, decide_eq_true_eq, decide_eq_false_iff_not, bne_iff_ne, beq_iff_eq, beq_eq_false_iff_ne, bne_eq_false_iff_eq, Bool.not_eq_true', Bool.not_eq_false', bys_length, List.length_append, List.length_cons, List.length_nil, List.length_map, List.length_drop, List.length_take, Int.natCast_add, wrap_i64_eq, wrap_u64, wrap_u8, ne_eq, not_true_eq_false, not_false_eq_true, Nat.zero_add, Nat.mul_one] <;> omega) | omega | (simp; done) | (simp; omega))) only [↓at_runK, ↓at_bind, ↓contQ_mk, ↓at_ret, ↓at_consK, ↓at_nilK, ↓at_optK, ↓at_intK, ↓at_boolK, ↓at_strK, ↓at_slK, ↓at_slOK, ↓at_slK0, ↓at_slOK0, ↓at_aggK, ↓at_cond_t, ↓at_cond_f, ↓at_sameL, ↓at_any1, ↓at_any, and_self, toBytes_bys, List.nil_append, List.append_nil, ↓at_nodeW, List.drop_zero, List.take_succ_cons, List.take_zero, List.getElem?_cons_succ, List.getElem?_cons_zero, cells_agg, eqCells_cons, eqCells_nil, eq1_int, eq1_bool, eq1_str, ↓at_ptr_whole, ↓at_ptr_cell, ↓at_ptr_obj, ↓at_ptr_objs, shift_obj, shift_elt, toA_val, toA_own, Int.toNat_natCast, List.cons_append, c]
theorem least31_run (d : Nat) (t : Nd) (ha : t.Avl) (h : Heap) : ∃ m : Nat, m ≤ t.toL.length ∧ ∀ (Q : Res → Prop) (tg : Hid Q), Run (evFn Cw (d + 1) 87 [.int .i64 t.high] h) Q tg = Q ([.int .i64 m], h) := by
  have hn := ha.high_nn
  obtain ⟨j, hj, r⟩ := least31_loop d t.high h 40 0 rounds (by omega) (rounds_gt' (by omega)) (by omega)
  have h1 := avl_least ha
  have h2 := lst_mono (m := j) (n := t.high.toNat) (by omega)
  refine ⟨(lst j).1, by omega, fun Q tg => ?_⟩
  have l0 : (((lst 0).1 : Nat) : Int) = 0 := rfl
  have l1 : (((lst 0).2 : Nat) : Int) = 1 := rfl
  have := r Q tg
  rw [l0, l1, e0] at this
  rw [F87_eq]
  exact this

/-! ### A tree tells what a list does -/
theorem same_t_run {d i : Nat} {t : Nd} {f : Bool} {s : List UInt8} {h : Heap} (ok : TOk' t) (hm : h.objs[i]? = some (trT t)) (hd : 1020 ≤ d) :
    ∃ h', h.ext h' ∧ ∀ (Q : Res → Prop) (tg : Hid Q), Run (evFn Cw d 46 [.obj i 0, .sl f 3 (prs t.toL), .str s] h) Q tg = Q ([.bool true], h') := by
  have hlen := ok.len
  obtain ⟨d, rfl⟩ : ∃ e, d = e + 5 := ⟨d - 5, by omega⟩
  obtain ⟨h1, E1, rb⟩ := tbalanced_run (d := d + 4) ok hm (by omega)
  obtain ⟨m, hml, rl⟩ := least31_run (d + 3) t ok.avl h1
  obtain ⟨h2, E2, rp⟩ := pairs31_run (d := d + 4) ok (E1.get hm) (by omega)
  refine ⟨h2, E1.trans E2, fun Q tg => ?_⟩
  have g := fun (Q : Res → Prop) (tg : Hid Q) => tget_run (d := d + 1) (s := s) (Q := Q) (tg := tg) ok hm
  have sk := fun (Q : Res → Prop) (tg : Hid Q) => tseek_run (d := d + 2) (s := s) (Q := Q) (tg := tg) ok hm
  have bl := fun (Q : Res → Prop) (tg : Hid Q) => tbelow_run (d := d + 2) (s := s) (Q := Q) (tg := tg) ok hm
  have ln := fun (Q : Res → Prop) (tg : Hid Q) => tlen_run (d := d + 3) (Q := Q) (tg := tg) hm
  have hi := fun (Q : Res → Prop) (tg : Hid Q) => thigh_run (d := d + 2) (Q := Q) (tg := tg) (E1.get hm)
  have bb : ∀ b : Bool, (b == b) = true := fun b => by simp
  rw [F46_eq]
  simp (disch := (first | assumption | (simp only [Bool.and_eq_true, Bool.and_eq_false_iff, decide_eq_true_eq, decide_eq_false_iff_not, bne_iff_ne, beq_iff_eq, beq_eq_false_iff_ne, bne_eq_false_iff_eq, Bool.not_eq_true', Bool.not_eq_false', bys_length, List.length_append, List.length_cons, List.length_nil, List.length_map, List.length_drop, List.length_take, Int.natCast_add, wrap_i64_eq, wrap_u64, wrap_u8, ne_eq, not_true_eq_false, not_false_eq_true, Nat.zero_add, Nat.mul_one] <;> omega) | omega | (simp; done) | (simp; omega))) only [↓at_runK, ↓at_bind, ↓contQ_mk, ↓at_ret, ↓at_consK, ↓at_nilK, ↓at_optK, ↓at_intK, ↓at_boolK, ↓at_strK, ↓at_slK, ↓at_slOK, ↓at_slK0, ↓at_slOK0, ↓at_aggK, ↓at_cond_t, ↓at_cond_f, ↓at_sameL, ↓at_any1, ↓at_any, and_self, toBytes_bys, List.nil_append, List.append_nil, ↓at_nodeW, List.drop_zero, List.take_succ_cons, List.take_zero, List.getElem?_cons_succ, List.getElem?_cons_zero, cells_agg, eqCells_cons, eqCells_nil, eq1_int, eq1_bool, eq1_str, ↓at_ptr_whole, ↓at_ptr_cell, ↓at_ptr_obj, ↓at_ptr_objs, shift_obj, shift_elt, toA_val, toA_own, Int.toNat_natCast, List.cons_append, g, rget31_run, sk, rseek31_run, bl, rbelow31_run, str_beq_self, bb, Bool.not_true, ln, prs_length, rb, hi, rl, rp, same31_run]
def awT : Nat → Nd
  | 0 => .nil
  | n + 1 => (awT n).put [UInt8.ofNat (97 + n)] [120]
theorem aw_new : ∀ n, n < 7 → (lget [UInt8.ofNat (97 + n)] (awT n).toL).isSome = false := by decide +kernel
theorem aw_part : ∀ n : Nat, n < 7 → Weave.part (n : Int) ((n + 1 : Nat) : Int) [(97 : UInt8), 98, 99, 100, 101, 102, 103] = [UInt8.ofNat (97 + n)] := by decide
theorem aw_ok : ∀ n, n ≤ 7 → TOk' (awT n) ∧ (awT n).toL.length = n
  | 0, _ => ⟨⟨trivial, List.Pairwise.nil, by simp [awT, Nd.toL]⟩, rfl⟩
  | n + 1, h => by
    obtain ⟨h1, h2⟩ := aw_ok n (by omega)
    obtain ⟨h3, h4⟩ := h1.put [UInt8.ofNat (97 + n)] [120] (by omega)
    refine ⟨h3, ?_⟩
    show ((awT n).put [UInt8.ofNat (97 + n)] [120]).toL.length = n + 1
    rw [h4, lput_len_new h1.srt (aw_new n (by omega)), h2]
theorem awake31_loop (d i : Nat) : ∀ (n m k : Nat) (h : Heap), 7 = m + n → n < k → h.objs[i]? = some (trT (awT m)) → ∃ h', ∀ (Q : Res → Prop) (tg : Hid Q), Run (P39_0 (d + 1020) k (.obj i 0) m h) Q tg = Q ([.bool true], h') := by
  intro n
  induction n with
  | zero =>
    intro m k h hm7 hk hm
    obtain ⟨k, rfl⟩ : ∃ m, k = m + 1 := ⟨k - 1, by omega⟩
    obtain rfl : m = 7 := by omega
    obtain ⟨ok, hl⟩ := aw_ok 7 (by omega)
    obtain ⟨h', E, rb⟩ := tbalanced_run (d := d + 1020) ok hm (by omega)
    refine ⟨h', fun Q tg => ?_⟩
    have hh : (awT 7).high = 3 := by decide +kernel
    have r1 := fun (Q : Res → Prop) (tg : Hid Q) => thigh_run (d := d + 1018) (Q := Q) (tg := tg) hm
    have r2 := fun (Q : Res → Prop) (tg : Hid Q) => tlen_run (d := d + 1019) (Q := Q) (tg := tg) hm
    rw [hh] at r1
    rw [hl] at r2
    rw [P39_0_eq]
    simp (disch := (first | assumption | (simp only [Bool.and_eq_true, Bool.and_eq_false_iff, decide_eq_true_eq, decide_eq_false_iff_not, bne_iff_ne, beq_iff_eq, beq_eq_false_iff_ne, bne_eq_false_iff_eq, Bool.not_eq_true', Bool.not_eq_false', bys_length, List.length_append, List.length_cons, List.length_nil, List.length_map, List.length_drop, List.length_take, Int.natCast_add, wrap_i64_eq, wrap_u64, wrap_u8, ne_eq, not_true_eq_false, not_false_eq_true, Nat.zero_add, Nat.mul_one] <;> omega) | omega | (simp; done) | (simp; omega))) only [↓at_runK, ↓at_bind, ↓contQ_mk, ↓at_ret, ↓at_consK, ↓at_nilK, ↓at_optK, ↓at_intK, ↓at_boolK, ↓at_strK, ↓at_slK, ↓at_slOK, ↓at_slK0, ↓at_slOK0, ↓at_aggK, ↓at_cond_t, ↓at_cond_f, ↓at_sameL, ↓at_any1, ↓at_any, and_self, toBytes_bys, List.nil_append, List.append_nil, ↓at_nodeW, List.drop_zero, List.take_succ_cons, List.take_zero, List.getElem?_cons_succ, List.getElem?_cons_zero, cells_agg, eqCells_cons, eqCells_nil, eq1_int, eq1_bool, eq1_str, ↓at_ptr_whole, ↓at_ptr_cell, ↓at_ptr_obj, ↓at_ptr_objs, shift_obj, shift_elt, toA_val, toA_own, Int.toNat_natCast, List.cons_append, r1, r2, rb]
  | succ n ih =>
    intro m k h hm7 hk hm
    obtain ⟨k, rfl⟩ : ∃ m, k = m + 1 := ⟨k - 1, by omega⟩
    obtain ⟨ok, hl⟩ := aw_ok m (by omega)
    obtain ⟨h', r⟩ := ih (m + 1) k (h.put i (trT (awT (m + 1)))) (by omega) (by omega) (Heap.put_get hm)
    refine ⟨h', fun Q tg => ?_⟩
    have e1 := succ_wrap (i := m) (by omega)
    have ep := aw_part m (by omega)
    have rp := fun (Q : Res → Prop) (tg : Hid Q) => tput_run (d := d + 1020) (k := [UInt8.ofNat (97 + m)]) (v := [120]) (Q := Q) (tg := tg) ok (by omega) hm (by omega)
    have ea : (awT m).put [UInt8.ofNat (97 + m)] [120] = awT (m + 1) := rfl
    rw [ea] at rp
    rw [P39_0_eq]
    simp (disch := (first | assumption | (simp only [Bool.and_eq_true, Bool.and_eq_false_iff, decide_eq_true_eq, decide_eq_false_iff_not, bne_iff_ne, beq_iff_eq, beq_eq_false_iff_ne, bne_eq_false_iff_eq, Bool.not_eq_true', Bool.not_eq_false', bys_length, List.length_append, List.length_cons, List.length_nil, List.length_map, List.length_drop, List.length_take, Int.natCast_add, wrap_i64_eq, wrap_u64, wrap_u8, ne_eq, not_true_eq_false, not_false_eq_true, Nat.zero_add, Nat.mul_one] <;> omega) | omega | (simp; done) | (simp; omega))) only [↓at_runK, ↓at_bind, ↓contQ_mk, ↓at_ret, ↓at_consK, ↓at_nilK, ↓at_optK, ↓at_intK, ↓at_boolK, ↓at_strK, ↓at_slK, ↓at_slOK, ↓at_slK0, ↓at_slOK0, ↓at_aggK, ↓at_cond_t, ↓at_cond_f, ↓at_sameL, ↓at_any1, ↓at_any, and_self, toBytes_bys, List.nil_append, List.append_nil, ↓at_nodeW, List.drop_zero, List.take_succ_cons, List.take_zero, List.getElem?_cons_succ, List.getElem?_cons_zero, cells_agg, eqCells_cons, eqCells_nil, eq1_int, eq1_bool, eq1_str, ↓at_ptr_whole, ↓at_ptr_cell, ↓at_ptr_obj, ↓at_ptr_objs, shift_obj, shift_elt, toA_val, toA_own, Int.toNat_natCast, List.cons_append, e1, ep, rp, r]
theorem awake31_run (d : Nat) (h : Heap) : ∃ h', ∀ (Q : Res → Prop) (tg : Hid Q), Run (evFn Cw (d + 1021) 39 [] h) Q tg = Q ([.bool true], h') := by
  obtain ⟨h', r⟩ := awake31_loop d h.objs.length 7 0 rounds (h.push (trT .nil)) (by omega) (rounds_gt' (by omega)) (Heap.push_new h _)
  refine ⟨h', fun Q tg => ?_⟩
  rw [e0] at r
  rw [F39_eq]
  simp (disch := (first | assumption | (simp only [Bool.and_eq_true, Bool.and_eq_false_iff, decide_eq_true_eq, decide_eq_false_iff_not, bne_iff_ne, beq_iff_eq, beq_eq_false_iff_ne, bne_eq_false_iff_eq, Bool.not_eq_true', Bool.not_eq_false', bys_length, List.length_append, List.length_cons, List.length_nil, List.length_map, List.length_drop, List.length_take, Int.natCast_add, wrap_i64_eq, wrap_u64, wrap_u8, ne_eq, not_true_eq_false, not_false_eq_true, Nat.zero_add, Nat.mul_one] <;> omega) | omega | (simp; done) | (simp; omega))) only [↓at_runK, ↓at_bind, ↓contQ_mk, ↓at_ret, ↓at_consK, ↓at_nilK, ↓at_optK, ↓at_intK, ↓at_boolK, ↓at_strK, ↓at_slK, ↓at_slOK, ↓at_slK0, ↓at_slOK0, ↓at_aggK, ↓at_cond_t, ↓at_cond_f, ↓at_sameL, ↓at_any1, ↓at_any, and_self, toBytes_bys, List.nil_append, List.append_nil, ↓at_nodeW, List.drop_zero, List.take_succ_cons, List.take_zero, List.getElem?_cons_succ, List.getElem?_cons_zero, cells_agg, eqCells_cons, eqCells_nil, eq1_int, eq1_bool, eq1_str, ↓at_ptr_whole, ↓at_ptr_cell, ↓at_ptr_obj, ↓at_ptr_objs, shift_obj, shift_elt, toA_val, toA_own, Int.toNat_natCast, List.cons_append, tnew_run, r]
end Go.Proofs.Ytfdkkhmaikgmcaa.Wa
