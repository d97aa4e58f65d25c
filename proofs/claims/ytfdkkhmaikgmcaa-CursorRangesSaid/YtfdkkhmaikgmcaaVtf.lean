/- TreeClones. -/
import Derived.Test.YtfdkkhmaikgmcaaVte
namespace Go.Proofs.Ytfdkkhmaikgmcaa.Wa
open Go Go.Weave
set_option maxRecDepth 100000
set_option linter.unusedSimpArgs false
set_option linter.unusedVariables false
set_option linter.unusedSectionVars false

/-! ### A tree that is nil -/
theorem nseek_run {d : Nat} {s : List UInt8} {h : Heap} {Q : Res → Prop} {tg : Hid Q} : Run (evFn Cw (d + 2) 61 [.nilp, .str s] h) Q tg = Q ([.str [], .str [], .bool false], h) := by
  have r := fun (Q : Res → Prop) (tg : Hid Q) => told_run (d := d) (t := .nil) (h := h) (Q := Q) (tg := tg)
  rw [A_nil] at r
  rw [F61nil_eq]
  simp (disch := (first | assumption | (simp only [Bool.and_eq_true, Bool.and_eq_false_iff, decide_eq_true_eq, decide_eq_false_iff_not, bne_iff_ne, beq_iff_eq, beq_eq_false_iff_ne, bne_eq_false_iff_eq, Bool.not_eq_true', Bool.not_eq_false', bys_length, List.length_append, List.length_cons, List.length_nil, List.length_map, List.length_drop, List.length_take, Int.natCast_add, wrap_i64_eq, wrap_u64, wrap_u8, ne_eq, not_true_eq_false, not_false_eq_true, Nat.zero_add, Nat.mul_one] <;> omega) | omega | (simp; done) | (simp; omega))) only [↓at_runK, ↓at_bind, ↓contQ_mk, ↓at_ret, ↓at_consK, ↓at_nilK, ↓at_optK, ↓at_intK, ↓at_boolK, ↓at_strK, ↓at_slK, ↓at_slOK, ↓at_slK0, ↓at_slOK0, ↓at_aggK, ↓at_cond_t, ↓at_cond_f, ↓at_sameL, ↓at_any1, ↓at_any, and_self, toBytes_bys, List.nil_append, List.append_nil, ↓at_nodeW, List.drop_zero, List.take_succ_cons, List.take_zero, List.getElem?_cons_succ, List.getElem?_cons_zero, cells_agg, eqCells_cons, eqCells_nil, eq1_int, eq1_bool, eq1_str, ↓at_ptr_whole, ↓at_ptr_cell, ↓at_ptr_obj, ↓at_ptr_objs, shift_obj, shift_elt, toA_val, toA_own, Int.toNat_natCast, List.cons_append, r, Nd.kv, tellK]
theorem nbelow_run {d : Nat} {s : List UInt8} {h : Heap} {Q : Res → Prop} {tg : Hid Q} : Run (evFn Cw (d + 2) 62 [.nilp, .str s] h) Q tg = Q ([.str [], .str [], .bool false], h) := by
  have r := fun (Q : Res → Prop) (tg : Hid Q) => told_run (d := d) (t := .nil) (h := h) (Q := Q) (tg := tg)
  rw [A_nil] at r
  rw [F62nil_eq]
  simp (disch := (first | assumption | (simp only [Bool.and_eq_true, Bool.and_eq_false_iff, decide_eq_true_eq, decide_eq_false_iff_not, bne_iff_ne, beq_iff_eq, beq_eq_false_iff_ne, bne_eq_false_iff_eq, Bool.not_eq_true', Bool.not_eq_false', bys_length, List.length_append, List.length_cons, List.length_nil, List.length_map, List.length_drop, List.length_take, Int.natCast_add, wrap_i64_eq, wrap_u64, wrap_u8, ne_eq, not_true_eq_false, not_false_eq_true, Nat.zero_add, Nat.mul_one] <;> omega) | omega | (simp; done) | (simp; omega))) only [↓at_runK, ↓at_bind, ↓contQ_mk, ↓at_ret, ↓at_consK, ↓at_nilK, ↓at_optK, ↓at_intK, ↓at_boolK, ↓at_strK, ↓at_slK, ↓at_slOK, ↓at_slK0, ↓at_slOK0, ↓at_aggK, ↓at_cond_t, ↓at_cond_f, ↓at_sameL, ↓at_any1, ↓at_any, and_self, toBytes_bys, List.nil_append, List.append_nil, ↓at_nodeW, List.drop_zero, List.take_succ_cons, List.take_zero, List.getElem?_cons_succ, List.getElem?_cons_zero, cells_agg, eqCells_cons, eqCells_nil, eq1_int, eq1_bool, eq1_str, ↓at_ptr_whole, ↓at_ptr_cell, ↓at_ptr_obj, ↓at_ptr_objs, shift_obj, shift_elt, toA_val, toA_own, Int.toNat_natCast, List.cons_append, r, Nd.kv, tellK]
theorem nget_run {d : Nat} {s : List UInt8} {h : Heap} {Q : Res → Prop} {tg : Hid Q} : Run (evFn Cw (d + 3) 60 [.nilp, .str s] h) Q tg = Q ([.str [], .bool false], h) := by
  rw [F60nil_eq]
  simp (disch := (first | assumption | (simp only [Bool.and_eq_true, Bool.and_eq_false_iff, decide_eq_true_eq, decide_eq_false_iff_not, bne_iff_ne, beq_iff_eq, beq_eq_false_iff_ne, bne_eq_false_iff_eq, Bool.not_eq_true', Bool.not_eq_false', bys_length, List.length_append, List.length_cons, List.length_nil, List.length_map, List.length_drop, List.length_take, Int.natCast_add, wrap_i64_eq, wrap_u64, wrap_u8, ne_eq, not_true_eq_false, not_false_eq_true, Nat.zero_add, Nat.mul_one] <;> omega) | omega | (simp; done) | (simp; omega))) only [↓at_runK, ↓at_bind, ↓contQ_mk, ↓at_ret, ↓at_consK, ↓at_nilK, ↓at_optK, ↓at_intK, ↓at_boolK, ↓at_strK, ↓at_slK, ↓at_slOK, ↓at_slK0, ↓at_slOK0, ↓at_aggK, ↓at_cond_t, ↓at_cond_f, ↓at_sameL, ↓at_any1, ↓at_any, and_self, toBytes_bys, List.nil_append, List.append_nil, ↓at_nodeW, List.drop_zero, List.take_succ_cons, List.take_zero, List.getElem?_cons_succ, List.getElem?_cons_zero, cells_agg, eqCells_cons, eqCells_nil, eq1_int, eq1_bool, eq1_str, ↓at_ptr_whole, ↓at_ptr_cell, ↓at_ptr_obj, ↓at_ptr_objs, shift_obj, shift_elt, toA_val, toA_own, Int.toNat_natCast, List.cons_append, nseek_run, Bool.not_false]
theorem nput_run {d : Nat} {s v : List UInt8} {h : Heap} {Q : Res → Prop} {tg : Hid Q} : Run (evFn Cw (d + 4) 44 [.nilp, .str s, .str v] h) Q tg = Q ([.str [], .bool false], h) := by
  rw [F44nil_eq]
  simp (disch := (first | assumption | (simp only [Bool.and_eq_true, Bool.and_eq_false_iff, decide_eq_true_eq, decide_eq_false_iff_not, bne_iff_ne, beq_iff_eq, beq_eq_false_iff_ne, bne_eq_false_iff_eq, Bool.not_eq_true', Bool.not_eq_false', bys_length, List.length_append, List.length_cons, List.length_nil, List.length_map, List.length_drop, List.length_take, Int.natCast_add, wrap_i64_eq, wrap_u64, wrap_u8, ne_eq, not_true_eq_false, not_false_eq_true, Nat.zero_add, Nat.mul_one] <;> omega) | omega | (simp; done) | (simp; omega))) only [↓at_runK, ↓at_bind, ↓contQ_mk, ↓at_ret, ↓at_consK, ↓at_nilK, ↓at_optK, ↓at_intK, ↓at_boolK, ↓at_strK, ↓at_slK, ↓at_slOK, ↓at_slK0, ↓at_slOK0, ↓at_aggK, ↓at_cond_t, ↓at_cond_f, ↓at_sameL, ↓at_any1, ↓at_any, and_self, toBytes_bys, List.nil_append, List.append_nil, ↓at_nodeW, List.drop_zero, List.take_succ_cons, List.take_zero, List.getElem?_cons_succ, List.getElem?_cons_zero, cells_agg, eqCells_cons, eqCells_nil, eq1_int, eq1_bool, eq1_str, ↓at_ptr_whole, ↓at_ptr_cell, ↓at_ptr_obj, ↓at_ptr_objs, shift_obj, shift_elt, toA_val, toA_own, Int.toNat_natCast, List.cons_append, nget_run]
theorem ndel_run {d : Nat} {s : List UInt8} {h : Heap} {Q : Res → Prop} {tg : Hid Q} : Run (evFn Cw (d + 4) 42 [.nilp, .str s] h) Q tg = Q ([.str [], .bool false], h) := by
  rw [F42nil_eq]
  simp (disch := (first | assumption | (simp only [Bool.and_eq_true, Bool.and_eq_false_iff, decide_eq_true_eq, decide_eq_false_iff_not, bne_iff_ne, beq_iff_eq, beq_eq_false_iff_ne, bne_eq_false_iff_eq, Bool.not_eq_true', Bool.not_eq_false', bys_length, List.length_append, List.length_cons, List.length_nil, List.length_map, List.length_drop, List.length_take, Int.natCast_add, wrap_i64_eq, wrap_u64, wrap_u8, ne_eq, not_true_eq_false, not_false_eq_true, Nat.zero_add, Nat.mul_one] <;> omega) | omega | (simp; done) | (simp; omega))) only [↓at_runK, ↓at_bind, ↓contQ_mk, ↓at_ret, ↓at_consK, ↓at_nilK, ↓at_optK, ↓at_intK, ↓at_boolK, ↓at_strK, ↓at_slK, ↓at_slOK, ↓at_slK0, ↓at_slOK0, ↓at_aggK, ↓at_cond_t, ↓at_cond_f, ↓at_sameL, ↓at_any1, ↓at_any, and_self, toBytes_bys, List.nil_append, List.append_nil, ↓at_nodeW, List.drop_zero, List.take_succ_cons, List.take_zero, List.getElem?_cons_succ, List.getElem?_cons_zero, cells_agg, eqCells_cons, eqCells_nil, eq1_int, eq1_bool, eq1_str, ↓at_ptr_whole, ↓at_ptr_cell, ↓at_ptr_obj, ↓at_ptr_objs, shift_obj, shift_elt, toA_val, toA_own, Int.toNat_natCast, List.cons_append, nget_run]
theorem nlen_run {d : Nat} {h : Heap} {Q : Res → Prop} {tg : Hid Q} : Run (evFn Cw (d + 1) 63 [.nilp] h) Q tg = Q ([.int .i64 0], h) := (at_eq (F63nil_eq _ _)).trans at_ret
theorem nhigh_run {d : Nat} {h : Heap} {Q : Res → Prop} {tg : Hid Q} : Run (evFn Cw (d + 1) 64 [.nilp] h) Q tg = Q ([.int .i64 0], h) := (at_eq (F64nil_eq _ _)).trans at_ret
theorem nclone_run {d : Nat} {h : Heap} {Q : Res → Prop} {tg : Hid Q} : Run (evFn Cw (d + 1) 57 [.nilp] h) Q tg = Q ([.nilp], h) := (at_eq (F57nil_eq _ _)).trans at_ret
theorem nbal_run {d : Nat} {h : Heap} {Q : Res → Prop} {tg : Hid Q} : Run (evFn Cw (d + 1) 65 [.nilp] h) Q tg = Q ([.bool true], h) := (at_eq (F65nil_eq _ _)).trans at_ret
theorem neach_run {d : Nat} {v : AVal} {h : Heap} {Q : Res → Prop} {tg : Hid Q} : Run (evFn Cw (d + 1) 58 [.nilp, v] h) Q tg = Q ([], h) := (at_eq (F58nil_eq _ _ _)).trans at_ret
theorem npairs_run {d : Nat} {h : Heap} {Q : Res → Prop} {tg : Hid Q} : Run (evFn Cw (d + 2) 66 [.nilp] h) Q tg = Q ([.sl false 3 []], h.push (.cells [HCell.val (.sl true 3 [])])) := by
  have hm := Heap.push_new h (.cells [HCell.val (.sl true 3 [])])
  have c : (h.push (.cells [HCell.val (.sl true 3 [])])).cell? h.objs.length 0 = some (HCell.val (.sl true 3 [])) := by rw [Heap.cell_at hm]; rfl
  rw [F66nil_eq]
  simp (disch := (first | assumption | (simp only [Bool.and_eq_true, Bool.and_eq_false_iff, decide_eq_true_eq, decide_eq_false_iff_not, bne_iff_ne, beq_iff_eq, beq_eq_false_iff_ne, bne_eq_false_iff_eq, Bool.not_eq_true', Bool.not_eq_false', bys_length, List.length_append, List.length_cons, List.length_nil, List.length_map, List.length_drop, List.length_take, Int.natCast_add, wrap_i64_eq, wrap_u64, wrap_u8, ne_eq, not_true_eq_false, not_false_eq_true, Nat.zero_add, Nat.mul_one] <;> omega) | omega | (simp; done) | (simp; omega))) only [↓at_runK, ↓at_bind, ↓contQ_mk, ↓at_ret, ↓at_consK, ↓at_nilK, ↓at_optK, ↓at_intK, ↓at_boolK, ↓at_strK, ↓at_slK, ↓at_slOK, ↓at_slK0, ↓at_slOK0, ↓at_aggK, ↓at_cond_t, ↓at_cond_f, ↓at_sameL, ↓at_any1, ↓at_any, and_self, toBytes_bys, List.nil_append, List.append_nil, ↓at_nodeW, List.drop_zero, List.take_succ_cons, List.take_zero, List.getElem?_cons_succ, List.getElem?_cons_zero, cells_agg, eqCells_cons, eqCells_nil, eq1_int, eq1_bool, eq1_str, ↓at_ptr_whole, ↓at_ptr_cell, ↓at_ptr_obj, ↓at_ptr_objs, shift_obj, shift_elt, toA_val, toA_own, Int.toNat_natCast, List.cons_append, neach_run, c]
theorem tclone_run {d i : Nat} {t : Nd} {h : Heap} {Q : Res → Prop} {tg : Hid Q} (hm : h.objs[i]? = some (trT t)) :
    Run (evFn Cw (d + 1) 57 [.obj i 0] h) Q tg = Q ([.obj h.objs.length 0], h.push (trT t)) := by
  have e : Weave.Obj.cells ([t.A, AVal.int .i64 t.toL.length].map HCell.val) = trT t := of_eq_true (eq_self _)
  rw [F57_eq]
  simp (disch := (first | assumption | (simp only [Bool.and_eq_true, Bool.and_eq_false_iff, decide_eq_true_eq, decide_eq_false_iff_not, bne_iff_ne, beq_iff_eq, beq_eq_false_iff_ne, bne_eq_false_iff_eq, Bool.not_eq_true', Bool.not_eq_false', bys_length, List.length_append, List.length_cons, List.length_nil, List.length_map, List.length_drop, List.length_take, Int.natCast_add, wrap_i64_eq, wrap_u64, wrap_u8, ne_eq, not_true_eq_false, not_false_eq_true, Nat.zero_add, Nat.mul_one] <;> omega) | omega | (simp; done) | (simp; omega))) only [↓at_runK, ↓at_bind, ↓contQ_mk, ↓at_ret, ↓at_consK, ↓at_nilK, ↓at_optK, ↓at_intK, ↓at_boolK, ↓at_strK, ↓at_slK, ↓at_slOK, ↓at_slK0, ↓at_slOK0, ↓at_aggK, ↓at_cond_t, ↓at_cond_f, ↓at_sameL, ↓at_any1, ↓at_any, and_self, toBytes_bys, List.nil_append, List.append_nil, ↓at_nodeW, List.drop_zero, List.take_succ_cons, List.take_zero, List.getElem?_cons_succ, List.getElem?_cons_zero, cells_agg, eqCells_cons, eqCells_nil, eq1_int, eq1_bool, eq1_str, ↓at_ptr_whole, ↓at_ptr_cell, ↓at_ptr_obj, ↓at_ptr_objs, shift_obj, shift_elt, toA_val, toA_own, Int.toNat_natCast, List.cons_append, trT_root hm, trT_n hm, isAgg_A, Bool.not_false, Bool.and_true, e]

/-! ### Each ends when it is told -/
def cl (most : Int) : Nat → Int → Bool × Int
  | 0, c => (true, c)
  | m + 1, c => if c + 1 < most then cl most m (c + 1) else (false, c + 1)
theorem cl_succ (most : Int) (m : Nat) (c : Int) : cl most (m + 1) c = if c + 1 < most then cl most m (c + 1) else (false, c + 1) := rfl
theorem cl_add (most : Int) : ∀ (a b : Nat) (c : Int), cl most (a + b) c = if (cl most a c).1 then cl most b (cl most a c).2 else (false, (cl most a c).2)
  | 0, b, c => by
    have e : 0 + b = b := by omega
    have e1 : cl most 0 c = (true, c) := rfl
    rw [e, e1, if_pos rfl]
  | a + 1, b, c => by
    have e : a + 1 + b = (a + b) + 1 := by omega
    rw [e, cl_succ, cl_succ]
    by_cases h : c + 1 < most
    · rw [if_pos h, if_pos h]; exact cl_add most a b (c + 1)
    · rw [if_neg h, if_neg h]; simp
theorem cl_val (most : Int) : ∀ (m : Nat) (c : Int), (cl most m c).2 = if m = 0 then c else min (c + m) (max (c + 1) most)
  | 0, c => rfl
  | m + 1, c => by
    rw [cl_succ, if_neg (show ¬ m + 1 = 0 by omega)]
    by_cases h : c + 1 < most
    · rw [if_pos h, cl_val most m (c + 1)]
      split <;> omega
    · rw [if_neg h]
      show c + 1 = _
      omega
theorem cl_bnd (most : Int) (m : Nat) (c : Int) : c ≤ (cl most m c).2 ∧ (cl most m c).2 ≤ c + m := by
  rw [cl_val]; split <;> omega
theorem cln1_run {d i j : Nat} {k v : List UInt8} {c most : Int} {h : Heap} {Q : Res → Prop} {tg : Hid Q} (hij : i ≠ j) (h1 : h.objs[i]? = some (balO c)) (h2 : h.objs[j]? = some (balO most)) (hc : 0 ≤ c ∧ c ≤ 1000000) :
    Run (evFn Cw (d + 1) 59 [.str k, .str v, .obj i 0, .obj j 0] h) Q tg = Q ([.bool (decide (c + 1 < most))], h.put i (balO (c + 1))) := by
  have c1 : h.cell? i 0 = some (HCell.val (.int .i64 c)) := by rw [Heap.cell_at h1]; rfl
  have e1 : IntKind.i64.wrap (c + 1) = c + 1 := wrap_i64_id (by omega) (by omega)
  have s1 : h.setCell i 0 (HCell.val (.int .i64 (c + 1))) = h.put i (balO (c + 1)) := by rw [Heap.set_at h1]; rfl
  have h3 : (h.put i (balO (c + 1))).objs[j]? = some (balO most) := by rw [Heap.put_ne hij]; exact h2
  have h4 : (h.put i (balO (c + 1))).objs[i]? = some (balO (c + 1)) := Heap.put_get h1
  have c3 : (h.put i (balO (c + 1))).cell? j 0 = some (HCell.val (.int .i64 most)) := by rw [Heap.cell_at h3]; rfl
  have c4 : (h.put i (balO (c + 1))).cell? i 0 = some (HCell.val (.int .i64 (c + 1))) := by rw [Heap.cell_at h4]; rfl
  rw [F59_eq]
  simp (disch := (first | assumption | (simp only [Bool.and_eq_true, Bool.and_eq_false_iff, decide_eq_true_eq, decide_eq_false_iff_not, bne_iff_ne, beq_iff_eq, beq_eq_false_iff_ne, bne_eq_false_iff_eq, Bool.not_eq_true', Bool.not_eq_false', bys_length, List.length_append, List.length_cons, List.length_nil, List.length_map, List.length_drop, List.length_take, Int.natCast_add, wrap_i64_eq, wrap_u64, wrap_u8, ne_eq, not_true_eq_false, not_false_eq_true, Nat.zero_add, Nat.mul_one] <;> omega) | omega | (simp; done) | (simp; omega))) only [↓at_runK, ↓at_bind, ↓contQ_mk, ↓at_ret, ↓at_consK, ↓at_nilK, ↓at_optK, ↓at_intK, ↓at_boolK, ↓at_strK, ↓at_slK, ↓at_slOK, ↓at_slK0, ↓at_slOK0, ↓at_aggK, ↓at_cond_t, ↓at_cond_f, ↓at_sameL, ↓at_any1, ↓at_any, and_self, toBytes_bys, List.nil_append, List.append_nil, ↓at_nodeW, List.drop_zero, List.take_succ_cons, List.take_zero, List.getElem?_cons_succ, List.getElem?_cons_zero, cells_agg, eqCells_cons, eqCells_nil, eq1_int, eq1_bool, eq1_str, ↓at_ptr_whole, ↓at_ptr_cell, ↓at_ptr_obj, ↓at_ptr_objs, shift_obj, shift_elt, toA_val, toA_own, Int.toNat_natCast, List.cons_append, c1, e1, s1, c3, c4]
theorem cln_each {i j : Nat} (hij : i ≠ j) (most : Int) : ∀ (t : Nd) (d : Nat) (c : Int) (h : Heap), t.dep + 3 ≤ d → 0 ≤ c → c + t.toL.length ≤ 1000000 → h.objs[i]? = some (balO c) → h.objs[j]? = some (balO most) → ∀ (Q : Res → Prop) (tg : Hid Q),
      Run (evFn Cw d 90 [t.A, .fn 59 [] [.obj i 0, .obj j 0]] h) Q tg = Q ([.bool (cl most t.toL.length c).1], h.put i (balO (cl most t.toL.length c).2)) := by
  intro t
  induction t with
  | nil =>
    intro d c h hd _ _ h1 _ Q tg
    obtain ⟨d, rfl⟩ : ∃ e, d = e + 1 := ⟨d - 1, by omega⟩
    have e1 : (cl most Nd.nil.toL.length c).1 = true := rfl
    have e2 : (cl most Nd.nil.toL.length c).2 = c := rfl
    rw [F90cln_eq, e1, e2, Heap.put_self' h1]
    simp (disch := (first | assumption | (simp only [Bool.and_eq_true, Bool.and_eq_false_iff, decide_eq_true_eq, decide_eq_false_iff_not, bne_iff_ne, beq_iff_eq, beq_eq_false_iff_ne, bne_eq_false_iff_eq, Bool.not_eq_true', Bool.not_eq_false', bys_length, List.length_append, List.length_cons, List.length_nil, List.length_map, List.length_drop, List.length_take, Int.natCast_add, wrap_i64_eq, wrap_u64, wrap_u8, ne_eq, not_true_eq_false, not_false_eq_true, Nat.zero_add, Nat.mul_one] <;> omega) | omega | (simp; done) | (simp; omega))) only [↓at_runK, ↓at_bind, ↓contQ_mk, ↓at_ret, ↓at_consK, ↓at_nilK, ↓at_optK, ↓at_intK, ↓at_boolK, ↓at_strK, ↓at_slK, ↓at_slOK, ↓at_slK0, ↓at_slOK0, ↓at_aggK, ↓at_cond_t, ↓at_cond_f, ↓at_sameL, ↓at_any1, ↓at_any, and_self, toBytes_bys, List.nil_append, List.append_nil, ↓at_nodeW, List.drop_zero, List.take_succ_cons, List.take_zero, List.getElem?_cons_succ, List.getElem?_cons_zero, cells_agg, eqCells_cons, eqCells_nil, eq1_int, eq1_bool, eq1_str, ↓at_ptr_whole, ↓at_ptr_cell, ↓at_ptr_obj, ↓at_ptr_objs, shift_obj, shift_elt, toA_val, toA_own, Int.toNat_natCast, List.cons_append, A_nil, isPtr_nilp, isNilp_nilp]
  | node k v l r x ihl ihr =>
    intro d c h hd hc0 hc h1 h2 Q tg
    obtain ⟨d, rfl⟩ : ∃ e, d = e + 2 := ⟨d - 2, by omega⟩
    simp only [Nd.dep] at hd
    simp only [Nd.toL_node, List.length_append, List.length_cons] at hc ⊢
    have eL : l.toL.length + (r.toL.length + 1) = l.toL.length + (1 + r.toL.length) := by omega
    have rl := ihl (d + 1) c h (by omega) hc0 (by omega) h1 h2
    have bl := cl_bnd most l.toL.length c
    have m1 : (h.put i (balO (cl most l.toL.length c).2)).objs[i]? = some (balO (cl most l.toL.length c).2) := Heap.put_get h1
    have m2 : (h.put i (balO (cl most l.toL.length c).2)).objs[j]? = some (balO most) := by rw [Heap.put_ne hij]; exact h2
    have rc := fun (Q : Res → Prop) (tg : Hid Q) => cln1_run (d := d) (k := k) (v := v) (Q := Q) (tg := tg) hij m1 m2 (by omega)
    rw [Heap.put_put] at rc
    have m3 : (h.put i (balO ((cl most l.toL.length c).2 + 1))).objs[i]? = some (balO ((cl most l.toL.length c).2 + 1)) := Heap.put_get h1
    have m4 : (h.put i (balO ((cl most l.toL.length c).2 + 1))).objs[j]? = some (balO most) := by rw [Heap.put_ne hij]; exact h2
    have rr := ihr (d + 1) ((cl most l.toL.length c).2 + 1) _ (by omega) (by omega) (by omega) m3 m4
    rw [Heap.put_put] at rr
    rw [F90cln_eq, eL, cl_add]
    cases b1 : (cl most l.toL.length c).1
    · rw [b1] at rl
      simp (disch := (first | assumption | (simp only [Bool.and_eq_true, Bool.and_eq_false_iff, decide_eq_true_eq, decide_eq_false_iff_not, bne_iff_ne, beq_iff_eq, beq_eq_false_iff_ne, bne_eq_false_iff_eq, Bool.not_eq_true', Bool.not_eq_false', bys_length, List.length_append, List.length_cons, List.length_nil, List.length_map, List.length_drop, List.length_take, Int.natCast_add, wrap_i64_eq, wrap_u64, wrap_u8, ne_eq, not_true_eq_false, not_false_eq_true, Nat.zero_add, Nat.mul_one] <;> omega) | omega | (simp; done) | (simp; omega))) only [↓at_runK, ↓at_bind, ↓contQ_mk, ↓at_ret, ↓at_consK, ↓at_nilK, ↓at_optK, ↓at_intK, ↓at_boolK, ↓at_strK, ↓at_slK, ↓at_slOK, ↓at_slK0, ↓at_slOK0, ↓at_aggK, ↓at_cond_t, ↓at_cond_f, ↓at_sameL, ↓at_any1, ↓at_any, and_self, toBytes_bys, List.nil_append, List.append_nil, ↓at_nodeW, List.drop_zero, List.take_succ_cons, List.take_zero, List.getElem?_cons_succ, List.getElem?_cons_zero, cells_agg, eqCells_cons, eqCells_nil, eq1_int, eq1_bool, eq1_str, ↓at_ptr_whole, ↓at_ptr_cell, ↓at_ptr_obj, ↓at_ptr_objs, shift_obj, shift_elt, toA_val, toA_own, Int.toNat_natCast, List.cons_append, isPtr_A, isNilp_node, at_nodeN, rl]
      rfl
    · rw [b1] at rl
      rw [if_pos rfl, cl_add]
      have e1 : cl most 1 (cl most l.toL.length c).2 = if (cl most l.toL.length c).2 + 1 < most then (true, (cl most l.toL.length c).2 + 1) else (false, (cl most l.toL.length c).2 + 1) := rfl
      rw [e1]
      by_cases b2 : (cl most l.toL.length c).2 + 1 < most
      · have b2' : decide ((cl most l.toL.length c).2 + 1 < most) = true := by simpa using b2
        rw [b2'] at rc
        rw [if_pos b2, if_pos rfl]
        simp (disch := (first | assumption | (simp only [Bool.and_eq_true, Bool.and_eq_false_iff, decide_eq_true_eq, decide_eq_false_iff_not, bne_iff_ne, beq_iff_eq, beq_eq_false_iff_ne, bne_eq_false_iff_eq, Bool.not_eq_true', Bool.not_eq_false', bys_length, List.length_append, List.length_cons, List.length_nil, List.length_map, List.length_drop, List.length_take, Int.natCast_add, wrap_i64_eq, wrap_u64, wrap_u8, ne_eq, not_true_eq_false, not_false_eq_true, Nat.zero_add, Nat.mul_one] <;> omega) | omega | (simp; done) | (simp; omega))) only [↓at_runK, ↓at_bind, ↓contQ_mk, ↓at_ret, ↓at_consK, ↓at_nilK, ↓at_optK, ↓at_intK, ↓at_boolK, ↓at_strK, ↓at_slK, ↓at_slOK, ↓at_slK0, ↓at_slOK0, ↓at_aggK, ↓at_cond_t, ↓at_cond_f, ↓at_sameL, ↓at_any1, ↓at_any, and_self, toBytes_bys, List.nil_append, List.append_nil, ↓at_nodeW, List.drop_zero, List.take_succ_cons, List.take_zero, List.getElem?_cons_succ, List.getElem?_cons_zero, cells_agg, eqCells_cons, eqCells_nil, eq1_int, eq1_bool, eq1_str, ↓at_ptr_whole, ↓at_ptr_cell, ↓at_ptr_obj, ↓at_ptr_objs, shift_obj, shift_elt, toA_val, toA_own, Int.toNat_natCast, List.cons_append, isPtr_A, isNilp_node, at_nodeN, rl, rc, rr]
      · have b2' : decide ((cl most l.toL.length c).2 + 1 < most) = false := by simpa using b2
        rw [b2'] at rc
        rw [if_neg b2]
        simp (disch := (first | assumption | (simp only [Bool.and_eq_true, Bool.and_eq_false_iff, decide_eq_true_eq, decide_eq_false_iff_not, bne_iff_ne, beq_iff_eq, beq_eq_false_iff_ne, bne_eq_false_iff_eq, Bool.not_eq_true', Bool.not_eq_false', bys_length, List.length_append, List.length_cons, List.length_nil, List.length_map, List.length_drop, List.length_take, Int.natCast_add, wrap_i64_eq, wrap_u64, wrap_u8, ne_eq, not_true_eq_false, not_false_eq_true, Nat.zero_add, Nat.mul_one] <;> omega) | omega | (simp; done) | (simp; omega))) only [↓at_runK, ↓at_bind, ↓contQ_mk, ↓at_ret, ↓at_consK, ↓at_nilK, ↓at_optK, ↓at_intK, ↓at_boolK, ↓at_strK, ↓at_slK, ↓at_slOK, ↓at_slK0, ↓at_slOK0, ↓at_aggK, ↓at_cond_t, ↓at_cond_f, ↓at_sameL, ↓at_any1, ↓at_any, and_self, toBytes_bys, List.nil_append, List.append_nil, ↓at_nodeW, List.drop_zero, List.take_succ_cons, List.take_zero, List.getElem?_cons_succ, List.getElem?_cons_zero, cells_agg, eqCells_cons, eqCells_nil, eq1_int, eq1_bool, eq1_str, ↓at_ptr_whole, ↓at_ptr_cell, ↓at_ptr_obj, ↓at_ptr_objs, shift_obj, shift_elt, toA_val, toA_own, Int.toNat_natCast, List.cons_append, isPtr_A, isNilp_node, at_nodeN, rl, rc]
        rfl

theorem clones1_loop (d ti mi ci : Nat) (most : Int) (f : Bool) (l : List KOp) (hl : l.length ≤ 100) (t : Nd) (okt : TOk' t) (htm : ti ≠ mi) (htc : ti ≠ ci) (hmc : mi ≠ ci) : ∀ (n j k : Nat) (u : Nd) (h : Heap), TOk' u → u.toL.length ≤ 100 + j → l.length = j + n → n < k →
    h.objs[ti]? = some (trT t) → h.objs[mi]? = some (balO most) → h.objs[ci]? = some (trT u) →
    ∃ h', ∀ (Q : Res → Prop) (tg : Hid Q), Run (P12_1 (d + 1030) k f (kops l) mi (.obj ti 0) (prs t.toL) (.obj ci 0) (prs u.toL) j h) Q tg = Q ([.bool true], h') := by
  intro n
  induction n with
  | zero =>
    intro j k u h oku hlen hj hk ht hm hc
    obtain ⟨k, rfl⟩ : ∃ m, k = m + 1 := ⟨k - 1, by omega⟩
    have hdp := Nd.dep_le t
    have hlt := okt.len
    have hlu := oku.len
    -- the counter
    have lt_t := Heap.lt_of ht
    have lt_m := Heap.lt_of hm
    have lt_c := Heap.lt_of hc
    have E1 := Heap.ext.push h (balO 0)
    have m1 : (h.push (balO 0)).objs[h.objs.length]? = some (balO 0) := Heap.push_new h _
    have c1 : (h.push (balO 0)).cell? h.objs.length 0 = some (HCell.val (.int .i64 0)) := by rw [Heap.cell_at m1]; rfl
    have s1 : (h.push (balO 0)).setCell h.objs.length 0 (HCell.val (.int .i64 0)) = h.push (balO 0) := by rw [Heap.set_at m1]; exact Heap.put_self' m1
    have o1 : Weave.Obj.cells [HCell.val (.int .i64 0)] = balO 0 := of_eq_true (eq_self _)
    have re := cln_each (i := h.objs.length) (j := mi) (by omega) most t (d + 1029 - 1) 0 (h.push (balO 0)) (by omega) (Int.le_refl _) (by omega) m1 (E1.get hm)
    have rE : ∀ (Q : Res → Prop) (tg : Hid Q), Run (evFn Cw (d + 1030) 58 [.obj ti 0, .fn 59 [] [.obj h.objs.length 0, .obj mi 0]] (h.push (balO 0))) Q tg
        = Q ([], (h.push (balO 0)).put h.objs.length (balO (cl most t.toL.length 0).2)) := fun Q tg => by
      have re := cln_each (i := h.objs.length) (j := mi) (by omega) most t (d + 1029) 0 (h.push (balO 0)) (by omega) (Int.le_refl _) (by omega) m1 (E1.get hm)
      rw [F58cln_eq]
      simp (disch := (first | assumption | (simp only [Bool.and_eq_true, Bool.and_eq_false_iff, decide_eq_true_eq, decide_eq_false_iff_not, bne_iff_ne, beq_iff_eq, beq_eq_false_iff_ne, bne_eq_false_iff_eq, Bool.not_eq_true', Bool.not_eq_false', bys_length, List.length_append, List.length_cons, List.length_nil, List.length_map, List.length_drop, List.length_take, Int.natCast_add, wrap_i64_eq, wrap_u64, wrap_u8, ne_eq, not_true_eq_false, not_false_eq_true, Nat.zero_add, Nat.mul_one] <;> omega) | omega | (simp; done) | (simp; omega))) only [↓at_runK, ↓at_bind, ↓contQ_mk, ↓at_ret, ↓at_consK, ↓at_nilK, ↓at_optK, ↓at_intK, ↓at_boolK, ↓at_strK, ↓at_slK, ↓at_slOK, ↓at_slK0, ↓at_slOK0, ↓at_aggK, ↓at_cond_t, ↓at_cond_f, ↓at_sameL, ↓at_any1, ↓at_any, and_self, toBytes_bys, List.nil_append, List.append_nil, ↓at_nodeW, List.drop_zero, List.take_succ_cons, List.take_zero, List.getElem?_cons_succ, List.getElem?_cons_zero, cells_agg, eqCells_cons, eqCells_nil, eq1_int, eq1_bool, eq1_str, ↓at_ptr_whole, ↓at_ptr_cell, ↓at_ptr_obj, ↓at_ptr_objs, shift_obj, shift_elt, toA_val, toA_own, Int.toNat_natCast, List.cons_append, trT_root (E1.get ht), re]
    have E2 := E1.put (id := h.objs.length) (o := balO (cl most t.toL.length 0).2) (Nat.le_refl _)
    have m2 : ((h.push (balO 0)).put h.objs.length (balO (cl most t.toL.length 0).2)).objs[h.objs.length]? = some (balO (cl most t.toL.length 0).2) := Heap.put_get m1
    have E3 := Heap.ext.push ((h.push (balO 0)).put h.objs.length (balO (cl most t.toL.length 0).2)) (.cells [HCell.val (.sl true 3 [])])
    obtain ⟨h4, E4, rp1⟩ := pairs31_run (d := d + 1030) okt ((E2.trans E3).get ht) (by omega)
    obtain ⟨h5, E5, rp2⟩ := pairs31_run (d := d + 1030) oku (((E2.trans E3).trans E4).get hc) (by omega)
    obtain ⟨h6, ra⟩ := awake31_run (d + 9) h5
    have k1 := ((E3.trans E4).trans E5).get m2
    have k2 := (((E2.trans E3).trans E4).trans E5).get hm
    have d1 : h5.cell? h.objs.length 0 = some (HCell.val (.int .i64 (cl most t.toL.length 0).2)) := by rw [Heap.cell_at k1]; rfl
    have d2 : h5.cell? mi 0 = some (HCell.val (.int .i64 most)) := by rw [Heap.cell_at k2]; rfl
    have hcount : ((cl most t.toL.length 0).2 == (if (if most > 1 then most else 1) < (t.toL.length : Int) then (if most > 1 then most else 1) else (t.toL.length : Int))) = true := by
      rw [cl_val, beq_iff_eq]
      by_cases h0 : t.toL.length = 0
      · rw [if_pos h0, h0]; split <;> split <;> omega
      · rw [if_neg h0]; split <;> split <;> omega
    refine ⟨h6, fun Q tg => ?_⟩
    rw [P12_1_eq]
    simp (disch := (first | assumption | (simp only [Bool.and_eq_true, Bool.and_eq_false_iff, decide_eq_true_eq, decide_eq_false_iff_not, bne_iff_ne, beq_iff_eq, beq_eq_false_iff_ne, bne_eq_false_iff_eq, Bool.not_eq_true', Bool.not_eq_false', bys_length, List.length_append, List.length_cons, List.length_nil, List.length_map, List.length_drop, List.length_take, Int.natCast_add, wrap_i64_eq, wrap_u64, wrap_u8, ne_eq, not_true_eq_false, not_false_eq_true, Nat.zero_add, Nat.mul_one] <;> omega) | omega | (simp; done) | (simp; omega))) only [↓at_runK, ↓at_bind, ↓contQ_mk, ↓at_ret, ↓at_consK, ↓at_nilK, ↓at_optK, ↓at_intK, ↓at_boolK, ↓at_strK, ↓at_slK, ↓at_slOK, ↓at_slK0, ↓at_slOK0, ↓at_aggK, ↓at_cond_t, ↓at_cond_f, ↓at_sameL, ↓at_any1, ↓at_any, and_self, toBytes_bys, List.nil_append, List.append_nil, ↓at_nodeW, List.drop_zero, List.take_succ_cons, List.take_zero, List.getElem?_cons_succ, List.getElem?_cons_zero, cells_agg, eqCells_cons, eqCells_nil, eq1_int, eq1_bool, eq1_str, ↓at_ptr_whole, ↓at_ptr_cell, ↓at_ptr_obj, ↓at_ptr_objs, shift_obj, shift_elt, toA_val, toA_own, Int.toNat_natCast, List.cons_append, kops_length, o1, c1, s1, rE, nput_run, nget_run, ndel_run, nseek_run, nbelow_run, nlen_run, nhigh_run, nclone_run, nbal_run, npairs_run, Bool.not_false, isPtr_nilp, isNilp_nilp, rp1, rp2, same31_run, prs_length, d1, d2, hcount, ra]
  | succ n ih =>
    intro j k u h oku hlen hj hk ht hm hc
    obtain ⟨k, rfl⟩ : ∃ m, k = m + 1 := ⟨k - 1, by omega⟩
    have h1 : j < l.length := by omega
    have e1 := succ_wrap (i := j) (by omega)
    by_cases c : l[j].kind = 2
    · have c' : (l[j].kind == 2) = true := by simp [c]
      have rd := fun (Q : Res → Prop) (tg : Hid Q) => tdel_run (d := d + 1030) (k := l[j].key) (Q := Q) (tg := tg) oku hc (by omega)
      obtain ⟨u', ok', hL, hT⟩ : ∃ u', TOk' u' ∧ u'.toL = ldel l[j].key u.toL ∧ (if (lget l[j].key u.toL).isSome then u.without l[j].key else u) = u' := by
        cases hg : (lget l[j].key u.toL).isSome
        · exact ⟨u, oku, (ldel_none (lget_none hg)).symm, by simp⟩
        · obtain ⟨a, b⟩ := oku.del hg
          exact ⟨_, a, b, by simp⟩
      rw [hT] at rd
      have hlen' : u'.toL.length ≤ 100 + (j + 1) := by rw [hL]; have := ldel_len_le l[j].key u.toL; omega
      obtain ⟨h', r⟩ := ih (j + 1) k u' (h.put ci (trT u')) ok' hlen' (by omega) (by omega) (by rw [Heap.put_ne (Ne.symm htc)]; exact ht) (by rw [Heap.put_ne (Ne.symm hmc)]; exact hm) (Heap.put_get hc)
      rw [hL] at r
      refine ⟨h', fun Q tg => ?_⟩
      rw [P12_1_eq]
      simp (disch := (first | assumption | (simp only [Bool.and_eq_true, Bool.and_eq_false_iff, decide_eq_true_eq, decide_eq_false_iff_not, bne_iff_ne, beq_iff_eq, beq_eq_false_iff_ne, bne_eq_false_iff_eq, Bool.not_eq_true', Bool.not_eq_false', bys_length, List.length_append, List.length_cons, List.length_nil, List.length_map, List.length_drop, List.length_take, Int.natCast_add, wrap_i64_eq, wrap_u64, wrap_u8, ne_eq, not_true_eq_false, not_false_eq_true, Nat.zero_add, Nat.mul_one] <;> omega) | omega | (simp; done) | (simp; omega))) only [↓at_runK, ↓at_bind, ↓contQ_mk, ↓at_ret, ↓at_consK, ↓at_nilK, ↓at_optK, ↓at_intK, ↓at_boolK, ↓at_strK, ↓at_slK, ↓at_slOK, ↓at_slK0, ↓at_slOK0, ↓at_aggK, ↓at_cond_t, ↓at_cond_f, ↓at_sameL, ↓at_any1, ↓at_any, and_self, toBytes_bys, List.nil_append, List.append_nil, ↓at_nodeW, List.drop_zero, List.take_succ_cons, List.take_zero, List.getElem?_cons_succ, List.getElem?_cons_zero, cells_agg, eqCells_cons, eqCells_nil, eq1_int, eq1_bool, eq1_str, ↓at_ptr_whole, ↓at_ptr_cell, ↓at_ptr_obj, ↓at_ptr_objs, shift_obj, shift_elt, toA_val, toA_own, Int.toNat_natCast, List.cons_append, kops_length, kops_getD h1, c', rd, rdel31_run, e1, r]
    · have c' : (l[j].kind == 2) = false := by simpa using c
      have rd := fun (Q : Res → Prop) (tg : Hid Q) => tput_run (d := d + 1030) (k := l[j].key) (v := l[j].val) (Q := Q) (tg := tg) oku (by omega) hc (by omega)
      obtain ⟨ok', hL⟩ := oku.put l[j].key l[j].val (by omega)
      have hlen' : (u.put l[j].key l[j].val).toL.length ≤ 100 + (j + 1) := by rw [hL]; have := lput_len_le (k := l[j].key) (v := l[j].val) oku.srt; omega
      obtain ⟨h', r⟩ := ih (j + 1) k _ (h.put ci (trT (u.put l[j].key l[j].val))) ok' hlen' (by omega) (by omega) (by rw [Heap.put_ne (Ne.symm htc)]; exact ht) (by rw [Heap.put_ne (Ne.symm hmc)]; exact hm) (Heap.put_get hc)
      rw [hL] at r
      have hsr := oku.srt
      refine ⟨h', fun Q tg => ?_⟩
      rw [P12_1_eq]
      simp (disch := (first | assumption | (simp only [Bool.and_eq_true, Bool.and_eq_false_iff, decide_eq_true_eq, decide_eq_false_iff_not, bne_iff_ne, beq_iff_eq, beq_eq_false_iff_ne, bne_eq_false_iff_eq, Bool.not_eq_true', Bool.not_eq_false', bys_length, List.length_append, List.length_cons, List.length_nil, List.length_map, List.length_drop, List.length_take, Int.natCast_add, wrap_i64_eq, wrap_u64, wrap_u8, ne_eq, not_true_eq_false, not_false_eq_true, Nat.zero_add, Nat.mul_one] <;> omega) | omega | (simp; done) | (simp; omega))) only [↓at_runK, ↓at_bind, ↓contQ_mk, ↓at_ret, ↓at_consK, ↓at_nilK, ↓at_optK, ↓at_intK, ↓at_boolK, ↓at_strK, ↓at_slK, ↓at_slOK, ↓at_slK0, ↓at_slOK0, ↓at_aggK, ↓at_cond_t, ↓at_cond_f, ↓at_sameL, ↓at_any1, ↓at_any, and_self, toBytes_bys, List.nil_append, List.append_nil, ↓at_nodeW, List.drop_zero, List.take_succ_cons, List.take_zero, List.getElem?_cons_succ, List.getElem?_cons_zero, cells_agg, eqCells_cons, eqCells_nil, eq1_int, eq1_bool, eq1_str, ↓at_ptr_whole, ↓at_ptr_cell, ↓at_ptr_obj, ↓at_ptr_objs, shift_obj, shift_elt, toA_val, toA_own, Int.toNat_natCast, List.cons_append, kops_length, kops_getD h1, c', rd, rput31_run, e1, r]
theorem clones_loop (d ti mi : Nat) (most : Int) (f g : Bool) (l l2 : List KOp) (hl : l.length ≤ 100) (hl2 : l2.length ≤ 100) (htm : ti ≠ mi) : ∀ (n j k : Nat) (t : Nd) (h : Heap), TOk' t → t.toL.length ≤ j → l.length = j + n → n < k →
    h.objs[ti]? = some (trT t) → h.objs[mi]? = some (balO most) →
    ∃ h', ∀ (Q : Res → Prop) (tg : Hid Q), Run (P12_0 (d + 1030) k f (kops l) g (kops l2) mi (.obj ti 0) (prs t.toL) j h) Q tg = Q ([.bool true], h') := by
  intro n
  induction n with
  | zero =>
    intro j k t h ok hlen hj hk ht hm
    obtain ⟨k, rfl⟩ : ∃ m, k = m + 1 := ⟨k - 1, by omega⟩
    have lt_t := Heap.lt_of ht
    have lt_m := Heap.lt_of hm
    have E := Heap.ext.push h (trT t)
    obtain ⟨h', r⟩ := clones1_loop d ti mi h.objs.length most g l2 hl2 t ok htm (by omega) (by omega) l2.length 0 rounds t (h.push (trT t)) ok (by omega) (by omega) (rounds_gt' (by omega)) (E.get ht) (E.get hm) (Heap.push_new h _)
    rw [e0] at r
    refine ⟨h', fun Q tg => ?_⟩
    rw [P12_0_eq]
    simp (disch := (first | assumption | (simp only [Bool.and_eq_true, Bool.and_eq_false_iff, decide_eq_true_eq, decide_eq_false_iff_not, bne_iff_ne, beq_iff_eq, beq_eq_false_iff_ne, bne_eq_false_iff_eq, Bool.not_eq_true', Bool.not_eq_false', bys_length, List.length_append, List.length_cons, List.length_nil, List.length_map, List.length_drop, List.length_take, Int.natCast_add, wrap_i64_eq, wrap_u64, wrap_u8, ne_eq, not_true_eq_false, not_false_eq_true, Nat.zero_add, Nat.mul_one] <;> omega) | omega | (simp; done) | (simp; omega))) only [↓at_runK, ↓at_bind, ↓contQ_mk, ↓at_ret, ↓at_consK, ↓at_nilK, ↓at_optK, ↓at_intK, ↓at_boolK, ↓at_strK, ↓at_slK, ↓at_slOK, ↓at_slK0, ↓at_slOK0, ↓at_aggK, ↓at_cond_t, ↓at_cond_f, ↓at_sameL, ↓at_any1, ↓at_any, and_self, toBytes_bys, List.nil_append, List.append_nil, ↓at_nodeW, List.drop_zero, List.take_succ_cons, List.take_zero, List.getElem?_cons_succ, List.getElem?_cons_zero, cells_agg, eqCells_cons, eqCells_nil, eq1_int, eq1_bool, eq1_str, ↓at_ptr_whole, ↓at_ptr_cell, ↓at_ptr_obj, ↓at_ptr_objs, shift_obj, shift_elt, toA_val, toA_own, Int.toNat_natCast, List.cons_append, kops_length, tclone_run ht, r]
  | succ n ih =>
    intro j k t h ok hlen hj hk ht hm
    obtain ⟨k, rfl⟩ : ∃ m, k = m + 1 := ⟨k - 1, by omega⟩
    have h1 : j < l.length := by omega
    have e1 := succ_wrap (i := j) (by omega)
    have rd := fun (Q : Res → Prop) (tg : Hid Q) => tput_run (d := d + 1030) (k := l[j].key) (v := l[j].val) (Q := Q) (tg := tg) ok (by omega) ht (by omega)
    obtain ⟨ok', hL⟩ := ok.put l[j].key l[j].val (by omega)
    have hlen' : (t.put l[j].key l[j].val).toL.length ≤ j + 1 := by rw [hL]; have := lput_len_le (k := l[j].key) (v := l[j].val) ok.srt; omega
    obtain ⟨h', r⟩ := ih (j + 1) k _ (h.put ti (trT (t.put l[j].key l[j].val))) ok' hlen' (by omega) (by omega) (Heap.put_get ht) (by rw [Heap.put_ne htm]; exact hm)
    rw [hL] at r
    have hsr := ok.srt
    refine ⟨h', fun Q tg => ?_⟩
    rw [P12_0_eq]
    simp (disch := (first | assumption | (simp only [Bool.and_eq_true, Bool.and_eq_false_iff, decide_eq_true_eq, decide_eq_false_iff_not, bne_iff_ne, beq_iff_eq, beq_eq_false_iff_ne, bne_eq_false_iff_eq, Bool.not_eq_true', Bool.not_eq_false', bys_length, List.length_append, List.length_cons, List.length_nil, List.length_map, List.length_drop, List.length_take, Int.natCast_add, wrap_i64_eq, wrap_u64, wrap_u8, ne_eq, not_true_eq_false, not_false_eq_true, Nat.zero_add, Nat.mul_one] <;> omega) | omega | (simp; done) | (simp; omega))) only [↓at_runK, ↓at_bind, ↓contQ_mk, ↓at_ret, ↓at_consK, ↓at_nilK, ↓at_optK, ↓at_intK, ↓at_boolK, ↓at_strK, ↓at_slK, ↓at_slOK, ↓at_slK0, ↓at_slOK0, ↓at_aggK, ↓at_cond_t, ↓at_cond_f, ↓at_sameL, ↓at_any1, ↓at_any, and_self, toBytes_bys, List.nil_append, List.append_nil, ↓at_nodeW, List.drop_zero, List.take_succ_cons, List.take_zero, List.getElem?_cons_succ, List.getElem?_cons_zero, cells_agg, eqCells_cons, eqCells_nil, eq1_int, eq1_bool, eq1_str, ↓at_ptr_whole, ↓at_ptr_cell, ↓at_ptr_obj, ↓at_ptr_objs, shift_obj, shift_elt, toA_val, toA_own, Int.toNat_natCast, List.cons_append, kops_length, kops_getD h1, rd, rput31_run, e1, r]
/-- TreeClones. -/
theorem tclones_true (l l2 : List KOp) (most : Int) (h : Heap) : ∃ d h', Ans (evFn Cw d 12 [.sl false 4 (kops l), .sl false 4 (kops l2), .int .i64 most] h) ([.bool true], h') := by
  have o1 : Weave.Obj.cells [HCell.val (.int .i64 most)] = balO most := of_eq_true (eq_self _)
  by_cases hl : l.length ≤ 100
  · by_cases hk : l2.length ≤ 100
    · have E := Heap.ext.push (h.push (balO most)) (trT .nil)
      have ln : (h.push (balO most)).objs.length = h.objs.length + 1 := Heap.push_len h _
      obtain ⟨h', r⟩ := clones_loop 0 (h.objs.length + 1) h.objs.length most false false l l2 hl hk (by omega) l.length 0 rounds .nil ((h.push (balO most)).push (trT .nil)) ⟨trivial, List.Pairwise.nil, by simp [Nd.toL]⟩ (Nat.le_refl _) (by omega) (rounds_gt' (by omega)) (by rw [← ln]; exact Heap.push_new _ _) (E.get (Heap.push_new h _))
      have hn : prs Nd.nil.toL = [] := of_eq_true (eq_self _)
      rw [e0, hn] at r
      refine ⟨0 + 1030 + 1, h', Run.ans ?_⟩
      rw [F12_eq]
      simp (disch := (first | assumption | (simp only [Bool.and_eq_true, Bool.and_eq_false_iff, decide_eq_true_eq, decide_eq_false_iff_not, bne_iff_ne, beq_iff_eq, beq_eq_false_iff_ne, bne_eq_false_iff_eq, Bool.not_eq_true', Bool.not_eq_false', bys_length, List.length_append, List.length_cons, List.length_nil, List.length_map, List.length_drop, List.length_take, Int.natCast_add, wrap_i64_eq, wrap_u64, wrap_u8, ne_eq, not_true_eq_false, not_false_eq_true, Nat.zero_add, Nat.mul_one] <;> omega) | omega | (simp; done) | (simp; omega))) only [↓at_runK, ↓at_bind, ↓contQ_mk, ↓at_ret, ↓at_consK, ↓at_nilK, ↓at_optK, ↓at_intK, ↓at_boolK, ↓at_strK, ↓at_slK, ↓at_slOK, ↓at_slK0, ↓at_slOK0, ↓at_aggK, ↓at_cond_t, ↓at_cond_f, ↓at_sameL, ↓at_any1, ↓at_any, and_self, toBytes_bys, List.nil_append, List.append_nil, ↓at_nodeW, List.drop_zero, List.take_succ_cons, List.take_zero, List.getElem?_cons_succ, List.getElem?_cons_zero, cells_agg, eqCells_cons, eqCells_nil, eq1_int, eq1_bool, eq1_str, ↓at_ptr_whole, ↓at_ptr_cell, ↓at_ptr_obj, ↓at_ptr_objs, shift_obj, shift_elt, toA_val, toA_own, Int.toNat_natCast, List.cons_append, kops_length, o1, tnew_run, ln, r]
    · obtain ⟨h', r⟩ := awake31_run 9 (h.push (balO most))
      refine ⟨9 + 1021 + 1, h', Run.ans ?_⟩
      rw [F12_eq]
      simp (disch := (first | assumption | (simp only [Bool.and_eq_true, Bool.and_eq_false_iff, decide_eq_true_eq, decide_eq_false_iff_not, bne_iff_ne, beq_iff_eq, beq_eq_false_iff_ne, bne_eq_false_iff_eq, Bool.not_eq_true', Bool.not_eq_false', bys_length, List.length_append, List.length_cons, List.length_nil, List.length_map, List.length_drop, List.length_take, Int.natCast_add, wrap_i64_eq, wrap_u64, wrap_u8, ne_eq, not_true_eq_false, not_false_eq_true, Nat.zero_add, Nat.mul_one] <;> omega) | omega | (simp; done) | (simp; omega))) only [↓at_runK, ↓at_bind, ↓contQ_mk, ↓at_ret, ↓at_consK, ↓at_nilK, ↓at_optK, ↓at_intK, ↓at_boolK, ↓at_strK, ↓at_slK, ↓at_slOK, ↓at_slK0, ↓at_slOK0, ↓at_aggK, ↓at_cond_t, ↓at_cond_f, ↓at_sameL, ↓at_any1, ↓at_any, and_self, toBytes_bys, List.nil_append, List.append_nil, ↓at_nodeW, List.drop_zero, List.take_succ_cons, List.take_zero, List.getElem?_cons_succ, List.getElem?_cons_zero, cells_agg, eqCells_cons, eqCells_nil, eq1_int, eq1_bool, eq1_str, ↓at_ptr_whole, ↓at_ptr_cell, ↓at_ptr_obj, ↓at_ptr_objs, shift_obj, shift_elt, toA_val, toA_own, Int.toNat_natCast, List.cons_append, kops_length, o1, r]
  · obtain ⟨h', r⟩ := awake31_run 9 (h.push (balO most))
    refine ⟨9 + 1021 + 1, h', Run.ans ?_⟩
    rw [F12_eq]
    simp (disch := (first | assumption | (simp only [Bool.and_eq_true, Bool.and_eq_false_iff, decide_eq_true_eq, decide_eq_false_iff_not, bne_iff_ne, beq_iff_eq, beq_eq_false_iff_ne, bne_eq_false_iff_eq, Bool.not_eq_true', Bool.not_eq_false', bys_length, List.length_append, List.length_cons, List.length_nil, List.length_map, List.length_drop, List.length_take, Int.natCast_add, wrap_i64_eq, wrap_u64, wrap_u8, ne_eq, not_true_eq_false, not_false_eq_true, Nat.zero_add, Nat.mul_one] <;> omega) | omega | (simp; done) | (simp; omega))) only [↓at_runK, ↓at_bind, ↓contQ_mk, ↓at_ret, ↓at_consK, ↓at_nilK, ↓at_optK, ↓at_intK, ↓at_boolK, ↓at_strK, ↓at_slK, ↓at_slOK, ↓at_slK0, ↓at_slOK0, ↓at_aggK, ↓at_cond_t, ↓at_cond_f, ↓at_sameL, ↓at_any1, ↓at_any, and_self, toBytes_bys, List.nil_append, List.append_nil, ↓at_nodeW, List.drop_zero, List.take_succ_cons, List.take_zero, List.getElem?_cons_succ, List.getElem?_cons_zero, cells_agg, eqCells_cons, eqCells_nil, eq1_int, eq1_bool, eq1_str, ↓at_ptr_whole, ↓at_ptr_cell, ↓at_ptr_obj, ↓at_ptr_objs, shift_obj, shift_elt, toA_val, toA_own, Int.toNat_natCast, List.cons_append, kops_length, o1, r]
end Go.Proofs.Ytfdkkhmaikgmcaa.Wa
