/- Changes of a transaction decoded; TxDecodes. -/
import Derived.Test.YtkpjkaikeeldfaaVt
import Derived.Test.YtkpjkaikeeldfaaVs
namespace Go.Proofs.Ytkpjkaikeeldfaa.Wa
open Go Go.Weave
set_option maxRecDepth 100000
set_option linter.unusedSimpArgs false
set_option linter.unusedVariables false
set_option linter.unusedSectionVars false

theorem Heap.put_self {h : Heap} {i : Nat} {o : Weave.Obj} (hm : h.objs[i]? = some o) : h.put i o = h := by
  obtain ⟨l⟩ := h
  simp only [Heap.put]
  congr 1
  apply List.ext_getElem?
  intro j
  rw [List.getElem?_set]
  split
  · rename_i e
    subst e
    split
    · exact hm.symm
    · rename_i hl
      rw [List.getElem?_eq_none (by omega)]
  · rfl

/-- The next text, if it is wanted and all was right. -/
noncomputable def dtext (w : Bool) (b : List UInt8) (e : Nat) : List UInt8 × List UInt8 × Nat := if e ≠ 0 ∨ w = false then ([], b, e) else ((fget b).1, b.drop (fget b).2.1, (fget b).2.2)
def rdC (f : Bool) (b : List UInt8) (e : Nat) : Weave.Obj := .cells [HCell.val (.sl f 0 (bys b)), HCell.val (.int .i64 e)]
theorem fget_le (b : List UInt8) : (fget b).2.1 ≤ b.length := by
  by_cases h : (fget b).2.2 = 0
  · exact (fget_spec h).2.2.1
  · rw [fget_eq] at h ⊢
    unfold fgetW at h ⊢
    split
    · simp
    · rename_i h1
      rw [if_neg h1] at h
      split
      · simp
      · rename_i h2
        rw [if_neg h2] at h
        split
        · simp
        · rename_i h3
          rw [if_neg h3] at h
          simp at h
theorem text_run {d : Nat} {i : Nat} {w : Bool} {f : Bool} {b : List UInt8} {e : Nat} {h : Heap} (hm : h.objs[i]? = some (rdC f b e)) (hb : b.length ≤ 140737488351232) :
    ∃ f', ∀ (Q : Res → Prop) (tg : Hid Q), Run (evFn Cw (d + 3) 20 [.obj i 0, .bool w] h) Q tg = Q ([.str (dtext w b e).1], h.put i (rdC f' (dtext w b e).2.1 (dtext w b e).2.2)) := by
  have k0 : h.cell? i 0 = some (HCell.val (.sl f 0 (bys b))) := by rw [Heap.cell_at hm]; rfl
  have k1 : h.cell? i 1 = some (HCell.val (.int .i64 e)) := by rw [Heap.cell_at hm]; rfl
  by_cases he : e = 0
  · cases w
    · refine ⟨f, fun Q tg => ?_⟩
      unfold dtext
      rw [if_pos (Or.inr rfl), Heap.put_self hm, F20_eq]
      simp (disch := (first | assumption | (simp only [Bool.and_eq_true, Bool.and_eq_false_iff, decide_eq_true_eq, decide_eq_false_iff_not, bne_iff_ne, beq_iff_eq, beq_eq_false_iff_ne, bne_eq_false_iff_eq, Bool.not_eq_true', Bool.not_eq_false', bys_length, List.length_append, List.length_cons, List.length_nil, List.length_map, List.length_drop, List.length_take, Int.natCast_add, wrap_i64_eq, wrap_u64, wrap_u8, ne_eq, not_true_eq_false, not_false_eq_true, Nat.zero_add, Nat.mul_one] <;> omega) | omega | (simp; done) | (simp; omega))) only [↓at_runK, ↓at_bind, ↓contQ_mk, ↓at_ret, ↓at_consK, ↓at_nilK, ↓at_optK, ↓at_intK, ↓at_boolK, ↓at_strK, ↓at_slK, ↓at_slOK, ↓at_slK0, ↓at_slOK0, ↓at_aggK, ↓at_cond_t, ↓at_cond_f, ↓at_sameL, ↓at_any1, ↓at_any, and_self, toBytes_bys, List.nil_append, List.append_nil, ↓at_nodeW, List.drop_zero, List.take_succ_cons, List.take_zero, List.getElem?_cons_succ, List.getElem?_cons_zero, cells_agg, eqCells_cons, eqCells_nil, eq1_int, eq1_bool, eq1_str, ↓at_ptr_whole, ↓at_ptr_cell, ↓at_ptr_obj, ↓at_ptr_objs, shift_obj, shift_elt, toA_val, toA_own, Int.toNat_natCast, List.cons_append, k1, he]
    · refine ⟨false, fun Q tg => ?_⟩
      unfold dtext
      rw [if_neg (by simp [he]), F20_eq]
      have hs : h.setCell i 1 (HCell.val (.int .i64 (fget b).2.2)) = h.put i (rdC f b (fget b).2.2) := by rw [Heap.set_at hm]; rfl
      have hm2 : (h.put i (rdC f b (fget b).2.2)).objs[i]? = some (rdC f b (fget b).2.2) := Heap.put_get hm
      have k2 : (h.put i (rdC f b (fget b).2.2)).cell? i 0 = some (HCell.val (.sl f 0 (bys b))) := by rw [Heap.cell_at hm2]; rfl
      have hs2 : (h.put i (rdC f b (fget b).2.2)).setCell i 0 (HCell.val (.sl false 0 (bys (b.drop (fget b).2.1)))) = h.put i (rdC false (b.drop (fget b).2.1) (fget b).2.2) := by rw [Heap.set_at hm2, Heap.put_put]; rfl
      have hle := fget_le b
      simp (disch := (first | assumption | (simp only [Bool.and_eq_true, Bool.and_eq_false_iff, decide_eq_true_eq, decide_eq_false_iff_not, bne_iff_ne, beq_iff_eq, beq_eq_false_iff_ne, bne_eq_false_iff_eq, Bool.not_eq_true', Bool.not_eq_false', bys_length, List.length_append, List.length_cons, List.length_nil, List.length_map, List.length_drop, List.length_take, Int.natCast_add, wrap_i64_eq, wrap_u64, wrap_u8, ne_eq, not_true_eq_false, not_false_eq_true, Nat.zero_add, Nat.mul_one] <;> omega) | omega | (simp; done) | (simp; omega))) only [↓at_runK, ↓at_bind, ↓contQ_mk, ↓at_ret, ↓at_consK, ↓at_nilK, ↓at_optK, ↓at_intK, ↓at_boolK, ↓at_strK, ↓at_slK, ↓at_slOK, ↓at_slK0, ↓at_slOK0, ↓at_aggK, ↓at_cond_t, ↓at_cond_f, ↓at_sameL, ↓at_any1, ↓at_any, and_self, toBytes_bys, List.nil_append, List.append_nil, ↓at_nodeW, List.drop_zero, List.take_succ_cons, List.take_zero, List.getElem?_cons_succ, List.getElem?_cons_zero, cells_agg, eqCells_cons, eqCells_nil, eq1_int, eq1_bool, eq1_str, ↓at_ptr_whole, ↓at_ptr_cell, ↓at_ptr_obj, ↓at_ptr_objs, shift_obj, shift_elt, toA_val, toA_own, Int.toNat_natCast, List.cons_append, k1, k0, he, fget_run, hs, k2, bys_length, part_drop', hs2]
  · refine ⟨f, fun Q tg => ?_⟩
    unfold dtext
    rw [if_pos (Or.inl he), Heap.put_self hm, F20_eq]
    simp (disch := (first | assumption | (simp only [Bool.and_eq_true, Bool.and_eq_false_iff, decide_eq_true_eq, decide_eq_false_iff_not, bne_iff_ne, beq_iff_eq, beq_eq_false_iff_ne, bne_eq_false_iff_eq, Bool.not_eq_true', Bool.not_eq_false', bys_length, List.length_append, List.length_cons, List.length_nil, List.length_map, List.length_drop, List.length_take, Int.natCast_add, wrap_i64_eq, wrap_u64, wrap_u8, ne_eq, not_true_eq_false, not_false_eq_true, Nat.zero_add, Nat.mul_one] <;> omega) | omega | (simp; done) | (simp; omega))) only [↓at_runK, ↓at_bind, ↓contQ_mk, ↓at_ret, ↓at_consK, ↓at_nilK, ↓at_optK, ↓at_intK, ↓at_boolK, ↓at_strK, ↓at_slK, ↓at_slOK, ↓at_slK0, ↓at_slOK0, ↓at_aggK, ↓at_cond_t, ↓at_cond_f, ↓at_sameL, ↓at_any1, ↓at_any, and_self, toBytes_bys, List.nil_append, List.append_nil, ↓at_nodeW, List.drop_zero, List.take_succ_cons, List.take_zero, List.getElem?_cons_succ, List.getElem?_cons_zero, cells_agg, eqCells_cons, eqCells_nil, eq1_int, eq1_bool, eq1_str, ↓at_ptr_whole, ↓at_ptr_cell, ↓at_ptr_obj, ↓at_ptr_objs, shift_obj, shift_elt, toA_val, toA_own, Int.toNat_natCast, List.cons_append, k1, he]
theorem dtext_len (w : Bool) (b : List UInt8) (e : Nat) : (dtext w b e).2.1.length ≤ b.length := by
  unfold dtext
  split
  · exact Nat.le_refl _
  · simp

def Change.zero : Change := ⟨[], false, false, [], [], 0⟩
/-- What stands behind the texts. -/
noncomputable def ctail (w i : Bool) (k o n b : List UInt8) : Change × Nat :=
  if (getF b 0 0).2.2 ≠ 0 then (Change.zero, (getF b 0 0).2.2) else if (getF b 0 0).2.1 < b.length then (Change.zero, 2) else
    if cright k w i o n ((min (getF b 0 0).1 2147483648 : Nat) : Int) = true then (⟨k, w, i, o, n, (getF b 0 0).1⟩, 0) else (Change.zero, 2)
noncomputable def cdec1 (w i : Bool) (b : List UInt8) : Change × Nat :=
  if (dtext i (dtext w (dtext true b 0).2.1 (dtext true b 0).2.2).2.1 (dtext w (dtext true b 0).2.1 (dtext true b 0).2.2).2.2).2.2 ≠ 0 then
    (Change.zero, (dtext i (dtext w (dtext true b 0).2.1 (dtext true b 0).2.2).2.1 (dtext w (dtext true b 0).2.1 (dtext true b 0).2.2).2.2).2.2)
  else ctail w i (dtext true b 0).1 (dtext w (dtext true b 0).2.1 (dtext true b 0).2.2).1 (dtext i (dtext w (dtext true b 0).2.1 (dtext true b 0).2.2).2.1 (dtext w (dtext true b 0).2.1 (dtext true b 0).2.2).2.2).1
    (dtext i (dtext w (dtext true b 0).2.1 (dtext true b 0).2.2).2.1 (dtext w (dtext true b 0).2.1 (dtext true b 0).2.2).2.2).2.1
theorem cdec1_run {d : Nat} {i : Nat} {f w is : Bool} {b : List UInt8} {h : Heap} (hm : h.objs[i]? = some (rdC f b 0)) (hb : b.length ≤ 140737488351232) :
    ∃ f' b' e', ∀ (Q : Res → Prop) (tg : Hid Q), Run (P10_0 (d + 3) i [] false false [] [] 0 [] w is [] [] 0 h) Q tg = Q ([(cdec1 w is b).1.A, .int .i64 (cdec1 w is b).2], h.put i (rdC f' b' e')) := by
  obtain ⟨f1, r1⟩ := text_run (d := d) (w := true) hm hb
  have l1 := dtext_len true b 0
  obtain ⟨f2, r2⟩ := text_run (d := d) (w := w) (Heap.put_get (o := rdC f1 (dtext true b 0).2.1 (dtext true b 0).2.2) hm) (by omega)
  have l2 := dtext_len w (dtext true b 0).2.1 (dtext true b 0).2.2
  rw [Heap.put_put] at r2
  obtain ⟨f3, r3⟩ := text_run (d := d) (w := is) (Heap.put_get (o := rdC f2 (dtext w (dtext true b 0).2.1 (dtext true b 0).2.2).2.1 (dtext w (dtext true b 0).2.1 (dtext true b 0).2.2).2.2) hm) (by omega)
  have l3 := dtext_len is (dtext w (dtext true b 0).2.1 (dtext true b 0).2.2).2.1 (dtext w (dtext true b 0).2.1 (dtext true b 0).2.2).2.2
  rw [Heap.put_put] at r3
  unfold cdec1
  generalize dtext true b 0 = D1 at *
  obtain ⟨k, b1, e1⟩ := D1
  simp only at *
  generalize dtext w b1 e1 = D2 at *
  obtain ⟨o, b2, e2⟩ := D2
  simp only at *
  generalize dtext is b2 e2 = D3 at *
  obtain ⟨n, b3, e3⟩ := D3
  simp only at *
  refine ⟨f3, b3, e3, fun Q tg => ?_⟩
  have hm3 : (h.put i (rdC f3 b3 e3)).objs[i]? = some (rdC f3 b3 e3) := Heap.put_get hm
  have k0 : (h.put i (rdC f3 b3 e3)).cell? i 0 = some (HCell.val (.sl f3 0 (bys b3))) := by rw [Heap.cell_at hm3]; rfl
  have k1 : (h.put i (rdC f3 b3 e3)).cell? i 1 = some (HCell.val (.int .i64 e3)) := by rw [Heap.cell_at hm3]; rfl
  rw [P10_0_eq]
  by_cases h3 : e3 = 0
  · subst h3
    have h3 : ((0 : Nat) : Int) = 0 := e0
    rw [e0] at k1
    rw [if_neg (by simp)]
    unfold ctail
    by_cases hg : (getF b3 0 0).2.2 = 0
    · rw [if_neg (by simp [hg])]
      by_cases hl : (getF b3 0 0).2.1 < b3.length
      · rw [if_pos hl]
        simp (disch := (first | assumption | (simp only [Bool.and_eq_true, Bool.and_eq_false_iff, decide_eq_true_eq, decide_eq_false_iff_not, bne_iff_ne, beq_iff_eq, beq_eq_false_iff_ne, bne_eq_false_iff_eq, Bool.not_eq_true', Bool.not_eq_false', bys_length, List.length_append, List.length_cons, List.length_nil, List.length_map, List.length_drop, List.length_take, Int.natCast_add, wrap_i64_eq, wrap_u64, wrap_u8, ne_eq, not_true_eq_false, not_false_eq_true, Nat.zero_add, Nat.mul_one] <;> omega) | omega | (simp; done) | (simp; omega))) only [↓at_runK, ↓at_bind, ↓contQ_mk, ↓at_ret, ↓at_consK, ↓at_nilK, ↓at_optK, ↓at_intK, ↓at_boolK, ↓at_strK, ↓at_slK, ↓at_slOK, ↓at_slK0, ↓at_slOK0, ↓at_aggK, ↓at_cond_t, ↓at_cond_f, ↓at_sameL, ↓at_any1, ↓at_any, and_self, toBytes_bys, List.nil_append, List.append_nil, ↓at_nodeW, List.drop_zero, List.take_succ_cons, List.take_zero, List.getElem?_cons_succ, List.getElem?_cons_zero, cells_agg, eqCells_cons, eqCells_nil, eq1_int, eq1_bool, eq1_str, ↓at_ptr_whole, ↓at_ptr_cell, ↓at_ptr_obj, ↓at_ptr_objs, shift_obj, shift_elt, toA_val, toA_own, Int.toNat_natCast, List.cons_append, r1, r2, r3, k1, k0, h3, get_run, hg, bys_length]
        rfl
      · rw [if_neg hl]
        have ew : IntKind.i64.wrap (if (2147483648 : Int) < ((getF b3 0 0).1 : Nat) then (2147483648 : Int) else ((getF b3 0 0).1 : Nat)) = ((min (getF b3 0 0).1 2147483648 : Nat) : Int) := by
          rw [wrap_i64_id (by split <;> omega) (by split <;> omega)]
          split <;> omega
        by_cases hr : cright k w is o n ((min (getF b3 0 0).1 2147483648 : Nat) : Int) = true
        · have hmin : min (getF b3 0 0).1 2147483648 = (getF b3 0 0).1 := by simp only [cright, decide_eq_true_eq] at hr; omega
          rw [if_pos hr]
          simp (disch := (first | assumption | (simp only [Bool.and_eq_true, Bool.and_eq_false_iff, decide_eq_true_eq, decide_eq_false_iff_not, bne_iff_ne, beq_iff_eq, beq_eq_false_iff_ne, bne_eq_false_iff_eq, Bool.not_eq_true', Bool.not_eq_false', bys_length, List.length_append, List.length_cons, List.length_nil, List.length_map, List.length_drop, List.length_take, Int.natCast_add, wrap_i64_eq, wrap_u64, wrap_u8, ne_eq, not_true_eq_false, not_false_eq_true, Nat.zero_add, Nat.mul_one] <;> omega) | omega | (simp; done) | (simp; omega))) only [↓at_runK, ↓at_bind, ↓contQ_mk, ↓at_ret, ↓at_consK, ↓at_nilK, ↓at_optK, ↓at_intK, ↓at_boolK, ↓at_strK, ↓at_slK, ↓at_slOK, ↓at_slK0, ↓at_slOK0, ↓at_aggK, ↓at_cond_t, ↓at_cond_f, ↓at_sameL, ↓at_any1, ↓at_any, and_self, toBytes_bys, List.nil_append, List.append_nil, ↓at_nodeW, List.drop_zero, List.take_succ_cons, List.take_zero, List.getElem?_cons_succ, List.getElem?_cons_zero, cells_agg, eqCells_cons, eqCells_nil, eq1_int, eq1_bool, eq1_str, ↓at_ptr_whole, ↓at_ptr_cell, ↓at_ptr_obj, ↓at_ptr_objs, shift_obj, shift_elt, toA_val, toA_own, Int.toNat_natCast, List.cons_append, r1, r2, r3, k1, k0, h3, get_run, hg, bys_length, ew, cright_run, hr]
          rw [hmin]; rfl
        · have hr' : cright k w is o n ((min (getF b3 0 0).1 2147483648 : Nat) : Int) = false := by simpa using hr
          rw [if_neg hr]
          simp (disch := (first | assumption | (simp only [Bool.and_eq_true, Bool.and_eq_false_iff, decide_eq_true_eq, decide_eq_false_iff_not, bne_iff_ne, beq_iff_eq, beq_eq_false_iff_ne, bne_eq_false_iff_eq, Bool.not_eq_true', Bool.not_eq_false', bys_length, List.length_append, List.length_cons, List.length_nil, List.length_map, List.length_drop, List.length_take, Int.natCast_add, wrap_i64_eq, wrap_u64, wrap_u8, ne_eq, not_true_eq_false, not_false_eq_true, Nat.zero_add, Nat.mul_one] <;> omega) | omega | (simp; done) | (simp; omega))) only [↓at_runK, ↓at_bind, ↓contQ_mk, ↓at_ret, ↓at_consK, ↓at_nilK, ↓at_optK, ↓at_intK, ↓at_boolK, ↓at_strK, ↓at_slK, ↓at_slOK, ↓at_slK0, ↓at_slOK0, ↓at_aggK, ↓at_cond_t, ↓at_cond_f, ↓at_sameL, ↓at_any1, ↓at_any, and_self, toBytes_bys, List.nil_append, List.append_nil, ↓at_nodeW, List.drop_zero, List.take_succ_cons, List.take_zero, List.getElem?_cons_succ, List.getElem?_cons_zero, cells_agg, eqCells_cons, eqCells_nil, eq1_int, eq1_bool, eq1_str, ↓at_ptr_whole, ↓at_ptr_cell, ↓at_ptr_obj, ↓at_ptr_objs, shift_obj, shift_elt, toA_val, toA_own, Int.toNat_natCast, List.cons_append, r1, r2, r3, k1, k0, h3, get_run, hg, bys_length, ew, cright_run, hr']
          rfl
    · rw [if_pos hg]
      simp (disch := (first | assumption | (simp only [Bool.and_eq_true, Bool.and_eq_false_iff, decide_eq_true_eq, decide_eq_false_iff_not, bne_iff_ne, beq_iff_eq, beq_eq_false_iff_ne, bne_eq_false_iff_eq, Bool.not_eq_true', Bool.not_eq_false', bys_length, List.length_append, List.length_cons, List.length_nil, List.length_map, List.length_drop, List.length_take, Int.natCast_add, wrap_i64_eq, wrap_u64, wrap_u8, ne_eq, not_true_eq_false, not_false_eq_true, Nat.zero_add, Nat.mul_one] <;> omega) | omega | (simp; done) | (simp; omega))) only [↓at_runK, ↓at_bind, ↓contQ_mk, ↓at_ret, ↓at_consK, ↓at_nilK, ↓at_optK, ↓at_intK, ↓at_boolK, ↓at_strK, ↓at_slK, ↓at_slOK, ↓at_slK0, ↓at_slOK0, ↓at_aggK, ↓at_cond_t, ↓at_cond_f, ↓at_sameL, ↓at_any1, ↓at_any, and_self, toBytes_bys, List.nil_append, List.append_nil, ↓at_nodeW, List.drop_zero, List.take_succ_cons, List.take_zero, List.getElem?_cons_succ, List.getElem?_cons_zero, cells_agg, eqCells_cons, eqCells_nil, eq1_int, eq1_bool, eq1_str, ↓at_ptr_whole, ↓at_ptr_cell, ↓at_ptr_obj, ↓at_ptr_objs, shift_obj, shift_elt, toA_val, toA_own, Int.toNat_natCast, List.cons_append, r1, r2, r3, k1, k0, h3, get_run, hg, bys_length]
      rfl
  · rw [if_pos h3]
    simp (disch := (first | assumption | (simp only [Bool.and_eq_true, Bool.and_eq_false_iff, decide_eq_true_eq, decide_eq_false_iff_not, bne_iff_ne, beq_iff_eq, beq_eq_false_iff_ne, bne_eq_false_iff_eq, Bool.not_eq_true', Bool.not_eq_false', bys_length, List.length_append, List.length_cons, List.length_nil, List.length_map, List.length_drop, List.length_take, Int.natCast_add, wrap_i64_eq, wrap_u64, wrap_u8, ne_eq, not_true_eq_false, not_false_eq_true, Nat.zero_add, Nat.mul_one] <;> omega) | omega | (simp; done) | (simp; omega))) only [↓at_runK, ↓at_bind, ↓contQ_mk, ↓at_ret, ↓at_consK, ↓at_nilK, ↓at_optK, ↓at_intK, ↓at_boolK, ↓at_strK, ↓at_slK, ↓at_slOK, ↓at_slK0, ↓at_slOK0, ↓at_aggK, ↓at_cond_t, ↓at_cond_f, ↓at_sameL, ↓at_any1, ↓at_any, and_self, toBytes_bys, List.nil_append, List.append_nil, ↓at_nodeW, List.drop_zero, List.take_succ_cons, List.take_zero, List.getElem?_cons_succ, List.getElem?_cons_zero, cells_agg, eqCells_cons, eqCells_nil, eq1_int, eq1_bool, eq1_str, ↓at_ptr_whole, ↓at_ptr_cell, ↓at_ptr_obj, ↓at_ptr_objs, shift_obj, shift_elt, toA_val, toA_own, Int.toNat_natCast, List.cons_append, r1, r2, r3, k1, h3]
    rfl
/-- The change that bytes are. -/
noncomputable def cdec (b : List UInt8) : Change × Nat :=
  match b with
  | [] => (Change.zero, 1)
  | x :: r => if 4 ≤ x.toNat then (Change.zero, 2) else cdec1 (decide (x.toNat % 2 = 1)) (decide (2 ≤ x.toNat)) r
theorem flag_was_n : ∀ n : Nat, n < 256 → ((IntKind.u8.wrap (BitVec.ofInt 8 (n : Int) &&& BitVec.ofInt 8 1).toNat : Int) != 0) = decide (n % 2 = 1) := by decide +kernel
theorem flag_is_n : ∀ n : Nat, n < 4 → ((IntKind.u8.wrap (BitVec.ofInt 8 (n : Int) &&& BitVec.ofInt 8 2).toNat : Int) != 0) = decide (2 ≤ n) := by decide +kernel
theorem flag_was (x : UInt8) : ((IntKind.u8.wrap (BitVec.ofInt 8 (x.toNat : Int) &&& BitVec.ofInt 8 1).toNat : Int) != 0) = decide (x.toNat % 2 = 1) := flag_was_n _ x.toNat_lt
theorem flag_is (x : UInt8) (h : x.toNat < 4) : ((IntKind.u8.wrap (BitVec.ofInt 8 (x.toNat : Int) &&& BitVec.ofInt 8 2).toNat : Int) != 0) = decide (2 ≤ x.toNat) := flag_is_n _ h
theorem cdecode_run {d : Nat} {f : Bool} {b : List UInt8} {h : Heap} (hb : b.length ≤ 140737488351232) :
    ∃ h', h.ext h' ∧ ∀ (Q : Res → Prop) (tg : Hid Q), Run (evFn Cw (d + 4) 10 [.sl f 0 (bys b)] h) Q tg = Q ([(cdec b).1.A, .int .i64 (cdec b).2], h') := by
  match b, hb with
  | [], _ =>
    refine ⟨h, Heap.ext.refl h, fun Q tg => ?_⟩
    rw [F10_eq]
    simp (disch := (first | assumption | (simp only [Bool.and_eq_true, Bool.and_eq_false_iff, decide_eq_true_eq, decide_eq_false_iff_not, bne_iff_ne, beq_iff_eq, beq_eq_false_iff_ne, bne_eq_false_iff_eq, Bool.not_eq_true', Bool.not_eq_false', bys_length, List.length_append, List.length_cons, List.length_nil, List.length_map, List.length_drop, List.length_take, Int.natCast_add, wrap_i64_eq, wrap_u64, wrap_u8, ne_eq, not_true_eq_false, not_false_eq_true, Nat.zero_add, Nat.mul_one] <;> omega) | omega | (simp; done) | (simp; omega))) only [↓at_runK, ↓at_bind, ↓contQ_mk, ↓at_ret, ↓at_consK, ↓at_nilK, ↓at_optK, ↓at_intK, ↓at_boolK, ↓at_strK, ↓at_slK, ↓at_slOK, ↓at_slK0, ↓at_slOK0, ↓at_aggK, ↓at_cond_t, ↓at_cond_f, ↓at_sameL, ↓at_any1, ↓at_any, and_self, toBytes_bys, List.nil_append, List.append_nil, ↓at_nodeW, List.drop_zero, List.take_succ_cons, List.take_zero, List.getElem?_cons_succ, List.getElem?_cons_zero, cells_agg, eqCells_cons, eqCells_nil, eq1_int, eq1_bool, eq1_str, ↓at_ptr_whole, ↓at_ptr_cell, ↓at_ptr_obj, ↓at_ptr_objs, shift_obj, shift_elt, toA_val, toA_own, Int.toNat_natCast, List.cons_append, bys_length]
    rfl
  | x :: r, hb =>
    unfold cdec
    have g0 : (bys (x :: r)).getD 0 AVal.undef = ofByte x := of_eq_true (eq_self _)
    have p1 : Weave.part 1 ((r.length + 1 : Nat) : Int) (bys (x :: r)) = bys r := part_drop' (l := x :: r) (k := 1)
    by_cases h4 : 4 ≤ x.toNat
    · refine ⟨h, Heap.ext.refl h, fun Q tg => ?_⟩
      simp only [h4, if_true]
      rw [F10_eq]
      simp (disch := (first | assumption | (simp only [Bool.and_eq_true, Bool.and_eq_false_iff, decide_eq_true_eq, decide_eq_false_iff_not, bne_iff_ne, beq_iff_eq, beq_eq_false_iff_ne, bne_eq_false_iff_eq, Bool.not_eq_true', Bool.not_eq_false', bys_length, List.length_append, List.length_cons, List.length_nil, List.length_map, List.length_drop, List.length_take, Int.natCast_add, wrap_i64_eq, wrap_u64, wrap_u8, ne_eq, not_true_eq_false, not_false_eq_true, Nat.zero_add, Nat.mul_one] <;> omega) | omega | (simp; done) | (simp; omega))) only [↓at_runK, ↓at_bind, ↓contQ_mk, ↓at_ret, ↓at_consK, ↓at_nilK, ↓at_optK, ↓at_intK, ↓at_boolK, ↓at_strK, ↓at_slK, ↓at_slOK, ↓at_slK0, ↓at_slOK0, ↓at_aggK, ↓at_cond_t, ↓at_cond_f, ↓at_sameL, ↓at_any1, ↓at_any, and_self, toBytes_bys, List.nil_append, List.append_nil, ↓at_nodeW, List.drop_zero, List.take_succ_cons, List.take_zero, List.getElem?_cons_succ, List.getElem?_cons_zero, cells_agg, eqCells_cons, eqCells_nil, eq1_int, eq1_bool, eq1_str, ↓at_ptr_whole, ↓at_ptr_cell, ↓at_ptr_obj, ↓at_ptr_objs, shift_obj, shift_elt, toA_val, toA_own, Int.toNat_natCast, List.cons_append, bys_length, List.length_cons, g0, ofByte]
      rfl
    · have hr : r.length ≤ 140737488351232 := by simp at hb; omega
      obtain ⟨f', b', e', hc⟩ := cdec1_run (d := d) (i := h.objs.length) (f := f) (w := decide (x.toNat % 2 = 1)) (is := decide (2 ≤ x.toNat)) (b := r) (h := h.push (rdC f r 0)) (Heap.push_new h _) hr
      refine ⟨_, (Heap.ext.push h (rdC f r 0)).put (o := rdC f' b' e') (Nat.le_refl _), fun Q tg => ?_⟩
      simp only [h4, if_false]
      have eo : Weave.Obj.cells ([AVal.sl f 0 (bys r), AVal.int .i64 0].map HCell.val) = rdC f r 0 := of_eq_true (eq_self _)
      have f1 := flag_was x
      have f2 := flag_is x (by omega)
      rw [F10_eq]
      simp (disch := (first | assumption | (simp only [Bool.and_eq_true, Bool.and_eq_false_iff, decide_eq_true_eq, decide_eq_false_iff_not, bne_iff_ne, beq_iff_eq, beq_eq_false_iff_ne, bne_eq_false_iff_eq, Bool.not_eq_true', Bool.not_eq_false', bys_length, List.length_append, List.length_cons, List.length_nil, List.length_map, List.length_drop, List.length_take, Int.natCast_add, wrap_i64_eq, wrap_u64, wrap_u8, ne_eq, not_true_eq_false, not_false_eq_true, Nat.zero_add, Nat.mul_one] <;> omega) | omega | (simp; done) | (simp; omega))) only [↓at_runK, ↓at_bind, ↓contQ_mk, ↓at_ret, ↓at_consK, ↓at_nilK, ↓at_optK, ↓at_intK, ↓at_boolK, ↓at_strK, ↓at_slK, ↓at_slOK, ↓at_slK0, ↓at_slOK0, ↓at_aggK, ↓at_cond_t, ↓at_cond_f, ↓at_sameL, ↓at_any1, ↓at_any, and_self, toBytes_bys, List.nil_append, List.append_nil, ↓at_nodeW, List.drop_zero, List.take_succ_cons, List.take_zero, List.getElem?_cons_succ, List.getElem?_cons_zero, cells_agg, eqCells_cons, eqCells_nil, eq1_int, eq1_bool, eq1_str, ↓at_ptr_whole, ↓at_ptr_cell, ↓at_ptr_obj, ↓at_ptr_objs, shift_obj, shift_elt, toA_val, toA_own, Int.toNat_natCast, List.cons_append, bys_length, List.length_cons, g0, ofByte, p1, f1, f2, eo, hc]

/-! ### The reference -/
theorem rcright_run {d : Nat} {k : List UInt8} {w i : Bool} {o n : List UInt8} {x : Int} {h : Heap} {Q : Res → Prop} {tg : Hid Q} :
    Run (evFn Cw (d + 1) 8 [.agg [.str k, .bool w, .bool i, .str o, .str n, .int .i64 x]] h) Q tg = Q ([.bool (cright k w i o n x)], h) := by
  rw [F8_eq]
  repeat' (first | (refine at_ret.trans ?_) | (refine at_cases (fun _ => ?_) (fun _ => ?_)))
  all_goals (refine congrArg (fun b => Q ([AVal.bool b], h)) ?_; simp only [cright]; simp_all)
  all_goals (try omega)
  all_goals (rcases k with _ | ⟨c, k⟩ <;> simp_all)
  all_goals (first | omega | (rcases n with _ | ⟨c', n⟩ <;> simp_all <;> omega))
def wantAt (w is : Bool) (i : Nat) : Bool := if i = 0 then true else if i = 1 then w else is
theorem dtext_off (b : List UInt8) : dtext false b 0 = ([], b, 0) := by unfold dtext; rw [if_pos (Or.inr rfl)]
theorem dtext_on (b : List UInt8) : dtext true b 0 = ((fget b).1, b.drop (fget b).2.1, (fget b).2.2) := by unfold dtext; rw [if_neg (by simp)]
theorem dtext_err (w : Bool) (b : List UInt8) {e : Nat} (he : e ≠ 0) : dtext w b e = ([], b, e) := by unfold dtext; rw [if_pos (Or.inl he)]
theorem rt_ok {d k : Nat} {f w is : Bool} {b : List UInt8} {p i : Nat} {ls : List AVal} {h : Heap} (hi : i < 3) (hp : p ≤ b.length) (hb : b.length ≤ 140737488351232) (hl : ls.length ≤ 3) (he : (dtext (wantAt w is i) (b.drop p) 0).2.2 = 0) :
    ∃ p' : Nat, b.drop p' = (dtext (wantAt w is i) (b.drop p) 0).2.1 ∧ p' ≤ b.length ∧ ∀ (Q : Res → Prop) (tg : Hid Q),
      Run (P26_1 (d + 2) (k + 1) f (bys b) p ls i [] false false [] [] 0 [] w is [] [] 0 h) Q tg = Run (P26_1 (d + 2) k f (bys b) p' (ls ++ [.str (dtext (wantAt w is i) (b.drop p) 0).1]) (i + 1 : Nat) [] false false [] [] 0 [] w is [] [] 0 h) Q ⟨⟩ := by
  have e1 := succ_wrap (i := i) (by omega)
  have hlen : (b.drop p).length ≤ 140737488351232 := by simp; omega
  cases hw : wantAt w is i
  · rw [dtext_off]
    refine ⟨p, rfl, hp, fun Q tg => ?_⟩
    rw [P26_1_eq]
    unfold wantAt at hw
    obtain rfl | rfl : i = 1 ∨ i = 2 := by
      rcases Nat.lt_or_ge 0 i with h0 | h0
      · omega
      · have : i = 0 := by omega
        rw [if_pos this] at hw; simp at hw
    · simp at hw; subst hw
      simp (disch := (first | assumption | (simp only [Bool.and_eq_true, Bool.and_eq_false_iff, decide_eq_true_eq, decide_eq_false_iff_not, bne_iff_ne, beq_iff_eq, beq_eq_false_iff_ne, bne_eq_false_iff_eq, Bool.not_eq_true', Bool.not_eq_false', bys_length, List.length_append, List.length_cons, List.length_nil, List.length_map, List.length_drop, List.length_take, Int.natCast_add, wrap_i64_eq, wrap_u64, wrap_u8, ne_eq, not_true_eq_false, not_false_eq_true, Nat.zero_add, Nat.mul_one] <;> omega) | omega | (simp; done) | (simp; omega))) only [↓at_runK, ↓at_bind, ↓contQ_mk, ↓at_ret, ↓at_consK, ↓at_nilK, ↓at_optK, ↓at_intK, ↓at_boolK, ↓at_strK, ↓at_slK, ↓at_slOK, ↓at_slK0, ↓at_slOK0, ↓at_aggK, ↓at_cond_t, ↓at_cond_f, ↓at_sameL, ↓at_any1, ↓at_any, and_self, toBytes_bys, List.nil_append, List.append_nil, ↓at_nodeW, List.drop_zero, List.take_succ_cons, List.take_zero, List.getElem?_cons_succ, List.getElem?_cons_zero, cells_agg, eqCells_cons, eqCells_nil, eq1_int, eq1_bool, eq1_str, ↓at_ptr_whole, ↓at_ptr_cell, ↓at_ptr_obj, ↓at_ptr_objs, shift_obj, shift_elt, toA_val, toA_own, Int.toNat_natCast, List.cons_append, e1]
    · simp at hw; subst hw
      simp (disch := (first | assumption | (simp only [Bool.and_eq_true, Bool.and_eq_false_iff, decide_eq_true_eq, decide_eq_false_iff_not, bne_iff_ne, beq_iff_eq, beq_eq_false_iff_ne, bne_eq_false_iff_eq, Bool.not_eq_true', Bool.not_eq_false', bys_length, List.length_append, List.length_cons, List.length_nil, List.length_map, List.length_drop, List.length_take, Int.natCast_add, wrap_i64_eq, wrap_u64, wrap_u8, ne_eq, not_true_eq_false, not_false_eq_true, Nat.zero_add, Nat.mul_one] <;> omega) | omega | (simp; done) | (simp; omega))) only [↓at_runK, ↓at_bind, ↓contQ_mk, ↓at_ret, ↓at_consK, ↓at_nilK, ↓at_optK, ↓at_intK, ↓at_boolK, ↓at_strK, ↓at_slK, ↓at_slOK, ↓at_slK0, ↓at_slOK0, ↓at_aggK, ↓at_cond_t, ↓at_cond_f, ↓at_sameL, ↓at_any1, ↓at_any, and_self, toBytes_bys, List.nil_append, List.append_nil, ↓at_nodeW, List.drop_zero, List.take_succ_cons, List.take_zero, List.getElem?_cons_succ, List.getElem?_cons_zero, cells_agg, eqCells_cons, eqCells_nil, eq1_int, eq1_bool, eq1_str, ↓at_ptr_whole, ↓at_ptr_cell, ↓at_ptr_obj, ↓at_ptr_objs, shift_obj, shift_elt, toA_val, toA_own, Int.toNat_natCast, List.cons_append, e1]
  · rw [hw, dtext_on] at he
    simp only at he
    rw [dtext_on]
    have hk := fget_le (b.drop p)
    rw [List.length_drop] at hk
    have ek : IntKind.i64.wrap ((p : Int) + ((fget (b.drop p)).2.1 : Nat)) = ((p + (fget (b.drop p)).2.1 : Nat) : Int) := by rw [wrap_i64_id (by omega) (by omega)]; omega
    refine ⟨p + (fget (b.drop p)).2.1, by rw [List.drop_drop], by omega, fun Q tg => ?_⟩
    rw [P26_1_eq]
    unfold wantAt at hw
    obtain rfl | rfl | rfl : i = 0 ∨ i = 1 ∨ i = 2 := by omega
    · simp (disch := (first | assumption | (simp only [Bool.and_eq_true, Bool.and_eq_false_iff, decide_eq_true_eq, decide_eq_false_iff_not, bne_iff_ne, beq_iff_eq, beq_eq_false_iff_ne, bne_eq_false_iff_eq, Bool.not_eq_true', Bool.not_eq_false', bys_length, List.length_append, List.length_cons, List.length_nil, List.length_map, List.length_drop, List.length_take, Int.natCast_add, wrap_i64_eq, wrap_u64, wrap_u8, ne_eq, not_true_eq_false, not_false_eq_true, Nat.zero_add, Nat.mul_one] <;> omega) | omega | (simp; done) | (simp; omega))) only [↓at_runK, ↓at_bind, ↓contQ_mk, ↓at_ret, ↓at_consK, ↓at_nilK, ↓at_optK, ↓at_intK, ↓at_boolK, ↓at_strK, ↓at_slK, ↓at_slOK, ↓at_slK0, ↓at_slOK0, ↓at_aggK, ↓at_cond_t, ↓at_cond_f, ↓at_sameL, ↓at_any1, ↓at_any, and_self, toBytes_bys, List.nil_append, List.append_nil, ↓at_nodeW, List.drop_zero, List.take_succ_cons, List.take_zero, List.getElem?_cons_succ, List.getElem?_cons_zero, cells_agg, eqCells_cons, eqCells_nil, eq1_int, eq1_bool, eq1_str, ↓at_ptr_whole, ↓at_ptr_cell, ↓at_ptr_obj, ↓at_ptr_objs, shift_obj, shift_elt, toA_val, toA_own, Int.toNat_natCast, List.cons_append, bys_length, part_drop', rfget_run, he, ek, e1]
    · simp at hw; subst hw
      simp (disch := (first | assumption | (simp only [Bool.and_eq_true, Bool.and_eq_false_iff, decide_eq_true_eq, decide_eq_false_iff_not, bne_iff_ne, beq_iff_eq, beq_eq_false_iff_ne, bne_eq_false_iff_eq, Bool.not_eq_true', Bool.not_eq_false', bys_length, List.length_append, List.length_cons, List.length_nil, List.length_map, List.length_drop, List.length_take, Int.natCast_add, wrap_i64_eq, wrap_u64, wrap_u8, ne_eq, not_true_eq_false, not_false_eq_true, Nat.zero_add, Nat.mul_one] <;> omega) | omega | (simp; done) | (simp; omega))) only [↓at_runK, ↓at_bind, ↓contQ_mk, ↓at_ret, ↓at_consK, ↓at_nilK, ↓at_optK, ↓at_intK, ↓at_boolK, ↓at_strK, ↓at_slK, ↓at_slOK, ↓at_slK0, ↓at_slOK0, ↓at_aggK, ↓at_cond_t, ↓at_cond_f, ↓at_sameL, ↓at_any1, ↓at_any, and_self, toBytes_bys, List.nil_append, List.append_nil, ↓at_nodeW, List.drop_zero, List.take_succ_cons, List.take_zero, List.getElem?_cons_succ, List.getElem?_cons_zero, cells_agg, eqCells_cons, eqCells_nil, eq1_int, eq1_bool, eq1_str, ↓at_ptr_whole, ↓at_ptr_cell, ↓at_ptr_obj, ↓at_ptr_objs, shift_obj, shift_elt, toA_val, toA_own, Int.toNat_natCast, List.cons_append, bys_length, part_drop', rfget_run, he, ek, e1]
    · simp at hw; subst hw
      simp (disch := (first | assumption | (simp only [Bool.and_eq_true, Bool.and_eq_false_iff, decide_eq_true_eq, decide_eq_false_iff_not, bne_iff_ne, beq_iff_eq, beq_eq_false_iff_ne, bne_eq_false_iff_eq, Bool.not_eq_true', Bool.not_eq_false', bys_length, List.length_append, List.length_cons, List.length_nil, List.length_map, List.length_drop, List.length_take, Int.natCast_add, wrap_i64_eq, wrap_u64, wrap_u8, ne_eq, not_true_eq_false, not_false_eq_true, Nat.zero_add, Nat.mul_one] <;> omega) | omega | (simp; done) | (simp; omega))) only [↓at_runK, ↓at_bind, ↓contQ_mk, ↓at_ret, ↓at_consK, ↓at_nilK, ↓at_optK, ↓at_intK, ↓at_boolK, ↓at_strK, ↓at_slK, ↓at_slOK, ↓at_slK0, ↓at_slOK0, ↓at_aggK, ↓at_cond_t, ↓at_cond_f, ↓at_sameL, ↓at_any1, ↓at_any, and_self, toBytes_bys, List.nil_append, List.append_nil, ↓at_nodeW, List.drop_zero, List.take_succ_cons, List.take_zero, List.getElem?_cons_succ, List.getElem?_cons_zero, cells_agg, eqCells_cons, eqCells_nil, eq1_int, eq1_bool, eq1_str, ↓at_ptr_whole, ↓at_ptr_cell, ↓at_ptr_obj, ↓at_ptr_objs, shift_obj, shift_elt, toA_val, toA_own, Int.toNat_natCast, List.cons_append, bys_length, part_drop', rfget_run, he, ek, e1]
theorem rt_err {d k : Nat} {f w is : Bool} {b : List UInt8} {p i : Nat} {ls : List AVal} {h : Heap} (hi : i < 3) (hp : p ≤ b.length) (hb : b.length ≤ 140737488351232) (he : (dtext (wantAt w is i) (b.drop p) 0).2.2 ≠ 0) (Q : Res → Prop) (tg : Hid Q) :
      Run (P26_1 (d + 2) (k + 1) f (bys b) p ls i [] false false [] [] 0 [] w is [] [] 0 h) Q tg = Q ([Change.zero.A, .int .i64 (dtext (wantAt w is i) (b.drop p) 0).2.2], h) := by
  have hlen : (b.drop p).length ≤ 140737488351232 := by simp; omega
  cases hw : wantAt w is i
  · rw [hw, dtext_off] at he; simp at he
  · rw [hw, dtext_on] at he
    simp only at he
    rw [dtext_on]
    rw [P26_1_eq]
    unfold wantAt at hw
    obtain rfl | rfl | rfl : i = 0 ∨ i = 1 ∨ i = 2 := by omega
    · simp (disch := (first | assumption | (simp only [Bool.and_eq_true, Bool.and_eq_false_iff, decide_eq_true_eq, decide_eq_false_iff_not, bne_iff_ne, beq_iff_eq, beq_eq_false_iff_ne, bne_eq_false_iff_eq, Bool.not_eq_true', Bool.not_eq_false', bys_length, List.length_append, List.length_cons, List.length_nil, List.length_map, List.length_drop, List.length_take, Int.natCast_add, wrap_i64_eq, wrap_u64, wrap_u8, ne_eq, not_true_eq_false, not_false_eq_true, Nat.zero_add, Nat.mul_one] <;> omega) | omega | (simp; done) | (simp; omega))) only [↓at_runK, ↓at_bind, ↓contQ_mk, ↓at_ret, ↓at_consK, ↓at_nilK, ↓at_optK, ↓at_intK, ↓at_boolK, ↓at_strK, ↓at_slK, ↓at_slOK, ↓at_slK0, ↓at_slOK0, ↓at_aggK, ↓at_cond_t, ↓at_cond_f, ↓at_sameL, ↓at_any1, ↓at_any, and_self, toBytes_bys, List.nil_append, List.append_nil, ↓at_nodeW, List.drop_zero, List.take_succ_cons, List.take_zero, List.getElem?_cons_succ, List.getElem?_cons_zero, cells_agg, eqCells_cons, eqCells_nil, eq1_int, eq1_bool, eq1_str, ↓at_ptr_whole, ↓at_ptr_cell, ↓at_ptr_obj, ↓at_ptr_objs, shift_obj, shift_elt, toA_val, toA_own, Int.toNat_natCast, List.cons_append, bys_length, part_drop', rfget_run, he]
      rfl
    · simp at hw; subst hw
      simp (disch := (first | assumption | (simp only [Bool.and_eq_true, Bool.and_eq_false_iff, decide_eq_true_eq, decide_eq_false_iff_not, bne_iff_ne, beq_iff_eq, beq_eq_false_iff_ne, bne_eq_false_iff_eq, Bool.not_eq_true', Bool.not_eq_false', bys_length, List.length_append, List.length_cons, List.length_nil, List.length_map, List.length_drop, List.length_take, Int.natCast_add, wrap_i64_eq, wrap_u64, wrap_u8, ne_eq, not_true_eq_false, not_false_eq_true, Nat.zero_add, Nat.mul_one] <;> omega) | omega | (simp; done) | (simp; omega))) only [↓at_runK, ↓at_bind, ↓contQ_mk, ↓at_ret, ↓at_consK, ↓at_nilK, ↓at_optK, ↓at_intK, ↓at_boolK, ↓at_strK, ↓at_slK, ↓at_slOK, ↓at_slK0, ↓at_slOK0, ↓at_aggK, ↓at_cond_t, ↓at_cond_f, ↓at_sameL, ↓at_any1, ↓at_any, and_self, toBytes_bys, List.nil_append, List.append_nil, ↓at_nodeW, List.drop_zero, List.take_succ_cons, List.take_zero, List.getElem?_cons_succ, List.getElem?_cons_zero, cells_agg, eqCells_cons, eqCells_nil, eq1_int, eq1_bool, eq1_str, ↓at_ptr_whole, ↓at_ptr_cell, ↓at_ptr_obj, ↓at_ptr_objs, shift_obj, shift_elt, toA_val, toA_own, Int.toNat_natCast, List.cons_append, bys_length, part_drop', rfget_run, he]
      rfl
    · simp at hw; subst hw
      simp (disch := (first | assumption | (simp only [Bool.and_eq_true, Bool.and_eq_false_iff, decide_eq_true_eq, decide_eq_false_iff_not, bne_iff_ne, beq_iff_eq, beq_eq_false_iff_ne, bne_eq_false_iff_eq, Bool.not_eq_true', Bool.not_eq_false', bys_length, List.length_append, List.length_cons, List.length_nil, List.length_map, List.length_drop, List.length_take, Int.natCast_add, wrap_i64_eq, wrap_u64, wrap_u8, ne_eq, not_true_eq_false, not_false_eq_true, Nat.zero_add, Nat.mul_one] <;> omega) | omega | (simp; done) | (simp; omega))) only [↓at_runK, ↓at_bind, ↓contQ_mk, ↓at_ret, ↓at_consK, ↓at_nilK, ↓at_optK, ↓at_intK, ↓at_boolK, ↓at_strK, ↓at_slK, ↓at_slOK, ↓at_slK0, ↓at_slOK0, ↓at_aggK, ↓at_cond_t, ↓at_cond_f, ↓at_sameL, ↓at_any1, ↓at_any, and_self, toBytes_bys, List.nil_append, List.append_nil, ↓at_nodeW, List.drop_zero, List.take_succ_cons, List.take_zero, List.getElem?_cons_succ, List.getElem?_cons_zero, cells_agg, eqCells_cons, eqCells_nil, eq1_int, eq1_bool, eq1_str, ↓at_ptr_whole, ↓at_ptr_cell, ↓at_ptr_obj, ↓at_ptr_objs, shift_obj, shift_elt, toA_val, toA_own, Int.toNat_natCast, List.cons_append, bys_length, part_drop', rfget_run, he]
      rfl
theorem rtail_run {d k : Nat} {f w is : Bool} {b : List UInt8} {p : Nat} {key o n : List UInt8} {h : Heap} (hp : p ≤ b.length) (hb : b.length ≤ 140737488351232) (Q : Res → Prop) (tg : Hid Q) :
      Run (P26_1 (d + 2) (k + 1) f (bys b) p [.str key, .str o, .str n] 3 [] false false [] [] 0 [] w is [] [] 0 h) Q tg = Q ([(ctail w is key o n (b.drop p)).1.A, .int .i64 (ctail w is key o n (b.drop p)).2], h) := by
  have hlen : (b.drop p).length ≤ 140737488351232 := by simp; omega
  have l0 : [AVal.str key, AVal.str o, AVal.str n].getD 0 AVal.undef = .str key := of_eq_true (eq_self _)
  have l1 : [AVal.str key, AVal.str o, AVal.str n].getD 1 AVal.undef = .str o := of_eq_true (eq_self _)
  have l2 : [AVal.str key, AVal.str o, AVal.str n].getD 2 AVal.undef = .str n := of_eq_true (eq_self _)
  have l3 : [AVal.str key, AVal.str o, AVal.str n].length = 3 := rfl
  rw [P26_1_eq]
  unfold ctail
  by_cases hg : (getF (b.drop p) 0 0).2.2 = 0
  · have ⟨g1, g2, g3⟩ := getF_ok hg
    rw [List.length_drop] at g2
    rw [if_neg (by simp [hg])]
    have ek : IntKind.i64.wrap ((p : Int) + ((getF (b.drop p) 0 0).2.1 : Nat)) = ((p + (getF (b.drop p) 0 0).2.1 : Nat) : Int) := by rw [wrap_i64_id (by omega) (by omega)]; omega
    by_cases hl : (getF (b.drop p) 0 0).2.1 < (b.drop p).length
    · rw [if_pos hl]
      rw [List.length_drop] at hl
      simp (disch := (first | assumption | (simp only [Bool.and_eq_true, Bool.and_eq_false_iff, decide_eq_true_eq, decide_eq_false_iff_not, bne_iff_ne, beq_iff_eq, beq_eq_false_iff_ne, bne_eq_false_iff_eq, Bool.not_eq_true', Bool.not_eq_false', bys_length, List.length_append, List.length_cons, List.length_nil, List.length_map, List.length_drop, List.length_take, Int.natCast_add, wrap_i64_eq, wrap_u64, wrap_u8, ne_eq, not_true_eq_false, not_false_eq_true, Nat.zero_add, Nat.mul_one] <;> omega) | omega | (simp; done) | (simp; omega))) only [↓at_runK, ↓at_bind, ↓contQ_mk, ↓at_ret, ↓at_consK, ↓at_nilK, ↓at_optK, ↓at_intK, ↓at_boolK, ↓at_strK, ↓at_slK, ↓at_slOK, ↓at_slK0, ↓at_slOK0, ↓at_aggK, ↓at_cond_t, ↓at_cond_f, ↓at_sameL, ↓at_any1, ↓at_any, and_self, toBytes_bys, List.nil_append, List.append_nil, ↓at_nodeW, List.drop_zero, List.take_succ_cons, List.take_zero, List.getElem?_cons_succ, List.getElem?_cons_zero, cells_agg, eqCells_cons, eqCells_nil, eq1_int, eq1_bool, eq1_str, ↓at_ptr_whole, ↓at_ptr_cell, ↓at_ptr_obj, ↓at_ptr_objs, shift_obj, shift_elt, toA_val, toA_own, Int.toNat_natCast, List.cons_append, bys_length, part_drop', rget_run, hg, l0, l1, l2, l3, ek]
      rfl
    · rw [if_neg hl]
      rw [List.length_drop] at hl
      by_cases hn : 2147483647 < (getF (b.drop p) 0 0).1
      · rw [if_neg (by simp only [cright, decide_eq_true_eq]; omega)]
        simp (disch := (first | assumption | (simp only [Bool.and_eq_true, Bool.and_eq_false_iff, decide_eq_true_eq, decide_eq_false_iff_not, bne_iff_ne, beq_iff_eq, beq_eq_false_iff_ne, bne_eq_false_iff_eq, Bool.not_eq_true', Bool.not_eq_false', bys_length, List.length_append, List.length_cons, List.length_nil, List.length_map, List.length_drop, List.length_take, Int.natCast_add, wrap_i64_eq, wrap_u64, wrap_u8, ne_eq, not_true_eq_false, not_false_eq_true, Nat.zero_add, Nat.mul_one] <;> omega) | omega | (simp; done) | (simp; omega))) only [↓at_runK, ↓at_bind, ↓contQ_mk, ↓at_ret, ↓at_consK, ↓at_nilK, ↓at_optK, ↓at_intK, ↓at_boolK, ↓at_strK, ↓at_slK, ↓at_slOK, ↓at_slK0, ↓at_slOK0, ↓at_aggK, ↓at_cond_t, ↓at_cond_f, ↓at_sameL, ↓at_any1, ↓at_any, and_self, toBytes_bys, List.nil_append, List.append_nil, ↓at_nodeW, List.drop_zero, List.take_succ_cons, List.take_zero, List.getElem?_cons_succ, List.getElem?_cons_zero, cells_agg, eqCells_cons, eqCells_nil, eq1_int, eq1_bool, eq1_str, ↓at_ptr_whole, ↓at_ptr_cell, ↓at_ptr_obj, ↓at_ptr_objs, shift_obj, shift_elt, toA_val, toA_own, Int.toNat_natCast, List.cons_append, bys_length, part_drop', rget_run, hg, l0, l1, l2, l3, ek]
        rfl
      · have hmin : min (getF (b.drop p) 0 0).1 2147483648 = (getF (b.drop p) 0 0).1 := by omega
        rw [hmin]
        have ew : IntKind.i64.wrap (((getF (b.drop p) 0 0).1 : Nat) : Int) = (((getF (b.drop p) 0 0).1 : Nat) : Int) := wrap_i64_id (by omega) (by omega)
        cases hr : cright key w is o n (((getF (b.drop p) 0 0).1 : Nat) : Int)
        · rw [if_neg (by simp)]
          simp (disch := (first | assumption | (simp only [Bool.and_eq_true, Bool.and_eq_false_iff, decide_eq_true_eq, decide_eq_false_iff_not, bne_iff_ne, beq_iff_eq, beq_eq_false_iff_ne, bne_eq_false_iff_eq, Bool.not_eq_true', Bool.not_eq_false', bys_length, List.length_append, List.length_cons, List.length_nil, List.length_map, List.length_drop, List.length_take, Int.natCast_add, wrap_i64_eq, wrap_u64, wrap_u8, ne_eq, not_true_eq_false, not_false_eq_true, Nat.zero_add, Nat.mul_one] <;> omega) | omega | (simp; done) | (simp; omega))) only [↓at_runK, ↓at_bind, ↓contQ_mk, ↓at_ret, ↓at_consK, ↓at_nilK, ↓at_optK, ↓at_intK, ↓at_boolK, ↓at_strK, ↓at_slK, ↓at_slOK, ↓at_slK0, ↓at_slOK0, ↓at_aggK, ↓at_cond_t, ↓at_cond_f, ↓at_sameL, ↓at_any1, ↓at_any, and_self, toBytes_bys, List.nil_append, List.append_nil, ↓at_nodeW, List.drop_zero, List.take_succ_cons, List.take_zero, List.getElem?_cons_succ, List.getElem?_cons_zero, cells_agg, eqCells_cons, eqCells_nil, eq1_int, eq1_bool, eq1_str, ↓at_ptr_whole, ↓at_ptr_cell, ↓at_ptr_obj, ↓at_ptr_objs, shift_obj, shift_elt, toA_val, toA_own, Int.toNat_natCast, List.cons_append, bys_length, part_drop', rget_run, hg, l0, l1, l2, l3, ek, ew, rcright_run, hr]
          rfl
        · rw [if_pos rfl]
          simp (disch := (first | assumption | (simp only [Bool.and_eq_true, Bool.and_eq_false_iff, decide_eq_true_eq, decide_eq_false_iff_not, bne_iff_ne, beq_iff_eq, beq_eq_false_iff_ne, bne_eq_false_iff_eq, Bool.not_eq_true', Bool.not_eq_false', bys_length, List.length_append, List.length_cons, List.length_nil, List.length_map, List.length_drop, List.length_take, Int.natCast_add, wrap_i64_eq, wrap_u64, wrap_u8, ne_eq, not_true_eq_false, not_false_eq_true, Nat.zero_add, Nat.mul_one] <;> omega) | omega | (simp; done) | (simp; omega))) only [↓at_runK, ↓at_bind, ↓contQ_mk, ↓at_ret, ↓at_consK, ↓at_nilK, ↓at_optK, ↓at_intK, ↓at_boolK, ↓at_strK, ↓at_slK, ↓at_slOK, ↓at_slK0, ↓at_slOK0, ↓at_aggK, ↓at_cond_t, ↓at_cond_f, ↓at_sameL, ↓at_any1, ↓at_any, and_self, toBytes_bys, List.nil_append, List.append_nil, ↓at_nodeW, List.drop_zero, List.take_succ_cons, List.take_zero, List.getElem?_cons_succ, List.getElem?_cons_zero, cells_agg, eqCells_cons, eqCells_nil, eq1_int, eq1_bool, eq1_str, ↓at_ptr_whole, ↓at_ptr_cell, ↓at_ptr_obj, ↓at_ptr_objs, shift_obj, shift_elt, toA_val, toA_own, Int.toNat_natCast, List.cons_append, bys_length, part_drop', rget_run, hg, l0, l1, l2, l3, ek, ew, rcright_run, hr]
          rfl
  · rw [if_pos hg]
    simp (disch := (first | assumption | (simp only [Bool.and_eq_true, Bool.and_eq_false_iff, decide_eq_true_eq, decide_eq_false_iff_not, bne_iff_ne, beq_iff_eq, beq_eq_false_iff_ne, bne_eq_false_iff_eq, Bool.not_eq_true', Bool.not_eq_false', bys_length, List.length_append, List.length_cons, List.length_nil, List.length_map, List.length_drop, List.length_take, Int.natCast_add, wrap_i64_eq, wrap_u64, wrap_u8, ne_eq, not_true_eq_false, not_false_eq_true, Nat.zero_add, Nat.mul_one] <;> omega) | omega | (simp; done) | (simp; omega))) only [↓at_runK, ↓at_bind, ↓contQ_mk, ↓at_ret, ↓at_consK, ↓at_nilK, ↓at_optK, ↓at_intK, ↓at_boolK, ↓at_strK, ↓at_slK, ↓at_slOK, ↓at_slK0, ↓at_slOK0, ↓at_aggK, ↓at_cond_t, ↓at_cond_f, ↓at_sameL, ↓at_any1, ↓at_any, and_self, toBytes_bys, List.nil_append, List.append_nil, ↓at_nodeW, List.drop_zero, List.take_succ_cons, List.take_zero, List.getElem?_cons_succ, List.getElem?_cons_zero, cells_agg, eqCells_cons, eqCells_nil, eq1_int, eq1_bool, eq1_str, ↓at_ptr_whole, ↓at_ptr_cell, ↓at_ptr_obj, ↓at_ptr_objs, shift_obj, shift_elt, toA_val, toA_own, Int.toNat_natCast, List.cons_append, bys_length, part_drop', rget_run, hg, l0, l1, l2, l3]
    rfl
theorem rcdec1_run {d : Nat} {f w is : Bool} {x : UInt8} {b : List UInt8} {h : Heap} (hb : (x :: b).length ≤ 140737488351232) (Q : Res → Prop) (tg : Hid Q) :
    Run (P26_0 (d + 2) f (bys (x :: b)) [] false false [] [] 0 [] w is [] [] 0 h) Q tg = Q ([(cdec1 w is b).1.A, .int .i64 (cdec1 w is b).2], h) := by
  obtain ⟨k, hk⟩ : ∃ k, rounds = k + 4 := ⟨rounds - 4, by have := rounds_gt 4 (by omega); omega⟩
  rw [P26_0_eq, hk]
  have i0 : ((0 : Nat) : Int) = 0 := e0
  have i1 : ((1 : Nat) : Int) = 1 := rfl
  unfold cdec1
  have w0 : wantAt w is 0 = true := rfl
  have w1 : wantAt w is 1 = w := rfl
  have w2 : wantAt w is 2 = is := rfl
  have hd1 : (x :: b).drop 1 = b := rfl
  by_cases h1 : (dtext true b 0).2.2 = 0
  · obtain ⟨p1, q1, q2, r1⟩ := rt_ok (d := d) (k := k + 3) (f := f) (w := w) (is := is) (b := x :: b) (p := 1) (i := 0) (ls := []) (h := h) (by omega) (by simp) hb (by simp) (by rw [w0, hd1]; exact h1)
    rw [w0, hd1] at q1 r1
    rw [i0, i1] at r1
    refine (r1 Q tg).trans ?_
    rw [h1]
    by_cases h2 : (dtext w (dtext true b 0).2.1 0).2.2 = 0
    · obtain ⟨p2, s1, s2, r2⟩ := rt_ok (d := d) (k := k + 2) (f := f) (w := w) (is := is) (b := x :: b) (p := p1) (i := 1) (ls := [] ++ [.str (dtext true b 0).1]) (h := h) (by omega) q2 hb (by simp) (by rw [w1, q1]; exact h2)
      rw [w1, q1] at s1 r2
      refine (r2 Q ⟨⟩).trans ?_
      rw [h2]
      by_cases h3 : (dtext is (dtext w (dtext true b 0).2.1 0).2.1 0).2.2 = 0
      · obtain ⟨p3, t1, t2, r3⟩ := rt_ok (d := d) (k := k + 1) (f := f) (w := w) (is := is) (b := x :: b) (p := p2) (i := 2) (ls := [] ++ [.str (dtext true b 0).1] ++ [.str (dtext w (dtext true b 0).2.1 0).1]) (h := h) (by omega) s2 hb (by simp) (by rw [w2, s1]; exact h3)
        rw [w2, s1] at t1 r3
        refine (r3 Q ⟨⟩).trans ?_
        rw [if_neg (by simp [h3]), ← t1]
        exact rtail_run t2 hb Q ⟨⟩
      · rw [if_pos h3]
        have := rt_err (d := d) (k := k + 1) (f := f) (w := w) (is := is) (b := x :: b) (p := p2) (i := 2) (ls := [] ++ [.str (dtext true b 0).1] ++ [.str (dtext w (dtext true b 0).2.1 0).1]) (h := h) (by omega) s2 hb (by rw [w2, s1]; exact h3) Q ⟨⟩
        rw [w2, s1] at this
        exact this
    · rw [dtext_err is _ h2, if_pos h2]
      have := rt_err (d := d) (k := k + 2) (f := f) (w := w) (is := is) (b := x :: b) (p := p1) (i := 1) (ls := [] ++ [.str (dtext true b 0).1]) (h := h) (by omega) q2 hb (by rw [w1, q1]; exact h2) Q ⟨⟩
      rw [w1, q1] at this
      exact this
  · rw [dtext_err w _ h1, dtext_err is _ h1, if_pos h1]
    have := rt_err (d := d) (k := k + 3) (f := f) (w := w) (is := is) (b := x :: b) (p := 1) (i := 0) (ls := []) (h := h) (by omega) (by simp) hb (by rw [w0, hd1]; exact h1) Q ⟨⟩
    rw [w0, hd1, i0, i1] at this
    exact this
theorem rflag_was_n : ∀ n : Nat, n < 4 → ((Int.tmod (n : Int) 2 : Int) == 1) = decide (n % 2 = 1) := by decide +kernel
theorem rcdecode_run {d : Nat} {f : Bool} {b : List UInt8} {h : Heap} (hb : b.length ≤ 140737488351232) (Q : Res → Prop) (tg : Hid Q) :
    Run (evFn Cw (d + 3) 26 [.sl f 0 (bys b)] h) Q tg = Q ([(cdec b).1.A, .int .i64 (cdec b).2], h) := by
  match b, hb with
  | [], _ =>
    rw [F26_eq]
    simp (disch := (first | assumption | (simp only [Bool.and_eq_true, Bool.and_eq_false_iff, decide_eq_true_eq, decide_eq_false_iff_not, bne_iff_ne, beq_iff_eq, beq_eq_false_iff_ne, bne_eq_false_iff_eq, Bool.not_eq_true', Bool.not_eq_false', bys_length, List.length_append, List.length_cons, List.length_nil, List.length_map, List.length_drop, List.length_take, Int.natCast_add, wrap_i64_eq, wrap_u64, wrap_u8, ne_eq, not_true_eq_false, not_false_eq_true, Nat.zero_add, Nat.mul_one] <;> omega) | omega | (simp; done) | (simp; omega))) only [↓at_runK, ↓at_bind, ↓contQ_mk, ↓at_ret, ↓at_consK, ↓at_nilK, ↓at_optK, ↓at_intK, ↓at_boolK, ↓at_strK, ↓at_slK, ↓at_slOK, ↓at_slK0, ↓at_slOK0, ↓at_aggK, ↓at_cond_t, ↓at_cond_f, ↓at_sameL, ↓at_any1, ↓at_any, and_self, toBytes_bys, List.nil_append, List.append_nil, ↓at_nodeW, List.drop_zero, List.take_succ_cons, List.take_zero, List.getElem?_cons_succ, List.getElem?_cons_zero, cells_agg, eqCells_cons, eqCells_nil, eq1_int, eq1_bool, eq1_str, ↓at_ptr_whole, ↓at_ptr_cell, ↓at_ptr_obj, ↓at_ptr_objs, shift_obj, shift_elt, toA_val, toA_own, Int.toNat_natCast, List.cons_append, bys_length]
    rfl
  | x :: r, hb =>
    unfold cdec
    have g0 : (bys (x :: r)).getD 0 AVal.undef = ofByte x := of_eq_true (eq_self _)
    by_cases h4 : 4 ≤ x.toNat
    · simp only [h4, if_true]
      rw [F26_eq]
      simp (disch := (first | assumption | (simp only [Bool.and_eq_true, Bool.and_eq_false_iff, decide_eq_true_eq, decide_eq_false_iff_not, bne_iff_ne, beq_iff_eq, beq_eq_false_iff_ne, bne_eq_false_iff_eq, Bool.not_eq_true', Bool.not_eq_false', bys_length, List.length_append, List.length_cons, List.length_nil, List.length_map, List.length_drop, List.length_take, Int.natCast_add, wrap_i64_eq, wrap_u64, wrap_u8, ne_eq, not_true_eq_false, not_false_eq_true, Nat.zero_add, Nat.mul_one] <;> omega) | omega | (simp; done) | (simp; omega))) only [↓at_runK, ↓at_bind, ↓contQ_mk, ↓at_ret, ↓at_consK, ↓at_nilK, ↓at_optK, ↓at_intK, ↓at_boolK, ↓at_strK, ↓at_slK, ↓at_slOK, ↓at_slK0, ↓at_slOK0, ↓at_aggK, ↓at_cond_t, ↓at_cond_f, ↓at_sameL, ↓at_any1, ↓at_any, and_self, toBytes_bys, List.nil_append, List.append_nil, ↓at_nodeW, List.drop_zero, List.take_succ_cons, List.take_zero, List.getElem?_cons_succ, List.getElem?_cons_zero, cells_agg, eqCells_cons, eqCells_nil, eq1_int, eq1_bool, eq1_str, ↓at_ptr_whole, ↓at_ptr_cell, ↓at_ptr_obj, ↓at_ptr_objs, shift_obj, shift_elt, toA_val, toA_own, Int.toNat_natCast, List.cons_append, bys_length, List.length_cons, g0, ofByte]
      rfl
    · have hc := fun (Q : Res → Prop) (tg : Hid Q) => rcdec1_run (d := d) (f := f) (w := decide (x.toNat % 2 = 1)) (is := decide (2 ≤ x.toNat)) (x := x) (b := r) (h := h) hb Q tg
      simp only [h4, if_false]
      have f1 := rflag_was_n x.toNat (by omega)
      have f2 : decide ((x.toNat : Int) > 1) = decide (2 ≤ x.toNat) := by rw [decide_eq_decide]; omega
      rw [F26_eq]
      simp (disch := (first | assumption | (simp only [Bool.and_eq_true, Bool.and_eq_false_iff, decide_eq_true_eq, decide_eq_false_iff_not, bne_iff_ne, beq_iff_eq, beq_eq_false_iff_ne, bne_eq_false_iff_eq, Bool.not_eq_true', Bool.not_eq_false', bys_length, List.length_append, List.length_cons, List.length_nil, List.length_map, List.length_drop, List.length_take, Int.natCast_add, wrap_i64_eq, wrap_u64, wrap_u8, ne_eq, not_true_eq_false, not_false_eq_true, Nat.zero_add, Nat.mul_one] <;> omega) | omega | (simp; done) | (simp; omega))) only [↓at_runK, ↓at_bind, ↓contQ_mk, ↓at_ret, ↓at_consK, ↓at_nilK, ↓at_optK, ↓at_intK, ↓at_boolK, ↓at_strK, ↓at_slK, ↓at_slOK, ↓at_slK0, ↓at_slOK0, ↓at_aggK, ↓at_cond_t, ↓at_cond_f, ↓at_sameL, ↓at_any1, ↓at_any, and_self, toBytes_bys, List.nil_append, List.append_nil, ↓at_nodeW, List.drop_zero, List.take_succ_cons, List.take_zero, List.getElem?_cons_succ, List.getElem?_cons_zero, cells_agg, eqCells_cons, eqCells_nil, eq1_int, eq1_bool, eq1_str, ↓at_ptr_whole, ↓at_ptr_cell, ↓at_ptr_obj, ↓at_ptr_objs, shift_obj, shift_elt, toA_val, toA_own, Int.toNat_natCast, List.cons_append, bys_length, List.length_cons, g0, ofByte, f1, f2, hc]

/-! ### The plain law -/
theorem dtext_spec {w : Bool} {b : List UInt8} (h : (dtext w b 0).2.2 = 0) : b = (if w then pk (dtext w b 0).1 else []) ++ (dtext w b 0).2.1 ∧ (w = false → (dtext w b 0).1 = []) := by
  cases w
  · rw [dtext_off]; simp
  · rw [dtext_on] at h ⊢
    simp only at h ⊢
    have ⟨_, _, _, h4⟩ := fget_spec h
    refine ⟨?_, by simp⟩
    rw [if_pos trivial, ← h4, List.take_append_drop]
theorem ctail_spec {w i : Bool} {k o n b : List UInt8} (h : (ctail w i k o n b).2 = 0) : ∃ x : Nat, ctail w i k o n b = (⟨k, w, i, o, n, x⟩, 0) ∧ cright k w i o n x = true ∧ b = enc x := by
  unfold ctail at h ⊢
  rcases getF_spec0 b with ⟨m, g1, g2, g3, g4⟩ | ⟨e, g1, ge⟩
  · rw [g1] at h ⊢
    simp only [ne_eq, not_true_eq_false, if_false] at h ⊢
    split at h
    · simp at h
    · rename_i hl
      rw [if_neg hl]
      split at h
      · rename_i hr
        have hmin : min m 2147483648 = m := by simp only [cright, decide_eq_true_eq] at hr; omega
        rw [hmin] at hr ⊢
        refine ⟨m, by rw [if_pos hr], hr, ?_⟩
        rw [← g2]
        exact (List.take_of_length_le (by omega)).symm
      · simp at h
  · rw [g1] at h
    simp only [ne_eq] at h
    have ge' : e ≠ 0 := by omega
    rw [if_pos ge'] at h
    exact absurd h ge'
theorem ctail_err {w i : Bool} {k o n b : List UInt8} (h : (ctail w i k o n b).2 ≠ 0) : (ctail w i k o n b).1 = Change.zero := by
  unfold ctail at h ⊢
  split
  · rfl
  · rename_i h1
    rw [if_neg h1] at h
    split
    · rfl
    · rename_i h2
      rw [if_neg h2] at h
      split
      · rename_i h3
        rw [if_pos h3] at h
        exact absurd rfl h
      · rfl
theorem cflags_n : ∀ n : Nat, n < 4 → cflags (decide (n % 2 = 1)) (decide (2 ≤ n)) = UInt8.ofNat n := by decide
theorem cdec_spec {b : List UInt8} (h : (cdec b).2 = 0) : ∃ (k : List UInt8) (w i : Bool) (o n : List UInt8) (x : Nat), cdec b = (⟨k, w, i, o, n, x⟩, 0) ∧ cright k w i o n x = true ∧ cbytes k w i o n x = b := by
  match b with
  | [] => simp [cdec] at h
  | x :: r =>
    unfold cdec at h ⊢
    by_cases h4 : 4 ≤ x.toNat
    · simp [h4] at h
    · simp only [h4, if_false] at h ⊢
      have hx : cflags (decide (x.toNat % 2 = 1)) (decide (2 ≤ x.toNat)) = x := by rw [cflags_n _ (by omega)]; simp
      generalize decide (x.toNat % 2 = 1) = w at *
      generalize decide (2 ≤ x.toNat) = i at *
      unfold cdec1 at h ⊢
      by_cases h1 : (dtext true r 0).2.2 = 0
      · rw [h1] at h ⊢
        by_cases h2 : (dtext w (dtext true r 0).2.1 0).2.2 = 0
        · rw [h2] at h ⊢
          by_cases h3 : (dtext i (dtext w (dtext true r 0).2.1 0).2.1 0).2.2 = 0
          · rw [if_neg (by simp [h3])] at h ⊢
            obtain ⟨m, t1, t2, t3⟩ := ctail_spec h
            refine ⟨_, _, _, _, _, m, t1, t2, ?_⟩
            have ⟨s1, _⟩ := dtext_spec h1
            have ⟨s2, _⟩ := dtext_spec h2
            have ⟨s3, _⟩ := dtext_spec h3
            unfold cbytes
            rw [hx]
            congr 1
            have ex : ((m : Nat) : Int).toNat = m := by omega
            rw [ex, ← t3]
            conv => rhs; rw [s1, s2, s3]
            unfold cfields pks
            cases w <;> cases i <;> simp
          · rw [if_pos h3] at h; exact absurd h h3
        · rw [dtext_err i _ h2, if_pos h2] at h; exact absurd h h2
      · rw [dtext_err w _ h1, dtext_err i _ h1, if_pos h1] at h; exact absurd h h1
theorem cdec_err {b : List UInt8} (h : (cdec b).2 ≠ 0) : (cdec b).1 = Change.zero := by
  match b with
  | [] => rfl
  | x :: r =>
    unfold cdec at h ⊢
    by_cases h4 : 4 ≤ x.toNat
    · simp only [h4, if_true]
    · simp only [h4, if_false] at h ⊢
      unfold cdec1 at h ⊢
      split
      · rfl
      · rename_i h1
        rw [if_neg h1] at h
        exact ctail_err h
end Go.Proofs.Ytkpjkaikeeldfaa.Wa
