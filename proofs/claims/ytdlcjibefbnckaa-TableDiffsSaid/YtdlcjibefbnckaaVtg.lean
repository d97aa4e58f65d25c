/- Cursors. -/
import Derived.Test.YtdlcjibefbnckaaVtf
import Derived.Test.YtdlcjibefbnckaaWj
namespace Go.Proofs.Ytdlcjibefbnckaa.Wa
open Go Go.Weave
set_option maxRecDepth 100000
set_option linter.unusedSimpArgs false
set_option linter.unusedVariables false
set_option linter.unusedSectionVars false

/-! ### Neighbours in a sorted list -/
theorem blt_next : ∀ (a k : List UInt8), blt a (k ++ [0]) = !(blt k a)
  | [], [] => rfl
  | [], _ :: _ => rfl
  | a :: x, [] => by
    cases x <;> simp [blt, Go.Op.bytesLess]
  | a :: x, b :: y => by
    have ih := blt_next x y
    simp only [blt] at ih
    simp only [blt, List.cons_append, Go.Op.bytesLess, ih]
    rcases Nat.lt_trichotomy a.toNat b.toNat with h | h | h
    · have h1 : a < b := UInt8.lt_iff_toNat_lt.2 h
      have h2 : ¬ b < a := fun h' => by have := UInt8.lt_iff_toNat_lt.1 h'; omega
      have h3 : (b == a) = false := by simp only [beq_eq_false_iff_ne]; intro e; subst e; omega
      simp [h1, h2, h3]
    · have h1 : a = b := UInt8.toNat_inj.1 h
      subst h1
      simp
    · have h1 : b < a := UInt8.lt_iff_toNat_lt.2 h
      have h2 : ¬ a < b := fun h' => by have := UInt8.lt_iff_toNat_lt.1 h'; omega
      have h3 : (a == b) = false := by simp only [beq_eq_false_iff_ne]; intro e; subst e; omega
      simp [h1, h2, h3]
theorem lseek_nil (l : List KPair) : lseek [] l = l.head? := by
  cases l with
  | nil => rfl
  | cons p l =>
    rw [lseek_cons]
    have : blt p.key [] = false := by cases p.key <;> rfl
    rw [if_neg (by simp [this])]; rfl
theorem lseek_all {s : List UInt8} : ∀ {l : List KPair}, (∀ p ∈ l, blt p.key s = true) → lseek s l = none
  | [], _ => rfl
  | p :: l, h => by rw [lseek_cons, if_pos (h p List.mem_cons_self)]; exact lseek_all fun q hq => h q (List.mem_cons_of_mem _ hq)
theorem lseek_skip {s : List UInt8} : ∀ {a b : List KPair}, (∀ p ∈ a, blt p.key s = true) → lseek s (a ++ b) = lseek s b
  | [], _, _ => rfl
  | p :: a, b, h => by
    rw [List.cons_append, lseek_cons, if_pos (h p List.mem_cons_self)]
    exact lseek_skip fun q hq => h q (List.mem_cons_of_mem _ hq)
/-- The next one. -/
theorem lseek_succ {a b : List KPair} {p : KPair} (hs : Srt (a ++ p :: b)) : lseek (p.key ++ [0]) (a ++ p :: b) = b.head? := by
  obtain ⟨_, h2, h3, h4⟩ := hs.mid
  rw [lseek_skip fun q hq => by rw [blt_next, blt_asym (h3 q hq)]; rfl, lseek_cons, if_pos (by rw [blt_next, blt_irr]; rfl)]
  cases b with
  | nil => rfl
  | cons q b =>
    rw [lseek_cons, if_neg (by rw [blt_next, h4 q List.mem_cons_self]; simp)]
    rfl
/-- The one ahead. -/
theorem lbelow_pred {a b : List KPair} {p : KPair} (hs : Srt (a ++ p :: b)) : lbelow p.key (a ++ p :: b) = a.getLast? := by
  obtain ⟨_, h2, h3, h4⟩ := hs.mid
  unfold lbelow
  rw [List.filter_append, filter_all fun x hx => h3 x hx]
  rw [filter_none (l := p :: b) fun x hx => by
    rcases List.mem_cons.1 hx with rfl | hx
    · exact blt_irr _
    · exact blt_asym (h4 x hx)]
  simp
theorem lget_at {a b : List KPair} {p : KPair} (hs : Srt (a ++ p :: b)) : lget p.key (a ++ p :: b) = some p := by
  obtain ⟨_, h2, h3, h4⟩ := hs.mid
  unfold lget
  rw [List.find?_append]
  have : List.find? (fun q => q.key == p.key) a = none := by
    rw [List.find?_eq_none]
    intro x hx
    simpa using blt_ne (h3 x hx)
  rw [this]; simp

/-! ### Cursors -/
def curO (tp : AVal) (w : Int) (k : List UInt8) : Weave.Obj := .cells [HCell.val tp, HCell.val (.int .i64 w), HCell.val (.str k)]
theorem cur_t {h : Heap} {i : Nat} {tp : AVal} {w : Int} {k : List UInt8} (hm : h.objs[i]? = some (curO tp w k)) : h.cell? i 0 = some (HCell.val tp) := by rw [Heap.cell_at hm]; rfl
theorem cur_w {h : Heap} {i : Nat} {tp : AVal} {w : Int} {k : List UInt8} (hm : h.objs[i]? = some (curO tp w k)) : h.cell? i 1 = some (HCell.val (.int .i64 w)) := by rw [Heap.cell_at hm]; rfl
theorem cur_k {h : Heap} {i : Nat} {tp : AVal} {w : Int} {k : List UInt8} (hm : h.objs[i]? = some (curO tp w k)) : h.cell? i 2 = some (HCell.val (.str k)) := by rw [Heap.cell_at hm]; rfl
theorem cur_sw {h : Heap} {i : Nat} {tp : AVal} {w w' : Int} {k : List UInt8} (hm : h.objs[i]? = some (curO tp w k)) : h.setCell i 1 (HCell.val (.int .i64 w')) = h.put i (curO tp w' k) := by rw [Heap.set_at hm]; rfl
theorem cur_sk {h : Heap} {i : Nat} {tp : AVal} {w : Int} {k k' : List UInt8} (hm : h.objs[i]? = some (curO tp w k)) : h.setCell i 2 (HCell.val (.str k')) = h.put i (curO tp w k') := by rw [Heap.set_at hm]; rfl
def curTo (tp : AVal) (o : Option KPair) (e : Int) : Weave.Obj := curO tp (if o.isSome then 1 else e) (oKey o)
theorem to_run {d i : Nat} {tp : AVal} {w e : Int} {k : List UInt8} {o : Option KPair} {h : Heap} {Q : Res → Prop} {tg : Hid Q} (hm : h.objs[i]? = some (curO tp w k)) :
    Run (evFn Cw (d + 1) 76 [.obj i 0, .str (oKey o), .bool o.isSome, .int .i64 e] h) Q tg = Q ([.bool o.isSome], h.put i (curTo tp o e)) := by
  have m1 : (h.put i (curO tp e k)).objs[i]? = some (curO tp e k) := Heap.put_get hm
  have m2 : (h.put i (curO tp e [])).objs[i]? = some (curO tp e []) := Heap.put_get hm
  have m3 : (h.put i (curO tp 1 [])).objs[i]? = some (curO tp 1 []) := Heap.put_get hm
  have s1 := cur_sw (w' := e) hm
  have s2 := cur_sk (k' := []) m1
  have s3 := cur_sw (w' := 1) m2
  have s4 := cur_sk (k' := oKey o) m3
  rw [Heap.put_put] at s2 s3 s4
  rw [F76_eq]
  cases o with
  | none => simp (disch := (first | assumption | (simp only [Bool.and_eq_true, Bool.and_eq_false_iff, decide_eq_true_eq, decide_eq_false_iff_not, bne_iff_ne, beq_iff_eq, beq_eq_false_iff_ne, bne_eq_false_iff_eq, Bool.not_eq_true', Bool.not_eq_false', bys_length, List.length_append, List.length_cons, List.length_nil, List.length_map, List.length_drop, List.length_take, Int.natCast_add, wrap_i64_eq, wrap_u64, wrap_u8, ne_eq, not_true_eq_false, not_false_eq_true, Nat.zero_add, Nat.mul_one] <;> omega) | omega | (simp; done) | (simp; omega))) only [↓at_runK, ↓at_bind, ↓contQ_mk, ↓at_ret, ↓at_consK, ↓at_nilK, ↓at_optK, ↓at_intK, ↓at_boolK, ↓at_strK, ↓at_slK, ↓at_slOK, ↓at_slK0, ↓at_slOK0, ↓at_aggK, ↓at_cond_t, ↓at_cond_f, ↓at_sameL, ↓at_any1, ↓at_any, and_self, toBytes_bys, List.nil_append, List.append_nil, ↓at_nodeW, List.drop_zero, List.take_succ_cons, List.take_zero, List.getElem?_cons_succ, List.getElem?_cons_zero, cells_agg, eqCells_cons, eqCells_nil, eq1_int, eq1_bool, eq1_str, ↓at_ptr_whole, ↓at_ptr_cell, ↓at_ptr_obj, ↓at_ptr_objs, shift_obj, shift_elt, toA_val, toA_own, Int.toNat_natCast, List.cons_append, cur_w hm, s1, cur_k m1, s2, Option.isSome_none]; rfl
  | some p => simp (disch := (first | assumption | (simp only [Bool.and_eq_true, Bool.and_eq_false_iff, decide_eq_true_eq, decide_eq_false_iff_not, bne_iff_ne, beq_iff_eq, beq_eq_false_iff_ne, bne_eq_false_iff_eq, Bool.not_eq_true', Bool.not_eq_false', bys_length, List.length_append, List.length_cons, List.length_nil, List.length_map, List.length_drop, List.length_take, Int.natCast_add, wrap_i64_eq, wrap_u64, wrap_u8, ne_eq, not_true_eq_false, not_false_eq_true, Nat.zero_add, Nat.mul_one] <;> omega) | omega | (simp; done) | (simp; omega))) only [↓at_runK, ↓at_bind, ↓contQ_mk, ↓at_ret, ↓at_consK, ↓at_nilK, ↓at_optK, ↓at_intK, ↓at_boolK, ↓at_strK, ↓at_slK, ↓at_slOK, ↓at_slK0, ↓at_slOK0, ↓at_aggK, ↓at_cond_t, ↓at_cond_f, ↓at_sameL, ↓at_any1, ↓at_any, and_self, toBytes_bys, List.nil_append, List.append_nil, ↓at_nodeW, List.drop_zero, List.take_succ_cons, List.take_zero, List.getElem?_cons_succ, List.getElem?_cons_zero, cells_agg, eqCells_cons, eqCells_nil, eq1_int, eq1_bool, eq1_str, ↓at_ptr_whole, ↓at_ptr_cell, ↓at_ptr_obj, ↓at_ptr_objs, shift_obj, shift_elt, toA_val, toA_own, Int.toNat_natCast, List.cons_append, cur_w hm, s1, cur_k m1, s2, Option.isSome_some, cur_w m2, s3, cur_k m3, s4]; rfl

theorem cnew_run {d ti : Nat} {h : Heap} {Q : Res → Prop} {tg : Hid Q} : Run (evFn Cw (d + 1) 14 [.obj ti 0] h) Q tg = Q ([.obj h.objs.length 0], h.push (curO (.obj ti 0) 0 [])) := (at_eq (F14_eq _ _ _)).trans at_ret
theorem cnewn_run {d : Nat} {h : Heap} {Q : Res → Prop} {tg : Hid Q} : Run (evFn Cw (d + 1) 14 [.nilp] h) Q tg = Q ([.obj h.objs.length 0], h.push (curO .nilp 0 [])) := (at_eq (F14nil_eq _ _)).trans at_ret
theorem con_run {d i : Nat} {tp : AVal} {w : Int} {k : List UInt8} {h : Heap} {Q : Res → Prop} {tg : Hid Q} (hm : h.objs[i]? = some (curO tp w k)) :
    Run (evFn Cw (d + 1) 27 [.obj i 0] h) Q tg = Q ([.bool (w == 1)], h) := by
  rw [F27_eq]
  simp (disch := (first | assumption | (simp only [Bool.and_eq_true, Bool.and_eq_false_iff, decide_eq_true_eq, decide_eq_false_iff_not, bne_iff_ne, beq_iff_eq, beq_eq_false_iff_ne, bne_eq_false_iff_eq, Bool.not_eq_true', Bool.not_eq_false', bys_length, List.length_append, List.length_cons, List.length_nil, List.length_map, List.length_drop, List.length_take, Int.natCast_add, wrap_i64_eq, wrap_u64, wrap_u8, ne_eq, not_true_eq_false, not_false_eq_true, Nat.zero_add, Nat.mul_one] <;> omega) | omega | (simp; done) | (simp; omega))) only [↓at_runK, ↓at_bind, ↓contQ_mk, ↓at_ret, ↓at_consK, ↓at_nilK, ↓at_optK, ↓at_intK, ↓at_boolK, ↓at_strK, ↓at_slK, ↓at_slOK, ↓at_slK0, ↓at_slOK0, ↓at_aggK, ↓at_cond_t, ↓at_cond_f, ↓at_sameL, ↓at_any1, ↓at_any, and_self, toBytes_bys, List.nil_append, List.append_nil, ↓at_nodeW, List.drop_zero, List.take_succ_cons, List.take_zero, List.getElem?_cons_succ, List.getElem?_cons_zero, cells_agg, eqCells_cons, eqCells_nil, eq1_int, eq1_bool, eq1_str, ↓at_ptr_whole, ↓at_ptr_cell, ↓at_ptr_obj, ↓at_ptr_objs, shift_obj, shift_elt, toA_val, toA_own, Int.toNat_natCast, List.cons_append, cur_w hm]
theorem cseek_run {d i ti : Nat} {t : Nd} {w : Int} {k s : List UInt8} {h : Heap} {Q : Res → Prop} {tg : Hid Q} (ok : TOk' t) (hm : h.objs[i]? = some (curO (.obj ti 0) w k)) (ht : h.objs[ti]? = some (trT t)) :
    Run (evFn Cw (d + 3) 19 [.obj i 0, .str s] h) Q tg = Q ([.bool (lseek s t.toL).isSome], h.put i (curTo (.obj ti 0) (lseek s t.toL) 2)) := by
  have r := fun (Q : Res → Prop) (tg : Hid Q) => tseek_run (d := d) (s := s) (Q := Q) (tg := tg) ok ht
  have q := fun (Q : Res → Prop) (tg : Hid Q) => to_run (d := d + 1) (e := 2) (o := lseek s t.toL) (Q := Q) (tg := tg) hm
  rw [F19_eq]
  simp (disch := (first | assumption | (simp only [Bool.and_eq_true, Bool.and_eq_false_iff, decide_eq_true_eq, decide_eq_false_iff_not, bne_iff_ne, beq_iff_eq, beq_eq_false_iff_ne, bne_eq_false_iff_eq, Bool.not_eq_true', Bool.not_eq_false', bys_length, List.length_append, List.length_cons, List.length_nil, List.length_map, List.length_drop, List.length_take, Int.natCast_add, wrap_i64_eq, wrap_u64, wrap_u8, ne_eq, not_true_eq_false, not_false_eq_true, Nat.zero_add, Nat.mul_one] <;> omega) | omega | (simp; done) | (simp; omega))) only [↓at_runK, ↓at_bind, ↓contQ_mk, ↓at_ret, ↓at_consK, ↓at_nilK, ↓at_optK, ↓at_intK, ↓at_boolK, ↓at_strK, ↓at_slK, ↓at_slOK, ↓at_slK0, ↓at_slOK0, ↓at_aggK, ↓at_cond_t, ↓at_cond_f, ↓at_sameL, ↓at_any1, ↓at_any, and_self, toBytes_bys, List.nil_append, List.append_nil, ↓at_nodeW, List.drop_zero, List.take_succ_cons, List.take_zero, List.getElem?_cons_succ, List.getElem?_cons_zero, cells_agg, eqCells_cons, eqCells_nil, eq1_int, eq1_bool, eq1_str, ↓at_ptr_whole, ↓at_ptr_cell, ↓at_ptr_obj, ↓at_ptr_objs, shift_obj, shift_elt, toA_val, toA_own, Int.toNat_natCast, List.cons_append, cur_t hm, r, q]
theorem cnext0_run {d i ti : Nat} {w : Int} {k : List UInt8} {h : Heap} {Q : Res → Prop} {tg : Hid Q} (hm : h.objs[i]? = some (curO (.obj ti 0) w k)) (hw : w = 2) :
    Run (evFn Cw (d + 3) 15 [.obj i 0] h) Q tg = Q ([.bool false], h) := by
  have e : (w == 2) = true := by simp [hw]
  rw [F15_eq]
  simp (disch := (first | assumption | (simp only [Bool.and_eq_true, Bool.and_eq_false_iff, decide_eq_true_eq, decide_eq_false_iff_not, bne_iff_ne, beq_iff_eq, beq_eq_false_iff_ne, bne_eq_false_iff_eq, Bool.not_eq_true', Bool.not_eq_false', bys_length, List.length_append, List.length_cons, List.length_nil, List.length_map, List.length_drop, List.length_take, Int.natCast_add, wrap_i64_eq, wrap_u64, wrap_u8, ne_eq, not_true_eq_false, not_false_eq_true, Nat.zero_add, Nat.mul_one] <;> omega) | omega | (simp; done) | (simp; omega))) only [↓at_runK, ↓at_bind, ↓contQ_mk, ↓at_ret, ↓at_consK, ↓at_nilK, ↓at_optK, ↓at_intK, ↓at_boolK, ↓at_strK, ↓at_slK, ↓at_slOK, ↓at_slK0, ↓at_slOK0, ↓at_aggK, ↓at_cond_t, ↓at_cond_f, ↓at_sameL, ↓at_any1, ↓at_any, and_self, toBytes_bys, List.nil_append, List.append_nil, ↓at_nodeW, List.drop_zero, List.take_succ_cons, List.take_zero, List.getElem?_cons_succ, List.getElem?_cons_zero, cells_agg, eqCells_cons, eqCells_nil, eq1_int, eq1_bool, eq1_str, ↓at_ptr_whole, ↓at_ptr_cell, ↓at_ptr_obj, ↓at_ptr_objs, shift_obj, shift_elt, toA_val, toA_own, Int.toNat_natCast, List.cons_append, cur_w hm, e]
theorem cnext_run {d i ti : Nat} {t : Nd} {w : Int} {k : List UInt8} {h : Heap} {Q : Res → Prop} {tg : Hid Q} (ok : TOk' t) (hm : h.objs[i]? = some (curO (.obj ti 0) w k)) (ht : h.objs[ti]? = some (trT t)) (hw : w ≠ 2) (hk : k.length ≤ 140737488351232) :
    Run (evFn Cw (d + 3) 15 [.obj i 0] h) Q tg = Q ([.bool (lseek (if w = 1 then k ++ [0] else []) t.toL).isSome], h.put i (curTo (.obj ti 0) (lseek (if w = 1 then k ++ [0] else []) t.toL) 2)) := by
  have e : (w == 2) = false := by simpa using hw
  have ez : [(0 : UInt8)].length = 1 := rfl
  have r := fun (s : List UInt8) (Q : Res → Prop) (tg : Hid Q) => tseek_run (d := d) (s := s) (Q := Q) (tg := tg) ok ht
  have q := fun (s : List UInt8) (Q : Res → Prop) (tg : Hid Q) => to_run (d := d + 1) (e := 2) (o := lseek s t.toL) (Q := Q) (tg := tg) hm
  rw [F15_eq]
  by_cases h1 : w = 1
  · have e1 : (w == 1) = true := by simp [h1]
    rw [if_pos h1]
    simp (disch := (first | assumption | (simp only [Bool.and_eq_true, Bool.and_eq_false_iff, decide_eq_true_eq, decide_eq_false_iff_not, bne_iff_ne, beq_iff_eq, beq_eq_false_iff_ne, bne_eq_false_iff_eq, Bool.not_eq_true', Bool.not_eq_false', bys_length, List.length_append, List.length_cons, List.length_nil, List.length_map, List.length_drop, List.length_take, Int.natCast_add, wrap_i64_eq, wrap_u64, wrap_u8, ne_eq, not_true_eq_false, not_false_eq_true, Nat.zero_add, Nat.mul_one] <;> omega) | omega | (simp; done) | (simp; omega))) only [↓at_runK, ↓at_bind, ↓contQ_mk, ↓at_ret, ↓at_consK, ↓at_nilK, ↓at_optK, ↓at_intK, ↓at_boolK, ↓at_strK, ↓at_slK, ↓at_slOK, ↓at_slK0, ↓at_slOK0, ↓at_aggK, ↓at_cond_t, ↓at_cond_f, ↓at_sameL, ↓at_any1, ↓at_any, and_self, toBytes_bys, List.nil_append, List.append_nil, ↓at_nodeW, List.drop_zero, List.take_succ_cons, List.take_zero, List.getElem?_cons_succ, List.getElem?_cons_zero, cells_agg, eqCells_cons, eqCells_nil, eq1_int, eq1_bool, eq1_str, ↓at_ptr_whole, ↓at_ptr_cell, ↓at_ptr_obj, ↓at_ptr_objs, shift_obj, shift_elt, toA_val, toA_own, Int.toNat_natCast, List.cons_append, cur_w hm, e, e1, cur_k hm, ez, P15_0_eq, cur_t hm, r, q]
  · have e1 : (w == 1) = false := by simpa using h1
    rw [if_neg h1]
    simp (disch := (first | assumption | (simp only [Bool.and_eq_true, Bool.and_eq_false_iff, decide_eq_true_eq, decide_eq_false_iff_not, bne_iff_ne, beq_iff_eq, beq_eq_false_iff_ne, bne_eq_false_iff_eq, Bool.not_eq_true', Bool.not_eq_false', bys_length, List.length_append, List.length_cons, List.length_nil, List.length_map, List.length_drop, List.length_take, Int.natCast_add, wrap_i64_eq, wrap_u64, wrap_u8, ne_eq, not_true_eq_false, not_false_eq_true, Nat.zero_add, Nat.mul_one] <;> omega) | omega | (simp; done) | (simp; omega))) only [↓at_runK, ↓at_bind, ↓contQ_mk, ↓at_ret, ↓at_consK, ↓at_nilK, ↓at_optK, ↓at_intK, ↓at_boolK, ↓at_strK, ↓at_slK, ↓at_slOK, ↓at_slK0, ↓at_slOK0, ↓at_aggK, ↓at_cond_t, ↓at_cond_f, ↓at_sameL, ↓at_any1, ↓at_any, and_self, toBytes_bys, List.nil_append, List.append_nil, ↓at_nodeW, List.drop_zero, List.take_succ_cons, List.take_zero, List.getElem?_cons_succ, List.getElem?_cons_zero, cells_agg, eqCells_cons, eqCells_nil, eq1_int, eq1_bool, eq1_str, ↓at_ptr_whole, ↓at_ptr_cell, ↓at_ptr_obj, ↓at_ptr_objs, shift_obj, shift_elt, toA_val, toA_own, Int.toNat_natCast, List.cons_append, cur_w hm, e, e1, P15_0_eq, cur_t hm, r, q]
theorem cpair_run {d i ti : Nat} {t : Nd} {w : Int} {k : List UInt8} {h : Heap} {Q : Res → Prop} {tg : Hid Q} (ok : TOk' t) (hm : h.objs[i]? = some (curO (.obj ti 0) w k)) (ht : h.objs[ti]? = some (trT t)) :
    Run (evFn Cw (d + 4) 25 [.obj i 0] h) Q tg = Q (if w = 1 ∧ (lget k t.toL).isSome = true then [.agg [.str k, .str (oVal (lget k t.toL))], .bool true] else [.agg [.str [], .str []], .bool false], h) := by
  have r := fun (Q : Res → Prop) (tg : Hid Q) => con_run (d := d + 2) (Q := Q) (tg := tg) hm
  have g := fun (Q : Res → Prop) (tg : Hid Q) => tget_run (d := d) (s := k) (Q := Q) (tg := tg) ok ht
  rw [F25_eq]
  by_cases h1 : w = 1
  · have e1 : (w == 1) = true := by simp [h1]
    cases hg : (lget k t.toL).isSome
    · rw [if_neg (by simp)]
      rw [hg] at g
      simp (disch := (first | assumption | (simp only [Bool.and_eq_true, Bool.and_eq_false_iff, decide_eq_true_eq, decide_eq_false_iff_not, bne_iff_ne, beq_iff_eq, beq_eq_false_iff_ne, bne_eq_false_iff_eq, Bool.not_eq_true', Bool.not_eq_false', bys_length, List.length_append, List.length_cons, List.length_nil, List.length_map, List.length_drop, List.length_take, Int.natCast_add, wrap_i64_eq, wrap_u64, wrap_u8, ne_eq, not_true_eq_false, not_false_eq_true, Nat.zero_add, Nat.mul_one] <;> omega) | omega | (simp; done) | (simp; omega))) only [↓at_runK, ↓at_bind, ↓contQ_mk, ↓at_ret, ↓at_consK, ↓at_nilK, ↓at_optK, ↓at_intK, ↓at_boolK, ↓at_strK, ↓at_slK, ↓at_slOK, ↓at_slK0, ↓at_slOK0, ↓at_aggK, ↓at_cond_t, ↓at_cond_f, ↓at_sameL, ↓at_any1, ↓at_any, and_self, toBytes_bys, List.nil_append, List.append_nil, ↓at_nodeW, List.drop_zero, List.take_succ_cons, List.take_zero, List.getElem?_cons_succ, List.getElem?_cons_zero, cells_agg, eqCells_cons, eqCells_nil, eq1_int, eq1_bool, eq1_str, ↓at_ptr_whole, ↓at_ptr_cell, ↓at_ptr_obj, ↓at_ptr_objs, shift_obj, shift_elt, toA_val, toA_own, Int.toNat_natCast, List.cons_append, r, e1, Bool.not_true, cur_t hm, cur_k hm, g, Bool.not_false]
    · rw [if_pos ⟨h1, rfl⟩]
      rw [hg] at g
      simp (disch := (first | assumption | (simp only [Bool.and_eq_true, Bool.and_eq_false_iff, decide_eq_true_eq, decide_eq_false_iff_not, bne_iff_ne, beq_iff_eq, beq_eq_false_iff_ne, bne_eq_false_iff_eq, Bool.not_eq_true', Bool.not_eq_false', bys_length, List.length_append, List.length_cons, List.length_nil, List.length_map, List.length_drop, List.length_take, Int.natCast_add, wrap_i64_eq, wrap_u64, wrap_u8, ne_eq, not_true_eq_false, not_false_eq_true, Nat.zero_add, Nat.mul_one] <;> omega) | omega | (simp; done) | (simp; omega))) only [↓at_runK, ↓at_bind, ↓contQ_mk, ↓at_ret, ↓at_consK, ↓at_nilK, ↓at_optK, ↓at_intK, ↓at_boolK, ↓at_strK, ↓at_slK, ↓at_slOK, ↓at_slK0, ↓at_slOK0, ↓at_aggK, ↓at_cond_t, ↓at_cond_f, ↓at_sameL, ↓at_any1, ↓at_any, and_self, toBytes_bys, List.nil_append, List.append_nil, ↓at_nodeW, List.drop_zero, List.take_succ_cons, List.take_zero, List.getElem?_cons_succ, List.getElem?_cons_zero, cells_agg, eqCells_cons, eqCells_nil, eq1_int, eq1_bool, eq1_str, ↓at_ptr_whole, ↓at_ptr_cell, ↓at_ptr_obj, ↓at_ptr_objs, shift_obj, shift_elt, toA_val, toA_own, Int.toNat_natCast, List.cons_append, r, e1, Bool.not_true, cur_t hm, cur_k hm, g]
  · have e1 : (w == 1) = false := by simpa using h1
    rw [if_neg (fun h => h1 h.1)]
    simp (disch := (first | assumption | (simp only [Bool.and_eq_true, Bool.and_eq_false_iff, decide_eq_true_eq, decide_eq_false_iff_not, bne_iff_ne, beq_iff_eq, beq_eq_false_iff_ne, bne_eq_false_iff_eq, Bool.not_eq_true', Bool.not_eq_false', bys_length, List.length_append, List.length_cons, List.length_nil, List.length_map, List.length_drop, List.length_take, Int.natCast_add, wrap_i64_eq, wrap_u64, wrap_u8, ne_eq, not_true_eq_false, not_false_eq_true, Nat.zero_add, Nat.mul_one] <;> omega) | omega | (simp; done) | (simp; omega))) only [↓at_runK, ↓at_bind, ↓contQ_mk, ↓at_ret, ↓at_consK, ↓at_nilK, ↓at_optK, ↓at_intK, ↓at_boolK, ↓at_strK, ↓at_slK, ↓at_slOK, ↓at_slK0, ↓at_slOK0, ↓at_aggK, ↓at_cond_t, ↓at_cond_f, ↓at_sameL, ↓at_any1, ↓at_any, and_self, toBytes_bys, List.nil_append, List.append_nil, ↓at_nodeW, List.drop_zero, List.take_succ_cons, List.take_zero, List.getElem?_cons_succ, List.getElem?_cons_zero, cells_agg, eqCells_cons, eqCells_nil, eq1_int, eq1_bool, eq1_str, ↓at_ptr_whole, ↓at_ptr_cell, ↓at_ptr_obj, ↓at_ptr_objs, shift_obj, shift_elt, toA_val, toA_own, Int.toNat_natCast, List.cons_append, r, e1, Bool.not_false]

/-! ### Back -/
def bO (b : Bool) : Weave.Obj := .cells [HCell.val (.bool b)]
def lastK (s : List UInt8) (l : List KPair) : List UInt8 := match l.getLast? with | none => s | some p => p.key
theorem lastK_mid (s : List UInt8) (a b : List KPair) (p : KPair) : lastK s (a ++ p :: b) = lastK p.key b := by
  unfold lastK
  rw [List.getLast?_append, List.getLast?_cons]
  cases b.getLast? <;> rfl
theorem prv1_run {d i j : Nat} {k v s : List UInt8} {b : Bool} {h : Heap} {Q : Res → Prop} {tg : Hid Q} (hij : i ≠ j) (h1 : h.objs[i]? = some (balS s)) (h2 : h.objs[j]? = some (bO b)) :
    Run (evFn Cw (d + 1) 79 [.str k, .str v, .obj i 0, .obj j 0] h) Q tg = Q ([.bool true], (h.put i (balS k)).put j (bO true)) := by
  have c1 : h.cell? i 0 = some (HCell.val (.str s)) := by rw [Heap.cell_at h1]; rfl
  have s1 : h.setCell i 0 (HCell.val (.str k)) = h.put i (balS k) := by rw [Heap.set_at h1]; rfl
  have h3 : (h.put i (balS k)).objs[j]? = some (bO b) := by rw [Heap.put_ne hij]; exact h2
  have c3 : (h.put i (balS k)).cell? j 0 = some (HCell.val (.bool b)) := by rw [Heap.cell_at h3]; rfl
  have s2 : (h.put i (balS k)).setCell j 0 (HCell.val (.bool true)) = (h.put i (balS k)).put j (bO true) := by rw [Heap.set_at h3]; rfl
  rw [F79_eq]
  simp (disch := (first | assumption | (simp only [Bool.and_eq_true, Bool.and_eq_false_iff, decide_eq_true_eq, decide_eq_false_iff_not, bne_iff_ne, beq_iff_eq, beq_eq_false_iff_ne, bne_eq_false_iff_eq, Bool.not_eq_true', Bool.not_eq_false', bys_length, List.length_append, List.length_cons, List.length_nil, List.length_map, List.length_drop, List.length_take, Int.natCast_add, wrap_i64_eq, wrap_u64, wrap_u8, ne_eq, not_true_eq_false, not_false_eq_true, Nat.zero_add, Nat.mul_one] <;> omega) | omega | (simp; done) | (simp; omega))) only [↓at_runK, ↓at_bind, ↓contQ_mk, ↓at_ret, ↓at_consK, ↓at_nilK, ↓at_optK, ↓at_intK, ↓at_boolK, ↓at_strK, ↓at_slK, ↓at_slOK, ↓at_slK0, ↓at_slOK0, ↓at_aggK, ↓at_cond_t, ↓at_cond_f, ↓at_sameL, ↓at_any1, ↓at_any, and_self, toBytes_bys, List.nil_append, List.append_nil, ↓at_nodeW, List.drop_zero, List.take_succ_cons, List.take_zero, List.getElem?_cons_succ, List.getElem?_cons_zero, cells_agg, eqCells_cons, eqCells_nil, eq1_int, eq1_bool, eq1_str, ↓at_ptr_whole, ↓at_ptr_cell, ↓at_ptr_obj, ↓at_ptr_objs, shift_obj, shift_elt, toA_val, toA_own, Int.toNat_natCast, List.cons_append, c1, s1, c3, s2]
theorem prv_each {i j : Nat} (hij : i ≠ j) : ∀ (t : Nd) (d : Nat) (s : List UInt8) (b : Bool) (h : Heap), t.dep + 3 ≤ d → h.objs[i]? = some (balS s) → h.objs[j]? = some (bO b) → ∀ (Q : Res → Prop) (tg : Hid Q),
      Run (evFn Cw d 100 [t.A, .fn 79 [] [.obj i 0, .obj j 0]] h) Q tg = Q ([.bool true], (h.put i (balS (lastK s t.toL))).put j (bO (b || t.toL.getLast?.isSome))) := by
  intro t
  induction t with
  | nil =>
    intro d s b h hd h1 h2 Q tg
    obtain ⟨d, rfl⟩ : ∃ e, d = e + 1 := ⟨d - 1, by omega⟩
    have e1 : lastK s Nd.nil.toL = s := rfl
    have e2 : (b || Nd.nil.toL.getLast?.isSome) = b := by cases b <;> rfl
    rw [F100prv_eq, e1, e2, Heap.put_self' h1, Heap.put_self' h2]
    simp (disch := (first | assumption | (simp only [Bool.and_eq_true, Bool.and_eq_false_iff, decide_eq_true_eq, decide_eq_false_iff_not, bne_iff_ne, beq_iff_eq, beq_eq_false_iff_ne, bne_eq_false_iff_eq, Bool.not_eq_true', Bool.not_eq_false', bys_length, List.length_append, List.length_cons, List.length_nil, List.length_map, List.length_drop, List.length_take, Int.natCast_add, wrap_i64_eq, wrap_u64, wrap_u8, ne_eq, not_true_eq_false, not_false_eq_true, Nat.zero_add, Nat.mul_one] <;> omega) | omega | (simp; done) | (simp; omega))) only [↓at_runK, ↓at_bind, ↓contQ_mk, ↓at_ret, ↓at_consK, ↓at_nilK, ↓at_optK, ↓at_intK, ↓at_boolK, ↓at_strK, ↓at_slK, ↓at_slOK, ↓at_slK0, ↓at_slOK0, ↓at_aggK, ↓at_cond_t, ↓at_cond_f, ↓at_sameL, ↓at_any1, ↓at_any, and_self, toBytes_bys, List.nil_append, List.append_nil, ↓at_nodeW, List.drop_zero, List.take_succ_cons, List.take_zero, List.getElem?_cons_succ, List.getElem?_cons_zero, cells_agg, eqCells_cons, eqCells_nil, eq1_int, eq1_bool, eq1_str, ↓at_ptr_whole, ↓at_ptr_cell, ↓at_ptr_obj, ↓at_ptr_objs, shift_obj, shift_elt, toA_val, toA_own, Int.toNat_natCast, List.cons_append, A_nil, isPtr_nilp, isNilp_nilp]
  | node k v l r x ihl ihr =>
    intro d s b h hd h1 h2 Q tg
    obtain ⟨d, rfl⟩ : ∃ e, d = e + 2 := ⟨d - 2, by omega⟩
    simp only [Nd.dep] at hd
    rw [Nd.toL_node, lastK_mid]
    have e0' : (b || (l.toL ++ ⟨k, v⟩ :: r.toL).getLast?.isSome) = true := by
      rw [List.getLast?_append, List.getLast?_cons]; cases r.toL.getLast? <;> simp
    rw [e0']
    have rl := ihl (d + 1) s b h (by omega) h1 h2
    have m1 : ((h.put i (balS (lastK s l.toL))).put j (bO (b || l.toL.getLast?.isSome))).objs[i]? = some (balS (lastK s l.toL)) := by rw [Heap.put_ne (Ne.symm hij)]; exact Heap.put_get h1
    have m2 : ((h.put i (balS (lastK s l.toL))).put j (bO (b || l.toL.getLast?.isSome))).objs[j]? = some (bO (b || l.toL.getLast?.isSome)) := Heap.put_get (o' := bO b) (by rw [Heap.put_ne hij]; exact h2)
    have rb := fun (Q : Res → Prop) (tg : Hid Q) => prv1_run (d := d) (k := k) (v := v) (Q := Q) (tg := tg) hij m1 m2
    have e1 : ((((h.put i (balS (lastK s l.toL))).put j (bO (b || l.toL.getLast?.isSome))).put i (balS k)).put j (bO true)) = (h.put i (balS k)).put j (bO true) := by
      rw [Heap.put_comm _ _ _ (Ne.symm hij), Heap.put_put, Heap.put_put]
    rw [e1] at rb
    have m3 : ((h.put i (balS k)).put j (bO true)).objs[i]? = some (balS k) := by rw [Heap.put_ne (Ne.symm hij)]; exact Heap.put_get h1
    have m4 : ((h.put i (balS k)).put j (bO true)).objs[j]? = some (bO true) := Heap.put_get (o' := bO b) (by rw [Heap.put_ne hij]; exact h2)
    have rr := ihr (d + 1) k true _ (by omega) m3 m4
    have e2 : ((((h.put i (balS k)).put j (bO true)).put i (balS (lastK k r.toL))).put j (bO (true || r.toL.getLast?.isSome))) = (h.put i (balS (lastK k r.toL))).put j (bO true) := by
      rw [Heap.put_comm _ _ _ (Ne.symm hij), Heap.put_put, Heap.put_put, Bool.true_or]
    rw [e2] at rr
    rw [F100prv_eq]
    simp (disch := (first | assumption | (simp only [Bool.and_eq_true, Bool.and_eq_false_iff, decide_eq_true_eq, decide_eq_false_iff_not, bne_iff_ne, beq_iff_eq, beq_eq_false_iff_ne, bne_eq_false_iff_eq, Bool.not_eq_true', Bool.not_eq_false', bys_length, List.length_append, List.length_cons, List.length_nil, List.length_map, List.length_drop, List.length_take, Int.natCast_add, wrap_i64_eq, wrap_u64, wrap_u8, ne_eq, not_true_eq_false, not_false_eq_true, Nat.zero_add, Nat.mul_one] <;> omega) | omega | (simp; done) | (simp; omega))) only [↓at_runK, ↓at_bind, ↓contQ_mk, ↓at_ret, ↓at_consK, ↓at_nilK, ↓at_optK, ↓at_intK, ↓at_boolK, ↓at_strK, ↓at_slK, ↓at_slOK, ↓at_slK0, ↓at_slOK0, ↓at_aggK, ↓at_cond_t, ↓at_cond_f, ↓at_sameL, ↓at_any1, ↓at_any, and_self, toBytes_bys, List.nil_append, List.append_nil, ↓at_nodeW, List.drop_zero, List.take_succ_cons, List.take_zero, List.getElem?_cons_succ, List.getElem?_cons_zero, cells_agg, eqCells_cons, eqCells_nil, eq1_int, eq1_bool, eq1_str, ↓at_ptr_whole, ↓at_ptr_cell, ↓at_ptr_obj, ↓at_ptr_objs, shift_obj, shift_elt, toA_val, toA_own, Int.toNat_natCast, List.cons_append, isPtr_A, isNilp_node, at_nodeN, rl, rb, rr]

def lastO (l : List KPair) : Option KPair := l.getLast?
theorem lastK_o (l : List KPair) : lastK [] l = oKey l.getLast? := by unfold lastK; cases l.getLast? <;> rfl
/-- What is as it was, but one object. -/
structure Heap.but (h h' : Heap) (i : Nat) : Prop where
  len : h.objs.length ≤ h'.objs.length
  old : ∀ j, j ≠ i → j < h.objs.length → h'.objs[j]? = h.objs[j]?
theorem Heap.but.get {h h' : Heap} {i j : Nat} (e : Heap.but h h' i) (hj : j ≠ i) {o : Weave.Obj} (hm : h.objs[j]? = some o) : h'.objs[j]? = some o := by rw [e.old j hj (Heap.lt_of hm)]; exact hm
theorem Heap.but_put (h : Heap) (i : Nat) (o : Weave.Obj) : Heap.but h (h.put i o) i := ⟨by rw [Heap.put_len]; exact Nat.le_refl _, fun j hj _ => Heap.put_ne (Ne.symm hj)⟩
theorem cprev0_run {d i ti : Nat} {k : List UInt8} {h : Heap} {Q : Res → Prop} {tg : Hid Q} (hm : h.objs[i]? = some (curO (.obj ti 0) 0 k)) :
    Run (evFn Cw (d + 3) 17 [.obj i 0] h) Q tg = Q ([.bool false], h) := by
  rw [F17_eq]
  simp (disch := (first | assumption | (simp only [Bool.and_eq_true, Bool.and_eq_false_iff, decide_eq_true_eq, decide_eq_false_iff_not, bne_iff_ne, beq_iff_eq, beq_eq_false_iff_ne, bne_eq_false_iff_eq, Bool.not_eq_true', Bool.not_eq_false', bys_length, List.length_append, List.length_cons, List.length_nil, List.length_map, List.length_drop, List.length_take, Int.natCast_add, wrap_i64_eq, wrap_u64, wrap_u8, ne_eq, not_true_eq_false, not_false_eq_true, Nat.zero_add, Nat.mul_one] <;> omega) | omega | (simp; done) | (simp; omega))) only [↓at_runK, ↓at_bind, ↓contQ_mk, ↓at_ret, ↓at_consK, ↓at_nilK, ↓at_optK, ↓at_intK, ↓at_boolK, ↓at_strK, ↓at_slK, ↓at_slOK, ↓at_slK0, ↓at_slOK0, ↓at_aggK, ↓at_cond_t, ↓at_cond_f, ↓at_sameL, ↓at_any1, ↓at_any, and_self, toBytes_bys, List.nil_append, List.append_nil, ↓at_nodeW, List.drop_zero, List.take_succ_cons, List.take_zero, List.getElem?_cons_succ, List.getElem?_cons_zero, cells_agg, eqCells_cons, eqCells_nil, eq1_int, eq1_bool, eq1_str, ↓at_ptr_whole, ↓at_ptr_cell, ↓at_ptr_obj, ↓at_ptr_objs, shift_obj, shift_elt, toA_val, toA_own, Int.toNat_natCast, List.cons_append, cur_w hm]
theorem cprev1_run {d i ti : Nat} {t : Nd} {k : List UInt8} {h : Heap} {Q : Res → Prop} {tg : Hid Q} (ok : TOk' t) (hm : h.objs[i]? = some (curO (.obj ti 0) 1 k)) (ht : h.objs[ti]? = some (trT t)) :
    Run (evFn Cw (d + 3) 17 [.obj i 0] h) Q tg = Q ([.bool (lbelow k t.toL).isSome], h.put i (curTo (.obj ti 0) (lbelow k t.toL) 0)) := by
  have r := fun (Q : Res → Prop) (tg : Hid Q) => tbelow_run (d := d) (s := k) (Q := Q) (tg := tg) ok ht
  have q := fun (Q : Res → Prop) (tg : Hid Q) => to_run (d := d + 1) (e := 0) (o := lbelow k t.toL) (Q := Q) (tg := tg) hm
  rw [F17_eq]
  simp (disch := (first | assumption | (simp only [Bool.and_eq_true, Bool.and_eq_false_iff, decide_eq_true_eq, decide_eq_false_iff_not, bne_iff_ne, beq_iff_eq, beq_eq_false_iff_ne, bne_eq_false_iff_eq, Bool.not_eq_true', Bool.not_eq_false', bys_length, List.length_append, List.length_cons, List.length_nil, List.length_map, List.length_drop, List.length_take, Int.natCast_add, wrap_i64_eq, wrap_u64, wrap_u8, ne_eq, not_true_eq_false, not_false_eq_true, Nat.zero_add, Nat.mul_one] <;> omega) | omega | (simp; done) | (simp; omega))) only [↓at_runK, ↓at_bind, ↓contQ_mk, ↓at_ret, ↓at_consK, ↓at_nilK, ↓at_optK, ↓at_intK, ↓at_boolK, ↓at_strK, ↓at_slK, ↓at_slOK, ↓at_slK0, ↓at_slOK0, ↓at_aggK, ↓at_cond_t, ↓at_cond_f, ↓at_sameL, ↓at_any1, ↓at_any, and_self, toBytes_bys, List.nil_append, List.append_nil, ↓at_nodeW, List.drop_zero, List.take_succ_cons, List.take_zero, List.getElem?_cons_succ, List.getElem?_cons_zero, cells_agg, eqCells_cons, eqCells_nil, eq1_int, eq1_bool, eq1_str, ↓at_ptr_whole, ↓at_ptr_cell, ↓at_ptr_obj, ↓at_ptr_objs, shift_obj, shift_elt, toA_val, toA_own, Int.toNat_natCast, List.cons_append, cur_w hm, cur_t hm, cur_k hm, r, q]
theorem cprev2_run {d i ti : Nat} {t : Nd} {k : List UInt8} {h : Heap} (ok : TOk' t) (hm : h.objs[i]? = some (curO (.obj ti 0) 2 k)) (ht : h.objs[ti]? = some (trT t)) (hd : 1010 ≤ d) :
    ∃ h', Heap.but h h' i ∧ h'.objs[i]? = some (curTo (.obj ti 0) t.toL.getLast? 0) ∧ ∀ (Q : Res → Prop) (tg : Hid Q), Run (evFn Cw d 17 [.obj i 0] h) Q tg = Q ([.bool t.toL.getLast?.isSome], h') := by
  have hdp := Nd.dep_le t
  have hlen := ok.len
  obtain ⟨d, rfl⟩ : ∃ e, d = e + 3 := ⟨d - 3, by omega⟩
  have hi := Heap.lt_of hm
  have E1 := Heap.ext.push h (balS [])
  have E2 := E1.trans (Heap.ext.push (h.push (balS [])) (bO false))
  have ln : (h.push (balS [])).objs.length = h.objs.length + 1 := Heap.push_len h _
  have m1 : ((h.push (balS [])).push (bO false)).objs[h.objs.length]? = some (balS []) := by rw [Heap.push_old (by rw [ln]; omega)]; exact Heap.push_new h _
  have m2 : ((h.push (balS [])).push (bO false)).objs[h.objs.length + 1]? = some (bO false) := by rw [← ln]; exact Heap.push_new _ _
  have re := prv_each (i := h.objs.length) (j := h.objs.length + 1) (by omega) t (d + 1) [] false ((h.push (balS [])).push (bO false)) (by omega) m1 m2
  rw [lastK_o, Bool.false_or] at re
  have c1 : ((h.push (balS [])).push (bO false)).cell? h.objs.length 0 = some (HCell.val (.str [])) := by rw [Heap.cell_at m1]; rfl
  have c2 : ((h.push (balS [])).push (bO false)).cell? (h.objs.length + 1) 0 = some (HCell.val (.bool false)) := by rw [Heap.cell_at m2]; rfl
  have s1 : ((h.push (balS [])).push (bO false)).setCell h.objs.length 0 (HCell.val (.str [])) = (h.push (balS [])).push (bO false) := by
    rw [Heap.set_at m1]; exact Heap.put_self' m1
  have s2 : ((h.push (balS [])).push (bO false)).setCell (h.objs.length + 1) 0 (HCell.val (.bool false)) = (h.push (balS [])).push (bO false) := by
    rw [Heap.set_at m2]; exact Heap.put_self' m2
  have o1 : Weave.Obj.cells [HCell.val (.str [])] = balS [] := of_eq_true (eq_self _)
  have o2 : Weave.Obj.cells [HCell.val (.bool false)] = bO false := of_eq_true (eq_self _)
  have hm2 := E2.get hm
  have ht2 := E2.get ht
  have rE : ∀ (Q : Res → Prop) (tg : Hid Q), Run (evFn Cw (d + 2) 78 [.obj ti 0, .fn 79 [] [.obj h.objs.length 0, .obj (h.objs.length + 1) 0]] ((h.push (balS [])).push (bO false))) Q tg
      = Q ([], (((h.push (balS [])).push (bO false)).put h.objs.length (balS (oKey t.toL.getLast?))).put (h.objs.length + 1) (bO t.toL.getLast?.isSome)) := fun Q tg => by
    rw [F78prv_eq]
    simp (disch := (first | assumption | (simp only [Bool.and_eq_true, Bool.and_eq_false_iff, decide_eq_true_eq, decide_eq_false_iff_not, bne_iff_ne, beq_iff_eq, beq_eq_false_iff_ne, bne_eq_false_iff_eq, Bool.not_eq_true', Bool.not_eq_false', bys_length, List.length_append, List.length_cons, List.length_nil, List.length_map, List.length_drop, List.length_take, Int.natCast_add, wrap_i64_eq, wrap_u64, wrap_u8, ne_eq, not_true_eq_false, not_false_eq_true, Nat.zero_add, Nat.mul_one] <;> omega) | omega | (simp; done) | (simp; omega))) only [↓at_runK, ↓at_bind, ↓contQ_mk, ↓at_ret, ↓at_consK, ↓at_nilK, ↓at_optK, ↓at_intK, ↓at_boolK, ↓at_strK, ↓at_slK, ↓at_slOK, ↓at_slK0, ↓at_slOK0, ↓at_aggK, ↓at_cond_t, ↓at_cond_f, ↓at_sameL, ↓at_any1, ↓at_any, and_self, toBytes_bys, List.nil_append, List.append_nil, ↓at_nodeW, List.drop_zero, List.take_succ_cons, List.take_zero, List.getElem?_cons_succ, List.getElem?_cons_zero, cells_agg, eqCells_cons, eqCells_nil, eq1_int, eq1_bool, eq1_str, ↓at_ptr_whole, ↓at_ptr_cell, ↓at_ptr_obj, ↓at_ptr_objs, shift_obj, shift_elt, toA_val, toA_own, Int.toNat_natCast, List.cons_append, trT_root ht2, re]
  have E3 := (E2.put (id := h.objs.length) (o := balS (oKey t.toL.getLast?)) (Nat.le_refl _)).put (id := h.objs.length + 1) (o := bO t.toL.getLast?.isSome) (by omega)
  have hm3 := E3.get hm
  have m3 : ((((h.push (balS [])).push (bO false)).put h.objs.length (balS (oKey t.toL.getLast?))).put (h.objs.length + 1) (bO t.toL.getLast?.isSome)).objs[h.objs.length]? = some (balS (oKey t.toL.getLast?)) := by
    rw [Heap.put_ne (by omega)]; exact Heap.put_get m1
  have m4 : ((((h.push (balS [])).push (bO false)).put h.objs.length (balS (oKey t.toL.getLast?))).put (h.objs.length + 1) (bO t.toL.getLast?.isSome)).objs[h.objs.length + 1]? = some (bO t.toL.getLast?.isSome) := by
    exact Heap.put_get (o' := bO false) (by rw [Heap.put_ne (by omega)]; exact m2)
  have c3 : ((((h.push (balS [])).push (bO false)).put h.objs.length (balS (oKey t.toL.getLast?))).put (h.objs.length + 1) (bO t.toL.getLast?.isSome)).cell? h.objs.length 0 = some (HCell.val (.str (oKey t.toL.getLast?))) := by rw [Heap.cell_at m3]; rfl
  have c4 : ((((h.push (balS [])).push (bO false)).put h.objs.length (balS (oKey t.toL.getLast?))).put (h.objs.length + 1) (bO t.toL.getLast?.isSome)).cell? (h.objs.length + 1) 0 = some (HCell.val (.bool t.toL.getLast?.isSome)) := by rw [Heap.cell_at m4]; rfl
  have q := fun (Q : Res → Prop) (tg : Hid Q) => to_run (d := d + 1) (e := 0) (o := t.toL.getLast?) (Q := Q) (tg := tg) hm3
  refine ⟨_, ⟨?_, ?_⟩, Heap.put_get (o := curTo (.obj ti 0) t.toL.getLast? 0) hm3, fun Q tg => ?_⟩
  · rw [Heap.put_len]; exact E3.len
  · intro j hj hlt
    rw [Heap.put_ne (Ne.symm hj)]
    exact E3.old j hlt
  · rw [F17_eq]
    simp (disch := (first | assumption | (simp only [Bool.and_eq_true, Bool.and_eq_false_iff, decide_eq_true_eq, decide_eq_false_iff_not, bne_iff_ne, beq_iff_eq, beq_eq_false_iff_ne, bne_eq_false_iff_eq, Bool.not_eq_true', Bool.not_eq_false', bys_length, List.length_append, List.length_cons, List.length_nil, List.length_map, List.length_drop, List.length_take, Int.natCast_add, wrap_i64_eq, wrap_u64, wrap_u8, ne_eq, not_true_eq_false, not_false_eq_true, Nat.zero_add, Nat.mul_one] <;> omega) | omega | (simp; done) | (simp; omega))) only [↓at_runK, ↓at_bind, ↓contQ_mk, ↓at_ret, ↓at_consK, ↓at_nilK, ↓at_optK, ↓at_intK, ↓at_boolK, ↓at_strK, ↓at_slK, ↓at_slOK, ↓at_slK0, ↓at_slOK0, ↓at_aggK, ↓at_cond_t, ↓at_cond_f, ↓at_sameL, ↓at_any1, ↓at_any, and_self, toBytes_bys, List.nil_append, List.append_nil, ↓at_nodeW, List.drop_zero, List.take_succ_cons, List.take_zero, List.getElem?_cons_succ, List.getElem?_cons_zero, cells_agg, eqCells_cons, eqCells_nil, eq1_int, eq1_bool, eq1_str, ↓at_ptr_whole, ↓at_ptr_cell, ↓at_ptr_obj, ↓at_ptr_objs, shift_obj, shift_elt, toA_val, toA_own, Int.toNat_natCast, List.cons_append, cur_w hm, o1, o2, ln, c1, s1, c2, s2, cur_t hm2, rE, c3, c4, q]

/-! ### Cursors of nothing -/
theorem cnextn_run {d i : Nat} {k : List UInt8} {h : Heap} {Q : Res → Prop} {tg : Hid Q} (hm : h.objs[i]? = some (curO .nilp 0 k)) :
    Run (evFn Cw (d + 3) 15 [.obj i 0] h) Q tg = Q ([.bool false], h.put i (curO .nilp 2 [])) := by
  have q := fun (Q : Res → Prop) (tg : Hid Q) => to_run (d := d + 1) (e := 2) (o := none) (Q := Q) (tg := tg) hm
  have e1 : oKey none = [] := rfl
  have e2 : (none : Option KPair).isSome = false := rfl
  rw [e1, e2] at q
  rw [F15_eq]
  simp (disch := (first | assumption | (simp only [Bool.and_eq_true, Bool.and_eq_false_iff, decide_eq_true_eq, decide_eq_false_iff_not, bne_iff_ne, beq_iff_eq, beq_eq_false_iff_ne, bne_eq_false_iff_eq, Bool.not_eq_true', Bool.not_eq_false', bys_length, List.length_append, List.length_cons, List.length_nil, List.length_map, List.length_drop, List.length_take, Int.natCast_add, wrap_i64_eq, wrap_u64, wrap_u8, ne_eq, not_true_eq_false, not_false_eq_true, Nat.zero_add, Nat.mul_one] <;> omega) | omega | (simp; done) | (simp; omega))) only [↓at_runK, ↓at_bind, ↓contQ_mk, ↓at_ret, ↓at_consK, ↓at_nilK, ↓at_optK, ↓at_intK, ↓at_boolK, ↓at_strK, ↓at_slK, ↓at_slOK, ↓at_slK0, ↓at_slOK0, ↓at_aggK, ↓at_cond_t, ↓at_cond_f, ↓at_sameL, ↓at_any1, ↓at_any, and_self, toBytes_bys, List.nil_append, List.append_nil, ↓at_nodeW, List.drop_zero, List.take_succ_cons, List.take_zero, List.getElem?_cons_succ, List.getElem?_cons_zero, cells_agg, eqCells_cons, eqCells_nil, eq1_int, eq1_bool, eq1_str, ↓at_ptr_whole, ↓at_ptr_cell, ↓at_ptr_obj, ↓at_ptr_objs, shift_obj, shift_elt, toA_val, toA_own, Int.toNat_natCast, List.cons_append, cur_w hm, P15_0_eq, cur_t hm, nseek_run, q]
  rfl
theorem cseekn_run {d i : Nat} {k s : List UInt8} {h : Heap} {Q : Res → Prop} {tg : Hid Q} (hm : h.objs[i]? = some (curO .nilp 0 k)) :
    Run (evFn Cw (d + 3) 19 [.obj i 0, .str s] h) Q tg = Q ([.bool false], h.put i (curO .nilp 2 [])) := by
  have q := fun (Q : Res → Prop) (tg : Hid Q) => to_run (d := d + 1) (e := 2) (o := none) (Q := Q) (tg := tg) hm
  have e1 : oKey none = [] := rfl
  have e2 : (none : Option KPair).isSome = false := rfl
  rw [e1, e2] at q
  rw [F19_eq]
  simp (disch := (first | assumption | (simp only [Bool.and_eq_true, Bool.and_eq_false_iff, decide_eq_true_eq, decide_eq_false_iff_not, bne_iff_ne, beq_iff_eq, beq_eq_false_iff_ne, bne_eq_false_iff_eq, Bool.not_eq_true', Bool.not_eq_false', bys_length, List.length_append, List.length_cons, List.length_nil, List.length_map, List.length_drop, List.length_take, Int.natCast_add, wrap_i64_eq, wrap_u64, wrap_u8, ne_eq, not_true_eq_false, not_false_eq_true, Nat.zero_add, Nat.mul_one] <;> omega) | omega | (simp; done) | (simp; omega))) only [↓at_runK, ↓at_bind, ↓contQ_mk, ↓at_ret, ↓at_consK, ↓at_nilK, ↓at_optK, ↓at_intK, ↓at_boolK, ↓at_strK, ↓at_slK, ↓at_slOK, ↓at_slK0, ↓at_slOK0, ↓at_aggK, ↓at_cond_t, ↓at_cond_f, ↓at_sameL, ↓at_any1, ↓at_any, and_self, toBytes_bys, List.nil_append, List.append_nil, ↓at_nodeW, List.drop_zero, List.take_succ_cons, List.take_zero, List.getElem?_cons_succ, List.getElem?_cons_zero, cells_agg, eqCells_cons, eqCells_nil, eq1_int, eq1_bool, eq1_str, ↓at_ptr_whole, ↓at_ptr_cell, ↓at_ptr_obj, ↓at_ptr_objs, shift_obj, shift_elt, toA_val, toA_own, Int.toNat_natCast, List.cons_append, cur_t hm, nseek_run, q]
  rfl
theorem cprevn_run {d i : Nat} {k : List UInt8} {h : Heap} (hm : h.objs[i]? = some (curO .nilp 2 k)) :
    ∃ h', ∀ (Q : Res → Prop) (tg : Hid Q), Run (evFn Cw (d + 3) 17 [.obj i 0] h) Q tg = Q ([.bool false], h') := by
  have hi := Heap.lt_of hm
  have E1 := Heap.ext.push h (balS [])
  have E2 := E1.trans (Heap.ext.push (h.push (balS [])) (bO false))
  have ln : (h.push (balS [])).objs.length = h.objs.length + 1 := Heap.push_len h _
  have m1 : ((h.push (balS [])).push (bO false)).objs[h.objs.length]? = some (balS []) := by rw [Heap.push_old (by rw [ln]; omega)]; exact Heap.push_new h _
  have m2 : ((h.push (balS [])).push (bO false)).objs[h.objs.length + 1]? = some (bO false) := by rw [← ln]; exact Heap.push_new _ _
  have c1 : ((h.push (balS [])).push (bO false)).cell? h.objs.length 0 = some (HCell.val (.str [])) := by rw [Heap.cell_at m1]; rfl
  have c2 : ((h.push (balS [])).push (bO false)).cell? (h.objs.length + 1) 0 = some (HCell.val (.bool false)) := by rw [Heap.cell_at m2]; rfl
  have s1 : ((h.push (balS [])).push (bO false)).setCell h.objs.length 0 (HCell.val (.str [])) = (h.push (balS [])).push (bO false) := by
    rw [Heap.set_at m1]; exact Heap.put_self' m1
  have s2 : ((h.push (balS [])).push (bO false)).setCell (h.objs.length + 1) 0 (HCell.val (.bool false)) = (h.push (balS [])).push (bO false) := by
    rw [Heap.set_at m2]; exact Heap.put_self' m2
  have o1 : Weave.Obj.cells [HCell.val (.str [])] = balS [] := of_eq_true (eq_self _)
  have o2 : Weave.Obj.cells [HCell.val (.bool false)] = bO false := of_eq_true (eq_self _)
  have hm2 := E2.get hm
  have q := fun (Q : Res → Prop) (tg : Hid Q) => to_run (d := d + 1) (e := 0) (o := none) (Q := Q) (tg := tg) hm2
  have e1 : oKey none = [] := rfl
  have e2 : (none : Option KPair).isSome = false := rfl
  rw [e1, e2] at q
  refine ⟨((h.push (balS [])).push (bO false)).put i (curTo AVal.nilp none 0), fun Q tg => ?_⟩
  rw [F17_eq]
  simp (disch := (first | assumption | (simp only [Bool.and_eq_true, Bool.and_eq_false_iff, decide_eq_true_eq, decide_eq_false_iff_not, bne_iff_ne, beq_iff_eq, beq_eq_false_iff_ne, bne_eq_false_iff_eq, Bool.not_eq_true', Bool.not_eq_false', bys_length, List.length_append, List.length_cons, List.length_nil, List.length_map, List.length_drop, List.length_take, Int.natCast_add, wrap_i64_eq, wrap_u64, wrap_u8, ne_eq, not_true_eq_false, not_false_eq_true, Nat.zero_add, Nat.mul_one] <;> omega) | omega | (simp; done) | (simp; omega))) only [↓at_runK, ↓at_bind, ↓contQ_mk, ↓at_ret, ↓at_consK, ↓at_nilK, ↓at_optK, ↓at_intK, ↓at_boolK, ↓at_strK, ↓at_slK, ↓at_slOK, ↓at_slK0, ↓at_slOK0, ↓at_aggK, ↓at_cond_t, ↓at_cond_f, ↓at_sameL, ↓at_any1, ↓at_any, and_self, toBytes_bys, List.nil_append, List.append_nil, ↓at_nodeW, List.drop_zero, List.take_succ_cons, List.take_zero, List.getElem?_cons_succ, List.getElem?_cons_zero, cells_agg, eqCells_cons, eqCells_nil, eq1_int, eq1_bool, eq1_str, ↓at_ptr_whole, ↓at_ptr_cell, ↓at_ptr_obj, ↓at_ptr_objs, shift_obj, shift_elt, toA_val, toA_own, Int.toNat_natCast, List.cons_append, cur_w hm, o1, o2, ln, c1, s1, c2, s2, cur_t hm2, neach_run, q]
theorem nnext_run {d : Nat} {h : Heap} {Q : Res → Prop} {tg : Hid Q} : Run (evFn Cw (d + 1) 15 [.nilp] h) Q tg = Q ([.bool false], h) := (at_eq (F15nil_eq _ _)).trans at_ret
theorem nprev_run {d : Nat} {h : Heap} {Q : Res → Prop} {tg : Hid Q} : Run (evFn Cw (d + 1) 17 [.nilp] h) Q tg = Q ([.bool false], h) := (at_eq (F17nil_eq _ _)).trans at_ret
theorem non_run {d : Nat} {h : Heap} {Q : Res → Prop} {tg : Hid Q} : Run (evFn Cw (d + 1) 27 [.nilp] h) Q tg = Q ([.bool false], h) := (at_eq (F27nil_eq _ _)).trans at_ret
theorem ncseek_run {d : Nat} {s : List UInt8} {h : Heap} {Q : Res → Prop} {tg : Hid Q} : Run (evFn Cw (d + 1) 19 [.nilp, .str s] h) Q tg = Q ([.bool false], h) := (at_eq (F19nil_eq _ _ _)).trans at_ret
theorem npair_run {d : Nat} {h : Heap} {Q : Res → Prop} {tg : Hid Q} : Run (evFn Cw (d + 2) 25 [.nilp] h) Q tg = Q ([.agg [.str [], .str []], .bool false], h) := by
  rw [F25nil_eq]
  simp (disch := (first | assumption | (simp only [Bool.and_eq_true, Bool.and_eq_false_iff, decide_eq_true_eq, decide_eq_false_iff_not, bne_iff_ne, beq_iff_eq, beq_eq_false_iff_ne, bne_eq_false_iff_eq, Bool.not_eq_true', Bool.not_eq_false', bys_length, List.length_append, List.length_cons, List.length_nil, List.length_map, List.length_drop, List.length_take, Int.natCast_add, wrap_i64_eq, wrap_u64, wrap_u8, ne_eq, not_true_eq_false, not_false_eq_true, Nat.zero_add, Nat.mul_one] <;> omega) | omega | (simp; done) | (simp; omega))) only [↓at_runK, ↓at_bind, ↓contQ_mk, ↓at_ret, ↓at_consK, ↓at_nilK, ↓at_optK, ↓at_intK, ↓at_boolK, ↓at_strK, ↓at_slK, ↓at_slOK, ↓at_slK0, ↓at_slOK0, ↓at_aggK, ↓at_cond_t, ↓at_cond_f, ↓at_sameL, ↓at_any1, ↓at_any, and_self, toBytes_bys, List.nil_append, List.append_nil, ↓at_nodeW, List.drop_zero, List.take_succ_cons, List.take_zero, List.getElem?_cons_succ, List.getElem?_cons_zero, cells_agg, eqCells_cons, eqCells_nil, eq1_int, eq1_bool, eq1_str, ↓at_ptr_whole, ↓at_ptr_cell, ↓at_ptr_obj, ↓at_ptr_objs, shift_obj, shift_elt, toA_val, toA_own, Int.toNat_natCast, List.cons_append, non_run, Bool.not_false]
theorem crangen_run {d : Nat} {a b : List UInt8} {m : Int} {h : Heap} {Q : Res → Prop} {tg : Hid Q} : Run (evFn Cw (d + 4) 88 [.nilp, .str a, .str b, .int .i64 m] h) Q tg = Q ([.sl false 3 []], (h.push (curO .nilp 0 [])).put h.objs.length (curO .nilp 2 [])) := by
  obtain ⟨k, hk⟩ : ∃ k, rounds = k + 1 := ⟨rounds - 1, by have := rounds_gt' (n := 1) (by omega); omega⟩
  have q := fun (Q : Res → Prop) (tg : Hid Q) => cseekn_run (d := d) (s := a) (Q := Q) (tg := tg) (Heap.push_new h (curO .nilp 0 []))
  rw [F88nil_eq, hk]
  simp (disch := (first | assumption | (simp only [Bool.and_eq_true, Bool.and_eq_false_iff, decide_eq_true_eq, decide_eq_false_iff_not, bne_iff_ne, beq_iff_eq, beq_eq_false_iff_ne, bne_eq_false_iff_eq, Bool.not_eq_true', Bool.not_eq_false', bys_length, List.length_append, List.length_cons, List.length_nil, List.length_map, List.length_drop, List.length_take, Int.natCast_add, wrap_i64_eq, wrap_u64, wrap_u8, ne_eq, not_true_eq_false, not_false_eq_true, Nat.zero_add, Nat.mul_one] <;> omega) | omega | (simp; done) | (simp; omega))) only [↓at_runK, ↓at_bind, ↓contQ_mk, ↓at_ret, ↓at_consK, ↓at_nilK, ↓at_optK, ↓at_intK, ↓at_boolK, ↓at_strK, ↓at_slK, ↓at_slOK, ↓at_slK0, ↓at_slOK0, ↓at_aggK, ↓at_cond_t, ↓at_cond_f, ↓at_sameL, ↓at_any1, ↓at_any, and_self, toBytes_bys, List.nil_append, List.append_nil, ↓at_nodeW, List.drop_zero, List.take_succ_cons, List.take_zero, List.getElem?_cons_succ, List.getElem?_cons_zero, cells_agg, eqCells_cons, eqCells_nil, eq1_int, eq1_bool, eq1_str, ↓at_ptr_whole, ↓at_ptr_cell, ↓at_ptr_obj, ↓at_ptr_objs, shift_obj, shift_elt, toA_val, toA_own, Int.toNat_natCast, List.cons_append, cnewn_run, q, P88nil_0_eq]

/-! ### Ranges -/
def inTo (to : List UInt8) (k : List UInt8) : Bool := (to == []) || blt k to
/-- By the reference. -/
def rngR (fr to : List UInt8) (most : Int) : List KPair → List KPair → List KPair
  | [], acc => acc
  | p :: l, acc => if (acc.length : Int) < most then (if (!blt p.key fr && inTo to p.key) = true then rngR fr to most l (acc ++ [p]) else rngR fr to most l acc) else acc
/-- By a cursor. -/
def rngC (to : List UInt8) (most : Int) : List KPair → List KPair → List KPair
  | [], acc => acc
  | p :: l, acc => if (acc.length : Int) < most then (if inTo to p.key = true then rngC to most l (acc ++ [p]) else acc) else acc
theorem rngR_out {fr to : List UInt8} {most : Int} : ∀ {l acc : List KPair}, (∀ p ∈ l, inTo to p.key = false) → rngR fr to most l acc = acc
  | [], _, _ => rfl
  | p :: l, acc, h => by
    unfold rngR
    rw [h p List.mem_cons_self]
    simp only [Bool.and_false, Bool.false_eq_true, if_false]
    split
    · exact rngR_out fun q hq => h q (List.mem_cons_of_mem _ hq)
    · rfl
theorem rngR_in {fr to : List UInt8} {most : Int} : ∀ {l acc : List KPair}, Srt l → (∀ p ∈ l, blt p.key fr = false) → rngR fr to most l acc = rngC to most l acc
  | [], _, _, _ => rfl
  | p :: l, acc, hs, h => by
    have ⟨h1, h2⟩ := List.pairwise_cons.1 hs
    unfold rngR rngC
    rw [h p List.mem_cons_self]
    simp only [Bool.not_false, Bool.true_and]
    split
    · split
      · exact rngR_in h2 fun q hq => h q (List.mem_cons_of_mem _ hq)
      · rename_i c
        refine rngR_out fun q hq => ?_
        unfold inTo at c ⊢
        simp only [Bool.or_eq_true, not_or, Bool.not_eq_true] at c
        rw [c.1, Bool.false_or]
        cases hb : blt q.key to
        · rfl
        · have := blt_trans (h1 q hq) hb
          rw [this] at c; simp at c
    · rfl
theorem rngR_skip {fr to : List UInt8} {most : Int} : ∀ {a b acc : List KPair}, (∀ p ∈ a, blt p.key fr = true) → rngR fr to most (a ++ b) acc = rngR fr to most b acc
  | [], _, _, _ => rfl
  | p :: a, b, acc, h => by
    rw [List.cons_append]
    conv => lhs; unfold rngR
    rw [h p List.mem_cons_self]
    simp only [Bool.not_true, Bool.false_and, Bool.false_eq_true, if_false]
    split
    · exact rngR_skip fun q hq => h q (List.mem_cons_of_mem _ hq)
    · rename_i c
      cases b with
      | nil => rfl
      | cons q b => unfold rngR; rw [if_neg c]
theorem split_at (fr : List UInt8) : ∀ {l : List KPair}, Srt l → ∃ a b, l = a ++ b ∧ (∀ p ∈ a, blt p.key fr = true) ∧ (∀ p ∈ b, blt p.key fr = false)
  | [], _ => ⟨[], [], rfl, by simp, by simp⟩
  | p :: l, hs => by
    have ⟨h1, h2⟩ := List.pairwise_cons.1 hs
    by_cases c : blt p.key fr = true
    · obtain ⟨a, b, e, ha, hb⟩ := split_at fr h2
      exact ⟨p :: a, b, by rw [e]; rfl, fun q hq => (List.mem_cons.1 hq).elim (fun e => e ▸ c) (ha q), hb⟩
    · refine ⟨[], p :: l, rfl, by simp, fun q hq => ?_⟩
      rcases List.mem_cons.1 hq with rfl | hq
      · simpa using c
      · cases hb : blt q.key fr
        · rfl
        · exact absurd (blt_trans (h1 q hq) hb) c
theorem rrange_loop (d : Nat) (f : Bool) (fr to : List UInt8) (most : Int) (h : Heap) (l : List KPair) (hl : l.length ≤ 1000000) (Q : Res → Prop) : ∀ (n i k : Nat) (acc : List KPair) (tg : Hid Q), acc.length ≤ i → l.length = i + n → n < k →
    Run (P39_0 d k f (prs l) fr to most (prs acc) i h) Q tg = Q ([.sl false 3 (prs (rngR fr to most (l.drop i) acc))], h) := by
  intro n
  induction n with
  | zero =>
    intro i k acc tg ha hi hk
    obtain ⟨k, rfl⟩ : ∃ m, k = m + 1 := ⟨k - 1, by omega⟩
    have hd : l.drop i = [] := List.drop_eq_nil_of_le (by omega)
    rw [P39_0_eq, hd]
    simp (disch := (first | assumption | (simp only [Bool.and_eq_true, Bool.and_eq_false_iff, decide_eq_true_eq, decide_eq_false_iff_not, bne_iff_ne, beq_iff_eq, beq_eq_false_iff_ne, bne_eq_false_iff_eq, Bool.not_eq_true', Bool.not_eq_false', bys_length, List.length_append, List.length_cons, List.length_nil, List.length_map, List.length_drop, List.length_take, Int.natCast_add, wrap_i64_eq, wrap_u64, wrap_u8, ne_eq, not_true_eq_false, not_false_eq_true, Nat.zero_add, Nat.mul_one] <;> omega) | omega | (simp; done) | (simp; omega))) only [↓at_runK, ↓at_bind, ↓contQ_mk, ↓at_ret, ↓at_consK, ↓at_nilK, ↓at_optK, ↓at_intK, ↓at_boolK, ↓at_strK, ↓at_slK, ↓at_slOK, ↓at_slK0, ↓at_slOK0, ↓at_aggK, ↓at_cond_t, ↓at_cond_f, ↓at_sameL, ↓at_any1, ↓at_any, and_self, toBytes_bys, List.nil_append, List.append_nil, ↓at_nodeW, List.drop_zero, List.take_succ_cons, List.take_zero, List.getElem?_cons_succ, List.getElem?_cons_zero, cells_agg, eqCells_cons, eqCells_nil, eq1_int, eq1_bool, eq1_str, ↓at_ptr_whole, ↓at_ptr_cell, ↓at_ptr_obj, ↓at_ptr_objs, shift_obj, shift_elt, toA_val, toA_own, Int.toNat_natCast, List.cons_append, prs_length]
    rfl
  | succ n ih =>
    intro i k acc tg ha hi hk
    obtain ⟨k, rfl⟩ : ∃ m, k = m + 1 := ⟨k - 1, by omega⟩
    have h1 : i < l.length := by omega
    have e1 := succ_wrap (i := i) (by omega)
    have ea : prs acc ++ [.agg [.str l[i].key, .str l[i].val]] = prs (acc ++ [l[i]]) := prs_snoc acc l[i].key l[i].val
    have ih1 := fun tg => ih (i + 1) k (acc ++ [l[i]]) tg (by simp; omega) (by omega) (by omega)
    have ih2 := fun tg => ih (i + 1) k acc tg (by omega) (by omega) (by omega)
    rw [P39_0_eq, List.drop_eq_getElem_cons h1]
    unfold rngR
    by_cases c0 : (acc.length : Int) < most
    · rw [if_pos c0]
      cases c1 : blt l[i].key fr
      · have c1' : Go.Op.bytesLess l[i].key fr = false := c1
        simp only [Bool.not_false, Bool.true_and]
        cases c2 : (to == [])
        · unfold inTo
          rw [c2, Bool.false_or]
          cases c3 : blt l[i].key to
          · have c3' : Go.Op.bytesLess l[i].key to = false := c3
            rw [if_neg (by simp)]
            simp (disch := (first | assumption | (simp only [Bool.and_eq_true, Bool.and_eq_false_iff, decide_eq_true_eq, decide_eq_false_iff_not, bne_iff_ne, beq_iff_eq, beq_eq_false_iff_ne, bne_eq_false_iff_eq, Bool.not_eq_true', Bool.not_eq_false', bys_length, List.length_append, List.length_cons, List.length_nil, List.length_map, List.length_drop, List.length_take, Int.natCast_add, wrap_i64_eq, wrap_u64, wrap_u8, ne_eq, not_true_eq_false, not_false_eq_true, Nat.zero_add, Nat.mul_one] <;> omega) | omega | (simp; done) | (simp; omega))) only [↓at_runK, ↓at_bind, ↓contQ_mk, ↓at_ret, ↓at_consK, ↓at_nilK, ↓at_optK, ↓at_intK, ↓at_boolK, ↓at_strK, ↓at_slK, ↓at_slOK, ↓at_slK0, ↓at_slOK0, ↓at_aggK, ↓at_cond_t, ↓at_cond_f, ↓at_sameL, ↓at_any1, ↓at_any, and_self, toBytes_bys, List.nil_append, List.append_nil, ↓at_nodeW, List.drop_zero, List.take_succ_cons, List.take_zero, List.getElem?_cons_succ, List.getElem?_cons_zero, cells_agg, eqCells_cons, eqCells_nil, eq1_int, eq1_bool, eq1_str, ↓at_ptr_whole, ↓at_ptr_cell, ↓at_ptr_obj, ↓at_ptr_objs, shift_obj, shift_elt, toA_val, toA_own, Int.toNat_natCast, List.cons_append, prs_length, c0, prs_getD h1, c1', Bool.not_false, c2, c3', e1, ih2]
          · have c3' : Go.Op.bytesLess l[i].key to = true := c3
            rw [if_pos rfl]
            simp (disch := (first | assumption | (simp only [Bool.and_eq_true, Bool.and_eq_false_iff, decide_eq_true_eq, decide_eq_false_iff_not, bne_iff_ne, beq_iff_eq, beq_eq_false_iff_ne, bne_eq_false_iff_eq, Bool.not_eq_true', Bool.not_eq_false', bys_length, List.length_append, List.length_cons, List.length_nil, List.length_map, List.length_drop, List.length_take, Int.natCast_add, wrap_i64_eq, wrap_u64, wrap_u8, ne_eq, not_true_eq_false, not_false_eq_true, Nat.zero_add, Nat.mul_one] <;> omega) | omega | (simp; done) | (simp; omega))) only [↓at_runK, ↓at_bind, ↓contQ_mk, ↓at_ret, ↓at_consK, ↓at_nilK, ↓at_optK, ↓at_intK, ↓at_boolK, ↓at_strK, ↓at_slK, ↓at_slOK, ↓at_slK0, ↓at_slOK0, ↓at_aggK, ↓at_cond_t, ↓at_cond_f, ↓at_sameL, ↓at_any1, ↓at_any, and_self, toBytes_bys, List.nil_append, List.append_nil, ↓at_nodeW, List.drop_zero, List.take_succ_cons, List.take_zero, List.getElem?_cons_succ, List.getElem?_cons_zero, cells_agg, eqCells_cons, eqCells_nil, eq1_int, eq1_bool, eq1_str, ↓at_ptr_whole, ↓at_ptr_cell, ↓at_ptr_obj, ↓at_ptr_objs, shift_obj, shift_elt, toA_val, toA_own, Int.toNat_natCast, List.cons_append, prs_length, c0, prs_getD h1, c1', Bool.not_false, c2, c3', e1, ea, ih1]
        · unfold inTo
          rw [c2, Bool.true_or, if_pos rfl]
          simp (disch := (first | assumption | (simp only [Bool.and_eq_true, Bool.and_eq_false_iff, decide_eq_true_eq, decide_eq_false_iff_not, bne_iff_ne, beq_iff_eq, beq_eq_false_iff_ne, bne_eq_false_iff_eq, Bool.not_eq_true', Bool.not_eq_false', bys_length, List.length_append, List.length_cons, List.length_nil, List.length_map, List.length_drop, List.length_take, Int.natCast_add, wrap_i64_eq, wrap_u64, wrap_u8, ne_eq, not_true_eq_false, not_false_eq_true, Nat.zero_add, Nat.mul_one] <;> omega) | omega | (simp; done) | (simp; omega))) only [↓at_runK, ↓at_bind, ↓contQ_mk, ↓at_ret, ↓at_consK, ↓at_nilK, ↓at_optK, ↓at_intK, ↓at_boolK, ↓at_strK, ↓at_slK, ↓at_slOK, ↓at_slK0, ↓at_slOK0, ↓at_aggK, ↓at_cond_t, ↓at_cond_f, ↓at_sameL, ↓at_any1, ↓at_any, and_self, toBytes_bys, List.nil_append, List.append_nil, ↓at_nodeW, List.drop_zero, List.take_succ_cons, List.take_zero, List.getElem?_cons_succ, List.getElem?_cons_zero, cells_agg, eqCells_cons, eqCells_nil, eq1_int, eq1_bool, eq1_str, ↓at_ptr_whole, ↓at_ptr_cell, ↓at_ptr_obj, ↓at_ptr_objs, shift_obj, shift_elt, toA_val, toA_own, Int.toNat_natCast, List.cons_append, prs_length, c0, prs_getD h1, c1', Bool.not_false, c2, e1, ea, ih1]
      · have c1' : Go.Op.bytesLess l[i].key fr = true := c1
        simp only [Bool.not_true, Bool.false_and, Bool.false_eq_true, if_false]
        simp (disch := (first | assumption | (simp only [Bool.and_eq_true, Bool.and_eq_false_iff, decide_eq_true_eq, decide_eq_false_iff_not, bne_iff_ne, beq_iff_eq, beq_eq_false_iff_ne, bne_eq_false_iff_eq, Bool.not_eq_true', Bool.not_eq_false', bys_length, List.length_append, List.length_cons, List.length_nil, List.length_map, List.length_drop, List.length_take, Int.natCast_add, wrap_i64_eq, wrap_u64, wrap_u8, ne_eq, not_true_eq_false, not_false_eq_true, Nat.zero_add, Nat.mul_one] <;> omega) | omega | (simp; done) | (simp; omega))) only [↓at_runK, ↓at_bind, ↓contQ_mk, ↓at_ret, ↓at_consK, ↓at_nilK, ↓at_optK, ↓at_intK, ↓at_boolK, ↓at_strK, ↓at_slK, ↓at_slOK, ↓at_slK0, ↓at_slOK0, ↓at_aggK, ↓at_cond_t, ↓at_cond_f, ↓at_sameL, ↓at_any1, ↓at_any, and_self, toBytes_bys, List.nil_append, List.append_nil, ↓at_nodeW, List.drop_zero, List.take_succ_cons, List.take_zero, List.getElem?_cons_succ, List.getElem?_cons_zero, cells_agg, eqCells_cons, eqCells_nil, eq1_int, eq1_bool, eq1_str, ↓at_ptr_whole, ↓at_ptr_cell, ↓at_ptr_obj, ↓at_ptr_objs, shift_obj, shift_elt, toA_val, toA_own, Int.toNat_natCast, List.cons_append, prs_length, c0, prs_getD h1, c1', Bool.not_true, e1, ih2]
    · rw [if_neg c0]
      simp (disch := (first | assumption | (simp only [Bool.and_eq_true, Bool.and_eq_false_iff, decide_eq_true_eq, decide_eq_false_iff_not, bne_iff_ne, beq_iff_eq, beq_eq_false_iff_ne, bne_eq_false_iff_eq, Bool.not_eq_true', Bool.not_eq_false', bys_length, List.length_append, List.length_cons, List.length_nil, List.length_map, List.length_drop, List.length_take, Int.natCast_add, wrap_i64_eq, wrap_u64, wrap_u8, ne_eq, not_true_eq_false, not_false_eq_true, Nat.zero_add, Nat.mul_one] <;> omega) | omega | (simp; done) | (simp; omega))) only [↓at_runK, ↓at_bind, ↓contQ_mk, ↓at_ret, ↓at_consK, ↓at_nilK, ↓at_optK, ↓at_intK, ↓at_boolK, ↓at_strK, ↓at_slK, ↓at_slOK, ↓at_slK0, ↓at_slOK0, ↓at_aggK, ↓at_cond_t, ↓at_cond_f, ↓at_sameL, ↓at_any1, ↓at_any, and_self, toBytes_bys, List.nil_append, List.append_nil, ↓at_nodeW, List.drop_zero, List.take_succ_cons, List.take_zero, List.getElem?_cons_succ, List.getElem?_cons_zero, cells_agg, eqCells_cons, eqCells_nil, eq1_int, eq1_bool, eq1_str, ↓at_ptr_whole, ↓at_ptr_cell, ↓at_ptr_obj, ↓at_ptr_objs, shift_obj, shift_elt, toA_val, toA_own, Int.toNat_natCast, List.cons_append, prs_length, c0]
theorem rrange_run {d : Nat} {f : Bool} {l : List KPair} {fr to : List UInt8} {most : Int} {h : Heap} {Q : Res → Prop} {tg : Hid Q} (hl : l.length ≤ 1000000) :
    Run (evFn Cw (d + 1) 39 [.sl f 3 (prs l), .str fr, .str to, .int .i64 most] h) Q tg = Q ([.sl false 3 (prs (rngR fr to most l []))], h) := by
  rw [F39_eq]
  have := rrange_loop d f fr to most h l hl Q l.length 0 rounds [] ⟨⟩ (by simp) (by omega) (rounds_gt' (by omega))
  rw [e0, prs_nil] at this
  exact this

/-! ### A cursor at a place -/
def posW (l : List KPair) (n : Nat) : Int := if n = 0 then 0 else 1
def posK (l : List KPair) (n : Nat) : List UInt8 := if n = 0 then [] else oKey l[n - 1]?
theorem cut_at {l : List KPair} {n : Nat} (h : n < l.length) : l = l.take n ++ l[n] :: l.drop (n + 1) := by
  rw [← List.drop_eq_getElem_cons h, List.take_append_drop]
theorem next_at {l : List KPair} (hs : Srt l) {n : Nat} (hn : n ≤ l.length) : lseek (if posW l n = 1 then posK l n ++ [0] else []) l = l[n]? := by
  unfold posW posK
  by_cases h0 : n = 0
  · subst h0
    simp only [if_true]
    rw [if_neg (by decide), lseek_nil]
    cases l <;> rfl
  · obtain ⟨m, rfl⟩ : ∃ m, n = m + 1 := ⟨n - 1, by omega⟩
    have hm : m < l.length := by omega
    rw [if_neg h0, if_neg h0, if_pos rfl]
    have e1 : m + 1 - 1 = m := by omega
    rw [e1, List.getElem?_eq_getElem hm]
    have hc := cut_at hm
    have := lseek_succ (a := l.take m) (p := l[m]) (b := l.drop (m + 1)) (by rw [← hc]; exact hs)
    rw [← hc] at this
    show lseek (l[m].key ++ [0]) l = _
    rw [this, List.head?_drop]
theorem next_at' {l : List KPair} (hs : Srt l) {n : Nat} (hn : n < l.length) : lseek (l[n].key ++ [0]) l = l[n + 1]? := by
  have hc := cut_at hn
  have := lseek_succ (a := l.take n) (p := l[n]) (b := l.drop (n + 1)) (by rw [← hc]; exact hs)
  rw [← hc] at this
  rw [this, List.head?_drop]
theorem pred_at {l : List KPair} (hs : Srt l) {n : Nat} (hn : n < l.length) : lbelow l[n].key l = if n = 0 then none else l[n - 1]? := by
  have hc := cut_at hn
  have := lbelow_pred (a := l.take n) (p := l[n]) (b := l.drop (n + 1)) (by rw [← hc]; exact hs)
  rw [← hc] at this
  rw [this]
  by_cases h0 : n = 0
  · subst h0; simp
  · rw [if_neg h0, List.getLast?_eq_getElem?, List.length_take, Nat.min_eq_left (by omega), List.getElem?_take_of_lt (by omega)]
theorem get_at {l : List KPair} (hs : Srt l) {n : Nat} (hn : n < l.length) : lget l[n].key l = some l[n] := by
  have hc := cut_at hn
  have := lget_at (a := l.take n) (p := l[n]) (b := l.drop (n + 1)) (by rw [← hc]; exact hs)
  rw [← hc] at this
  exact this
theorem curTo_some (tp : AVal) (p : KPair) (e : Int) : curTo tp (some p) e = curO tp 1 p.key := rfl
theorem curTo_none (tp : AVal) (e : Int) : curTo tp none e = curO tp e [] := rfl
theorem isSome_some' (p : KPair) : (some p).isSome = true := rfl
theorem isSome_none' : (none : Option KPair).isSome = false := rfl
theorem crange_loop (d i ti : Nat) (to : List UInt8) (most : Int) (t : Nd) (ok : TOk' t) (hlk : ∀ p ∈ t.toL, p.key.length ≤ 140737488351232) (hti : ti ≠ i) : ∀ (n j k : Nat) (acc : List KPair) (h : Heap), t.toL.length = j + n → n < k → acc.length ≤ j →
    h.objs[i]? = some (curTo (.obj ti 0) t.toL[j]? 2) → h.objs[ti]? = some (trT t) → ∃ h', Heap.but h h' i ∧ ∀ (Q : Res → Prop) (tg : Hid Q),
      Run (P88_0 (d + 4) k to most (prs acc) (.obj i 0) t.toL[j]?.isSome h) Q tg = Q ([.sl false 3 (prs (rngC to most (t.toL.drop j) acc))], h') := by
  intro n
  induction n with
  | zero =>
    intro j k acc h hj hk ha hm ht
    obtain ⟨k, rfl⟩ : ∃ m, k = m + 1 := ⟨k - 1, by omega⟩
    have hd : t.toL.drop j = [] := List.drop_eq_nil_of_le (by omega)
    have hn : t.toL[j]? = none := List.getElem?_eq_none (by omega)
    refine ⟨h, ⟨Nat.le_refl _, fun _ _ _ => rfl⟩, fun Q tg => ?_⟩
    rw [P88_0_eq, hd, hn]
    simp (disch := (first | assumption | (simp only [Bool.and_eq_true, Bool.and_eq_false_iff, decide_eq_true_eq, decide_eq_false_iff_not, bne_iff_ne, beq_iff_eq, beq_eq_false_iff_ne, bne_eq_false_iff_eq, Bool.not_eq_true', Bool.not_eq_false', bys_length, List.length_append, List.length_cons, List.length_nil, List.length_map, List.length_drop, List.length_take, Int.natCast_add, wrap_i64_eq, wrap_u64, wrap_u8, ne_eq, not_true_eq_false, not_false_eq_true, Nat.zero_add, Nat.mul_one] <;> omega) | omega | (simp; done) | (simp; omega))) only [↓at_runK, ↓at_bind, ↓contQ_mk, ↓at_ret, ↓at_consK, ↓at_nilK, ↓at_optK, ↓at_intK, ↓at_boolK, ↓at_strK, ↓at_slK, ↓at_slOK, ↓at_slK0, ↓at_slOK0, ↓at_aggK, ↓at_cond_t, ↓at_cond_f, ↓at_sameL, ↓at_any1, ↓at_any, and_self, toBytes_bys, List.nil_append, List.append_nil, ↓at_nodeW, List.drop_zero, List.take_succ_cons, List.take_zero, List.getElem?_cons_succ, List.getElem?_cons_zero, cells_agg, eqCells_cons, eqCells_nil, eq1_int, eq1_bool, eq1_str, ↓at_ptr_whole, ↓at_ptr_cell, ↓at_ptr_obj, ↓at_ptr_objs, shift_obj, shift_elt, toA_val, toA_own, Int.toNat_natCast, List.cons_append, isSome_none']
    rfl
  | succ n ih =>
    intro j k acc h hj hk ha hm ht
    obtain ⟨k, rfl⟩ : ∃ m, k = m + 1 := ⟨k - 1, by omega⟩
    have hlen := ok.len
    have h1 : j < t.toL.length := by omega
    have hn : t.toL[j]? = some t.toL[j] := List.getElem?_eq_getElem h1
    rw [hn, curTo_some] at hm
    rw [hn, List.drop_eq_getElem_cons h1]
    unfold rngC
    have hg := get_at ok.srt h1
    have rp := fun (Q : Res → Prop) (tg : Hid Q) => cpair_run (d := d) (Q := Q) (tg := tg) ok hm ht
    rw [hg] at rp
    simp only [isSome_some', and_self, if_true] at rp
    have ev : oVal (some t.toL[j]) = t.toL[j].val := rfl
    rw [ev] at rp
    by_cases c0 : (acc.length : Int) < most
    · have rn := fun (Q : Res → Prop) (tg : Hid Q) => cnext_run (d := d + 1) (Q := Q) (tg := tg) ok hm ht (by decide) (hlk _ (List.getElem_mem h1))
      have en := next_at' ok.srt h1
      simp only [if_true] at rn
      rw [en] at rn
      have ea : prs acc ++ [.agg [.str t.toL[j].key, .str t.toL[j].val]] = prs (acc ++ [t.toL[j]]) := prs_snoc acc t.toL[j].key t.toL[j].val
      obtain ⟨h', E, r⟩ := ih (j + 1) k (acc ++ [t.toL[j]]) (h.put i (curTo (.obj ti 0) t.toL[j + 1]? 2)) (by omega) (by omega) (by simp; omega) (Heap.put_get hm) (by rw [Heap.put_ne (Ne.symm hti)]; exact ht)
      rw [if_pos c0]
      have E' : Heap.but h h' i := ⟨by have := E.len; rw [Heap.put_len] at this; exact this, fun q hq hl => by rw [E.old q hq (by rw [Heap.put_len]; exact hl), Heap.put_ne (Ne.symm hq)]⟩
      cases c2 : (to == [])
      · unfold inTo
        rw [c2, Bool.false_or]
        cases c3 : blt t.toL[j].key to
        · have c3' : Go.Op.bytesLess t.toL[j].key to = false := c3
          refine ⟨h, ⟨Nat.le_refl _, fun _ _ _ => rfl⟩, fun Q tg => ?_⟩
          rw [P88_0_eq, if_neg (by simp)]
          simp (disch := (first | assumption | (simp only [Bool.and_eq_true, Bool.and_eq_false_iff, decide_eq_true_eq, decide_eq_false_iff_not, bne_iff_ne, beq_iff_eq, beq_eq_false_iff_ne, bne_eq_false_iff_eq, Bool.not_eq_true', Bool.not_eq_false', bys_length, List.length_append, List.length_cons, List.length_nil, List.length_map, List.length_drop, List.length_take, Int.natCast_add, wrap_i64_eq, wrap_u64, wrap_u8, ne_eq, not_true_eq_false, not_false_eq_true, Nat.zero_add, Nat.mul_one] <;> omega) | omega | (simp; done) | (simp; omega))) only [↓at_runK, ↓at_bind, ↓contQ_mk, ↓at_ret, ↓at_consK, ↓at_nilK, ↓at_optK, ↓at_intK, ↓at_boolK, ↓at_strK, ↓at_slK, ↓at_slOK, ↓at_slK0, ↓at_slOK0, ↓at_aggK, ↓at_cond_t, ↓at_cond_f, ↓at_sameL, ↓at_any1, ↓at_any, and_self, toBytes_bys, List.nil_append, List.append_nil, ↓at_nodeW, List.drop_zero, List.take_succ_cons, List.take_zero, List.getElem?_cons_succ, List.getElem?_cons_zero, cells_agg, eqCells_cons, eqCells_nil, eq1_int, eq1_bool, eq1_str, ↓at_ptr_whole, ↓at_ptr_cell, ↓at_ptr_obj, ↓at_ptr_objs, shift_obj, shift_elt, toA_val, toA_own, Int.toNat_natCast, List.cons_append, isSome_some', prs_length, c0, rp, c2, Bool.not_false, c3']
        · have c3' : Go.Op.bytesLess t.toL[j].key to = true := c3
          refine ⟨h', E', fun Q tg => ?_⟩
          rw [P88_0_eq, if_pos rfl]
          simp (disch := (first | assumption | (simp only [Bool.and_eq_true, Bool.and_eq_false_iff, decide_eq_true_eq, decide_eq_false_iff_not, bne_iff_ne, beq_iff_eq, beq_eq_false_iff_ne, bne_eq_false_iff_eq, Bool.not_eq_true', Bool.not_eq_false', bys_length, List.length_append, List.length_cons, List.length_nil, List.length_map, List.length_drop, List.length_take, Int.natCast_add, wrap_i64_eq, wrap_u64, wrap_u8, ne_eq, not_true_eq_false, not_false_eq_true, Nat.zero_add, Nat.mul_one] <;> omega) | omega | (simp; done) | (simp; omega))) only [↓at_runK, ↓at_bind, ↓contQ_mk, ↓at_ret, ↓at_consK, ↓at_nilK, ↓at_optK, ↓at_intK, ↓at_boolK, ↓at_strK, ↓at_slK, ↓at_slOK, ↓at_slK0, ↓at_slOK0, ↓at_aggK, ↓at_cond_t, ↓at_cond_f, ↓at_sameL, ↓at_any1, ↓at_any, and_self, toBytes_bys, List.nil_append, List.append_nil, ↓at_nodeW, List.drop_zero, List.take_succ_cons, List.take_zero, List.getElem?_cons_succ, List.getElem?_cons_zero, cells_agg, eqCells_cons, eqCells_nil, eq1_int, eq1_bool, eq1_str, ↓at_ptr_whole, ↓at_ptr_cell, ↓at_ptr_obj, ↓at_ptr_objs, shift_obj, shift_elt, toA_val, toA_own, Int.toNat_natCast, List.cons_append, isSome_some', prs_length, c0, rp, c2, Bool.not_false, c3', Bool.not_true, ea, rn, r]
      · unfold inTo
        rw [c2, Bool.true_or, if_pos rfl]
        refine ⟨h', E', fun Q tg => ?_⟩
        rw [P88_0_eq]
        simp (disch := (first | assumption | (simp only [Bool.and_eq_true, Bool.and_eq_false_iff, decide_eq_true_eq, decide_eq_false_iff_not, bne_iff_ne, beq_iff_eq, beq_eq_false_iff_ne, bne_eq_false_iff_eq, Bool.not_eq_true', Bool.not_eq_false', bys_length, List.length_append, List.length_cons, List.length_nil, List.length_map, List.length_drop, List.length_take, Int.natCast_add, wrap_i64_eq, wrap_u64, wrap_u8, ne_eq, not_true_eq_false, not_false_eq_true, Nat.zero_add, Nat.mul_one] <;> omega) | omega | (simp; done) | (simp; omega))) only [↓at_runK, ↓at_bind, ↓contQ_mk, ↓at_ret, ↓at_consK, ↓at_nilK, ↓at_optK, ↓at_intK, ↓at_boolK, ↓at_strK, ↓at_slK, ↓at_slOK, ↓at_slK0, ↓at_slOK0, ↓at_aggK, ↓at_cond_t, ↓at_cond_f, ↓at_sameL, ↓at_any1, ↓at_any, and_self, toBytes_bys, List.nil_append, List.append_nil, ↓at_nodeW, List.drop_zero, List.take_succ_cons, List.take_zero, List.getElem?_cons_succ, List.getElem?_cons_zero, cells_agg, eqCells_cons, eqCells_nil, eq1_int, eq1_bool, eq1_str, ↓at_ptr_whole, ↓at_ptr_cell, ↓at_ptr_obj, ↓at_ptr_objs, shift_obj, shift_elt, toA_val, toA_own, Int.toNat_natCast, List.cons_append, isSome_some', prs_length, c0, rp, c2, Bool.not_true, ea, rn, r]
    · rw [if_neg c0]
      refine ⟨h, ⟨Nat.le_refl _, fun _ _ _ => rfl⟩, fun Q tg => ?_⟩
      rw [P88_0_eq]
      simp (disch := (first | assumption | (simp only [Bool.and_eq_true, Bool.and_eq_false_iff, decide_eq_true_eq, decide_eq_false_iff_not, bne_iff_ne, beq_iff_eq, beq_eq_false_iff_ne, bne_eq_false_iff_eq, Bool.not_eq_true', Bool.not_eq_false', bys_length, List.length_append, List.length_cons, List.length_nil, List.length_map, List.length_drop, List.length_take, Int.natCast_add, wrap_i64_eq, wrap_u64, wrap_u8, ne_eq, not_true_eq_false, not_false_eq_true, Nat.zero_add, Nat.mul_one] <;> omega) | omega | (simp; done) | (simp; omega))) only [↓at_runK, ↓at_bind, ↓contQ_mk, ↓at_ret, ↓at_consK, ↓at_nilK, ↓at_optK, ↓at_intK, ↓at_boolK, ↓at_strK, ↓at_slK, ↓at_slOK, ↓at_slK0, ↓at_slOK0, ↓at_aggK, ↓at_cond_t, ↓at_cond_f, ↓at_sameL, ↓at_any1, ↓at_any, and_self, toBytes_bys, List.nil_append, List.append_nil, ↓at_nodeW, List.drop_zero, List.take_succ_cons, List.take_zero, List.getElem?_cons_succ, List.getElem?_cons_zero, cells_agg, eqCells_cons, eqCells_nil, eq1_int, eq1_bool, eq1_str, ↓at_ptr_whole, ↓at_ptr_cell, ↓at_ptr_obj, ↓at_ptr_objs, shift_obj, shift_elt, toA_val, toA_own, Int.toNat_natCast, List.cons_append, isSome_some', prs_length, c0]
theorem crange_run (d ti : Nat) (fr to : List UInt8) (most : Int) (t : Nd) (ok : TOk' t) (hlk : ∀ p ∈ t.toL, p.key.length ≤ 140737488351232) (h : Heap) (ht : h.objs[ti]? = some (trT t)) :
    ∃ h', h.ext h' ∧ ∀ (Q : Res → Prop) (tg : Hid Q), Run (evFn Cw (d + 5) 88 [.obj ti 0, .str fr, .str to, .int .i64 most] h) Q tg = Q ([.sl false 3 (prs (rngR fr to most t.toL []))], h') := by
  have hlt := Heap.lt_of ht
  have hlen := ok.len
  obtain ⟨a, b, e, ha, hb⟩ := split_at fr ok.srt
  have hbs : Srt b := by have := ok.srt; rw [e] at this; exact (List.pairwise_append.1 this).2.1
  have er : rngR fr to most t.toL [] = rngC to most (t.toL.drop a.length) [] := by
    have : t.toL.drop a.length = b := by rw [e]; simp
    rw [this, ← rngR_in hbs hb]
    conv => lhs; rw [e]
    exact rngR_skip ha
  have es : lseek fr t.toL = t.toL[a.length]? := by
    rw [e, lseek_skip ha, List.getElem?_append_right (Nat.le_refl _), Nat.sub_self]
    cases b with
    | nil => rfl
    | cons p b => rw [lseek_cons, if_neg (by rw [hb p List.mem_cons_self]; simp)]; rfl
  have E1 := Heap.ext.push h (curO (.obj ti 0) 0 [])
  have m1 := Heap.push_new h (curO (.obj ti 0) 0 [])
  have rs := fun (Q : Res → Prop) (tg : Hid Q) => cseek_run (d := d + 1) (s := fr) (Q := Q) (tg := tg) ok m1 (E1.get ht)
  rw [es] at rs
  have hal : a.length ≤ t.toL.length := by rw [e]; simp
  obtain ⟨h', E, r⟩ := crange_loop d h.objs.length ti to most t ok hlk (by omega) (t.toL.length - a.length) a.length rounds [] ((h.push (curO (.obj ti 0) 0 [])).put h.objs.length (curTo (.obj ti 0) t.toL[a.length]? 2)) (by omega) (rounds_gt' (by omega)) (by simp) (Heap.put_get m1) (by rw [Heap.put_ne (by omega)]; exact E1.get ht)
  refine ⟨h', ⟨?_, fun j hj => ?_⟩, fun Q tg => ?_⟩
  · have := E.len; rw [Heap.put_len, Heap.push_len] at this; omega
  · rw [E.old j (by omega) (by rw [Heap.put_len, Heap.push_len]; omega), Heap.put_ne (by omega), Heap.push_old hj]
  · rw [prs_nil] at r
    rw [F88_eq, er]
    simp (disch := (first | assumption | (simp only [Bool.and_eq_true, Bool.and_eq_false_iff, decide_eq_true_eq, decide_eq_false_iff_not, bne_iff_ne, beq_iff_eq, beq_eq_false_iff_ne, bne_eq_false_iff_eq, Bool.not_eq_true', Bool.not_eq_false', bys_length, List.length_append, List.length_cons, List.length_nil, List.length_map, List.length_drop, List.length_take, Int.natCast_add, wrap_i64_eq, wrap_u64, wrap_u8, ne_eq, not_true_eq_false, not_false_eq_true, Nat.zero_add, Nat.mul_one] <;> omega) | omega | (simp; done) | (simp; omega))) only [↓at_runK, ↓at_bind, ↓contQ_mk, ↓at_ret, ↓at_consK, ↓at_nilK, ↓at_optK, ↓at_intK, ↓at_boolK, ↓at_strK, ↓at_slK, ↓at_slOK, ↓at_slK0, ↓at_slOK0, ↓at_aggK, ↓at_cond_t, ↓at_cond_f, ↓at_sameL, ↓at_any1, ↓at_any, and_self, toBytes_bys, List.nil_append, List.append_nil, ↓at_nodeW, List.drop_zero, List.take_succ_cons, List.take_zero, List.getElem?_cons_succ, List.getElem?_cons_zero, cells_agg, eqCells_cons, eqCells_nil, eq1_int, eq1_bool, eq1_str, ↓at_ptr_whole, ↓at_ptr_cell, ↓at_ptr_obj, ↓at_ptr_objs, shift_obj, shift_elt, toA_val, toA_own, Int.toNat_natCast, List.cons_append, cnew_run, rs, r]
end Go.Proofs.Ytdlcjibefbnckaa.Wa
