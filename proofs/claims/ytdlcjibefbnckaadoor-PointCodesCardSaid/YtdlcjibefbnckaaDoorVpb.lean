/- Points: coded. -/
import Derived.Test.YtdlcjibefbnckaaDoorVpa
namespace Go.Proofs.YtdlcjibefbnckaaDoor.Wa
open Go Go.Weave
set_option maxRecDepth 100000
set_option linter.unusedSimpArgs false
set_option linter.unusedVariables false
set_option linter.unusedSectionVars false

def numF (b : List UInt8) : Nat × List UInt8 × Nat :=
  if (getF b 0 0).2.2 ≠ 0 then (0, [], (getF b 0 0).2.2) else if 2147483647 < (getF b 0 0).1 then (0, [], 4) else ((getF b 0 0).1, b.drop (getF b 0 0).2.1, 0)
def decP (b : List UInt8) : (Nat × Nat × Nat) × Nat :=
  if (numF b).2.2 ≠ 0 then ((0, 0, 0), (numF b).2.2) else if (numF (numF b).2.1).2.2 ≠ 0 then ((0, 0, 0), (numF (numF b).2.1).2.2)
  else if (numF (numF b).2.1).2.1.length < 4 then ((0, 0, 0), 1) else if 4 < (numF (numF b).2.1).2.1.length then ((0, 0, 0), 2)
  else (((numF b).1, (numF (numF b).2.1).1, get4 (numF (numF b).2.1).2.1), 0)
theorem getF_err (b : List UInt8) : (getF b 0 0).2.2 ≤ 4 ∧ ((getF b 0 0).2.2 ≠ 0 → getF b 0 0 = (0, 0, (getF b 0 0).2.2)) ∧ ((getF b 0 0).2.2 = 0 → (getF b 0 0).2.1 ≤ b.length ∧ (getF b 0 0).1 < 18446744073709551616) := by
  rcases getF_spec0 b with ⟨m, h1, h2, h3, h4⟩ | ⟨e, h1, he⟩
  · rw [h1]; exact ⟨by simp, fun h => absurd rfl h, fun _ => ⟨h3, h4⟩⟩
  · rw [h1]
    refine ⟨?_, fun _ => rfl, fun h => ?_⟩
    · simp only; omega
    · simp only at h; omega
theorem numF_len (b : List UInt8) : (numF b).2.1.length ≤ b.length ∧ (numF b).1 ≤ 2147483647 := by
  unfold numF
  split
  · simp
  · split
    · simp
    · simp; omega
theorem number_run {d : Nat} {f : Bool} {b : List UInt8} {h : Heap} (hb : b.length ≤ 140737488351232) : ∃ fl, ∀ (Q : Res → Prop) (tg : Hid Q),
    Run (evFn Cw (d + 2) 18 [.sl f 0 (bys b)] h) Q tg = Q ([.int .i64 (numF b).1, .sl fl 0 (bys (numF b).2.1), .int .i64 (numF b).2.2], h) := by
  obtain ⟨g1, g2, g3⟩ := getF_err b
  have r := fun (Q : Res → Prop) (tg : Hid Q) => get_run (d := d) (f := f) (l := b) (h := h) (Q := Q) (tg := tg) (by omega)
  by_cases c : (getF b 0 0).2.2 = 0
  · obtain ⟨g4, g5⟩ := g3 c
    have c' : ((((getF b 0 0).2.2 : Nat) : Int) != 0) = false := by simp [c]
    by_cases c2 : 2147483647 < (getF b 0 0).1
    · refine ⟨true, fun Q tg => ?_⟩
      have e : numF b = (0, [], 4) := by unfold numF; rw [if_neg (by simp [c]), if_pos c2]
      rw [F18_eq, e]
      simp (disch := (first | assumption | (simp only [Bool.and_eq_true, Bool.and_eq_false_iff, decide_eq_true_eq, decide_eq_false_iff_not, bne_iff_ne, beq_iff_eq, beq_eq_false_iff_ne, bne_eq_false_iff_eq, Bool.not_eq_true', Bool.not_eq_false', bys_length, List.length_append, List.length_cons, List.length_nil, List.length_map, List.length_drop, List.length_take, Int.natCast_add, wrap_i64_eq, wrap_u64, wrap_u8, ne_eq, not_true_eq_false, not_false_eq_true, Nat.zero_add, Nat.mul_one] <;> omega) | omega | (simp; done) | (simp; omega))) only [↓at_runK, ↓at_bind, ↓contQ_mk, ↓at_ret, ↓at_consK, ↓at_nilK, ↓at_optK, ↓at_intK, ↓at_boolK, ↓at_strK, ↓at_slK, ↓at_slOK, ↓at_slK0, ↓at_slOK0, ↓at_aggK, ↓at_cond_t, ↓at_cond_f, ↓at_sameL, ↓at_any1, ↓at_any, and_self, toBytes_bys, List.nil_append, List.append_nil, ↓at_nodeW, List.drop_zero, List.take_succ_cons, List.take_zero, List.getElem?_cons_succ, List.getElem?_cons_zero, cells_agg, eqCells_cons, eqCells_nil, eq1_int, eq1_bool, eq1_str, ↓at_ptr_whole, ↓at_ptr_cell, ↓at_ptr_obj, ↓at_ptr_objs, shift_obj, shift_elt, toA_val, toA_own, Int.toNat_natCast, List.cons_append, r, c', bys_nil]
      rfl
    · refine ⟨f, fun Q tg => ?_⟩
      have e : numF b = ((getF b 0 0).1, b.drop (getF b 0 0).2.1, 0) := by unfold numF; rw [if_neg (by simp [c]), if_neg c2]
      have w : IntKind.i64.wrap ((getF b 0 0).1 : Int) = ((getF b 0 0).1 : Int) := wrap_i64_id (by omega) (by omega)
      rw [F18_eq, e]
      simp (disch := (first | assumption | (simp only [Bool.and_eq_true, Bool.and_eq_false_iff, decide_eq_true_eq, decide_eq_false_iff_not, bne_iff_ne, beq_iff_eq, beq_eq_false_iff_ne, bne_eq_false_iff_eq, Bool.not_eq_true', Bool.not_eq_false', bys_length, List.length_append, List.length_cons, List.length_nil, List.length_map, List.length_drop, List.length_take, Int.natCast_add, wrap_i64_eq, wrap_u64, wrap_u8, ne_eq, not_true_eq_false, not_false_eq_true, Nat.zero_add, Nat.mul_one] <;> omega) | omega | (simp; done) | (simp; omega))) only [↓at_runK, ↓at_bind, ↓contQ_mk, ↓at_ret, ↓at_consK, ↓at_nilK, ↓at_optK, ↓at_intK, ↓at_boolK, ↓at_strK, ↓at_slK, ↓at_slOK, ↓at_slK0, ↓at_slOK0, ↓at_aggK, ↓at_cond_t, ↓at_cond_f, ↓at_sameL, ↓at_any1, ↓at_any, and_self, toBytes_bys, List.nil_append, List.append_nil, ↓at_nodeW, List.drop_zero, List.take_succ_cons, List.take_zero, List.getElem?_cons_succ, List.getElem?_cons_zero, cells_agg, eqCells_cons, eqCells_nil, eq1_int, eq1_bool, eq1_str, ↓at_ptr_whole, ↓at_ptr_cell, ↓at_ptr_obj, ↓at_ptr_objs, shift_obj, shift_elt, toA_val, toA_own, Int.toNat_natCast, List.cons_append, r, c', bys_length, w]
      have hp := part_drop (l := b) (k := (getF b 0 0).2.1)
      rw [bys_length] at hp
      rw [hp]; rfl
  · refine ⟨true, fun Q tg => ?_⟩
    have c' : ((((getF b 0 0).2.2 : Nat) : Int) != 0) = true := by simp; exact c
    have e : numF b = (0, [], (getF b 0 0).2.2) := by unfold numF; rw [if_pos c]
    rw [F18_eq, e]
    simp (disch := (first | assumption | (simp only [Bool.and_eq_true, Bool.and_eq_false_iff, decide_eq_true_eq, decide_eq_false_iff_not, bne_iff_ne, beq_iff_eq, beq_eq_false_iff_ne, bne_eq_false_iff_eq, Bool.not_eq_true', Bool.not_eq_false', bys_length, List.length_append, List.length_cons, List.length_nil, List.length_map, List.length_drop, List.length_take, Int.natCast_add, wrap_i64_eq, wrap_u64, wrap_u8, ne_eq, not_true_eq_false, not_false_eq_true, Nat.zero_add, Nat.mul_one] <;> omega) | omega | (simp; done) | (simp; omega))) only [↓at_runK, ↓at_bind, ↓contQ_mk, ↓at_ret, ↓at_consK, ↓at_nilK, ↓at_optK, ↓at_intK, ↓at_boolK, ↓at_strK, ↓at_slK, ↓at_slOK, ↓at_slK0, ↓at_slOK0, ↓at_aggK, ↓at_cond_t, ↓at_cond_f, ↓at_sameL, ↓at_any1, ↓at_any, and_self, toBytes_bys, List.nil_append, List.append_nil, ↓at_nodeW, List.drop_zero, List.take_succ_cons, List.take_zero, List.getElem?_cons_succ, List.getElem?_cons_zero, cells_agg, eqCells_cons, eqCells_nil, eq1_int, eq1_bool, eq1_str, ↓at_ptr_whole, ↓at_ptr_cell, ↓at_ptr_obj, ↓at_ptr_objs, shift_obj, shift_elt, toA_val, toA_own, Int.toNat_natCast, List.cons_append, r, c', bys_nil]
    rfl
theorem numF_errle (b : List UInt8) : (numF b).2.2 ≤ 4 := by
  have := (getF_err b).1
  unfold numF
  split
  · exact this
  · split <;> simp
def ptA (x : (Nat × Nat × Nat)) : AVal := .agg [.int .i64 x.1, .int .i64 x.2.1, .int .u32 x.2.2]
theorem u32_id {n : Nat} (h : n < 4294967296) : IntKind.u32.wrap (n : Int) = (n : Int) := by
  simp [IntKind.wrap, IntKind.bits, IntKind.signed]; omega
theorem pdec_run {d : Nat} {f : Bool} {b : List UInt8} {h : Heap} (hb : b.length ≤ 140737488351232) (Q : Res → Prop) (tg : Hid Q) :
    Run (evFn Cw (d + 3) 6 [.sl f 0 (bys b)] h) Q tg = Q ([ptA (decP b).1, .int .i64 (decP b).2], h) := by
  obtain ⟨fl, r⟩ := number_run (d := d) (f := f) (h := h) hb
  have hl := numF_len b
  obtain ⟨fl2, r2⟩ := number_run (d := d) (f := fl) (h := h) (b := (numF b).2.1) (by omega)
  rw [F6_eq]
  by_cases c : (numF b).2.2 = 0
  · have c' : ((((numF b).2.2 : Nat) : Int) != 0) = false := by simp [c]
    by_cases c2 : (numF (numF b).2.1).2.2 = 0
    · have c2' : ((((numF (numF b).2.1).2.2 : Nat) : Int) != 0) = false := by simp [c2]
      by_cases c3 : (numF (numF b).2.1).2.1.length < 4
      · have e : decP b = ((0, 0, 0), 1) := by unfold decP; rw [if_neg (by simp [c]), if_neg (by simp [c2]), if_pos c3]
        rw [e]
        simp (disch := (first | assumption | (simp only [Bool.and_eq_true, Bool.and_eq_false_iff, decide_eq_true_eq, decide_eq_false_iff_not, bne_iff_ne, beq_iff_eq, beq_eq_false_iff_ne, bne_eq_false_iff_eq, Bool.not_eq_true', Bool.not_eq_false', bys_length, List.length_append, List.length_cons, List.length_nil, List.length_map, List.length_drop, List.length_take, Int.natCast_add, wrap_i64_eq, wrap_u64, wrap_u8, ne_eq, not_true_eq_false, not_false_eq_true, Nat.zero_add, Nat.mul_one] <;> omega) | omega | (simp; done) | (simp; omega))) only [↓at_runK, ↓at_bind, ↓contQ_mk, ↓at_ret, ↓at_consK, ↓at_nilK, ↓at_optK, ↓at_intK, ↓at_boolK, ↓at_strK, ↓at_slK, ↓at_slOK, ↓at_slK0, ↓at_slOK0, ↓at_aggK, ↓at_cond_t, ↓at_cond_f, ↓at_sameL, ↓at_any1, ↓at_any, and_self, toBytes_bys, List.nil_append, List.append_nil, ↓at_nodeW, List.drop_zero, List.take_succ_cons, List.take_zero, List.getElem?_cons_succ, List.getElem?_cons_zero, cells_agg, eqCells_cons, eqCells_nil, eq1_int, eq1_bool, eq1_str, ↓at_ptr_whole, ↓at_ptr_cell, ↓at_ptr_obj, ↓at_ptr_objs, shift_obj, shift_elt, toA_val, toA_own, Int.toNat_natCast, List.cons_append, r, c', r2, c2', bys_length]
        rfl
      · by_cases c4 : 4 < (numF (numF b).2.1).2.1.length
        · have e : decP b = ((0, 0, 0), 2) := by unfold decP; rw [if_neg (by simp [c]), if_neg (by simp [c2]), if_neg c3, if_pos c4]
          rw [e]
          simp (disch := (first | assumption | (simp only [Bool.and_eq_true, Bool.and_eq_false_iff, decide_eq_true_eq, decide_eq_false_iff_not, bne_iff_ne, beq_iff_eq, beq_eq_false_iff_ne, bne_eq_false_iff_eq, Bool.not_eq_true', Bool.not_eq_false', bys_length, List.length_append, List.length_cons, List.length_nil, List.length_map, List.length_drop, List.length_take, Int.natCast_add, wrap_i64_eq, wrap_u64, wrap_u8, ne_eq, not_true_eq_false, not_false_eq_true, Nat.zero_add, Nat.mul_one] <;> omega) | omega | (simp; done) | (simp; omega))) only [↓at_runK, ↓at_bind, ↓contQ_mk, ↓at_ret, ↓at_consK, ↓at_nilK, ↓at_optK, ↓at_intK, ↓at_boolK, ↓at_strK, ↓at_slK, ↓at_slOK, ↓at_slK0, ↓at_slOK0, ↓at_aggK, ↓at_cond_t, ↓at_cond_f, ↓at_sameL, ↓at_any1, ↓at_any, and_self, toBytes_bys, List.nil_append, List.append_nil, ↓at_nodeW, List.drop_zero, List.take_succ_cons, List.take_zero, List.getElem?_cons_succ, List.getElem?_cons_zero, cells_agg, eqCells_cons, eqCells_nil, eq1_int, eq1_bool, eq1_str, ↓at_ptr_whole, ↓at_ptr_cell, ↓at_ptr_obj, ↓at_ptr_objs, shift_obj, shift_elt, toA_val, toA_own, Int.toNat_natCast, List.cons_append, r, c', r2, c2', bys_length]
          rfl
        · have e : decP b = (((numF b).1, (numF (numF b).2.1).1, get4 (numF (numF b).2.1).2.1), 0) := by unfold decP; rw [if_neg (by simp [c]), if_neg (by simp [c2]), if_neg c3, if_neg c4]
          have w := u32_id (get4_lt (numF (numF b).2.1).2.1)
          have rg := fun (Q : Res → Prop) (tg : Hid Q) => wget_run (d := d + 1) (f := fl2) (l := (numF (numF b).2.1).2.1) (by omega) (h := h) (Q := Q) (tg := tg)
          rw [e]
          simp (disch := (first | assumption | (simp only [Bool.and_eq_true, Bool.and_eq_false_iff, decide_eq_true_eq, decide_eq_false_iff_not, bne_iff_ne, beq_iff_eq, beq_eq_false_iff_ne, bne_eq_false_iff_eq, Bool.not_eq_true', Bool.not_eq_false', bys_length, List.length_append, List.length_cons, List.length_nil, List.length_map, List.length_drop, List.length_take, Int.natCast_add, wrap_i64_eq, wrap_u64, wrap_u8, ne_eq, not_true_eq_false, not_false_eq_true, Nat.zero_add, Nat.mul_one] <;> omega) | omega | (simp; done) | (simp; omega))) only [↓at_runK, ↓at_bind, ↓contQ_mk, ↓at_ret, ↓at_consK, ↓at_nilK, ↓at_optK, ↓at_intK, ↓at_boolK, ↓at_strK, ↓at_slK, ↓at_slOK, ↓at_slK0, ↓at_slOK0, ↓at_aggK, ↓at_cond_t, ↓at_cond_f, ↓at_sameL, ↓at_any1, ↓at_any, and_self, toBytes_bys, List.nil_append, List.append_nil, ↓at_nodeW, List.drop_zero, List.take_succ_cons, List.take_zero, List.getElem?_cons_succ, List.getElem?_cons_zero, cells_agg, eqCells_cons, eqCells_nil, eq1_int, eq1_bool, eq1_str, ↓at_ptr_whole, ↓at_ptr_cell, ↓at_ptr_obj, ↓at_ptr_objs, shift_obj, shift_elt, toA_val, toA_own, Int.toNat_natCast, List.cons_append, r, c', r2, c2', bys_length, rg, w]
          rfl
    · have c2' : ((((numF (numF b).2.1).2.2 : Nat) : Int) != 0) = true := by simp; exact c2
      have e : decP b = ((0, 0, 0), (numF (numF b).2.1).2.2) := by unfold decP; rw [if_neg (by simp [c]), if_pos c2]
      rw [e]
      simp (disch := (first | assumption | (simp only [Bool.and_eq_true, Bool.and_eq_false_iff, decide_eq_true_eq, decide_eq_false_iff_not, bne_iff_ne, beq_iff_eq, beq_eq_false_iff_ne, bne_eq_false_iff_eq, Bool.not_eq_true', Bool.not_eq_false', bys_length, List.length_append, List.length_cons, List.length_nil, List.length_map, List.length_drop, List.length_take, Int.natCast_add, wrap_i64_eq, wrap_u64, wrap_u8, ne_eq, not_true_eq_false, not_false_eq_true, Nat.zero_add, Nat.mul_one] <;> omega) | omega | (simp; done) | (simp; omega))) only [↓at_runK, ↓at_bind, ↓contQ_mk, ↓at_ret, ↓at_consK, ↓at_nilK, ↓at_optK, ↓at_intK, ↓at_boolK, ↓at_strK, ↓at_slK, ↓at_slOK, ↓at_slK0, ↓at_slOK0, ↓at_aggK, ↓at_cond_t, ↓at_cond_f, ↓at_sameL, ↓at_any1, ↓at_any, and_self, toBytes_bys, List.nil_append, List.append_nil, ↓at_nodeW, List.drop_zero, List.take_succ_cons, List.take_zero, List.getElem?_cons_succ, List.getElem?_cons_zero, cells_agg, eqCells_cons, eqCells_nil, eq1_int, eq1_bool, eq1_str, ↓at_ptr_whole, ↓at_ptr_cell, ↓at_ptr_obj, ↓at_ptr_objs, shift_obj, shift_elt, toA_val, toA_own, Int.toNat_natCast, List.cons_append, r, c', r2, c2']
      rfl
  · have c' : ((((numF b).2.2 : Nat) : Int) != 0) = true := by simp; exact c
    have e : decP b = ((0, 0, 0), (numF b).2.2) := by unfold decP; rw [if_pos c]
    rw [e]
    simp (disch := (first | assumption | (simp only [Bool.and_eq_true, Bool.and_eq_false_iff, decide_eq_true_eq, decide_eq_false_iff_not, bne_iff_ne, beq_iff_eq, beq_eq_false_iff_ne, bne_eq_false_iff_eq, Bool.not_eq_true', Bool.not_eq_false', bys_length, List.length_append, List.length_cons, List.length_nil, List.length_map, List.length_drop, List.length_take, Int.natCast_add, wrap_i64_eq, wrap_u64, wrap_u8, ne_eq, not_true_eq_false, not_false_eq_true, Nat.zero_add, Nat.mul_one] <;> omega) | omega | (simp; done) | (simp; omega))) only [↓at_runK, ↓at_bind, ↓contQ_mk, ↓at_ret, ↓at_consK, ↓at_nilK, ↓at_optK, ↓at_intK, ↓at_boolK, ↓at_strK, ↓at_slK, ↓at_slOK, ↓at_slK0, ↓at_slOK0, ↓at_aggK, ↓at_cond_t, ↓at_cond_f, ↓at_sameL, ↓at_any1, ↓at_any, and_self, toBytes_bys, List.nil_append, List.append_nil, ↓at_nodeW, List.drop_zero, List.take_succ_cons, List.take_zero, List.getElem?_cons_succ, List.getElem?_cons_zero, cells_agg, eqCells_cons, eqCells_nil, eq1_int, eq1_bool, eq1_str, ↓at_ptr_whole, ↓at_ptr_cell, ↓at_ptr_obj, ↓at_ptr_objs, shift_obj, shift_elt, toA_val, toA_own, Int.toNat_natCast, List.cons_append, r, c']
    rfl
theorem rpdec_run {d : Nat} {f : Bool} {b : List UInt8} {h : Heap} (hb : b.length ≤ 140737488351232) (Q : Res → Prop) (tg : Hid Q) :
    Run (evFn Cw (d + 3) 7 [.sl f 0 (bys b)] h) Q tg = Q ([ptA (decP b).1, .int .i64 (decP b).2], h) := by
  obtain ⟨g1, g2, g3⟩ := getF_err b
  have r := fun (Q : Res → Prop) (tg : Hid Q) => rget_run (d := d + 1) (f := f) (l := b) (h := h) (Q := Q) (tg := tg) (by omega)
  rw [F7_eq]
  by_cases c : (getF b 0 0).2.2 = 0
  · obtain ⟨g4, g5⟩ := g3 c
    have c' : ((((getF b 0 0).2.2 : Nat) : Int) != 0) = false := by simp [c]
    by_cases c1 : 2147483647 < (getF b 0 0).1
    · have n1 : numF b = (0, [], 4) := by unfold numF; rw [if_neg (by simp [c]), if_pos c1]
      have e : decP b = ((0, 0, 0), 4) := by unfold decP; rw [n1, if_pos (by decide)]
      rw [e]
      simp (disch := (first | assumption | (simp only [Bool.and_eq_true, Bool.and_eq_false_iff, decide_eq_true_eq, decide_eq_false_iff_not, bne_iff_ne, beq_iff_eq, beq_eq_false_iff_ne, bne_eq_false_iff_eq, Bool.not_eq_true', Bool.not_eq_false', bys_length, List.length_append, List.length_cons, List.length_nil, List.length_map, List.length_drop, List.length_take, Int.natCast_add, wrap_i64_eq, wrap_u64, wrap_u8, ne_eq, not_true_eq_false, not_false_eq_true, Nat.zero_add, Nat.mul_one] <;> omega) | omega | (simp; done) | (simp; omega))) only [↓at_runK, ↓at_bind, ↓contQ_mk, ↓at_ret, ↓at_consK, ↓at_nilK, ↓at_optK, ↓at_intK, ↓at_boolK, ↓at_strK, ↓at_slK, ↓at_slOK, ↓at_slK0, ↓at_slOK0, ↓at_aggK, ↓at_cond_t, ↓at_cond_f, ↓at_sameL, ↓at_any1, ↓at_any, and_self, toBytes_bys, List.nil_append, List.append_nil, ↓at_nodeW, List.drop_zero, List.take_succ_cons, List.take_zero, List.getElem?_cons_succ, List.getElem?_cons_zero, cells_agg, eqCells_cons, eqCells_nil, eq1_int, eq1_bool, eq1_str, ↓at_ptr_whole, ↓at_ptr_cell, ↓at_ptr_obj, ↓at_ptr_objs, shift_obj, shift_elt, toA_val, toA_own, Int.toNat_natCast, List.cons_append, r, c']
      rfl
    · have n1 : numF b = ((getF b 0 0).1, b.drop (getF b 0 0).2.1, 0) := by unfold numF; rw [if_neg (by simp [c]), if_neg c1]
      have hp := part_drop (l := b) (k := (getF b 0 0).2.1)
      rw [bys_length] at hp
      generalize hr1 : b.drop (getF b 0 0).2.1 = r1 at *
      have hr1l : r1.length + (getF b 0 0).2.1 = b.length := by rw [← hr1, List.length_drop]; omega
      obtain ⟨k1, k2, k3⟩ := getF_err r1
      have rr := fun (Q : Res → Prop) (tg : Hid Q) => rget_run (d := d + 1) (f := f) (l := r1) (h := h) (Q := Q) (tg := tg) (by omega)
      by_cases c2 : (getF r1 0 0).2.2 = 0
      · obtain ⟨k4, k5⟩ := k3 c2
        have c2' : ((((getF r1 0 0).2.2 : Nat) : Int) != 0) = false := by simp [c2]
        by_cases c3 : 2147483647 < (getF r1 0 0).1
        · have n2 : numF r1 = (0, [], 4) := by unfold numF; rw [if_neg (by simp [c2]), if_pos c3]
          have e : decP b = ((0, 0, 0), 4) := by unfold decP; rw [n1, if_neg (by simp)]; simp only; rw [n2, if_pos (by decide)]
          rw [e]
          simp (disch := (first | assumption | (simp only [Bool.and_eq_true, Bool.and_eq_false_iff, decide_eq_true_eq, decide_eq_false_iff_not, bne_iff_ne, beq_iff_eq, beq_eq_false_iff_ne, bne_eq_false_iff_eq, Bool.not_eq_true', Bool.not_eq_false', bys_length, List.length_append, List.length_cons, List.length_nil, List.length_map, List.length_drop, List.length_take, Int.natCast_add, wrap_i64_eq, wrap_u64, wrap_u8, ne_eq, not_true_eq_false, not_false_eq_true, Nat.zero_add, Nat.mul_one] <;> omega) | omega | (simp; done) | (simp; omega))) only [↓at_runK, ↓at_bind, ↓contQ_mk, ↓at_ret, ↓at_consK, ↓at_nilK, ↓at_optK, ↓at_intK, ↓at_boolK, ↓at_strK, ↓at_slK, ↓at_slOK, ↓at_slK0, ↓at_slOK0, ↓at_aggK, ↓at_cond_t, ↓at_cond_f, ↓at_sameL, ↓at_any1, ↓at_any, and_self, toBytes_bys, List.nil_append, List.append_nil, ↓at_nodeW, List.drop_zero, List.take_succ_cons, List.take_zero, List.getElem?_cons_succ, List.getElem?_cons_zero, cells_agg, eqCells_cons, eqCells_nil, eq1_int, eq1_bool, eq1_str, ↓at_ptr_whole, ↓at_ptr_cell, ↓at_ptr_obj, ↓at_ptr_objs, shift_obj, shift_elt, toA_val, toA_own, Int.toNat_natCast, List.cons_append, r, c', bys_length, hp, rr, c2']
          rfl
        · have n2 : numF r1 = ((getF r1 0 0).1, r1.drop (getF r1 0 0).2.1, 0) := by unfold numF; rw [if_neg (by simp [c2]), if_neg c3]
          have ws : IntKind.i64.wrap (((getF b 0 0).2.1 : Int) + ((getF r1 0 0).2.1 : Int)) = (((getF b 0 0).2.1 + (getF r1 0 0).2.1 : Nat) : Int) := by rw [wrap_i64_id (by omega) (by omega)]; omega
          have hp2 := part_drop (l := b) (k := (getF b 0 0).2.1 + (getF r1 0 0).2.1)
          rw [bys_length, ← List.drop_drop, hr1] at hp2
          generalize hr2 : r1.drop (getF r1 0 0).2.1 = r2 at *
          by_cases c4 : r2.length < 4
          · have e : decP b = ((0, 0, 0), 1) := by unfold decP; rw [n1, if_neg (by simp)]; simp only; rw [n2, if_neg (by simp)]; simp only; rw [if_pos c4]
            rw [e]
            simp (disch := (first | assumption | (simp only [Bool.and_eq_true, Bool.and_eq_false_iff, decide_eq_true_eq, decide_eq_false_iff_not, bne_iff_ne, beq_iff_eq, beq_eq_false_iff_ne, bne_eq_false_iff_eq, Bool.not_eq_true', Bool.not_eq_false', bys_length, List.length_append, List.length_cons, List.length_nil, List.length_map, List.length_drop, List.length_take, Int.natCast_add, wrap_i64_eq, wrap_u64, wrap_u8, ne_eq, not_true_eq_false, not_false_eq_true, Nat.zero_add, Nat.mul_one] <;> omega) | omega | (simp; done) | (simp; omega))) only [↓at_runK, ↓at_bind, ↓contQ_mk, ↓at_ret, ↓at_consK, ↓at_nilK, ↓at_optK, ↓at_intK, ↓at_boolK, ↓at_strK, ↓at_slK, ↓at_slOK, ↓at_slK0, ↓at_slOK0, ↓at_aggK, ↓at_cond_t, ↓at_cond_f, ↓at_sameL, ↓at_any1, ↓at_any, and_self, toBytes_bys, List.nil_append, List.append_nil, ↓at_nodeW, List.drop_zero, List.take_succ_cons, List.take_zero, List.getElem?_cons_succ, List.getElem?_cons_zero, cells_agg, eqCells_cons, eqCells_nil, eq1_int, eq1_bool, eq1_str, ↓at_ptr_whole, ↓at_ptr_cell, ↓at_ptr_obj, ↓at_ptr_objs, shift_obj, shift_elt, toA_val, toA_own, Int.toNat_natCast, List.cons_append, r, c', bys_length, hp, rr, c2', ws, hp2]
            rfl
          · by_cases c5 : 4 < r2.length
            · have e : decP b = ((0, 0, 0), 2) := by unfold decP; rw [n1, if_neg (by simp)]; simp only; rw [n2, if_neg (by simp)]; simp only; rw [if_neg c4, if_pos c5]
              rw [e]
              simp (disch := (first | assumption | (simp only [Bool.and_eq_true, Bool.and_eq_false_iff, decide_eq_true_eq, decide_eq_false_iff_not, bne_iff_ne, beq_iff_eq, beq_eq_false_iff_ne, bne_eq_false_iff_eq, Bool.not_eq_true', Bool.not_eq_false', bys_length, List.length_append, List.length_cons, List.length_nil, List.length_map, List.length_drop, List.length_take, Int.natCast_add, wrap_i64_eq, wrap_u64, wrap_u8, ne_eq, not_true_eq_false, not_false_eq_true, Nat.zero_add, Nat.mul_one] <;> omega) | omega | (simp; done) | (simp; omega))) only [↓at_runK, ↓at_bind, ↓contQ_mk, ↓at_ret, ↓at_consK, ↓at_nilK, ↓at_optK, ↓at_intK, ↓at_boolK, ↓at_strK, ↓at_slK, ↓at_slOK, ↓at_slK0, ↓at_slOK0, ↓at_aggK, ↓at_cond_t, ↓at_cond_f, ↓at_sameL, ↓at_any1, ↓at_any, and_self, toBytes_bys, List.nil_append, List.append_nil, ↓at_nodeW, List.drop_zero, List.take_succ_cons, List.take_zero, List.getElem?_cons_succ, List.getElem?_cons_zero, cells_agg, eqCells_cons, eqCells_nil, eq1_int, eq1_bool, eq1_str, ↓at_ptr_whole, ↓at_ptr_cell, ↓at_ptr_obj, ↓at_ptr_objs, shift_obj, shift_elt, toA_val, toA_own, Int.toNat_natCast, List.cons_append, r, c', bys_length, hp, rr, c2', ws, hp2]
              rfl
            · have e : decP b = (((getF b 0 0).1, (getF r1 0 0).1, get4 r2), 0) := by unfold decP; rw [n1, if_neg (by simp)]; simp only; rw [n2, if_neg (by simp)]; simp only; rw [if_neg c4, if_neg c5]
              have w := u32_id (get4_lt r2)
              have w1 : IntKind.i64.wrap ((getF b 0 0).1 : Int) = ((getF b 0 0).1 : Int) := wrap_i64_id (by omega) (by omega)
              have w2 : IntKind.i64.wrap ((getF r1 0 0).1 : Int) = ((getF r1 0 0).1 : Int) := wrap_i64_id (by omega) (by omega)
              have rg := fun (Q : Res → Prop) (tg : Hid Q) => r1get_run (d := d) (f := f) (l := r2) (by omega) (h := h) (Q := Q) (tg := tg)
              rw [e]
              simp (disch := (first | assumption | (simp only [Bool.and_eq_true, Bool.and_eq_false_iff, decide_eq_true_eq, decide_eq_false_iff_not, bne_iff_ne, beq_iff_eq, beq_eq_false_iff_ne, bne_eq_false_iff_eq, Bool.not_eq_true', Bool.not_eq_false', bys_length, List.length_append, List.length_cons, List.length_nil, List.length_map, List.length_drop, List.length_take, Int.natCast_add, wrap_i64_eq, wrap_u64, wrap_u8, ne_eq, not_true_eq_false, not_false_eq_true, Nat.zero_add, Nat.mul_one] <;> omega) | omega | (simp; done) | (simp; omega))) only [↓at_runK, ↓at_bind, ↓contQ_mk, ↓at_ret, ↓at_consK, ↓at_nilK, ↓at_optK, ↓at_intK, ↓at_boolK, ↓at_strK, ↓at_slK, ↓at_slOK, ↓at_slK0, ↓at_slOK0, ↓at_aggK, ↓at_cond_t, ↓at_cond_f, ↓at_sameL, ↓at_any1, ↓at_any, and_self, toBytes_bys, List.nil_append, List.append_nil, ↓at_nodeW, List.drop_zero, List.take_succ_cons, List.take_zero, List.getElem?_cons_succ, List.getElem?_cons_zero, cells_agg, eqCells_cons, eqCells_nil, eq1_int, eq1_bool, eq1_str, ↓at_ptr_whole, ↓at_ptr_cell, ↓at_ptr_obj, ↓at_ptr_objs, shift_obj, shift_elt, toA_val, toA_own, Int.toNat_natCast, List.cons_append, r, c', bys_length, hp, rr, c2', ws, hp2, rg, w, w1, w2]
              rfl
      · have c2' : ((((getF r1 0 0).2.2 : Nat) : Int) != 0) = true := by simp; exact c2
        have n2 : numF r1 = (0, [], (getF r1 0 0).2.2) := by unfold numF; rw [if_pos c2]
        have e : decP b = ((0, 0, 0), (getF r1 0 0).2.2) := by unfold decP; rw [n1, if_neg (by simp)]; simp only; rw [n2, if_pos c2]
        rw [e]
        simp (disch := (first | assumption | (simp only [Bool.and_eq_true, Bool.and_eq_false_iff, decide_eq_true_eq, decide_eq_false_iff_not, bne_iff_ne, beq_iff_eq, beq_eq_false_iff_ne, bne_eq_false_iff_eq, Bool.not_eq_true', Bool.not_eq_false', bys_length, List.length_append, List.length_cons, List.length_nil, List.length_map, List.length_drop, List.length_take, Int.natCast_add, wrap_i64_eq, wrap_u64, wrap_u8, ne_eq, not_true_eq_false, not_false_eq_true, Nat.zero_add, Nat.mul_one] <;> omega) | omega | (simp; done) | (simp; omega))) only [↓at_runK, ↓at_bind, ↓contQ_mk, ↓at_ret, ↓at_consK, ↓at_nilK, ↓at_optK, ↓at_intK, ↓at_boolK, ↓at_strK, ↓at_slK, ↓at_slOK, ↓at_slK0, ↓at_slOK0, ↓at_aggK, ↓at_cond_t, ↓at_cond_f, ↓at_sameL, ↓at_any1, ↓at_any, and_self, toBytes_bys, List.nil_append, List.append_nil, ↓at_nodeW, List.drop_zero, List.take_succ_cons, List.take_zero, List.getElem?_cons_succ, List.getElem?_cons_zero, cells_agg, eqCells_cons, eqCells_nil, eq1_int, eq1_bool, eq1_str, ↓at_ptr_whole, ↓at_ptr_cell, ↓at_ptr_obj, ↓at_ptr_objs, shift_obj, shift_elt, toA_val, toA_own, Int.toNat_natCast, List.cons_append, r, c', bys_length, hp, rr, c2']
        rfl
  · have c' : ((((getF b 0 0).2.2 : Nat) : Int) != 0) = true := by simp; exact c
    have n1 : numF b = (0, [], (getF b 0 0).2.2) := by unfold numF; rw [if_pos c]
    have e : decP b = ((0, 0, 0), (getF b 0 0).2.2) := by unfold decP; rw [n1, if_pos c]
    rw [e]
    simp (disch := (first | assumption | (simp only [Bool.and_eq_true, Bool.and_eq_false_iff, decide_eq_true_eq, decide_eq_false_iff_not, bne_iff_ne, beq_iff_eq, beq_eq_false_iff_ne, bne_eq_false_iff_eq, Bool.not_eq_true', Bool.not_eq_false', bys_length, List.length_append, List.length_cons, List.length_nil, List.length_map, List.length_drop, List.length_take, Int.natCast_add, wrap_i64_eq, wrap_u64, wrap_u8, ne_eq, not_true_eq_false, not_false_eq_true, Nat.zero_add, Nat.mul_one] <;> omega) | omega | (simp; done) | (simp; omega))) only [↓at_runK, ↓at_bind, ↓contQ_mk, ↓at_ret, ↓at_consK, ↓at_nilK, ↓at_optK, ↓at_intK, ↓at_boolK, ↓at_strK, ↓at_slK, ↓at_slOK, ↓at_slK0, ↓at_slOK0, ↓at_aggK, ↓at_cond_t, ↓at_cond_f, ↓at_sameL, ↓at_any1, ↓at_any, and_self, toBytes_bys, List.nil_append, List.append_nil, ↓at_nodeW, List.drop_zero, List.take_succ_cons, List.take_zero, List.getElem?_cons_succ, List.getElem?_cons_zero, cells_agg, eqCells_cons, eqCells_nil, eq1_int, eq1_bool, eq1_str, ↓at_ptr_whole, ↓at_ptr_cell, ↓at_ptr_obj, ↓at_ptr_objs, shift_obj, shift_elt, toA_val, toA_own, Int.toNat_natCast, List.cons_append, r, c']
    rfl
/-- A point's bytes. -/
noncomputable def encP (n m s : Nat) : List UInt8 := enc n ++ enc m ++ le4 s
theorem numF_enc {n : Nat} (hn : n < 18446744073709551616) (r : List UInt8) : numF (enc n ++ r) = if 2147483647 < n then (0, [], 4) else (n, r, 0) := by
  unfold numF
  rw [get_enc0 n r hn]
  simp
theorem decP_enc {n m s : Nat} (hn : n ≤ 2147483647) (hm : m ≤ 2147483647) (hs : s < 4294967296) : decP (encP n m s) = ((n, m, s), 0) := by
  have n2 : numF (enc m ++ le4 s) = (m, le4 s, 0) := by rw [numF_enc (by omega), if_neg (by omega)]
  have n1 : numF (enc n ++ (enc m ++ le4 s)) = (n, enc m ++ le4 s, 0) := by rw [numF_enc (by omega), if_neg (by omega)]
  unfold encP decP
  rw [List.append_assoc, n1]
  simp only
  rw [n2]
  simp [le4_len, get4_le4 hs]
theorem penc_run {d : Nat} {x y : Int} {n m s : Nat} {h : Heap} {Q : Res → Prop} {tg : Hid Q} (hx : (if x > 0 then x else 0) = (n : Int)) (hy : (if y > 0 then y else 0) = (m : Int)) (hn : n ≤ 9223372036854775807) (hm : m ≤ 9223372036854775807) (hs : s < 4294967296) :
    Run (evFn Cw (d + 3) 8 [.agg [.int .i64 x, .int .i64 y, .int .u32 s]] h) Q tg = Q ([.sl false 0 (bys (encP n m s))], h) := by
  have l1 := (enc_length 9 n (lt_128_10 (by omega))).2
  have l2 := (enc_length 9 m (lt_128_10 (by omega))).2
  have w1 : IntKind.u64.wrap (n : Int) = (n : Int) := wrap_u64_id (by omega) (by omega)
  have w2 : IntKind.u64.wrap (m : Int) = (m : Int) := wrap_u64_id (by omega) (by omega)
  have w3 : IntKind.u64.wrap (s : Int) = (s : Int) := wrap_u64_id (by omega) (by omega)
  have p1 := fun (Q : Res → Prop) (tg : Hid Q) => put_run (d := d + 1) (f := true) (l := []) (n := n) (h := h) (Q := Q) (tg := tg) (by omega) (by simp)
  have p2 := fun (Q : Res → Prop) (tg : Hid Q) => put_run (d := d + 1) (f := false) (l := enc n) (n := m) (h := h) (Q := Q) (tg := tg) (by omega) (by omega)
  rw [bys_nil, List.nil_append] at p1
  rw [F8_eq, hx, hy]
  simp (disch := (first | assumption | (simp only [Bool.and_eq_true, Bool.and_eq_false_iff, decide_eq_true_eq, decide_eq_false_iff_not, bne_iff_ne, beq_iff_eq, beq_eq_false_iff_ne, bne_eq_false_iff_eq, Bool.not_eq_true', Bool.not_eq_false', bys_length, List.length_append, List.length_cons, List.length_nil, List.length_map, List.length_drop, List.length_take, Int.natCast_add, wrap_i64_eq, wrap_u64, wrap_u8, ne_eq, not_true_eq_false, not_false_eq_true, Nat.zero_add, Nat.mul_one] <;> omega) | omega | (simp; done) | (simp; omega))) only [↓at_runK, ↓at_bind, ↓contQ_mk, ↓at_ret, ↓at_consK, ↓at_nilK, ↓at_optK, ↓at_intK, ↓at_boolK, ↓at_strK, ↓at_slK, ↓at_slOK, ↓at_slK0, ↓at_slOK0, ↓at_aggK, ↓at_cond_t, ↓at_cond_f, ↓at_sameL, ↓at_any1, ↓at_any, and_self, toBytes_bys, List.nil_append, List.append_nil, ↓at_nodeW, List.drop_zero, List.take_succ_cons, List.take_zero, List.getElem?_cons_succ, List.getElem?_cons_zero, cells_agg, eqCells_cons, eqCells_nil, eq1_int, eq1_bool, eq1_str, ↓at_ptr_whole, ↓at_ptr_cell, ↓at_ptr_obj, ↓at_ptr_objs, shift_obj, shift_elt, toA_val, toA_own, Int.toNat_natCast, List.cons_append, w1, w2, w3, p1, p2, wput_run, bys_length, le4_len, ← bys_append]
  rfl
theorem rpenc_run {d n m s : Nat} {h : Heap} {Q : Res → Prop} {tg : Hid Q} (hn : n ≤ 9223372036854775807) (hm : m ≤ 9223372036854775807) (hs : s < 4294967296) :
    Run (evFn Cw (d + 3) 9 [.agg [.int .i64 n, .int .i64 m, .int .u32 s]] h) Q tg = Q ([.sl false 0 (bys (encP n m s))], h) := by
  have l1 := (enc_length 9 n (lt_128_10 (by omega))).2
  have l2 := (enc_length 9 m (lt_128_10 (by omega))).2
  have w1 : IntKind.u64.wrap (n : Int) = (n : Int) := wrap_u64_id (by omega) (by omega)
  have w2 : IntKind.u64.wrap (m : Int) = (m : Int) := wrap_u64_id (by omega) (by omega)
  have w3 : IntKind.u64.wrap (s : Int) = (s : Int) := wrap_u64_id (by omega) (by omega)
  have p1 := fun (Q : Res → Prop) (tg : Hid Q) => rput_run (d := d + 1) (f := true) (l := []) (n := n) (h := h) (Q := Q) (tg := tg) (by omega) (by simp)
  have p2 := fun (Q : Res → Prop) (tg : Hid Q) => rput_run (d := d + 1) (f := false) (l := enc n) (n := m) (h := h) (Q := Q) (tg := tg) (by omega) (by omega)
  have p3 := fun (Q : Res → Prop) (tg : Hid Q) => r1put_run (d := d + 1) (x := s) (by omega) (h := h) (Q := Q) (tg := tg)
  rw [bys_nil, List.nil_append] at p1
  rw [F9_eq]
  simp (disch := (first | assumption | (simp only [Bool.and_eq_true, Bool.and_eq_false_iff, decide_eq_true_eq, decide_eq_false_iff_not, bne_iff_ne, beq_iff_eq, beq_eq_false_iff_ne, bne_eq_false_iff_eq, Bool.not_eq_true', Bool.not_eq_false', bys_length, List.length_append, List.length_cons, List.length_nil, List.length_map, List.length_drop, List.length_take, Int.natCast_add, wrap_i64_eq, wrap_u64, wrap_u8, ne_eq, not_true_eq_false, not_false_eq_true, Nat.zero_add, Nat.mul_one] <;> omega) | omega | (simp; done) | (simp; omega))) only [↓at_runK, ↓at_bind, ↓contQ_mk, ↓at_ret, ↓at_consK, ↓at_nilK, ↓at_optK, ↓at_intK, ↓at_boolK, ↓at_strK, ↓at_slK, ↓at_slOK, ↓at_slK0, ↓at_slOK0, ↓at_aggK, ↓at_cond_t, ↓at_cond_f, ↓at_sameL, ↓at_any1, ↓at_any, and_self, toBytes_bys, List.nil_append, List.append_nil, ↓at_nodeW, List.drop_zero, List.take_succ_cons, List.take_zero, List.getElem?_cons_succ, List.getElem?_cons_zero, cells_agg, eqCells_cons, eqCells_nil, eq1_int, eq1_bool, eq1_str, ↓at_ptr_whole, ↓at_ptr_cell, ↓at_ptr_obj, ↓at_ptr_objs, shift_obj, shift_elt, toA_val, toA_own, Int.toNat_natCast, List.cons_append, w1, w2, w3, p1, p2, p3, bys_length, le4_len, ← bys_append]
  rfl
end Go.Proofs.YtdlcjibefbnckaaDoor.Wa
