/- PointJoins. -/
import Derived.Test.YtnhhmgcjbnocfaaDoorVpe
namespace Go.Proofs.YtnhhmgcjbnocfaaDoor.Wa
open Go Go.Weave
set_option maxRecDepth 100000
set_option linter.unusedSimpArgs false
set_option linter.unusedVariables false
set_option linter.unusedSectionVars false

theorem jF_nil {x0 x1 : Int} {x2 : Nat} {ps : List (List UInt8)} (h : (jF x0 x1 x2 ps).2 ≠ 0) : (jF x0 x1 x2 ps).1 = [] := by
  revert h
  unfold jF
  split
  · intro _; rfl
  · split
    · intro _; rfl
    · split
      · intro _; rfl
      · split
        · intro _; rfl
        · intro h; exact absurd rfl h
theorem jF_len {x0 x1 : Int} {x2 : Nat} {ps : List (List UInt8)} : (jF x0 x1 x2 ps).1.length ≤ 400 * ps.length := by
  unfold jF
  split
  · simp
  · split
    · simp
    · rename_i l hp
      have := pcsF_len ps hp
      split
      · simp
      · split
        · simp
        · simpa using this
theorem slOK_jV {A : Type} {x0 x1 : Int} {x2 : Nat} {ps : List (List UInt8)} (K : List AVal → Tr A) : slOK 3 (jV (jF x0 x1 x2 ps)) K = K (prs (jF x0 x1 x2 ps).1) := by
  unfold jV
  split
  · rfl
  · rename_i h
    rw [jF_nil h]; rfl
theorem ptof_some {d : Nat} {f : Bool} {ps : List (List UInt8)} {l : List KPair} (hps : ps.length ≤ 100000) (hp : pcsF ps [] = some l) {h : Heap} {Q : Res → Prop} {tg : Hid Q} :
    Run (evFn Cw (d + 6) 7 [.sl f 0 (flds ps)] h) Q tg = Q ([.agg [.int .i64 ps.length, .int .i64 l.length, .int .u32 (sumN ps 0 : Nat)], .int .i64 0], h) := by
  have r := fun (Q : Res → Prop) (tg : Hid Q) => all_run_some (d := d) (f := f) hps hp (h := h) (Q := Q) (tg := tg)
  rw [F7_eq]
  simp (disch := (first | assumption | (simp only [Bool.and_eq_true, Bool.and_eq_false_iff, decide_eq_true_eq, decide_eq_false_iff_not, bne_iff_ne, beq_iff_eq, beq_eq_false_iff_ne, bne_eq_false_iff_eq, Bool.not_eq_true', Bool.not_eq_false', bys_length, List.length_append, List.length_cons, List.length_nil, List.length_map, List.length_drop, List.length_take, Int.natCast_add, wrap_i64_eq, wrap_u64, wrap_u8, ne_eq, not_true_eq_false, not_false_eq_true, Nat.zero_add, Nat.mul_one] <;> omega) | omega | (simp; done) | (simp; omega))) only [↓at_runK, ↓at_bind, ↓contQ_mk, ↓at_ret, ↓at_consK, ↓at_nilK, ↓at_optK, ↓at_intK, ↓at_boolK, ↓at_strK, ↓at_slK, ↓at_slOK, ↓at_slK0, ↓at_slOK0, ↓at_aggK, ↓at_cond_t, ↓at_cond_f, ↓at_sameL, ↓at_any1, ↓at_any, and_self, toBytes_bys, List.nil_append, List.append_nil, ↓at_nodeW, List.drop_zero, List.take_succ_cons, List.take_zero, List.getElem?_cons_succ, List.getElem?_cons_zero, cells_agg, eqCells_cons, eqCells_nil, eq1_int, eq1_bool, eq1_str, ↓at_ptr_whole, ↓at_ptr_cell, ↓at_ptr_obj, ↓at_ptr_objs, shift_obj, shift_elt, toA_val, toA_own, Int.toNat_natCast, List.cons_append, r, Bool.not_true]
theorem ptof_none {d : Nat} {f : Bool} {ps : List (List UInt8)} (hps : ps.length ≤ 100000) (hb : ∀ b ∈ ps, b.length ≤ 40000000) (hp : pcsF ps [] = none) {h : Heap} {Q : Res → Prop} {tg : Hid Q} :
    Run (evFn Cw (d + 6) 7 [.sl f 0 (flds ps)] h) Q tg = Q ([.agg [.int .i64 0, .int .i64 0, .int .u32 0], .int .i64 2], h) := by
  have r := fun (Q : Res → Prop) (tg : Hid Q) => all_run_none (d := d) (f := f) hps hb hp (h := h) (Q := Q) (tg := tg)
  rw [F7_eq]
  simp (disch := (first | assumption | (simp only [Bool.and_eq_true, Bool.and_eq_false_iff, decide_eq_true_eq, decide_eq_false_iff_not, bne_iff_ne, beq_iff_eq, beq_eq_false_iff_ne, bne_eq_false_iff_eq, Bool.not_eq_true', Bool.not_eq_false', bys_length, List.length_append, List.length_cons, List.length_nil, List.length_map, List.length_drop, List.length_take, Int.natCast_add, wrap_i64_eq, wrap_u64, wrap_u8, ne_eq, not_true_eq_false, not_false_eq_true, Nat.zero_add, Nat.mul_one] <;> omega) | omega | (simp; done) | (simp; omega))) only [↓at_runK, ↓at_bind, ↓contQ_mk, ↓at_ret, ↓at_consK, ↓at_nilK, ↓at_optK, ↓at_intK, ↓at_boolK, ↓at_strK, ↓at_slK, ↓at_slOK, ↓at_slK0, ↓at_slOK0, ↓at_aggK, ↓at_cond_t, ↓at_cond_f, ↓at_sameL, ↓at_any1, ↓at_any, and_self, toBytes_bys, List.nil_append, List.append_nil, ↓at_nodeW, List.drop_zero, List.take_succ_cons, List.take_zero, List.getElem?_cons_succ, List.getElem?_cons_zero, cells_agg, eqCells_cons, eqCells_nil, eq1_int, eq1_bool, eq1_str, ↓at_ptr_whole, ↓at_ptr_cell, ↓at_ptr_obj, ↓at_ptr_objs, shift_obj, shift_elt, toA_val, toA_own, Int.toNat_natCast, List.cons_append, r, Bool.not_false]
/-- PointJoins. -/
theorem pjoins_true (p q : Int) (s : Nat) (ps : List (List UInt8)) (hps : ps.length ≤ 100000000) (hb : ∀ b ∈ ps, b.length ≤ 40000000) (h : Heap) :
    ∃ d h', Ans (evFn Cw d 3 [.agg [.int .i64 p, .int .i64 q, .int .u32 s], .sl false 0 (flds ps)] h) ([.bool true], h') := by
  obtain ⟨h', E, r⟩ := awake34_run 1 h
  refine ⟨9, h', Run.ans ?_⟩
  rw [F3_eq]
  by_cases c0 : (ps.length : Int) > 60
  · simp (disch := (first | assumption | (simp only [Bool.and_eq_true, Bool.and_eq_false_iff, decide_eq_true_eq, decide_eq_false_iff_not, bne_iff_ne, beq_iff_eq, beq_eq_false_iff_ne, bne_eq_false_iff_eq, Bool.not_eq_true', Bool.not_eq_false', bys_length, List.length_append, List.length_cons, List.length_nil, List.length_map, List.length_drop, List.length_take, Int.natCast_add, wrap_i64_eq, wrap_u64, wrap_u8, ne_eq, not_true_eq_false, not_false_eq_true, Nat.zero_add, Nat.mul_one] <;> omega) | omega | (simp; done) | (simp; omega))) only [↓at_runK, ↓at_bind, ↓contQ_mk, ↓at_ret, ↓at_consK, ↓at_nilK, ↓at_optK, ↓at_intK, ↓at_boolK, ↓at_strK, ↓at_slK, ↓at_slOK, ↓at_slK0, ↓at_slOK0, ↓at_aggK, ↓at_cond_t, ↓at_cond_f, ↓at_sameL, ↓at_any1, ↓at_any, and_self, toBytes_bys, List.nil_append, List.append_nil, ↓at_nodeW, List.drop_zero, List.take_succ_cons, List.take_zero, List.getElem?_cons_succ, List.getElem?_cons_zero, cells_agg, eqCells_cons, eqCells_nil, eq1_int, eq1_bool, eq1_str, ↓at_ptr_whole, ↓at_ptr_cell, ↓at_ptr_obj, ↓at_ptr_objs, shift_obj, shift_elt, toA_val, toA_own, Int.toNat_natCast, List.cons_append, flds_length, c0, r]
  · have r1 := fun (Q : Res → Prop) (tg : Hid Q) => join_run (d := 2) (f := false) (x0 := p) (x1 := q) (x2 := s) (ps := ps) (by omega) hb (h := h) (Q := Q) (tg := tg)
    have r2 := fun (Q : Res → Prop) (tg : Hid Q) => rjoin_run (d := 2) (f := false) (x0 := p) (x1 := q) (x2 := s) (ps := ps) (by omega) hb (h := h) (Q := Q) (tg := tg)
    have r3 := fun (Q : Res → Prop) (tg : Hid Q) => rpairs_run (d := 4) (f := false) (ps := ps) (by omega) hb (h := h) (Q := Q) (tg := tg)
    have hl := jF_len (x0 := p) (x1 := q) (x2 := s) (ps := ps)
    have r4 := fun (Q : Res → Prop) (tg : Hid Q) => same31_run (d := 7) (f := false) (g := false) (l := (jF p q s ps).1) (h := h) (Q := Q) (tg := tg) (by omega)
    have bi : ∀ x : Int, (x == x) = true := fun x => by simp
    have z0 : (((0 : Nat) : Int) == 0) = true := rfl
    cases hp : pcsF ps [] with
    | none =>
      have r5 := fun (Q : Res → Prop) (tg : Hid Q) => ptof_none (d := 2) (f := false) (ps := ps) (by omega) hb hp (h := h) (Q := Q) (tg := tg)
      rw [hp] at r3
      unfold prR at r3
      simp (disch := (first | assumption | (simp only [Bool.and_eq_true, Bool.and_eq_false_iff, decide_eq_true_eq, decide_eq_false_iff_not, bne_iff_ne, beq_iff_eq, beq_eq_false_iff_ne, bne_eq_false_iff_eq, Bool.not_eq_true', Bool.not_eq_false', bys_length, List.length_append, List.length_cons, List.length_nil, List.length_map, List.length_drop, List.length_take, Int.natCast_add, wrap_i64_eq, wrap_u64, wrap_u8, ne_eq, not_true_eq_false, not_false_eq_true, Nat.zero_add, Nat.mul_one] <;> omega) | omega | (simp; done) | (simp; omega))) only [↓at_runK, ↓at_bind, ↓contQ_mk, ↓at_ret, ↓at_consK, ↓at_nilK, ↓at_optK, ↓at_intK, ↓at_boolK, ↓at_strK, ↓at_slK, ↓at_slOK, ↓at_slK0, ↓at_slOK0, ↓at_aggK, ↓at_cond_t, ↓at_cond_f, ↓at_sameL, ↓at_any1, ↓at_any, and_self, toBytes_bys, List.nil_append, List.append_nil, ↓at_nodeW, List.drop_zero, List.take_succ_cons, List.take_zero, List.getElem?_cons_succ, List.getElem?_cons_zero, cells_agg, eqCells_cons, eqCells_nil, eq1_int, eq1_bool, eq1_str, ↓at_ptr_whole, ↓at_ptr_cell, ↓at_ptr_obj, ↓at_ptr_objs, shift_obj, shift_elt, toA_val, toA_own, Int.toNat_natCast, List.cons_append, flds_length, c0, r1, r2, r3, r4, r5, slOK_jV, Bool.not_false, bi, z0, plain24, r]
    | some l =>
      have r5 := fun (Q : Res → Prop) (tg : Hid Q) => ptof_some (d := 2) (f := false) (ps := ps) (by omega) hp (h := h) (Q := Q) (tg := tg)
      have r6 := fun (Q : Res → Prop) (tg : Hid Q) => rptof_run (d := 3) (f := false) (ps := ps) (by omega) hb hp (h := h) (Q := Q) (tg := tg)
      rw [hp] at r3
      unfold prR at r3
      simp (disch := (first | assumption | (simp only [Bool.and_eq_true, Bool.and_eq_false_iff, decide_eq_true_eq, decide_eq_false_iff_not, bne_iff_ne, beq_iff_eq, beq_eq_false_iff_ne, bne_eq_false_iff_eq, Bool.not_eq_true', Bool.not_eq_false', bys_length, List.length_append, List.length_cons, List.length_nil, List.length_map, List.length_drop, List.length_take, Int.natCast_add, wrap_i64_eq, wrap_u64, wrap_u8, ne_eq, not_true_eq_false, not_false_eq_true, Nat.zero_add, Nat.mul_one] <;> omega) | omega | (simp; done) | (simp; omega))) only [↓at_runK, ↓at_bind, ↓contQ_mk, ↓at_ret, ↓at_consK, ↓at_nilK, ↓at_optK, ↓at_intK, ↓at_boolK, ↓at_strK, ↓at_slK, ↓at_slOK, ↓at_slK0, ↓at_slOK0, ↓at_aggK, ↓at_cond_t, ↓at_cond_f, ↓at_sameL, ↓at_any1, ↓at_any, and_self, toBytes_bys, List.nil_append, List.append_nil, ↓at_nodeW, List.drop_zero, List.take_succ_cons, List.take_zero, List.getElem?_cons_succ, List.getElem?_cons_zero, cells_agg, eqCells_cons, eqCells_nil, eq1_int, eq1_bool, eq1_str, ↓at_ptr_whole, ↓at_ptr_cell, ↓at_ptr_obj, ↓at_ptr_objs, shift_obj, shift_elt, toA_val, toA_own, Int.toNat_natCast, List.cons_append, flds_length, c0, r1, r2, r3, r4, r5, r6, slOK_jV, Bool.not_true, bi, z0, plain24, r]
end Go.Proofs.YtnhhmgcjbnocfaaDoor.Wa
