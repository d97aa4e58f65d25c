/- An index and what is told of it; IndexPlays. -/
import Derived.Test.YthebimbdijkiiaaVy
namespace Go.Proofs.Ythebimbdijkiiaa.Wa
open Go Go.Weave
set_option maxRecDepth 100000
set_option linter.unusedSimpArgs false
set_option linter.unusedVariables false
set_option linter.unusedSectionVars false

def yc (s : Ix) (fl : Bool) (a b c e : Int) : List AVal := [.int .i64 s.F, .int .i64 (s.F + s.E.length), .sl fl 5 (rents s.F s.E), .int .i64 a, .int .i64 b, .int .i64 c, .int .i64 e]
theorem four' {l : List Int} (h : l.length = 4) : ∃ a b c e, l = [a, b, c, e] := by
  match l, h with
  | [a, b, c, e], _ => exact ⟨a, b, c, e, rfl⟩

theorem radd_ok {d : Nat} {fl : Bool} {s : Ix} {a b c e : Int} (hs : SIx s) (hf : s.E.length + 1 ≤ 1000) (hH : s.H = [a, b, c, e]) (h : Heap) (ch x y : Int) : ∃ fl' a' b' c' e', (addS s ch ⟨x, y⟩).1.H = [a', b', c', e'] ∧
    ∀ (Q : Res → Prop) (tg : Hid Q), Run (evFn Cw (d + 2) 44 [.agg (yc s fl a b c e), .int .i64 ch, .agg [.int .i64 x, .int .i64 y]] h) Q tg = Q ([.agg (yc (addS s ch ⟨x, y⟩).1 fl' a' b' c' e'), .int .i64 (addS s ch ⟨x, y⟩).2], h) := by
  have h1 := hs.lo
  have h2 := hs.hi
  have h3 := hs.few
  by_cases hbad : ch < 0 ∨ 4 ≤ ch ∨ s.F + s.E.length > 2147483647 ∨ (idxP ⟨x, y⟩ s.E).isSome = true
  · have e' : addS s ch ⟨x, y⟩ = (s, 0) := by unfold addS; rw [if_pos hbad]
    rw [e']
    refine ⟨fl, a, b, c, e, hH, fun Q tg => ?_⟩
    unfold yc
    rw [F44_eq]
    by_cases b1 : ch < 0
    · simp (disch := (first | assumption | (simp only [Bool.and_eq_true, Bool.and_eq_false_iff, decide_eq_true_eq, decide_eq_false_iff_not, bne_iff_ne, beq_iff_eq, beq_eq_false_iff_ne, bne_eq_false_iff_eq, Bool.not_eq_true', Bool.not_eq_false', bys_length, List.length_append, List.length_cons, List.length_nil, List.length_map, List.length_drop, List.length_take, Int.natCast_add, wrap_i64_eq, wrap_u64, wrap_u8, ne_eq, not_true_eq_false, not_false_eq_true, Nat.zero_add, Nat.mul_one] <;> omega) | omega | (simp; done) | (simp; omega))) only [↓at_runK, ↓at_bind, ↓contQ_mk, ↓at_ret, ↓at_consK, ↓at_nilK, ↓at_optK, ↓at_intK, ↓at_boolK, ↓at_strK, ↓at_slK, ↓at_slOK, ↓at_slK0, ↓at_slOK0, ↓at_aggK, ↓at_cond_t, ↓at_cond_f, ↓at_sameL, ↓at_any1, ↓at_any, and_self, toBytes_bys, List.nil_append, List.append_nil, List.drop_zero, List.take_succ_cons, List.take_zero, List.getElem?_cons_succ, List.getElem?_cons_zero, cells_agg, eqCells_cons, eqCells_nil, eq1_int, eq1_bool, eq1_str, ↓at_ptr_whole, ↓at_ptr_cell, ↓at_ptr_obj, ↓at_ptr_objs, shift_obj, shift_elt, toA_val, toA_own, Int.toNat_natCast, List.cons_append]
    · by_cases b2 : 4 ≤ ch
      · simp (disch := (first | assumption | (simp only [Bool.and_eq_true, Bool.and_eq_false_iff, decide_eq_true_eq, decide_eq_false_iff_not, bne_iff_ne, beq_iff_eq, beq_eq_false_iff_ne, bne_eq_false_iff_eq, Bool.not_eq_true', Bool.not_eq_false', bys_length, List.length_append, List.length_cons, List.length_nil, List.length_map, List.length_drop, List.length_take, Int.natCast_add, wrap_i64_eq, wrap_u64, wrap_u8, ne_eq, not_true_eq_false, not_false_eq_true, Nat.zero_add, Nat.mul_one] <;> omega) | omega | (simp; done) | (simp; omega))) only [↓at_runK, ↓at_bind, ↓contQ_mk, ↓at_ret, ↓at_consK, ↓at_nilK, ↓at_optK, ↓at_intK, ↓at_boolK, ↓at_strK, ↓at_slK, ↓at_slOK, ↓at_slK0, ↓at_slOK0, ↓at_aggK, ↓at_cond_t, ↓at_cond_f, ↓at_sameL, ↓at_any1, ↓at_any, and_self, toBytes_bys, List.nil_append, List.append_nil, List.drop_zero, List.take_succ_cons, List.take_zero, List.getElem?_cons_succ, List.getElem?_cons_zero, cells_agg, eqCells_cons, eqCells_nil, eq1_int, eq1_bool, eq1_str, ↓at_ptr_whole, ↓at_ptr_cell, ↓at_ptr_obj, ↓at_ptr_objs, shift_obj, shift_elt, toA_val, toA_own, Int.toNat_natCast, List.cons_append]
      · by_cases b3 : s.F + s.E.length > 2147483647
        · simp (disch := (first | assumption | (simp only [Bool.and_eq_true, Bool.and_eq_false_iff, decide_eq_true_eq, decide_eq_false_iff_not, bne_iff_ne, beq_iff_eq, beq_eq_false_iff_ne, bne_eq_false_iff_eq, Bool.not_eq_true', Bool.not_eq_false', bys_length, List.length_append, List.length_cons, List.length_nil, List.length_map, List.length_drop, List.length_take, Int.natCast_add, wrap_i64_eq, wrap_u64, wrap_u8, ne_eq, not_true_eq_false, not_false_eq_true, Nat.zero_add, Nat.mul_one] <;> omega) | omega | (simp; done) | (simp; omega))) only [↓at_runK, ↓at_bind, ↓contQ_mk, ↓at_ret, ↓at_consK, ↓at_nilK, ↓at_optK, ↓at_intK, ↓at_boolK, ↓at_strK, ↓at_slK, ↓at_slOK, ↓at_slK0, ↓at_slOK0, ↓at_aggK, ↓at_cond_t, ↓at_cond_f, ↓at_sameL, ↓at_any1, ↓at_any, and_self, toBytes_bys, List.nil_append, List.append_nil, List.drop_zero, List.take_succ_cons, List.take_zero, List.getElem?_cons_succ, List.getElem?_cons_zero, cells_agg, eqCells_cons, eqCells_nil, eq1_int, eq1_bool, eq1_str, ↓at_ptr_whole, ↓at_ptr_cell, ↓at_ptr_obj, ↓at_ptr_objs, shift_obj, shift_elt, toA_val, toA_own, Int.toNat_natCast, List.cons_append]
        · have b4 : (idxP ⟨x, y⟩ s.E).isSome = true := by
            rcases hbad with h | h | h | h
            · omega
            · omega
            · omega
            · exact h
          obtain ⟨k, hk⟩ := Option.isSome_iff_exists.1 b4
          simp (disch := (first | assumption | (simp only [Bool.and_eq_true, Bool.and_eq_false_iff, decide_eq_true_eq, decide_eq_false_iff_not, bne_iff_ne, beq_iff_eq, beq_eq_false_iff_ne, bne_eq_false_iff_eq, Bool.not_eq_true', Bool.not_eq_false', bys_length, List.length_append, List.length_cons, List.length_nil, List.length_map, List.length_drop, List.length_take, Int.natCast_add, wrap_i64_eq, wrap_u64, wrap_u8, ne_eq, not_true_eq_false, not_false_eq_true, Nat.zero_add, Nat.mul_one] <;> omega) | omega | (simp; done) | (simp; omega))) only [↓at_runK, ↓at_bind, ↓contQ_mk, ↓at_ret, ↓at_consK, ↓at_nilK, ↓at_optK, ↓at_intK, ↓at_boolK, ↓at_strK, ↓at_slK, ↓at_slOK, ↓at_slK0, ↓at_slOK0, ↓at_aggK, ↓at_cond_t, ↓at_cond_f, ↓at_sameL, ↓at_any1, ↓at_any, and_self, toBytes_bys, List.nil_append, List.append_nil, List.drop_zero, List.take_succ_cons, List.take_zero, List.getElem?_cons_succ, List.getElem?_cons_zero, cells_agg, eqCells_cons, eqCells_nil, eq1_int, eq1_bool, eq1_str, ↓at_ptr_whole, ↓at_ptr_cell, ↓at_ptr_obj, ↓at_ptr_objs, shift_obj, shift_elt, toA_val, toA_own, Int.toNat_natCast, List.cons_append, rat_run h3, hk]
  · have e' : addS s ch ⟨x, y⟩ = (⟨s.F, s.E ++ [(⟨x, y⟩, s.H.getD ch.toNat 0)], s.H.set ch.toNat (s.F + s.E.length)⟩, s.F + s.E.length) := by unfold addS; rw [if_neg hbad]
    rw [e', hH]
    simp only [not_or, Bool.not_eq_true, Option.isSome_eq_false_iff, Option.isNone_iff_eq_none] at hbad
    obtain ⟨b1, b2, b3, b4⟩ := hbad
    have w : IntKind.i64.wrap (s.F + (s.E.length : Int) + 1) = s.F + ((s.E.length + 1 : Nat) : Int) := by rw [wrap_i64_id (by omega) (by omega)]; omega
    have w2 : IntKind.i64.wrap (s.F + ((s.E.length + 1 : Nat) : Int) - 1) = s.F + s.E.length := by rw [wrap_i64_id (by omega) (by omega)]; omega
    have hrl := rents_length s.F s.E
    have t0 : Int.toNat 0 = 0 := rfl
    have t1 : Int.toNat 1 = 1 := rfl
    have t2 : Int.toNat 2 = 2 := rfl
    have t3 : Int.toNat 3 = 3 := rfl
    have main : ∀ (v : Int), rents s.F s.E ++ [AVal.agg [.int .i64 (s.F + s.E.length), .int .i64 x, .int .i64 y, .int .i64 v]] = rents s.F (s.E ++ [(⟨x, y⟩, v)]) := fun v => rents_snoc ⟨x, y⟩ v s.F s.E
    have hlen : ∀ v : Int, (s.E ++ [((⟨x, y⟩ : IPlace), v)]).length = s.E.length + 1 := fun v => by simp
    have hc : ch = 0 ∨ ch = 1 ∨ ch = 2 ∨ ch = 3 := by omega
    rcases hc with rfl | rfl | rfl | rfl
    · refine ⟨false, s.F + s.E.length, b, c, e, rfl, fun Q tg => ?_⟩
      unfold yc
      rw [F44_eq]
      simp (disch := (first | assumption | (simp only [Bool.and_eq_true, Bool.and_eq_false_iff, decide_eq_true_eq, decide_eq_false_iff_not, bne_iff_ne, beq_iff_eq, beq_eq_false_iff_ne, bne_eq_false_iff_eq, Bool.not_eq_true', Bool.not_eq_false', bys_length, List.length_append, List.length_cons, List.length_nil, List.length_map, List.length_drop, List.length_take, Int.natCast_add, wrap_i64_eq, wrap_u64, wrap_u8, ne_eq, not_true_eq_false, not_false_eq_true, Nat.zero_add, Nat.mul_one] <;> omega) | omega | (simp; done) | (simp; omega))) only [↓at_runK, ↓at_bind, ↓contQ_mk, ↓at_ret, ↓at_consK, ↓at_nilK, ↓at_optK, ↓at_intK, ↓at_boolK, ↓at_strK, ↓at_slK, ↓at_slOK, ↓at_slK0, ↓at_slOK0, ↓at_aggK, ↓at_cond_t, ↓at_cond_f, ↓at_sameL, ↓at_any1, ↓at_any, and_self, toBytes_bys, List.nil_append, List.append_nil, List.drop_zero, List.take_succ_cons, List.take_zero, List.getElem?_cons_succ, List.getElem?_cons_zero, cells_agg, eqCells_cons, eqCells_nil, eq1_int, eq1_bool, eq1_str, ↓at_ptr_whole, ↓at_ptr_cell, ↓at_ptr_obj, ↓at_ptr_objs, shift_obj, shift_elt, toA_val, toA_own, Int.toNat_natCast, List.cons_append, rat_run h3, b4, P44_0_eq, t0, Nat.zero_mul, Nat.add_zero, main, w, w2, List.set_cons_succ, List.set_cons_zero, hlen, List.getD_cons_zero, List.getD_cons_succ]
    · refine ⟨false, a, s.F + s.E.length, c, e, rfl, fun Q tg => ?_⟩
      unfold yc
      rw [F44_eq]
      simp (disch := (first | assumption | (simp only [Bool.and_eq_true, Bool.and_eq_false_iff, decide_eq_true_eq, decide_eq_false_iff_not, bne_iff_ne, beq_iff_eq, beq_eq_false_iff_ne, bne_eq_false_iff_eq, Bool.not_eq_true', Bool.not_eq_false', bys_length, List.length_append, List.length_cons, List.length_nil, List.length_map, List.length_drop, List.length_take, Int.natCast_add, wrap_i64_eq, wrap_u64, wrap_u8, ne_eq, not_true_eq_false, not_false_eq_true, Nat.zero_add, Nat.mul_one] <;> omega) | omega | (simp; done) | (simp; omega))) only [↓at_runK, ↓at_bind, ↓contQ_mk, ↓at_ret, ↓at_consK, ↓at_nilK, ↓at_optK, ↓at_intK, ↓at_boolK, ↓at_strK, ↓at_slK, ↓at_slOK, ↓at_slK0, ↓at_slOK0, ↓at_aggK, ↓at_cond_t, ↓at_cond_f, ↓at_sameL, ↓at_any1, ↓at_any, and_self, toBytes_bys, List.nil_append, List.append_nil, List.drop_zero, List.take_succ_cons, List.take_zero, List.getElem?_cons_succ, List.getElem?_cons_zero, cells_agg, eqCells_cons, eqCells_nil, eq1_int, eq1_bool, eq1_str, ↓at_ptr_whole, ↓at_ptr_cell, ↓at_ptr_obj, ↓at_ptr_objs, shift_obj, shift_elt, toA_val, toA_own, Int.toNat_natCast, List.cons_append, rat_run h3, b4, P44_0_eq, t1, Nat.one_mul, Nat.reduceAdd, main, w, w2, List.set_cons_succ, List.set_cons_zero, hlen, List.getD_cons_zero, List.getD_cons_succ]
    · refine ⟨false, a, b, s.F + s.E.length, e, rfl, fun Q tg => ?_⟩
      unfold yc
      rw [F44_eq]
      simp (disch := (first | assumption | (simp only [Bool.and_eq_true, Bool.and_eq_false_iff, decide_eq_true_eq, decide_eq_false_iff_not, bne_iff_ne, beq_iff_eq, beq_eq_false_iff_ne, bne_eq_false_iff_eq, Bool.not_eq_true', Bool.not_eq_false', bys_length, List.length_append, List.length_cons, List.length_nil, List.length_map, List.length_drop, List.length_take, Int.natCast_add, wrap_i64_eq, wrap_u64, wrap_u8, ne_eq, not_true_eq_false, not_false_eq_true, Nat.zero_add, Nat.mul_one] <;> omega) | omega | (simp; done) | (simp; omega))) only [↓at_runK, ↓at_bind, ↓contQ_mk, ↓at_ret, ↓at_consK, ↓at_nilK, ↓at_optK, ↓at_intK, ↓at_boolK, ↓at_strK, ↓at_slK, ↓at_slOK, ↓at_slK0, ↓at_slOK0, ↓at_aggK, ↓at_cond_t, ↓at_cond_f, ↓at_sameL, ↓at_any1, ↓at_any, and_self, toBytes_bys, List.nil_append, List.append_nil, List.drop_zero, List.take_succ_cons, List.take_zero, List.getElem?_cons_succ, List.getElem?_cons_zero, cells_agg, eqCells_cons, eqCells_nil, eq1_int, eq1_bool, eq1_str, ↓at_ptr_whole, ↓at_ptr_cell, ↓at_ptr_obj, ↓at_ptr_objs, shift_obj, shift_elt, toA_val, toA_own, Int.toNat_natCast, List.cons_append, rat_run h3, b4, P44_0_eq, t2, Nat.mul_one, Nat.reduceAdd, main, w, w2, List.set_cons_succ, List.set_cons_zero, hlen, List.getD_cons_zero, List.getD_cons_succ]
    · refine ⟨false, a, b, c, s.F + s.E.length, rfl, fun Q tg => ?_⟩
      unfold yc
      rw [F44_eq]
      simp (disch := (first | assumption | (simp only [Bool.and_eq_true, Bool.and_eq_false_iff, decide_eq_true_eq, decide_eq_false_iff_not, bne_iff_ne, beq_iff_eq, beq_eq_false_iff_ne, bne_eq_false_iff_eq, Bool.not_eq_true', Bool.not_eq_false', bys_length, List.length_append, List.length_cons, List.length_nil, List.length_map, List.length_drop, List.length_take, Int.natCast_add, wrap_i64_eq, wrap_u64, wrap_u8, ne_eq, not_true_eq_false, not_false_eq_true, Nat.zero_add, Nat.mul_one] <;> omega) | omega | (simp; done) | (simp; omega))) only [↓at_runK, ↓at_bind, ↓contQ_mk, ↓at_ret, ↓at_consK, ↓at_nilK, ↓at_optK, ↓at_intK, ↓at_boolK, ↓at_strK, ↓at_slK, ↓at_slOK, ↓at_slK0, ↓at_slOK0, ↓at_aggK, ↓at_cond_t, ↓at_cond_f, ↓at_sameL, ↓at_any1, ↓at_any, and_self, toBytes_bys, List.nil_append, List.append_nil, List.drop_zero, List.take_succ_cons, List.take_zero, List.getElem?_cons_succ, List.getElem?_cons_zero, cells_agg, eqCells_cons, eqCells_nil, eq1_int, eq1_bool, eq1_str, ↓at_ptr_whole, ↓at_ptr_cell, ↓at_ptr_obj, ↓at_ptr_objs, shift_obj, shift_elt, toA_val, toA_own, Int.toNat_natCast, List.cons_append, rat_run h3, b4, P44_0_eq, t3, Nat.mul_one, Nat.reduceAdd, main, w, w2, List.set_cons_succ, List.set_cons_zero, hlen, List.getD_cons_zero, List.getD_cons_succ]
theorem rnew_run {d : Nat} {x a b c e : Int} {h : Heap} {Q : Res → Prop} {tg : Hid Q} :
    Run (evFn Cw (d + 1) 41 [.int .i64 x, .agg [.int .i64 a, .int .i64 b, .int .i64 c, .int .i64 e]] h) Q tg = Q ([.agg (yc ⟨clampF x, [], [a, b, c, e]⟩ true a b c e)], h) := by
  rw [F41_eq]
  unfold yc clampF
  by_cases h1 : x < 1
  · rw [if_pos h1]
    simp (disch := (first | assumption | (simp only [Bool.and_eq_true, Bool.and_eq_false_iff, decide_eq_true_eq, decide_eq_false_iff_not, bne_iff_ne, beq_iff_eq, beq_eq_false_iff_ne, bne_eq_false_iff_eq, Bool.not_eq_true', Bool.not_eq_false', bys_length, List.length_append, List.length_cons, List.length_nil, List.length_map, List.length_drop, List.length_take, Int.natCast_add, wrap_i64_eq, wrap_u64, wrap_u8, ne_eq, not_true_eq_false, not_false_eq_true, Nat.zero_add, Nat.mul_one] <;> omega) | omega | (simp; done) | (simp; omega))) only [↓at_runK, ↓at_bind, ↓contQ_mk, ↓at_ret, ↓at_consK, ↓at_nilK, ↓at_optK, ↓at_intK, ↓at_boolK, ↓at_strK, ↓at_slK, ↓at_slOK, ↓at_slK0, ↓at_slOK0, ↓at_aggK, ↓at_cond_t, ↓at_cond_f, ↓at_sameL, ↓at_any1, ↓at_any, and_self, toBytes_bys, List.nil_append, List.append_nil, List.drop_zero, List.take_succ_cons, List.take_zero, List.getElem?_cons_succ, List.getElem?_cons_zero, cells_agg, eqCells_cons, eqCells_nil, eq1_int, eq1_bool, eq1_str, ↓at_ptr_whole, ↓at_ptr_cell, ↓at_ptr_obj, ↓at_ptr_objs, shift_obj, shift_elt, toA_val, toA_own, Int.toNat_natCast, List.cons_append, rents]
    simp
  · rw [if_neg h1]
    by_cases h2 : x > 2147483647
    · rw [if_pos h2]
      simp (disch := (first | assumption | (simp only [Bool.and_eq_true, Bool.and_eq_false_iff, decide_eq_true_eq, decide_eq_false_iff_not, bne_iff_ne, beq_iff_eq, beq_eq_false_iff_ne, bne_eq_false_iff_eq, Bool.not_eq_true', Bool.not_eq_false', bys_length, List.length_append, List.length_cons, List.length_nil, List.length_map, List.length_drop, List.length_take, Int.natCast_add, wrap_i64_eq, wrap_u64, wrap_u8, ne_eq, not_true_eq_false, not_false_eq_true, Nat.zero_add, Nat.mul_one] <;> omega) | omega | (simp; done) | (simp; omega))) only [↓at_runK, ↓at_bind, ↓contQ_mk, ↓at_ret, ↓at_consK, ↓at_nilK, ↓at_optK, ↓at_intK, ↓at_boolK, ↓at_strK, ↓at_slK, ↓at_slOK, ↓at_slK0, ↓at_slOK0, ↓at_aggK, ↓at_cond_t, ↓at_cond_f, ↓at_sameL, ↓at_any1, ↓at_any, and_self, toBytes_bys, List.nil_append, List.append_nil, List.drop_zero, List.take_succ_cons, List.take_zero, List.getElem?_cons_succ, List.getElem?_cons_zero, cells_agg, eqCells_cons, eqCells_nil, eq1_int, eq1_bool, eq1_str, ↓at_ptr_whole, ↓at_ptr_cell, ↓at_ptr_obj, ↓at_ptr_objs, shift_obj, shift_elt, toA_val, toA_own, Int.toNat_natCast, List.cons_append, rents]
      simp
    · rw [if_neg h2]
      simp (disch := (first | assumption | (simp only [Bool.and_eq_true, Bool.and_eq_false_iff, decide_eq_true_eq, decide_eq_false_iff_not, bne_iff_ne, beq_iff_eq, beq_eq_false_iff_ne, bne_eq_false_iff_eq, Bool.not_eq_true', Bool.not_eq_false', bys_length, List.length_append, List.length_cons, List.length_nil, List.length_map, List.length_drop, List.length_take, Int.natCast_add, wrap_i64_eq, wrap_u64, wrap_u8, ne_eq, not_true_eq_false, not_false_eq_true, Nat.zero_add, Nat.mul_one] <;> omega) | omega | (simp; done) | (simp; omega))) only [↓at_runK, ↓at_bind, ↓contQ_mk, ↓at_ret, ↓at_consK, ↓at_nilK, ↓at_optK, ↓at_intK, ↓at_boolK, ↓at_strK, ↓at_slK, ↓at_slOK, ↓at_slK0, ↓at_slOK0, ↓at_aggK, ↓at_cond_t, ↓at_cond_f, ↓at_sameL, ↓at_any1, ↓at_any, and_self, toBytes_bys, List.nil_append, List.append_nil, List.drop_zero, List.take_succ_cons, List.take_zero, List.getElem?_cons_succ, List.getElem?_cons_zero, cells_agg, eqCells_cons, eqCells_nil, eq1_int, eq1_bool, eq1_str, ↓at_ptr_whole, ↓at_ptr_cell, ↓at_ptr_obj, ↓at_ptr_objs, shift_obj, shift_elt, toA_val, toA_own, Int.toNat_natCast, List.cons_append, rents]
      simp

/-! ### The same -/
theorem chI_head (s : Ix) : ∀ (f : Nat) (n : Int) (h : 0 < (chI s f n).length), (chI s f n)[0] = n
  | 0, _, h => by simp [chI] at h
  | f + 1, n, h => by
    by_cases hn : s.F ≤ n ∧ n < s.F + s.E.length
    · by_cases hg : (s.E[(n - s.F).toNat]'(by omega)).2 ≥ n
      · have : chI s (f + 1) n = [n] := by unfold chI; rw [dif_pos hn, if_pos hg]
        simp [this]
      · have : chI s (f + 1) n = n :: chI s f (s.E[(n - s.F).toNat]'(by omega)).2 := by
          rw [chI, dif_pos hn, if_neg hg]
        simp [this]
    · have : chI s (f + 1) n = [] := by rw [chI, dif_neg hn]
      simp [this] at h
theorem chI_dec (s : Ix) : ∀ (f : Nat) (n : Int) (j : Nat) (h : j + 1 < (chI s f n).length), (chI s f n)[j + 1] < (chI s f n)[j]
  | 0, _, _, h => by simp [chI] at h
  | f + 1, n, j, h => by
    by_cases hn : s.F ≤ n ∧ n < s.F + s.E.length
    · by_cases hg : (s.E[(n - s.F).toNat]'(by omega)).2 ≥ n
      · have : chI s (f + 1) n = [n] := by unfold chI; rw [dif_pos hn, if_pos hg]
        simp [this] at h
      · have this : chI s (f + 1) n = n :: chI s f (s.E[(n - s.F).toNat]'(by omega)).2 := by
          rw [chI, dif_pos hn, if_neg hg]
        simp only [this] at h ⊢
        cases j with
        | zero =>
          simp only [List.getElem_cons_succ, List.getElem_cons_zero]
          rw [chI_head]
          omega
        | succ j =>
          simp only [List.getElem_cons_succ]
          exact chI_dec s f _ j (by simpa using h)
    · have : chI s (f + 1) n = [] := by rw [chI, dif_neg hn]
      simp [this] at h
theorem chF_len {s : Ix} {n : Int} : (chF s n).length ≤ s.E.length := by
  unfold chF
  by_cases hn : s.F ≤ n ∧ n < s.F + s.E.length
  · have := chI_len s ((n - s.F).toNat + 1) n
    omega
  · unfold chI; rw [dif_neg hn]; simp
theorem same_inner {d n0 i : Nat} {lsn fnd pv F G a b c e : Int} {f : Bool} {l c15 : List AVal} {h : Heap} {cs : List Int} (hl : cs.length ≤ 1000) (hdec : ∀ (j : Nat) (hj : j + 1 < cs.length), cs[j + 1] < cs[j]) {Q : Res → Prop} {r : Prop}
    (hend : ∀ (k : Nat) (tg : Hid Q), Run (P46_1 d n0 (k + 1) i lsn fnd pv (ints cs) (ints cs) cs.length F G f l a b c e c15 h) Q tg = r) :
    ∀ (n j k : Nat) (tg : Hid Q), cs.length = j + n → n < k → Run (P46_1 d n0 k i lsn fnd pv (ints cs) (ints cs) j F G f l a b c e c15 h) Q tg = r := by
  intro n
  induction n with
  | zero =>
    intro j k tg hj hk
    obtain ⟨k, rfl⟩ : ∃ m, k = m + 1 := ⟨k - 1, by omega⟩
    have : j = cs.length := by omega
    subst this
    exact hend k tg
  | succ n ih =>
    intro j k tg hj hk
    obtain ⟨k, rfl⟩ : ∃ m, k = m + 1 := ⟨k - 1, by omega⟩
    have h1 : j < cs.length := by omega
    have e1 := succ_wrap (i := j) (by omega)
    have ih' := fun tg => ih (j + 1) k tg (by omega) (by omega)
    rw [P46_1_eq]
    rcases Nat.eq_zero_or_pos j with h0 | h0
    · simp (disch := (first | assumption | (simp only [Bool.and_eq_true, Bool.and_eq_false_iff, decide_eq_true_eq, decide_eq_false_iff_not, bne_iff_ne, beq_iff_eq, beq_eq_false_iff_ne, bne_eq_false_iff_eq, Bool.not_eq_true', Bool.not_eq_false', bys_length, List.length_append, List.length_cons, List.length_nil, List.length_map, List.length_drop, List.length_take, Int.natCast_add, wrap_i64_eq, wrap_u64, wrap_u8, ne_eq, not_true_eq_false, not_false_eq_true, Nat.zero_add, Nat.mul_one] <;> omega) | omega | (simp; done) | (simp; omega))) only [↓at_runK, ↓at_bind, ↓contQ_mk, ↓at_ret, ↓at_consK, ↓at_nilK, ↓at_optK, ↓at_intK, ↓at_boolK, ↓at_strK, ↓at_slK, ↓at_slOK, ↓at_slK0, ↓at_slOK0, ↓at_aggK, ↓at_cond_t, ↓at_cond_f, ↓at_sameL, ↓at_any1, ↓at_any, and_self, toBytes_bys, List.nil_append, List.append_nil, List.drop_zero, List.take_succ_cons, List.take_zero, List.getElem?_cons_succ, List.getElem?_cons_zero, cells_agg, eqCells_cons, eqCells_nil, eq1_int, eq1_bool, eq1_str, ↓at_ptr_whole, ↓at_ptr_cell, ↓at_ptr_obj, ↓at_ptr_objs, shift_obj, shift_elt, toA_val, toA_own, Int.toNat_natCast, List.cons_append, ints_length, ints_getD h1, e1, ih']
    · obtain ⟨j', rfl⟩ : ∃ m, j = m + 1 := ⟨j - 1, by omega⟩
      have h2 : j' < cs.length := by omega
      have e2 : IntKind.i64.wrap (((j' + 1 : Nat) : Int) - 1) = (j' : Nat) := by rw [wrap_i64_id (by omega) (by omega)]; omega
      have hd := hdec j' (by omega)
      simp (disch := (first | assumption | (simp only [Bool.and_eq_true, Bool.and_eq_false_iff, decide_eq_true_eq, decide_eq_false_iff_not, bne_iff_ne, beq_iff_eq, beq_eq_false_iff_ne, bne_eq_false_iff_eq, Bool.not_eq_true', Bool.not_eq_false', bys_length, List.length_append, List.length_cons, List.length_nil, List.length_map, List.length_drop, List.length_take, Int.natCast_add, wrap_i64_eq, wrap_u64, wrap_u8, ne_eq, not_true_eq_false, not_false_eq_true, Nat.zero_add, Nat.mul_one] <;> omega) | omega | (simp; done) | (simp; omega))) only [↓at_runK, ↓at_bind, ↓contQ_mk, ↓at_ret, ↓at_consK, ↓at_nilK, ↓at_optK, ↓at_intK, ↓at_boolK, ↓at_strK, ↓at_slK, ↓at_slOK, ↓at_slK0, ↓at_slOK0, ↓at_aggK, ↓at_cond_t, ↓at_cond_f, ↓at_sameL, ↓at_any1, ↓at_any, and_self, toBytes_bys, List.nil_append, List.append_nil, List.drop_zero, List.take_succ_cons, List.take_zero, List.getElem?_cons_succ, List.getElem?_cons_zero, cells_agg, eqCells_cons, eqCells_nil, eq1_int, eq1_bool, eq1_str, ↓at_ptr_whole, ↓at_ptr_cell, ↓at_ptr_obj, ↓at_ptr_objs, shift_obj, shift_elt, toA_val, toA_own, Int.toNat_natCast, List.cons_append, ints_length, ints_getD h1, ints_getD h2, e1, e2, ih']
theorem same_loop26 {d i m : Nat} {h : Heap} {s : Ix} (hp : PIx h i m s) (fl : Bool) (a b c e : Int) (Q : Res → Prop) : ∀ (n j k : Nat) (tg : Hid Q), s.E.length + 2 = j + n → n < k →
    Run (P46_0 (d + 4) k i (s.F - 1 + j) s.F (s.F + s.E.length) fl (rents s.F s.E) a b c e h) Q tg = Q ([.bool true], h) := by
  intro n
  have h1 := hp.ok.lo
  have h2 := hp.ok.hi
  have h3 := hp.ok.few
  induction n with
  | zero =>
    intro j k tg hj hk
    obtain ⟨k, rfl⟩ : ∃ m, k = m + 1 := ⟨k - 1, by omega⟩
    rw [P46_0_eq]
    simp (disch := (first | assumption | (simp only [Bool.and_eq_true, Bool.and_eq_false_iff, decide_eq_true_eq, decide_eq_false_iff_not, bne_iff_ne, beq_iff_eq, beq_eq_false_iff_ne, bne_eq_false_iff_eq, Bool.not_eq_true', Bool.not_eq_false', bys_length, List.length_append, List.length_cons, List.length_nil, List.length_map, List.length_drop, List.length_take, Int.natCast_add, wrap_i64_eq, wrap_u64, wrap_u8, ne_eq, not_true_eq_false, not_false_eq_true, Nat.zero_add, Nat.mul_one] <;> omega) | omega | (simp; done) | (simp; omega))) only [↓at_runK, ↓at_bind, ↓contQ_mk, ↓at_ret, ↓at_consK, ↓at_nilK, ↓at_optK, ↓at_intK, ↓at_boolK, ↓at_strK, ↓at_slK, ↓at_slOK, ↓at_slK0, ↓at_slOK0, ↓at_aggK, ↓at_cond_t, ↓at_cond_f, ↓at_sameL, ↓at_any1, ↓at_any, and_self, toBytes_bys, List.nil_append, List.append_nil, List.drop_zero, List.take_succ_cons, List.take_zero, List.getElem?_cons_succ, List.getElem?_cons_zero, cells_agg, eqCells_cons, eqCells_nil, eq1_int, eq1_bool, eq1_str, ↓at_ptr_whole, ↓at_ptr_cell, ↓at_ptr_obj, ↓at_ptr_objs, shift_obj, shift_elt, toA_val, toA_own, Int.toNat_natCast, List.cons_append]
  | succ n ih =>
    intro j k tg hj hk
    obtain ⟨k, rfl⟩ : ∃ m, k = m + 1 := ⟨k - 1, by omega⟩
    have e1 : IntKind.i64.wrap (s.F - 1 + (j : Int) + 1) = s.F - 1 + ((j + 1 : Nat) : Int) := by rw [wrap_i64_id (by omega) (by omega)]; omega
    have ih' := fun tg => ih (j + 1) k tg (by omega) (by omega)
    have hcl := chF_len (s := s) (n := s.F - 1 + j)
    have hch := fun (Q : Res → Prop) (tg : Hid Q) => chain26_run (d := d) hp (n := s.F - 1 + j) (by omega) (Q := Q) (tg := tg) (by omega)
    have hrc := fun (Q : Res → Prop) (tg : Hid Q) => rchain26_run (d := d + 2) (fl := fl) (h := h) (s := s) (G := s.F + s.E.length) (a := a) (b := b) (c := c) (e := e) (n := s.F - 1 + j) h3 (by omega) (Q := Q) (tg := tg)
    have hdec : ∀ (q : Nat) (hq : q + 1 < (chF s (s.F - 1 + j)).length), (chF s (s.F - 1 + j))[q + 1] < (chF s (s.F - 1 + j))[q] := fun q hq => chI_dec s _ _ q hq
    have hil := ints_length (chF s (s.F - 1 + j))
    rw [P46_0_eq]
    by_cases hin : 1 ≤ j ∧ j ≤ s.E.length
    · have hk' : j - 1 < s.E.length := by omega
      have en : s.F - 1 + (j : Int) = s.F + ((j - 1 : Nat) : Int) := by omega
      have hfr : findR s.F s.E (s.F - 1 + j) = ((j - 1 : Nat) : Int) := by unfold findR; rw [if_pos (by omega)]; omega
      have hpl := fun (Q : Res → Prop) (tg : Hid Q) => place_in (d := d + 1) hp hk' (Q := Q) (tg := tg)
      have hpr := fun (Q : Res → Prop) (tg : Hid Q) => prev_in (d := d + 1) hp hk' (Q := Q) (tg := tg)
      rw [← en] at hpl hpr
      have hidx : idxP s.E[j - 1].1 s.E = some (j - 1) := by
        have : ∀ (E : List Ent) (q : Nat) (hq : q < E.length), (E.map (·.1)).Nodup → idxP E[q].1 E = some q := fun E => by
          induction E with
          | nil => intro q hq; simp at hq
          | cons x r ih =>
            intro q hq hn
            simp only [List.map_cons, List.nodup_cons] at hn
            unfold idxP
            cases q with
            | zero => simp
            | succ q =>
              have hq' : q < r.length := by simpa using hq
              have hne : ¬ x.1 = r[q].1 := fun h => hn.1 (h ▸ List.mem_map_of_mem (List.getElem_mem hq'))
              simp only [List.getElem_cons_succ]
              rw [if_neg hne, ih q hq' hn.2]; rfl
        exact this s.E (j - 1) hk' hp.ok.nd
      have hat := fun (Q : Res → Prop) (tg : Hid Q) => iat_run (d := d + 3) hp (x := s.E[j - 1].1.seq) (y := s.E[j - 1].1.at') (Q := Q) (tg := tg)
      have epl : (⟨s.E[j - 1].1.seq, s.E[j - 1].1.at'⟩ : IPlace) = s.E[j - 1].1 := rfl
      simp only [epl, hidx, Option.isSome_some, ← en] at hat
      have hend : ∀ (k' : Nat) (tg : Hid Q), Run (P46_1 (d + 4) k (k' + 1) i (s.F - 1 + j) ((j - 1 : Nat) : Int) s.E[j - 1].2 (ints (chF s (s.F - 1 + j))) (ints (chF s (s.F - 1 + j))) (chF s (s.F - 1 + j)).length s.F (s.F + s.E.length) fl (rents s.F s.E) a b c e [.int .i64 s.E[j - 1].1.seq, .int .i64 s.E[j - 1].1.at'] h) Q tg = Q ([.bool true], h) := fun k' tg => by
        rw [P46_1_eq]
        simp (disch := (first | assumption | (simp only [Bool.and_eq_true, Bool.and_eq_false_iff, decide_eq_true_eq, decide_eq_false_iff_not, bne_iff_ne, beq_iff_eq, beq_eq_false_iff_ne, bne_eq_false_iff_eq, Bool.not_eq_true', Bool.not_eq_false', bys_length, List.length_append, List.length_cons, List.length_nil, List.length_map, List.length_drop, List.length_take, Int.natCast_add, wrap_i64_eq, wrap_u64, wrap_u8, ne_eq, not_true_eq_false, not_false_eq_true, Nat.zero_add, Nat.mul_one] <;> omega) | omega | (simp; done) | (simp; omega))) only [↓at_runK, ↓at_bind, ↓contQ_mk, ↓at_ret, ↓at_consK, ↓at_nilK, ↓at_optK, ↓at_intK, ↓at_boolK, ↓at_strK, ↓at_slK, ↓at_slOK, ↓at_slK0, ↓at_slOK0, ↓at_aggK, ↓at_cond_t, ↓at_cond_f, ↓at_sameL, ↓at_any1, ↓at_any, and_self, toBytes_bys, List.nil_append, List.append_nil, List.drop_zero, List.take_succ_cons, List.take_zero, List.getElem?_cons_succ, List.getElem?_cons_zero, cells_agg, eqCells_cons, eqCells_nil, eq1_int, eq1_bool, eq1_str, ↓at_ptr_whole, ↓at_ptr_cell, ↓at_ptr_obj, ↓at_ptr_objs, shift_obj, shift_elt, toA_val, toA_own, Int.toNat_natCast, List.cons_append, hil, hat, rents_length, rents_getD hk', List.drop_succ_cons, e1, ih']
      have hin' := fun tg => same_inner (by omega) hdec hend (chF s (s.F - 1 + j)).length 0 rounds tg (by omega) (rounds_gt' _ (by omega))
      rw [e0] at hin'
      simp (disch := (first | assumption | (simp only [Bool.and_eq_true, Bool.and_eq_false_iff, decide_eq_true_eq, decide_eq_false_iff_not, bne_iff_ne, beq_iff_eq, beq_eq_false_iff_ne, bne_eq_false_iff_eq, Bool.not_eq_true', Bool.not_eq_false', bys_length, List.length_append, List.length_cons, List.length_nil, List.length_map, List.length_drop, List.length_take, Int.natCast_add, wrap_i64_eq, wrap_u64, wrap_u8, ne_eq, not_true_eq_false, not_false_eq_true, Nat.zero_add, Nat.mul_one] <;> omega) | omega | (simp; done) | (simp; omega))) only [↓at_runK, ↓at_bind, ↓contQ_mk, ↓at_ret, ↓at_consK, ↓at_nilK, ↓at_optK, ↓at_intK, ↓at_boolK, ↓at_strK, ↓at_slK, ↓at_slOK, ↓at_slK0, ↓at_slOK0, ↓at_aggK, ↓at_cond_t, ↓at_cond_f, ↓at_sameL, ↓at_any1, ↓at_any, and_self, toBytes_bys, List.nil_append, List.append_nil, List.drop_zero, List.take_succ_cons, List.take_zero, List.getElem?_cons_succ, List.getElem?_cons_zero, cells_agg, eqCells_cons, eqCells_nil, eq1_int, eq1_bool, eq1_str, ↓at_ptr_whole, ↓at_ptr_cell, ↓at_ptr_obj, ↓at_ptr_objs, shift_obj, shift_elt, toA_val, toA_own, Int.toNat_natCast, List.cons_append, rfind_run h3, hfr, hpl, hpr, hch, hrc, hil, rents_length, hin']
    · have ho : inR s (s.F - 1 + j) = false := by simp [inR]; omega
      have hfo : findR s.F s.E (s.F - 1 + j) = -1 := by unfold findR; rw [if_neg (by omega)]
      have hce : chF s (s.F - 1 + j) = [] := by unfold chF chI; rw [dif_neg (by omega)]
      rw [hce] at hch hrc
      have hend : ∀ (k' : Nat) (tg : Hid Q), Run (P46_1 (d + 4) k (k' + 1) i (s.F - 1 + j) (-1) 0 (ints []) (ints []) ([] : List Int).length s.F (s.F + s.E.length) fl (rents s.F s.E) a b c e [.int .i64 0, .int .i64 0] h) Q tg = Q ([.bool true], h) := fun k' tg => by
        rw [P46_1_eq]
        simp (disch := (first | assumption | (simp only [Bool.and_eq_true, Bool.and_eq_false_iff, decide_eq_true_eq, decide_eq_false_iff_not, bne_iff_ne, beq_iff_eq, beq_eq_false_iff_ne, bne_eq_false_iff_eq, Bool.not_eq_true', Bool.not_eq_false', bys_length, List.length_append, List.length_cons, List.length_nil, List.length_map, List.length_drop, List.length_take, Int.natCast_add, wrap_i64_eq, wrap_u64, wrap_u8, ne_eq, not_true_eq_false, not_false_eq_true, Nat.zero_add, Nat.mul_one] <;> omega) | omega | (simp; done) | (simp; omega))) only [↓at_runK, ↓at_bind, ↓contQ_mk, ↓at_ret, ↓at_consK, ↓at_nilK, ↓at_optK, ↓at_intK, ↓at_boolK, ↓at_strK, ↓at_slK, ↓at_slOK, ↓at_slK0, ↓at_slOK0, ↓at_aggK, ↓at_cond_t, ↓at_cond_f, ↓at_sameL, ↓at_any1, ↓at_any, and_self, toBytes_bys, List.nil_append, List.append_nil, List.drop_zero, List.take_succ_cons, List.take_zero, List.getElem?_cons_succ, List.getElem?_cons_zero, cells_agg, eqCells_cons, eqCells_nil, eq1_int, eq1_bool, eq1_str, ↓at_ptr_whole, ↓at_ptr_cell, ↓at_ptr_obj, ↓at_ptr_objs, shift_obj, shift_elt, toA_val, toA_own, Int.toNat_natCast, List.cons_append, ints_length, e1, ih']
      have hin' := fun tg => same_inner (by simp) (fun q hq => by simp at hq) hend 0 0 rounds tg (by simp) (rounds_gt' _ (by omega))
      rw [e0] at hin'
      simp (disch := (first | assumption | (simp only [Bool.and_eq_true, Bool.and_eq_false_iff, decide_eq_true_eq, decide_eq_false_iff_not, bne_iff_ne, beq_iff_eq, beq_eq_false_iff_ne, bne_eq_false_iff_eq, Bool.not_eq_true', Bool.not_eq_false', bys_length, List.length_append, List.length_cons, List.length_nil, List.length_map, List.length_drop, List.length_take, Int.natCast_add, wrap_i64_eq, wrap_u64, wrap_u8, ne_eq, not_true_eq_false, not_false_eq_true, Nat.zero_add, Nat.mul_one] <;> omega) | omega | (simp; done) | (simp; omega))) only [↓at_runK, ↓at_bind, ↓contQ_mk, ↓at_ret, ↓at_consK, ↓at_nilK, ↓at_optK, ↓at_intK, ↓at_boolK, ↓at_strK, ↓at_slK, ↓at_slOK, ↓at_slK0, ↓at_slOK0, ↓at_aggK, ↓at_cond_t, ↓at_cond_f, ↓at_sameL, ↓at_any1, ↓at_any, and_self, toBytes_bys, List.nil_append, List.append_nil, List.drop_zero, List.take_succ_cons, List.take_zero, List.getElem?_cons_succ, List.getElem?_cons_zero, cells_agg, eqCells_cons, eqCells_nil, eq1_int, eq1_bool, eq1_str, ↓at_ptr_whole, ↓at_ptr_cell, ↓at_ptr_obj, ↓at_ptr_objs, shift_obj, shift_elt, toA_val, toA_own, Int.toNat_natCast, List.cons_append, rfind_run h3, hfo, place_out hp ho, prev_out hp ho, hch, hrc, ints_length, hin']
theorem same26_run {d i m : Nat} {h : Heap} {s : Ix} (hp : PIx h i m s) {fl : Bool} {a b c e : Int} (hH : s.H = [a, b, c, e]) {Q : Res → Prop} {tg : Hid Q} :
    Run (evFn Cw (d + 5) 46 [.obj i 0, .agg [.int .i64 s.F, .int .i64 (s.F + s.E.length), .sl fl 5 (rents s.F s.E), .int .i64 a, .int .i64 b, .int .i64 c, .int .i64 e]] h) Q tg = Q ([.bool true], h) := by
  have h1 := hp.ok.lo
  have h2 := hp.ok.hi
  have h3 := hp.ok.few
  have hh := fun (Q : Res → Prop) (tg : Hid Q) => iheads_run (d := d + 3) hp (Q := Q) (tg := tg)
  rw [hH] at hh
  have hi4 : ints [a, b, c, e] = [.int .i64 a, .int .i64 b, .int .i64 c, .int .i64 e] := of_eq_true (eq_self _)
  rw [hi4] at hh
  have w : IntKind.i64.wrap (s.F - 1) = s.F - 1 := wrap_i64_id (by omega) (by omega)
  have hl := fun tg => same_loop26 (d := d) hp fl a b c e Q (s.E.length + 2) 0 rounds tg (by omega) (rounds_gt' _ (by omega))
  rw [e0, Int.add_zero] at hl
  rw [F46_eq]
  simp (disch := (first | assumption | (simp only [Bool.and_eq_true, Bool.and_eq_false_iff, decide_eq_true_eq, decide_eq_false_iff_not, bne_iff_ne, beq_iff_eq, beq_eq_false_iff_ne, bne_eq_false_iff_eq, Bool.not_eq_true', Bool.not_eq_false', bys_length, List.length_append, List.length_cons, List.length_nil, List.length_map, List.length_drop, List.length_take, Int.natCast_add, wrap_i64_eq, wrap_u64, wrap_u8, ne_eq, not_true_eq_false, not_false_eq_true, Nat.zero_add, Nat.mul_one] <;> omega) | omega | (simp; done) | (simp; omega))) only [↓at_runK, ↓at_bind, ↓contQ_mk, ↓at_ret, ↓at_consK, ↓at_nilK, ↓at_optK, ↓at_intK, ↓at_boolK, ↓at_strK, ↓at_slK, ↓at_slOK, ↓at_slK0, ↓at_slOK0, ↓at_aggK, ↓at_cond_t, ↓at_cond_f, ↓at_sameL, ↓at_any1, ↓at_any, and_self, toBytes_bys, List.nil_append, List.append_nil, List.drop_zero, List.take_succ_cons, List.take_zero, List.getElem?_cons_succ, List.getElem?_cons_zero, cells_agg, eqCells_cons, eqCells_nil, eq1_int, eq1_bool, eq1_str, ↓at_ptr_whole, ↓at_ptr_cell, ↓at_ptr_obj, ↓at_ptr_objs, shift_obj, shift_elt, toA_val, toA_own, Int.toNat_natCast, List.cons_append, first_run hp, next_run hp, hh, w, hl]

/-! ### The statement -/
def acts26 (l : List Act26) : List AVal := l.map Act26.A
theorem acts26_length (l : List Act26) : (acts26 l).length = l.length := by simp [acts26]
theorem acts26_getD {l : List Act26} {i : Nat} (h : i < l.length) : (acts26 l).getD i AVal.undef = .agg [.int .u64 l[i].kind, .int .i64 l[i].chain, .int .i64 l[i].at'.seq, .int .i64 l[i].at'.at', .int .i64 l[i].n] := by simp [acts26, h, Act26.A, Act26.C]
theorem plays_loop (d i m : Nat) (l : List Act26) (hl : l.length ≤ 60) : ∀ (n j k : Nat) (h : Heap) (s : Ix) (fl : Bool) (a b c e : Int), PIx h i m s → s.H = [a, b, c, e] → s.E.length ≤ j → l.length = j + n → n < k →
    ∃ h', ∀ (Q : Res → Prop) (tg : Hid Q), Run (P11_1 (d + 5) k false (acts26 l) (.obj i 0) j (yc s fl a b c e) h) Q tg = Q ([.bool true], h') := by
  intro n
  induction n with
  | zero =>
    intro j k h s fl a b c e hp hH hlen hj hk
    obtain ⟨k, rfl⟩ : ∃ m, k = m + 1 := ⟨k - 1, by omega⟩
    obtain ⟨h', hw⟩ := awake26_ok d h
    refine ⟨h', fun Q tg => ?_⟩
    rw [P11_1_eq]
    simp (disch := (first | assumption | (simp only [Bool.and_eq_true, Bool.and_eq_false_iff, decide_eq_true_eq, decide_eq_false_iff_not, bne_iff_ne, beq_iff_eq, beq_eq_false_iff_ne, bne_eq_false_iff_eq, Bool.not_eq_true', Bool.not_eq_false', bys_length, List.length_append, List.length_cons, List.length_nil, List.length_map, List.length_drop, List.length_take, Int.natCast_add, wrap_i64_eq, wrap_u64, wrap_u8, ne_eq, not_true_eq_false, not_false_eq_true, Nat.zero_add, Nat.mul_one] <;> omega) | omega | (simp; done) | (simp; omega))) only [↓at_runK, ↓at_bind, ↓contQ_mk, ↓at_ret, ↓at_consK, ↓at_nilK, ↓at_optK, ↓at_intK, ↓at_boolK, ↓at_strK, ↓at_slK, ↓at_slOK, ↓at_slK0, ↓at_slOK0, ↓at_aggK, ↓at_cond_t, ↓at_cond_f, ↓at_sameL, ↓at_any1, ↓at_any, and_self, toBytes_bys, List.nil_append, List.append_nil, List.drop_zero, List.take_succ_cons, List.take_zero, List.getElem?_cons_succ, List.getElem?_cons_zero, cells_agg, eqCells_cons, eqCells_nil, eq1_int, eq1_bool, eq1_str, ↓at_ptr_whole, ↓at_ptr_cell, ↓at_ptr_obj, ↓at_ptr_objs, shift_obj, shift_elt, toA_val, toA_own, Int.toNat_natCast, List.cons_append, acts26_length, hw]
  | succ n ih =>
    intro j k h s fl a b c e hp hH hlen hj hk
    obtain ⟨k, rfl⟩ : ∃ m, k = m + 1 := ⟨k - 1, by omega⟩
    have hj' : j < l.length := by omega
    have e1 := succ_wrap (i := j) (by omega)
    have tail : ∀ (h1 : Heap) (s1 : Ix) (fl1 : Bool) (a1 b1 c1 g1 : Int), PIx h1 i m s1 → s1.H = [a1, b1, c1, g1] → s1.E.length ≤ j + 1 → ∃ h', ∀ (Q : Res → Prop) (tg : Hid Q), Run (P11_2 (d + 5) k false (acts26 l) (.obj i 0) j (yc s1 fl1 a1 b1 c1 g1) h1) Q tg = Q ([.bool true], h') := fun h1 s1 fl1 a1 b1 c1 g1 hp1 hH1 hlen1 => by
      obtain ⟨h', hi⟩ := ih (j + 1) k h1 s1 fl1 a1 b1 c1 g1 hp1 hH1 hlen1 (by omega) (by omega)
      refine ⟨h', fun Q tg => ?_⟩
      have q1 := hp1.ok.lo
      have q3 := hp1.ok.few
      have hs := fun (Q : Res → Prop) (tg : Hid Q) => same26_run (d := d) hp1 (fl := fl1) hH1 (Q := Q) (tg := tg)
      have ha := fun (Q : Res → Prop) (tg : Hid Q) => iat_run (d := d + 4) hp1 (x := l[j].at'.seq) (y := l[j].at'.at') (Q := Q) (tg := tg)
      have hr := fun (Q : Res → Prop) (tg : Hid Q) => rat_run (d := d + 4) (f := fl1) (h := h1) (F := s1.F) (G := s1.F + s1.E.length) (a := a1) (b := b1) (c := c1) (e := g1) (x := l[j].at'.seq) (y := l[j].at'.at') q3 (Q := Q) (tg := tg)
      unfold yc at hi ⊢
      rw [P11_2_eq]
      cases hx : idxP ⟨l[j].at'.seq, l[j].at'.at'⟩ s1.E with
      | none =>
        simp only [hx, Option.isSome_none] at ha hr
        simp (disch := (first | assumption | (simp only [Bool.and_eq_true, Bool.and_eq_false_iff, decide_eq_true_eq, decide_eq_false_iff_not, bne_iff_ne, beq_iff_eq, beq_eq_false_iff_ne, bne_eq_false_iff_eq, Bool.not_eq_true', Bool.not_eq_false', bys_length, List.length_append, List.length_cons, List.length_nil, List.length_map, List.length_drop, List.length_take, Int.natCast_add, wrap_i64_eq, wrap_u64, wrap_u8, ne_eq, not_true_eq_false, not_false_eq_true, Nat.zero_add, Nat.mul_one] <;> omega) | omega | (simp; done) | (simp; omega))) only [↓at_runK, ↓at_bind, ↓contQ_mk, ↓at_ret, ↓at_consK, ↓at_nilK, ↓at_optK, ↓at_intK, ↓at_boolK, ↓at_strK, ↓at_slK, ↓at_slOK, ↓at_slK0, ↓at_slOK0, ↓at_aggK, ↓at_cond_t, ↓at_cond_f, ↓at_sameL, ↓at_any1, ↓at_any, and_self, toBytes_bys, List.nil_append, List.append_nil, List.drop_zero, List.take_succ_cons, List.take_zero, List.getElem?_cons_succ, List.getElem?_cons_zero, cells_agg, eqCells_cons, eqCells_nil, eq1_int, eq1_bool, eq1_str, ↓at_ptr_whole, ↓at_ptr_cell, ↓at_ptr_obj, ↓at_ptr_objs, shift_obj, shift_elt, toA_val, toA_own, Int.toNat_natCast, List.cons_append, hs, acts26_length, acts26_getD hj', List.drop_succ_cons, ha, hr, e1, hi]
      | some q =>
        simp only [hx, Option.isSome_some] at ha hr
        simp (disch := (first | assumption | (simp only [Bool.and_eq_true, Bool.and_eq_false_iff, decide_eq_true_eq, decide_eq_false_iff_not, bne_iff_ne, beq_iff_eq, beq_eq_false_iff_ne, bne_eq_false_iff_eq, Bool.not_eq_true', Bool.not_eq_false', bys_length, List.length_append, List.length_cons, List.length_nil, List.length_map, List.length_drop, List.length_take, Int.natCast_add, wrap_i64_eq, wrap_u64, wrap_u8, ne_eq, not_true_eq_false, not_false_eq_true, Nat.zero_add, Nat.mul_one] <;> omega) | omega | (simp; done) | (simp; omega))) only [↓at_runK, ↓at_bind, ↓contQ_mk, ↓at_ret, ↓at_consK, ↓at_nilK, ↓at_optK, ↓at_intK, ↓at_boolK, ↓at_strK, ↓at_slK, ↓at_slOK, ↓at_slK0, ↓at_slOK0, ↓at_aggK, ↓at_cond_t, ↓at_cond_f, ↓at_sameL, ↓at_any1, ↓at_any, and_self, toBytes_bys, List.nil_append, List.append_nil, List.drop_zero, List.take_succ_cons, List.take_zero, List.getElem?_cons_succ, List.getElem?_cons_zero, cells_agg, eqCells_cons, eqCells_nil, eq1_int, eq1_bool, eq1_str, ↓at_ptr_whole, ↓at_ptr_cell, ↓at_ptr_obj, ↓at_ptr_objs, shift_obj, shift_elt, toA_val, toA_own, Int.toNat_natCast, List.cons_append, hs, acts26_length, acts26_getD hj', List.drop_succ_cons, ha, hr, e1, hi]
    by_cases hkind : Int.tmod l[j].kind 4 = 3
    · obtain ⟨h1, hp1, hd1⟩ := drop26_ok (d := d + 3) hp l[j].n
      have hdl : (dropS s l[j].n).E.length ≤ s.E.length := by simp only [dropS, List.length_drop]; omega
      have hG : (dropS s l[j].n).F + ((dropS s l[j].n).E.length : Int) = s.F + s.E.length := by
        have := ndR_le s.F s.E.length l[j].n
        simp only [dropS, List.length_drop]; omega
      obtain ⟨h', ht⟩ := tail h1 (dropS s l[j].n) false a b c e hp1 hH (by omega)
      refine ⟨h', fun Q tg => ?_⟩
      have hrd := fun (h : Heap) (Q : Res → Prop) (tg : Hid Q) => rdrop_run (d := d + 4) (fl := fl) (h := h) (G := s.F + s.E.length) (a := a) (b := b) (c := c) (e := e) (x := l[j].n) hp.ok (Q := Q) (tg := tg)
      unfold yc at ht ⊢
      rw [hG] at ht
      rw [P11_1_eq]
      simp (disch := (first | assumption | (simp only [Bool.and_eq_true, Bool.and_eq_false_iff, decide_eq_true_eq, decide_eq_false_iff_not, bne_iff_ne, beq_iff_eq, beq_eq_false_iff_ne, bne_eq_false_iff_eq, Bool.not_eq_true', Bool.not_eq_false', bys_length, List.length_append, List.length_cons, List.length_nil, List.length_map, List.length_drop, List.length_take, Int.natCast_add, wrap_i64_eq, wrap_u64, wrap_u8, ne_eq, not_true_eq_false, not_false_eq_true, Nat.zero_add, Nat.mul_one] <;> omega) | omega | (simp; done) | (simp; omega))) only [↓at_runK, ↓at_bind, ↓contQ_mk, ↓at_ret, ↓at_consK, ↓at_nilK, ↓at_optK, ↓at_intK, ↓at_boolK, ↓at_strK, ↓at_slK, ↓at_slOK, ↓at_slK0, ↓at_slOK0, ↓at_aggK, ↓at_cond_t, ↓at_cond_f, ↓at_sameL, ↓at_any1, ↓at_any, and_self, toBytes_bys, List.nil_append, List.append_nil, List.drop_zero, List.take_succ_cons, List.take_zero, List.getElem?_cons_succ, List.getElem?_cons_zero, cells_agg, eqCells_cons, eqCells_nil, eq1_int, eq1_bool, eq1_str, ↓at_ptr_whole, ↓at_ptr_cell, ↓at_ptr_obj, ↓at_ptr_objs, shift_obj, shift_elt, toA_val, toA_own, Int.toNat_natCast, List.cons_append, acts26_length, acts26_getD hj', hkind, hrd, hd1, List.length_cons, List.length_nil, Nat.reduceAdd, beq_self_eq_true, cond_true, ht]
    · obtain ⟨h1, hp1, ha1⟩ := add_ok (d := d + 3) hp (by omega) l[j].chain l[j].at'.seq l[j].at'.at'
      obtain ⟨fl', a', b', c', e', hH', hra⟩ := radd_ok (d := d + 3) (fl := fl) hp.ok (by omega) hH h l[j].chain l[j].at'.seq l[j].at'.at'
      have hal : (addS s l[j].chain ⟨l[j].at'.seq, l[j].at'.at'⟩).1.E.length ≤ s.E.length + 1 := by
        unfold addS
        split <;> simp
      obtain ⟨h', ht⟩ := tail h1 _ fl' a' b' c' e' hp1 hH' (by omega)
      refine ⟨h', fun Q tg => ?_⟩
      unfold yc at hra ht ⊢
      rw [P11_1_eq]
      simp (disch := (first | assumption | (simp only [Bool.and_eq_true, Bool.and_eq_false_iff, decide_eq_true_eq, decide_eq_false_iff_not, bne_iff_ne, beq_iff_eq, beq_eq_false_iff_ne, bne_eq_false_iff_eq, Bool.not_eq_true', Bool.not_eq_false', bys_length, List.length_append, List.length_cons, List.length_nil, List.length_map, List.length_drop, List.length_take, Int.natCast_add, wrap_i64_eq, wrap_u64, wrap_u8, ne_eq, not_true_eq_false, not_false_eq_true, Nat.zero_add, Nat.mul_one] <;> omega) | omega | (simp; done) | (simp; omega))) only [↓at_runK, ↓at_bind, ↓contQ_mk, ↓at_ret, ↓at_consK, ↓at_nilK, ↓at_optK, ↓at_intK, ↓at_boolK, ↓at_strK, ↓at_slK, ↓at_slOK, ↓at_slK0, ↓at_slOK0, ↓at_aggK, ↓at_cond_t, ↓at_cond_f, ↓at_sameL, ↓at_any1, ↓at_any, and_self, toBytes_bys, List.nil_append, List.append_nil, List.drop_zero, List.take_succ_cons, List.take_zero, List.getElem?_cons_succ, List.getElem?_cons_zero, cells_agg, eqCells_cons, eqCells_nil, eq1_int, eq1_bool, eq1_str, ↓at_ptr_whole, ↓at_ptr_cell, ↓at_ptr_obj, ↓at_ptr_objs, shift_obj, shift_elt, toA_val, toA_own, Int.toNat_natCast, List.cons_append, acts26_length, acts26_getD hj', hkind, List.drop_succ_cons, hra, P11_3_eq, ha1, List.length_cons, List.length_nil, Nat.reduceAdd, beq_self_eq_true, cond_true, ht]
/-- IndexPlays. -/
theorem iplays_true (x a b c e : Int) (l : List Act26) (h : Heap) : ∃ d h', Ans (evFn Cw d 11 [.int .i64 x, .agg [.int .i64 a, .int .i64 b, .int .i64 c, .int .i64 e], .sl false 6 (acts26 l)] h) ([.bool true], h') := by
  by_cases hl : l.length ≤ 60
  · obtain ⟨h1, p1, r1⟩ := new_ok 4 x a b c e h
    obtain ⟨h', hr⟩ := plays_loop 0 _ _ l hl l.length 0 rounds h1 _ true a b c e p1 rfl (by simp) (by omega) (rounds_gt' _ (by omega))
    have hn := fun (h : Heap) (Q : Res → Prop) (tg : Hid Q) => rnew_run (d := 4) (x := x) (a := a) (b := b) (c := c) (e := e) (h := h) (Q := Q) (tg := tg)
    refine ⟨6, h', Run.ans ?_⟩
    rw [e0] at hr
    unfold yc at hn hr
    rw [F11_eq]
    simp (disch := (first | assumption | (simp only [Bool.and_eq_true, Bool.and_eq_false_iff, decide_eq_true_eq, decide_eq_false_iff_not, bne_iff_ne, beq_iff_eq, beq_eq_false_iff_ne, bne_eq_false_iff_eq, Bool.not_eq_true', Bool.not_eq_false', bys_length, List.length_append, List.length_cons, List.length_nil, List.length_map, List.length_drop, List.length_take, Int.natCast_add, wrap_i64_eq, wrap_u64, wrap_u8, ne_eq, not_true_eq_false, not_false_eq_true, Nat.zero_add, Nat.mul_one] <;> omega) | omega | (simp; done) | (simp; omega))) only [↓at_runK, ↓at_bind, ↓contQ_mk, ↓at_ret, ↓at_consK, ↓at_nilK, ↓at_optK, ↓at_intK, ↓at_boolK, ↓at_strK, ↓at_slK, ↓at_slOK, ↓at_slK0, ↓at_slOK0, ↓at_aggK, ↓at_cond_t, ↓at_cond_f, ↓at_sameL, ↓at_any1, ↓at_any, and_self, toBytes_bys, List.nil_append, List.append_nil, List.drop_zero, List.take_succ_cons, List.take_zero, List.getElem?_cons_succ, List.getElem?_cons_zero, cells_agg, eqCells_cons, eqCells_nil, eq1_int, eq1_bool, eq1_str, ↓at_ptr_whole, ↓at_ptr_cell, ↓at_ptr_obj, ↓at_ptr_objs, shift_obj, shift_elt, toA_val, toA_own, Int.toNat_natCast, List.cons_append, acts26_length, r1, hn, P11_0_eq, hr]
  · obtain ⟨h', hw⟩ := awake26_ok 0 h
    refine ⟨6, h', Run.ans ?_⟩
    rw [F11_eq]
    simp (disch := (first | assumption | (simp only [Bool.and_eq_true, Bool.and_eq_false_iff, decide_eq_true_eq, decide_eq_false_iff_not, bne_iff_ne, beq_iff_eq, beq_eq_false_iff_ne, bne_eq_false_iff_eq, Bool.not_eq_true', Bool.not_eq_false', bys_length, List.length_append, List.length_cons, List.length_nil, List.length_map, List.length_drop, List.length_take, Int.natCast_add, wrap_i64_eq, wrap_u64, wrap_u8, ne_eq, not_true_eq_false, not_false_eq_true, Nat.zero_add, Nat.mul_one] <;> omega) | omega | (simp; done) | (simp; omega))) only [↓at_runK, ↓at_bind, ↓contQ_mk, ↓at_ret, ↓at_consK, ↓at_nilK, ↓at_optK, ↓at_intK, ↓at_boolK, ↓at_strK, ↓at_slK, ↓at_slOK, ↓at_slK0, ↓at_slOK0, ↓at_aggK, ↓at_cond_t, ↓at_cond_f, ↓at_sameL, ↓at_any1, ↓at_any, and_self, toBytes_bys, List.nil_append, List.append_nil, List.drop_zero, List.take_succ_cons, List.take_zero, List.getElem?_cons_succ, List.getElem?_cons_zero, cells_agg, eqCells_cons, eqCells_nil, eq1_int, eq1_bool, eq1_str, ↓at_ptr_whole, ↓at_ptr_cell, ↓at_ptr_obj, ↓at_ptr_objs, shift_obj, shift_elt, toA_val, toA_own, Int.toNat_natCast, List.cons_append, acts26_length, hw]
end Go.Proofs.Ythebimbdijkiiaa.Wa
