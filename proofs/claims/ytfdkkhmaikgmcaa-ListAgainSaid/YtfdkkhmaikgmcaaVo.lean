/- ListAgain. -/
import Derived.Test.YtfdkkhmaikgmcaaVn
namespace Go.Proofs.Ytfdkkhmaikgmcaa.Wa
open Go Go.Weave
set_option maxRecDepth 100000
set_option linter.unusedSimpArgs false
set_option linter.unusedVariables false
set_option linter.unusedSectionVars false

def Up (fi : Int) : List Rec → Option Int → Prop
  | [], _ => True
  | r :: rs, pv => pvBad pv r.lsn = false ∧ fi ≤ r.lsn ∧ Up fi rs (some r.lsn)
theorem Up.mono {fi x : Int} {pv : Option Int} : ∀ {gs : List Rec}, pvBad pv x = false → Up fi gs (some x) → Up fi gs pv
  | [], _, _ => trivial
  | r :: rs, h, hu => by
    refine ⟨?_, hu.2⟩
    have := hu.1
    cases pv with
    | none => rfl
    | some p => simp [pvBad] at h this ⊢; omega
theorem rmay_up {g : List Rec} {sy fi : Int} : ∀ {l : List Rec} {pv : Option Int} {k : Nat}, rmay g sy fi l pv k = true → Up fi (g.drop k) pv
  | [], pv, k, h => by
    unfold rmay at h
    rw [List.drop_eq_nil_of_le (by simpa using h)]
    trivial
  | r :: rs, pv, k, h => by
    unfold rmay at h
    by_cases h0 : pvBad pv r.lsn = true
    · rw [if_pos h0] at h; simp at h
    · rw [if_neg h0] at h
      have h0' : pvBad pv r.lsn = false := by simpa using h0
      by_cases h1 : r.lsn < fi
      · rw [if_pos h1] at h
        exact (rmay_up h).mono h0'
      · rw [if_neg h1] at h
        by_cases h2 : k < g.length
        · rw [dif_pos h2] at h
          cases hs : rsame g[k] r
          · rw [hs] at h; simp at h
          · rw [hs, if_pos rfl] at h
            have e : g[k].lsn = r.lsn := by simp [rsame] at hs; exact hs.1.1.2
            rw [List.drop_eq_getElem_cons h2]
            refine ⟨by rw [e]; exact h0', by omega, ?_⟩
            rw [e]
            exact rmay_up h
        · rw [List.drop_eq_nil_of_le (by omega)]; trivial
theorem up_rmay {g : List Rec} {sy fi : Int} : ∀ (n k : Nat) (pv : Option Int), g.length = k + n → Up fi (g.drop k) pv → rmay g sy fi (g.drop k) pv k = true
  | 0, k, pv, hn, _ => by
    have hd : g.drop k = [] := List.drop_eq_nil_of_le (by omega)
    rw [hd]; unfold rmay; simp; omega
  | n + 1, k, pv, hn, hu => by
    have hk : k < g.length := by omega
    rw [List.drop_eq_getElem_cons hk] at hu ⊢
    unfold rmay
    rw [if_neg (by simp [hu.1]), if_neg (by have := hu.2.1; omega), dif_pos hk, rsame_refl, if_pos rfl]
    exact up_rmay n (k + 1) _ (by omega) hu.2.2
theorem up_cut {g : List Rec} {sy fi : Int} (m : Nat) (hm : g.length = m + 1) (hs : (g[m]'(by omega)).lsn ≤ sy) : ∀ (n k : Nat) (pv : Option Int), m = k + n → Up fi (g.drop k) pv → rmay (g.take m) sy fi (g.drop k) pv k = false
  | 0, k, pv, hn, hu => by
    have hk : k < g.length := by omega
    rw [List.drop_eq_getElem_cons hk] at hu ⊢
    unfold rmay
    have e : g[k] = g[m]'(by omega) := by congr 1; omega
    rw [if_neg (by simp [hu.1]), if_neg (by have := hu.2.1; omega), dif_neg (by rw [List.length_take]; omega), if_pos (by rw [e]; exact hs)]
  | n + 1, k, pv, hn, hu => by
    have hk : k < g.length := by omega
    have hk2 : k < (g.take m).length := by rw [List.length_take]; omega
    rw [List.drop_eq_getElem_cons hk] at hu ⊢
    unfold rmay
    have e : (g.take m)[k] = g[k] := by simp
    rw [if_neg (by simp [hu.1]), if_neg (by have := hu.2.1; omega), dif_pos hk2, e, rsame_refl, if_pos rfl]
    exact up_cut m hm hs n (k + 1) _ (by omega) hu.2.2
theorem mayB_r (l : List Rec) (sy fi : Int) (g : List Rec) : mayB l sy fi g = rmay g sy fi l none 0 := by
  unfold mayB
  rw [may_eq g sy fi l none [] 0 (by simp)]
  have : zipSame g [] = true := by cases g <;> rfl
  rw [this]; simp
/-- ListAgain. -/
theorem lagain_true (l g : List Rec) (x0 x1 : Int) (h : Heap) : ∃ d h', Ans (evFn Cw d 3 [.sl false 6 (recs l), .sl false 6 (recs g), .agg [.int .i64 x0, .int .i64 x1]] h) ([.bool true], h') := by
  obtain ⟨h1, hw⟩ := awake30_ok 0 h
  refine ⟨7, h1, Run.ans ?_⟩
  rw [F3_eq]
  by_cases hl : l.length ≤ 200
  · by_cases hg : g.length ≤ 200
    · cases hm : mayB l x0 x1 g
      · simp (disch := (first | assumption | (simp only [Bool.and_eq_true, Bool.and_eq_false_iff, decide_eq_true_eq, decide_eq_false_iff_not, bne_iff_ne, beq_iff_eq, beq_eq_false_iff_ne, bne_eq_false_iff_eq, Bool.not_eq_true', Bool.not_eq_false', bys_length, List.length_append, List.length_cons, List.length_nil, List.length_map, List.length_drop, List.length_take, Int.natCast_add, wrap_i64_eq, wrap_u64, wrap_u8, ne_eq, not_true_eq_false, not_false_eq_true, Nat.zero_add, Nat.mul_one] <;> omega) | omega | (simp; done) | (simp; omega))) only [↓at_runK, ↓at_bind, ↓contQ_mk, ↓at_ret, ↓at_consK, ↓at_nilK, ↓at_optK, ↓at_intK, ↓at_boolK, ↓at_strK, ↓at_slK, ↓at_slOK, ↓at_slK0, ↓at_slOK0, ↓at_aggK, ↓at_cond_t, ↓at_cond_f, ↓at_sameL, ↓at_any1, ↓at_any, and_self, toBytes_bys, List.nil_append, List.append_nil, List.drop_zero, List.take_succ_cons, List.take_zero, List.getElem?_cons_succ, List.getElem?_cons_zero, cells_agg, eqCells_cons, eqCells_nil, eq1_int, eq1_bool, eq1_str, ↓at_ptr_whole, ↓at_ptr_cell, ↓at_ptr_obj, ↓at_ptr_objs, shift_obj, shift_elt, toA_val, toA_own, Int.toNat_natCast, List.cons_append, recs_length, may_run, hm, hw]
      · rcases Nat.eq_zero_or_pos g.length with h0 | h0
        · simp (disch := (first | assumption | (simp only [Bool.and_eq_true, Bool.and_eq_false_iff, decide_eq_true_eq, decide_eq_false_iff_not, bne_iff_ne, beq_iff_eq, beq_eq_false_iff_ne, bne_eq_false_iff_eq, Bool.not_eq_true', Bool.not_eq_false', bys_length, List.length_append, List.length_cons, List.length_nil, List.length_map, List.length_drop, List.length_take, Int.natCast_add, wrap_i64_eq, wrap_u64, wrap_u8, ne_eq, not_true_eq_false, not_false_eq_true, Nat.zero_add, Nat.mul_one] <;> omega) | omega | (simp; done) | (simp; omega))) only [↓at_runK, ↓at_bind, ↓contQ_mk, ↓at_ret, ↓at_consK, ↓at_nilK, ↓at_optK, ↓at_intK, ↓at_boolK, ↓at_strK, ↓at_slK, ↓at_slOK, ↓at_slK0, ↓at_slOK0, ↓at_aggK, ↓at_cond_t, ↓at_cond_f, ↓at_sameL, ↓at_any1, ↓at_any, and_self, toBytes_bys, List.nil_append, List.append_nil, List.drop_zero, List.take_succ_cons, List.take_zero, List.getElem?_cons_succ, List.getElem?_cons_zero, cells_agg, eqCells_cons, eqCells_nil, eq1_int, eq1_bool, eq1_str, ↓at_ptr_whole, ↓at_ptr_cell, ↓at_ptr_obj, ↓at_ptr_objs, shift_obj, shift_elt, toA_val, toA_own, Int.toNat_natCast, List.cons_append, recs_length, may_run, hm, h0, hw]
        · obtain ⟨m, hm1⟩ : ∃ m, g.length = m + 1 := ⟨g.length - 1, by omega⟩
          have hmlt : m < g.length := by omega
          have h0lt : 0 < g.length := by omega
          have hu : Up x1 g none := by
            rw [mayB_r] at hm
            exact rmay_up hm
          have g1 : mayB g g[m].lsn x1 g = true := by
            rw [mayB_r]
            exact up_rmay g.length 0 none (by omega) hu
          have g2 : mayB g g[m].lsn x1 (g.take m) = false := by
            rw [mayB_r]
            exact up_cut m hm1 (Int.le_refl _) m 0 none (by omega) hu
          have e1 : IntKind.i64.wrap (((m + 1 : Nat) : Int) - 1) = (m : Int) := by rw [wrap_i64_id (by omega) (by omega)]; omega
          have e2 : IntKind.i64.wrap (((g.length : Nat) : Int) - 1) = (m : Int) := by rw [hm1]; exact e1
          have er : rsame' g[0].kind g[0].chain g[0].lsn g[0].prev g[0].data g[0].kind g[0].chain g[0].lsn g[0].prev g[0].data = true := by simp [rsame']
          have hlt : (g.take m).length ≤ 1000000 := by rw [List.length_take]; omega
          simp (disch := (first | assumption | (simp only [Bool.and_eq_true, Bool.and_eq_false_iff, decide_eq_true_eq, decide_eq_false_iff_not, bne_iff_ne, beq_iff_eq, beq_eq_false_iff_ne, bne_eq_false_iff_eq, Bool.not_eq_true', Bool.not_eq_false', bys_length, List.length_append, List.length_cons, List.length_nil, List.length_map, List.length_drop, List.length_take, Int.natCast_add, wrap_i64_eq, wrap_u64, wrap_u8, ne_eq, not_true_eq_false, not_false_eq_true, Nat.zero_add, Nat.mul_one] <;> omega) | omega | (simp; done) | (simp; omega))) only [↓at_runK, ↓at_bind, ↓contQ_mk, ↓at_ret, ↓at_consK, ↓at_nilK, ↓at_optK, ↓at_intK, ↓at_boolK, ↓at_strK, ↓at_slK, ↓at_slOK, ↓at_slK0, ↓at_slOK0, ↓at_aggK, ↓at_cond_t, ↓at_cond_f, ↓at_sameL, ↓at_any1, ↓at_any, and_self, toBytes_bys, List.nil_append, List.append_nil, List.drop_zero, List.take_succ_cons, List.take_zero, List.getElem?_cons_succ, List.getElem?_cons_zero, cells_agg, eqCells_cons, eqCells_nil, eq1_int, eq1_bool, eq1_str, ↓at_ptr_whole, ↓at_ptr_cell, ↓at_ptr_obj, ↓at_ptr_objs, shift_obj, shift_elt, toA_val, toA_own, Int.toNat_natCast, List.cons_append, recs_length, may_run, hm, e1, e2, recs_getD hmlt, recs_getD h0lt, g1, recs_part0, g2, same_run, ref_same_run, er, hw]
    · simp (disch := (first | assumption | (simp only [Bool.and_eq_true, Bool.and_eq_false_iff, decide_eq_true_eq, decide_eq_false_iff_not, bne_iff_ne, beq_iff_eq, beq_eq_false_iff_ne, bne_eq_false_iff_eq, Bool.not_eq_true', Bool.not_eq_false', bys_length, List.length_append, List.length_cons, List.length_nil, List.length_map, List.length_drop, List.length_take, Int.natCast_add, wrap_i64_eq, wrap_u64, wrap_u8, ne_eq, not_true_eq_false, not_false_eq_true, Nat.zero_add, Nat.mul_one] <;> omega) | omega | (simp; done) | (simp; omega))) only [↓at_runK, ↓at_bind, ↓contQ_mk, ↓at_ret, ↓at_consK, ↓at_nilK, ↓at_optK, ↓at_intK, ↓at_boolK, ↓at_strK, ↓at_slK, ↓at_slOK, ↓at_slK0, ↓at_slOK0, ↓at_aggK, ↓at_cond_t, ↓at_cond_f, ↓at_sameL, ↓at_any1, ↓at_any, and_self, toBytes_bys, List.nil_append, List.append_nil, List.drop_zero, List.take_succ_cons, List.take_zero, List.getElem?_cons_succ, List.getElem?_cons_zero, cells_agg, eqCells_cons, eqCells_nil, eq1_int, eq1_bool, eq1_str, ↓at_ptr_whole, ↓at_ptr_cell, ↓at_ptr_obj, ↓at_ptr_objs, shift_obj, shift_elt, toA_val, toA_own, Int.toNat_natCast, List.cons_append, recs_length, hw]
  · simp (disch := (first | assumption | (simp only [Bool.and_eq_true, Bool.and_eq_false_iff, decide_eq_true_eq, decide_eq_false_iff_not, bne_iff_ne, beq_iff_eq, beq_eq_false_iff_ne, bne_eq_false_iff_eq, Bool.not_eq_true', Bool.not_eq_false', bys_length, List.length_append, List.length_cons, List.length_nil, List.length_map, List.length_drop, List.length_take, Int.natCast_add, wrap_i64_eq, wrap_u64, wrap_u8, ne_eq, not_true_eq_false, not_false_eq_true, Nat.zero_add, Nat.mul_one] <;> omega) | omega | (simp; done) | (simp; omega))) only [↓at_runK, ↓at_bind, ↓contQ_mk, ↓at_ret, ↓at_consK, ↓at_nilK, ↓at_optK, ↓at_intK, ↓at_boolK, ↓at_strK, ↓at_slK, ↓at_slOK, ↓at_slK0, ↓at_slOK0, ↓at_aggK, ↓at_cond_t, ↓at_cond_f, ↓at_sameL, ↓at_any1, ↓at_any, and_self, toBytes_bys, List.nil_append, List.append_nil, List.drop_zero, List.take_succ_cons, List.take_zero, List.getElem?_cons_succ, List.getElem?_cons_zero, cells_agg, eqCells_cons, eqCells_nil, eq1_int, eq1_bool, eq1_str, ↓at_ptr_whole, ↓at_ptr_cell, ↓at_ptr_obj, ↓at_ptr_objs, shift_obj, shift_elt, toA_val, toA_own, Int.toNat_natCast, List.cons_append, recs_length, hw]
end Go.Proofs.Ytfdkkhmaikgmcaa.Wa
