/- Records: right, and the same. -/
import Derived.Test.YtfdkkhmaikgmcaaWc
import Derived.Test.YtfdkkhmaikgmcaaWvLc
import Derived.Test.YtfdkkhmaikgmcaaVapi
namespace Go.Proofs.Ytfdkkhmaikgmcaa.Wa
open Go Go.Weave
set_option maxRecDepth 100000
set_option linter.unusedSimpArgs false
set_option linter.unusedVariables false
set_option linter.unusedSectionVars false

def rright (k c l p : Int) : Bool := decide (1 ≤ k ∧ k ≤ 9 ∧ 0 ≤ c ∧ c ≤ 3 ∧ 1 ≤ l ∧ l ≤ 2147483647 ∧ 0 ≤ p ∧ p < l)
theorem rright_run {d : Nat} {k c l p : Int} {f : Bool} {dt : List AVal} {h : Heap} {Q : Res → Prop} {tg : Hid Q} :
    Run (evFn Cw (d + 1) 21 [.agg [.int .i64 k, .int .i64 c, .int .i64 l, .int .i64 p, .sl f 0 dt]] h) Q tg = Q ([.bool (rright k c l p)], h) := by
  rw [F21_eq]
  repeat' (first | (refine at_ret.trans ?_) | (refine at_cases (fun _ => ?_) (fun _ => ?_)))
  all_goals (refine congrArg (fun b => Q ([AVal.bool b], h)) ?_; simp only [rright]; simp_all)
  all_goals (try omega)
  all_goals (try (rw [Bool.eq_iff_iff]; simp only [Bool.and_eq_true, decide_eq_true_eq]; omega))
theorem ref_right_run {d : Nat} {k c l p : Int} {f : Bool} {dt : List AVal} {h : Heap} {Q : Res → Prop} {tg : Hid Q} :
    Run (evFn Cw (d + 1) 22 [.agg [.int .i64 k, .int .i64 c, .int .i64 l, .int .i64 p, .sl f 0 dt]] h) Q tg = Q ([.bool (rright k c l p)], h) := by
  rw [F22_eq]
  repeat' (first | (refine at_ret.trans ?_) | (refine at_cases (fun _ => ?_) (fun _ => ?_)))
  all_goals (refine congrArg (fun b => Q ([AVal.bool b], h)) ?_; simp only [rright]; simp_all)
  all_goals (try omega)
  all_goals (try (rw [Bool.eq_iff_iff]; simp only [Bool.and_eq_true, decide_eq_true_eq]; omega))

/-! ### The same record -/
def rsame (a b : Rec) : Bool := a.kind == b.kind && a.chain == b.chain && a.lsn == b.lsn && a.prev == b.prev && a.data == b.data
def rsame' (k c l p : Int) (dt : List UInt8) (k' c' l' p' : Int) (dt' : List UInt8) : Bool := k == k' && c == c' && l == l' && p == p' && dt == dt'
theorem rsame_refl (a : Rec) : rsame a a = true := by simp [rsame]
theorem same_run {d : Nat} {k c l p : Int} {f : Bool} {dt : List UInt8} {k' c' l' p' : Int} {f' : Bool} {dt' : List UInt8} {h : Heap} {Q : Res → Prop} {tg : Hid Q} :
    Run (evFn Cw (d + 1) 23 [.agg [.int .i64 k, .int .i64 c, .int .i64 l, .int .i64 p, .sl f 0 (bys dt)], .agg [.int .i64 k', .int .i64 c', .int .i64 l', .int .i64 p', .sl f' 0 (bys dt')]] h) Q tg = Q ([.bool (rsame' k c l p dt k' c' l' p' dt')], h) := by
  rw [F23_eq]
  unfold rsame'
  cases h1 : k == k'
  · simp (disch := (first | assumption | (simp only [Bool.and_eq_true, Bool.and_eq_false_iff, decide_eq_true_eq, decide_eq_false_iff_not, bne_iff_ne, beq_iff_eq, beq_eq_false_iff_ne, bne_eq_false_iff_eq, Bool.not_eq_true', Bool.not_eq_false', bys_length, List.length_append, List.length_cons, List.length_nil, List.length_map, List.length_drop, List.length_take, Int.natCast_add, wrap_i64_eq, wrap_u64, wrap_u8, ne_eq, not_true_eq_false, not_false_eq_true, Nat.zero_add, Nat.mul_one] <;> omega) | omega | (simp; done) | (simp; omega))) only [↓at_runK, ↓at_bind, ↓contQ_mk, ↓at_ret, ↓at_consK, ↓at_nilK, ↓at_optK, ↓at_intK, ↓at_boolK, ↓at_strK, ↓at_slK, ↓at_slOK, ↓at_slK0, ↓at_slOK0, ↓at_aggK, ↓at_cond_t, ↓at_cond_f, ↓at_sameL, ↓at_any1, ↓at_any, and_self, toBytes_bys, List.nil_append, List.append_nil, h1]; simp
  · cases h2 : c == c'
    · simp (disch := (first | assumption | (simp only [Bool.and_eq_true, Bool.and_eq_false_iff, decide_eq_true_eq, decide_eq_false_iff_not, bne_iff_ne, beq_iff_eq, beq_eq_false_iff_ne, bne_eq_false_iff_eq, Bool.not_eq_true', Bool.not_eq_false', bys_length, List.length_append, List.length_cons, List.length_nil, List.length_map, List.length_drop, List.length_take, Int.natCast_add, wrap_i64_eq, wrap_u64, wrap_u8, ne_eq, not_true_eq_false, not_false_eq_true, Nat.zero_add, Nat.mul_one] <;> omega) | omega | (simp; done) | (simp; omega))) only [↓at_runK, ↓at_bind, ↓contQ_mk, ↓at_ret, ↓at_consK, ↓at_nilK, ↓at_optK, ↓at_intK, ↓at_boolK, ↓at_strK, ↓at_slK, ↓at_slOK, ↓at_slK0, ↓at_slOK0, ↓at_aggK, ↓at_cond_t, ↓at_cond_f, ↓at_sameL, ↓at_any1, ↓at_any, and_self, toBytes_bys, List.nil_append, List.append_nil, h1, h2]; simp
    · cases h3 : l == l'
      · simp (disch := (first | assumption | (simp only [Bool.and_eq_true, Bool.and_eq_false_iff, decide_eq_true_eq, decide_eq_false_iff_not, bne_iff_ne, beq_iff_eq, beq_eq_false_iff_ne, bne_eq_false_iff_eq, Bool.not_eq_true', Bool.not_eq_false', bys_length, List.length_append, List.length_cons, List.length_nil, List.length_map, List.length_drop, List.length_take, Int.natCast_add, wrap_i64_eq, wrap_u64, wrap_u8, ne_eq, not_true_eq_false, not_false_eq_true, Nat.zero_add, Nat.mul_one] <;> omega) | omega | (simp; done) | (simp; omega))) only [↓at_runK, ↓at_bind, ↓contQ_mk, ↓at_ret, ↓at_consK, ↓at_nilK, ↓at_optK, ↓at_intK, ↓at_boolK, ↓at_strK, ↓at_slK, ↓at_slOK, ↓at_slK0, ↓at_slOK0, ↓at_aggK, ↓at_cond_t, ↓at_cond_f, ↓at_sameL, ↓at_any1, ↓at_any, and_self, toBytes_bys, List.nil_append, List.append_nil, h1, h2, h3]; simp
      · cases h4 : p == p'
        · simp (disch := (first | assumption | (simp only [Bool.and_eq_true, Bool.and_eq_false_iff, decide_eq_true_eq, decide_eq_false_iff_not, bne_iff_ne, beq_iff_eq, beq_eq_false_iff_ne, bne_eq_false_iff_eq, Bool.not_eq_true', Bool.not_eq_false', bys_length, List.length_append, List.length_cons, List.length_nil, List.length_map, List.length_drop, List.length_take, Int.natCast_add, wrap_i64_eq, wrap_u64, wrap_u8, ne_eq, not_true_eq_false, not_false_eq_true, Nat.zero_add, Nat.mul_one] <;> omega) | omega | (simp; done) | (simp; omega))) only [↓at_runK, ↓at_bind, ↓contQ_mk, ↓at_ret, ↓at_consK, ↓at_nilK, ↓at_optK, ↓at_intK, ↓at_boolK, ↓at_strK, ↓at_slK, ↓at_slOK, ↓at_slK0, ↓at_slOK0, ↓at_aggK, ↓at_cond_t, ↓at_cond_f, ↓at_sameL, ↓at_any1, ↓at_any, and_self, toBytes_bys, List.nil_append, List.append_nil, h1, h2, h3, h4]; simp
        · simp (disch := (first | assumption | (simp only [Bool.and_eq_true, Bool.and_eq_false_iff, decide_eq_true_eq, decide_eq_false_iff_not, bne_iff_ne, beq_iff_eq, beq_eq_false_iff_ne, bne_eq_false_iff_eq, Bool.not_eq_true', Bool.not_eq_false', bys_length, List.length_append, List.length_cons, List.length_nil, List.length_map, List.length_drop, List.length_take, Int.natCast_add, wrap_i64_eq, wrap_u64, wrap_u8, ne_eq, not_true_eq_false, not_false_eq_true, Nat.zero_add, Nat.mul_one] <;> omega) | omega | (simp; done) | (simp; omega))) only [↓at_runK, ↓at_bind, ↓contQ_mk, ↓at_ret, ↓at_consK, ↓at_nilK, ↓at_optK, ↓at_intK, ↓at_boolK, ↓at_strK, ↓at_slK, ↓at_slOK, ↓at_slK0, ↓at_slOK0, ↓at_aggK, ↓at_cond_t, ↓at_cond_f, ↓at_sameL, ↓at_any1, ↓at_any, and_self, toBytes_bys, List.nil_append, List.append_nil, h1, h2, h3, h4]; simp
theorem ref_same_run {d : Nat} {k c l p : Int} {f : Bool} {dt : List UInt8} {k' c' l' p' : Int} {f' : Bool} {dt' : List UInt8} {h : Heap} {Q : Res → Prop} {tg : Hid Q} :
    Run (evFn Cw (d + 1) 15 [.agg [.int .i64 k, .int .i64 c, .int .i64 l, .int .i64 p, .sl f 0 (bys dt)], .agg [.int .i64 k', .int .i64 c', .int .i64 l', .int .i64 p', .sl f' 0 (bys dt')]] h) Q tg = Q ([.bool (rsame' k c l p dt k' c' l' p' dt')], h) := by
  rw [F15_eq]
  unfold rsame'
  cases h1 : k == k'
  · simp (disch := (first | assumption | (simp only [Bool.and_eq_true, Bool.and_eq_false_iff, decide_eq_true_eq, decide_eq_false_iff_not, bne_iff_ne, beq_iff_eq, beq_eq_false_iff_ne, bne_eq_false_iff_eq, Bool.not_eq_true', Bool.not_eq_false', bys_length, List.length_append, List.length_cons, List.length_nil, List.length_map, List.length_drop, List.length_take, Int.natCast_add, wrap_i64_eq, wrap_u64, wrap_u8, ne_eq, not_true_eq_false, not_false_eq_true, Nat.zero_add, Nat.mul_one] <;> omega) | omega | (simp; done) | (simp; omega))) only [↓at_runK, ↓at_bind, ↓contQ_mk, ↓at_ret, ↓at_consK, ↓at_nilK, ↓at_optK, ↓at_intK, ↓at_boolK, ↓at_strK, ↓at_slK, ↓at_slOK, ↓at_slK0, ↓at_slOK0, ↓at_aggK, ↓at_cond_t, ↓at_cond_f, ↓at_sameL, ↓at_any1, ↓at_any, and_self, toBytes_bys, List.nil_append, List.append_nil, h1]; simp
  · cases h2 : c == c'
    · simp (disch := (first | assumption | (simp only [Bool.and_eq_true, Bool.and_eq_false_iff, decide_eq_true_eq, decide_eq_false_iff_not, bne_iff_ne, beq_iff_eq, beq_eq_false_iff_ne, bne_eq_false_iff_eq, Bool.not_eq_true', Bool.not_eq_false', bys_length, List.length_append, List.length_cons, List.length_nil, List.length_map, List.length_drop, List.length_take, Int.natCast_add, wrap_i64_eq, wrap_u64, wrap_u8, ne_eq, not_true_eq_false, not_false_eq_true, Nat.zero_add, Nat.mul_one] <;> omega) | omega | (simp; done) | (simp; omega))) only [↓at_runK, ↓at_bind, ↓contQ_mk, ↓at_ret, ↓at_consK, ↓at_nilK, ↓at_optK, ↓at_intK, ↓at_boolK, ↓at_strK, ↓at_slK, ↓at_slOK, ↓at_slK0, ↓at_slOK0, ↓at_aggK, ↓at_cond_t, ↓at_cond_f, ↓at_sameL, ↓at_any1, ↓at_any, and_self, toBytes_bys, List.nil_append, List.append_nil, h1, h2]; simp
    · cases h3 : l == l'
      · simp (disch := (first | assumption | (simp only [Bool.and_eq_true, Bool.and_eq_false_iff, decide_eq_true_eq, decide_eq_false_iff_not, bne_iff_ne, beq_iff_eq, beq_eq_false_iff_ne, bne_eq_false_iff_eq, Bool.not_eq_true', Bool.not_eq_false', bys_length, List.length_append, List.length_cons, List.length_nil, List.length_map, List.length_drop, List.length_take, Int.natCast_add, wrap_i64_eq, wrap_u64, wrap_u8, ne_eq, not_true_eq_false, not_false_eq_true, Nat.zero_add, Nat.mul_one] <;> omega) | omega | (simp; done) | (simp; omega))) only [↓at_runK, ↓at_bind, ↓contQ_mk, ↓at_ret, ↓at_consK, ↓at_nilK, ↓at_optK, ↓at_intK, ↓at_boolK, ↓at_strK, ↓at_slK, ↓at_slOK, ↓at_slK0, ↓at_slOK0, ↓at_aggK, ↓at_cond_t, ↓at_cond_f, ↓at_sameL, ↓at_any1, ↓at_any, and_self, toBytes_bys, List.nil_append, List.append_nil, h1, h2, h3]; simp
      · cases h4 : p == p'
        · simp (disch := (first | assumption | (simp only [Bool.and_eq_true, Bool.and_eq_false_iff, decide_eq_true_eq, decide_eq_false_iff_not, bne_iff_ne, beq_iff_eq, beq_eq_false_iff_ne, bne_eq_false_iff_eq, Bool.not_eq_true', Bool.not_eq_false', bys_length, List.length_append, List.length_cons, List.length_nil, List.length_map, List.length_drop, List.length_take, Int.natCast_add, wrap_i64_eq, wrap_u64, wrap_u8, ne_eq, not_true_eq_false, not_false_eq_true, Nat.zero_add, Nat.mul_one] <;> omega) | omega | (simp; done) | (simp; omega))) only [↓at_runK, ↓at_bind, ↓contQ_mk, ↓at_ret, ↓at_consK, ↓at_nilK, ↓at_optK, ↓at_intK, ↓at_boolK, ↓at_strK, ↓at_slK, ↓at_slOK, ↓at_slK0, ↓at_slOK0, ↓at_aggK, ↓at_cond_t, ↓at_cond_f, ↓at_sameL, ↓at_any1, ↓at_any, and_self, toBytes_bys, List.nil_append, List.append_nil, h1, h2, h3, h4]; simp
        · simp (disch := (first | assumption | (simp only [Bool.and_eq_true, Bool.and_eq_false_iff, decide_eq_true_eq, decide_eq_false_iff_not, bne_iff_ne, beq_iff_eq, beq_eq_false_iff_ne, bne_eq_false_iff_eq, Bool.not_eq_true', Bool.not_eq_false', bys_length, List.length_append, List.length_cons, List.length_nil, List.length_map, List.length_drop, List.length_take, Int.natCast_add, wrap_i64_eq, wrap_u64, wrap_u8, ne_eq, not_true_eq_false, not_false_eq_true, Nat.zero_add, Nat.mul_one] <;> omega) | omega | (simp; done) | (simp; omega))) only [↓at_runK, ↓at_bind, ↓contQ_mk, ↓at_ret, ↓at_consK, ↓at_nilK, ↓at_optK, ↓at_intK, ↓at_boolK, ↓at_strK, ↓at_slK, ↓at_slOK, ↓at_slK0, ↓at_slOK0, ↓at_aggK, ↓at_cond_t, ↓at_cond_f, ↓at_sameL, ↓at_any1, ↓at_any, and_self, toBytes_bys, List.nil_append, List.append_nil, h1, h2, h3, h4]; simp

end Go.Proofs.Ytfdkkhmaikgmcaa.Wa
