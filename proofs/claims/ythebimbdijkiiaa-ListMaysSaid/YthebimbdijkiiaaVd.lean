/- All the numbers that bytes are; VarintAll. -/
import Derived.Test.YthebimbdijkiiaaVb
import Derived.Test.YthebimbdijkiiaaWb
namespace Go.Proofs.Ythebimbdijkiiaa.Wa
open Go Go.Weave
set_option maxRecDepth 100000
set_option linter.unusedSimpArgs false
set_option linter.unusedVariables false
set_option linter.unusedSectionVars false

def nums (l : List Nat) : List AVal := l.map fun (n : Nat) => AVal.int .u64 (n : Int)
theorem nums_length (l : List Nat) : (nums l).length = l.length := by simp [nums]
theorem nums_nil : nums [] = [] := of_eq_true (eq_self _)
theorem nums_snoc (l : List Nat) (n : Nat) : nums l ++ [AVal.int .u64 n] = nums (l ++ [n]) := by simp [nums]
theorem nums_getD {l : List Nat} {i : Nat} (h : i < l.length) : (nums l).getD i AVal.undef = .int .u64 (l[i] : Nat) := by simp [nums, h]

theorem get_run {d : Nat} {f : Bool} {l : List UInt8} {h : Heap} {Q : Res → Prop} {tg : Hid Q} (hl : l.length ≤ 140737488355328) :
    Run (evFn Cw (d + 1) 18 [.sl f 0 (bys l)] h) Q tg = Q ([.int .u64 (getF l 0 0).1, .int .i64 (getF l 0 0).2.1, .int .i64 (getF l 0 0).2.2], h) := (get_ok d f l h hl).at
theorem rget_run {d : Nat} {f : Bool} {l : List UInt8} {h : Heap} {Q : Res → Prop} {tg : Hid Q} (hl : l.length ≤ 140737488355328) :
    Run (evFn Cw (d + 1) 20 [.sl f 0 (bys l)] h) Q tg = Q ([.int .u64 (getF l 0 0).1, .int .i64 (getF l 0 0).2.1, .int .i64 (getF l 0 0).2.2], h) := (rget_ok d f l h hl).at
theorem put_run {d : Nat} {f : Bool} {l : List UInt8} {n : Nat} {h : Heap} {Q : Res → Prop} {tg : Hid Q} (hn : n < 18446744073709551616) (hl : l.length ≤ 140737488355000) :
    Run (evFn Cw (d + 1) 15 [.sl f 0 (bys l), .int .u64 n] h) Q tg = Q ([.sl false 0 (bys (l ++ enc n))], h) := (put_ok d f l n h hn hl).at
theorem awake_run {d : Nat} {h : Heap} {Q : Res → Prop} {tg : Hid Q} : Run (evFn Cw (d + 2) 19 [] h) Q tg = Q ([.bool true], h) := (awake_ok d h).at

/-- All numbers that bytes are, behind those that were found; or why there are none. -/
def allW : Nat → List UInt8 → List Nat → List Nat × Nat
  | 0, _, acc => (acc, 0)
  | n + 1, l, acc => if l.length = 0 then (acc, 0) else if (getF l 0 0).2.2 = 0 then allW n (l.drop (getF l 0 0).2.1) (acc ++ [(getF l 0 0).1]) else ([], (getF l 0 0).2.2)
theorem allF_ex : ∃ f : Nat → List UInt8 → List Nat → List Nat × Nat, (∀ l acc, f 0 l acc = (acc, 0)) ∧ ∀ n l acc, f (n + 1) l acc = if l.length = 0 then (acc, 0) else if (getF l 0 0).2.2 = 0 then f n (l.drop (getF l 0 0).2.1) (acc ++ [(getF l 0 0).1]) else ([], (getF l 0 0).2.2) := ⟨allW, fun _ _ => rfl, fun _ _ _ => rfl⟩
noncomputable def allF : Nat → List UInt8 → List Nat → List Nat × Nat := Classical.choose allF_ex
theorem allF_zero (l : List UInt8) (acc : List Nat) : allF 0 l acc = (acc, 0) := (Classical.choose_spec allF_ex).1 l acc
theorem allF_succ (n : Nat) (l : List UInt8) (acc : List Nat) : allF (n + 1) l acc = if l.length = 0 then (acc, 0) else if (getF l 0 0).2.2 = 0 then allF n (l.drop (getF l 0 0).2.1) (acc ++ [(getF l 0 0).1]) else ([], (getF l 0 0).2.2) := (Classical.choose_spec allF_ex).2 n l acc

theorem getF_ok {l : List UInt8} (h : (getF l 0 0).2.2 = 0) : 1 ≤ (getF l 0 0).2.1 ∧ (getF l 0 0).2.1 ≤ l.length ∧ (getF l 0 0).1 < 18446744073709551616 := by
  rcases getF_spec0 l with ⟨m, h1, _, h3, h4⟩ | ⟨e, h1, he⟩
  · rw [h1]; exact ⟨(enc_length 9 m (lt_128_10 h4)).1, h3, h4⟩
  · rw [h1] at h; simp at h; omega

theorem part_drop {l : List UInt8} {k : Nat} : Weave.part (k : Int) ((bys l).length : Int) (bys l) = bys (l.drop k) := by
  rw [part_bys, bys_length]
  congr 1
  simp only [Weave.part, Int.toNat_natCast]
  rw [List.take_of_length_le (by simp)]

theorem all_loop (d : Nat) (f : Bool) (h : Heap) : ∀ (n : Nat) (l : List UInt8) (acc : List Nat) (k : Nat), l.length ≤ n → n < k → acc.length + n ≤ 2000000 →
    Ans (P21_0 (d + 1) k f (bys l) (nums acc) h) ([.sl (decide ((allF n l acc).2 ≠ 0)) 0 (nums (allF n l acc).1), .int .i64 (allF n l acc).2], h) := by
  intro n
  induction n with
  | zero =>
    intro l acc k hl hk hb
    obtain ⟨k, rfl⟩ : ∃ m, k = m + 1 := ⟨k - 1, by omega⟩
    refine Run.ans ?_
    rw [P21_0_eq]
    simp (disch := (first | assumption | (simp only [Bool.and_eq_true, Bool.and_eq_false_iff, decide_eq_true_eq, decide_eq_false_iff_not, bne_iff_ne, beq_iff_eq, beq_eq_false_iff_ne, bne_eq_false_iff_eq, Bool.not_eq_true', Bool.not_eq_false', bys_length, List.length_append, List.length_cons, List.length_nil, List.length_map, List.length_drop, List.length_take, Int.natCast_add, wrap_i64_eq, wrap_u64, wrap_u8, ne_eq, not_true_eq_false, not_false_eq_true, Nat.zero_add, Nat.mul_one] <;> omega) | omega | (simp; done) | (simp; omega))) only [↓at_runK, ↓at_bind, ↓contQ_mk, ↓at_ret, ↓at_consK, ↓at_nilK, ↓at_optK, ↓at_intK, ↓at_boolK, ↓at_strK, ↓at_slK, ↓at_slOK, ↓at_slK0, ↓at_slOK0, ↓at_aggK, ↓at_cond_t, ↓at_cond_f, ↓at_sameL, ↓at_any1, ↓at_any, and_self, toBytes_bys, List.nil_append, List.append_nil, allF_zero]
    simp
  | succ n ih =>
    intro l acc k hl hk hb
    obtain ⟨k, rfl⟩ : ∃ m, k = m + 1 := ⟨k - 1, by omega⟩
    refine Run.ans ?_
    rw [P21_0_eq, allF_succ]
    by_cases h0 : l.length = 0
    · rw [if_pos h0]
      simp (disch := (first | assumption | (simp only [Bool.and_eq_true, Bool.and_eq_false_iff, decide_eq_true_eq, decide_eq_false_iff_not, bne_iff_ne, beq_iff_eq, beq_eq_false_iff_ne, bne_eq_false_iff_eq, Bool.not_eq_true', Bool.not_eq_false', bys_length, List.length_append, List.length_cons, List.length_nil, List.length_map, List.length_drop, List.length_take, Int.natCast_add, wrap_i64_eq, wrap_u64, wrap_u8, ne_eq, not_true_eq_false, not_false_eq_true, Nat.zero_add, Nat.mul_one] <;> omega) | omega | (simp; done) | (simp; omega))) only [↓at_runK, ↓at_bind, ↓contQ_mk, ↓at_ret, ↓at_consK, ↓at_nilK, ↓at_optK, ↓at_intK, ↓at_boolK, ↓at_strK, ↓at_slK, ↓at_slOK, ↓at_slK0, ↓at_slOK0, ↓at_aggK, ↓at_cond_t, ↓at_cond_f, ↓at_sameL, ↓at_any1, ↓at_any, and_self, toBytes_bys, List.nil_append, List.append_nil]
      simp
    · rw [if_neg h0]
      by_cases he : (getF l 0 0).2.2 = 0
      · rw [if_pos he]
        have ⟨h1, h2, h3⟩ := getF_ok he
        have := (ih (l.drop (getF l 0 0).2.1) (acc ++ [(getF l 0 0).1]) k (by simp; omega) (by omega) (by simp; omega))
        simp (disch := (first | assumption | (simp only [Bool.and_eq_true, Bool.and_eq_false_iff, decide_eq_true_eq, decide_eq_false_iff_not, bne_iff_ne, beq_iff_eq, beq_eq_false_iff_ne, bne_eq_false_iff_eq, Bool.not_eq_true', Bool.not_eq_false', bys_length, List.length_append, List.length_cons, List.length_nil, List.length_map, List.length_drop, List.length_take, Int.natCast_add, wrap_i64_eq, wrap_u64, wrap_u8, ne_eq, not_true_eq_false, not_false_eq_true, Nat.zero_add, Nat.mul_one] <;> omega) | omega | (simp; done) | (simp; omega))) only [↓at_runK, ↓at_bind, ↓contQ_mk, ↓at_ret, ↓at_consK, ↓at_nilK, ↓at_optK, ↓at_intK, ↓at_boolK, ↓at_strK, ↓at_slK, ↓at_slOK, ↓at_slK0, ↓at_slOK0, ↓at_aggK, ↓at_cond_t, ↓at_cond_f, ↓at_sameL, ↓at_any1, ↓at_any, and_self, toBytes_bys, List.nil_append, List.append_nil, get_run, part_drop, nums_length, nums_snoc, Ans.at this]
      · rw [if_neg he]
        simp (disch := (first | assumption | (simp only [Bool.and_eq_true, Bool.and_eq_false_iff, decide_eq_true_eq, decide_eq_false_iff_not, bne_iff_ne, beq_iff_eq, beq_eq_false_iff_ne, bne_eq_false_iff_eq, Bool.not_eq_true', Bool.not_eq_false', bys_length, List.length_append, List.length_cons, List.length_nil, List.length_map, List.length_drop, List.length_take, Int.natCast_add, wrap_i64_eq, wrap_u64, wrap_u8, ne_eq, not_true_eq_false, not_false_eq_true, Nat.zero_add, Nat.mul_one] <;> omega) | omega | (simp; done) | (simp; omega))) only [↓at_runK, ↓at_bind, ↓contQ_mk, ↓at_ret, ↓at_consK, ↓at_nilK, ↓at_optK, ↓at_intK, ↓at_boolK, ↓at_strK, ↓at_slK, ↓at_slOK, ↓at_slK0, ↓at_slOK0, ↓at_aggK, ↓at_cond_t, ↓at_cond_f, ↓at_sameL, ↓at_any1, ↓at_any, and_self, toBytes_bys, List.nil_append, List.append_nil, get_run]
        simp [he, nums_nil]

theorem e0 : ((0 : Nat) : Int) = 0 := by omega
theorem rall_loop (d : Nat) (f : Bool) (h : Heap) (l : List UInt8) (hbig : l.length ≤ 2000000) : ∀ (n at_ : Nat) (acc : List Nat) (k : Nat), l.length ≤ n + at_ → at_ ≤ l.length → n < k → acc.length + n ≤ 2000000 →
    Ans (P22_0 (d + 1) k f (bys l) (nums acc) at_ h) ([.sl (decide ((allF n (l.drop at_) acc).2 ≠ 0)) 0 (nums (allF n (l.drop at_) acc).1), .int .i64 (allF n (l.drop at_) acc).2], h) := by
  intro n
  induction n with
  | zero =>
    intro at_ acc k hl hle hk hb
    obtain ⟨k, rfl⟩ : ∃ m, k = m + 1 := ⟨k - 1, by omega⟩
    refine Run.ans ?_
    rw [P22_0_eq]
    simp (disch := (first | assumption | (simp only [Bool.and_eq_true, Bool.and_eq_false_iff, decide_eq_true_eq, decide_eq_false_iff_not, bne_iff_ne, beq_iff_eq, beq_eq_false_iff_ne, bne_eq_false_iff_eq, Bool.not_eq_true', Bool.not_eq_false', bys_length, List.length_append, List.length_cons, List.length_nil, List.length_map, List.length_drop, List.length_take, Int.natCast_add, wrap_i64_eq, wrap_u64, wrap_u8, ne_eq, not_true_eq_false, not_false_eq_true, Nat.zero_add, Nat.mul_one] <;> omega) | omega | (simp; done) | (simp; omega))) only [↓at_runK, ↓at_bind, ↓contQ_mk, ↓at_ret, ↓at_consK, ↓at_nilK, ↓at_optK, ↓at_intK, ↓at_boolK, ↓at_strK, ↓at_slK, ↓at_slOK, ↓at_slK0, ↓at_slOK0, ↓at_aggK, ↓at_cond_t, ↓at_cond_f, ↓at_sameL, ↓at_any1, ↓at_any, and_self, toBytes_bys, List.nil_append, List.append_nil, allF_zero]
    simp
  | succ n ih =>
    intro at_ acc k hl hle hk hb
    obtain ⟨k, rfl⟩ : ∃ m, k = m + 1 := ⟨k - 1, by omega⟩
    refine Run.ans ?_
    rw [P22_0_eq, allF_succ]
    by_cases h0 : at_ = l.length
    · rw [if_pos (by simp; omega)]
      simp (disch := (first | assumption | (simp only [Bool.and_eq_true, Bool.and_eq_false_iff, decide_eq_true_eq, decide_eq_false_iff_not, bne_iff_ne, beq_iff_eq, beq_eq_false_iff_ne, bne_eq_false_iff_eq, Bool.not_eq_true', Bool.not_eq_false', bys_length, List.length_append, List.length_cons, List.length_nil, List.length_map, List.length_drop, List.length_take, Int.natCast_add, wrap_i64_eq, wrap_u64, wrap_u8, ne_eq, not_true_eq_false, not_false_eq_true, Nat.zero_add, Nat.mul_one] <;> omega) | omega | (simp; done) | (simp; omega))) only [↓at_runK, ↓at_bind, ↓contQ_mk, ↓at_ret, ↓at_consK, ↓at_nilK, ↓at_optK, ↓at_intK, ↓at_boolK, ↓at_strK, ↓at_slK, ↓at_slOK, ↓at_slK0, ↓at_slOK0, ↓at_aggK, ↓at_cond_t, ↓at_cond_f, ↓at_sameL, ↓at_any1, ↓at_any, and_self, toBytes_bys, List.nil_append, List.append_nil]
      simp
    · rw [if_neg (by simp; omega)]
      by_cases he : (getF (l.drop at_) 0 0).2.2 = 0
      · rw [if_pos he]
        have ⟨h1, h2, h3⟩ := getF_ok he
        rw [List.length_drop] at h2
        have := ih (at_ + (getF (l.drop at_) 0 0).2.1) (acc ++ [(getF (l.drop at_) 0 0).1]) k (by omega) (by omega) (by omega) (by simp; omega)
        have e : IntKind.i64.wrap ((at_ : Int) + ((getF (l.drop at_) 0 0).2.1 : Int)) = ((at_ + (getF (l.drop at_) 0 0).2.1 : Nat) : Int) := by rw [wrap_i64_id (by omega) (by omega)]; omega
        rw [← List.drop_drop] at this
        simp (disch := (first | assumption | (simp only [Bool.and_eq_true, Bool.and_eq_false_iff, decide_eq_true_eq, decide_eq_false_iff_not, bne_iff_ne, beq_iff_eq, beq_eq_false_iff_ne, bne_eq_false_iff_eq, Bool.not_eq_true', Bool.not_eq_false', bys_length, List.length_append, List.length_cons, List.length_nil, List.length_map, List.length_drop, List.length_take, Int.natCast_add, wrap_i64_eq, wrap_u64, wrap_u8, ne_eq, not_true_eq_false, not_false_eq_true, Nat.zero_add, Nat.mul_one] <;> omega) | omega | (simp; done) | (simp; omega))) only [↓at_runK, ↓at_bind, ↓contQ_mk, ↓at_ret, ↓at_consK, ↓at_nilK, ↓at_optK, ↓at_intK, ↓at_boolK, ↓at_strK, ↓at_slK, ↓at_slOK, ↓at_slK0, ↓at_slOK0, ↓at_aggK, ↓at_cond_t, ↓at_cond_f, ↓at_sameL, ↓at_any1, ↓at_any, and_self, toBytes_bys, List.nil_append, List.append_nil, rget_run, part_drop, nums_length, nums_snoc, e, Ans.at this]
      · rw [if_neg he]
        simp (disch := (first | assumption | (simp only [Bool.and_eq_true, Bool.and_eq_false_iff, decide_eq_true_eq, decide_eq_false_iff_not, bne_iff_ne, beq_iff_eq, beq_eq_false_iff_ne, bne_eq_false_iff_eq, Bool.not_eq_true', Bool.not_eq_false', bys_length, List.length_append, List.length_cons, List.length_nil, List.length_map, List.length_drop, List.length_take, Int.natCast_add, wrap_i64_eq, wrap_u64, wrap_u8, ne_eq, not_true_eq_false, not_false_eq_true, Nat.zero_add, Nat.mul_one] <;> omega) | omega | (simp; done) | (simp; omega))) only [↓at_runK, ↓at_bind, ↓contQ_mk, ↓at_ret, ↓at_consK, ↓at_nilK, ↓at_optK, ↓at_intK, ↓at_boolK, ↓at_strK, ↓at_slK, ↓at_slOK, ↓at_slK0, ↓at_slOK0, ↓at_aggK, ↓at_cond_t, ↓at_cond_f, ↓at_sameL, ↓at_any1, ↓at_any, and_self, toBytes_bys, List.nil_append, List.append_nil, rget_run, part_drop]
        simp [he, nums_nil]

noncomputable def allR (l : List UInt8) : List Nat × Nat := allF l.length l []
theorem all_ok (d : Nat) (f : Bool) (l : List UInt8) (h : Heap) (hl : l.length ≤ 1900000) :
    Ans (evFn Cw (d + 2) 21 [.sl f 0 (bys l)] h) ([.sl (decide ((allR l).2 ≠ 0)) 0 (nums (allR l).1), .int .i64 (allR l).2], h) := by
  refine Run.ans ?_
  rw [F21_eq]
  unfold allR
  obtain ⟨n, hn⟩ : ∃ n, l.length = n := ⟨_, rfl⟩
  rw [hn]
  cases n with
  | zero =>
    simp (disch := (first | assumption | (simp only [Bool.and_eq_true, Bool.and_eq_false_iff, decide_eq_true_eq, decide_eq_false_iff_not, bne_iff_ne, beq_iff_eq, beq_eq_false_iff_ne, bne_eq_false_iff_eq, Bool.not_eq_true', Bool.not_eq_false', bys_length, List.length_append, List.length_cons, List.length_nil, List.length_map, List.length_drop, List.length_take, Int.natCast_add, wrap_i64_eq, wrap_u64, wrap_u8, ne_eq, not_true_eq_false, not_false_eq_true, Nat.zero_add, Nat.mul_one] <;> omega) | omega | (simp; done) | (simp; omega))) only [↓at_runK, ↓at_bind, ↓contQ_mk, ↓at_ret, ↓at_consK, ↓at_nilK, ↓at_optK, ↓at_intK, ↓at_boolK, ↓at_strK, ↓at_slK, ↓at_slOK, ↓at_slK0, ↓at_slOK0, ↓at_aggK, ↓at_cond_t, ↓at_cond_f, ↓at_sameL, ↓at_any1, ↓at_any, and_self, toBytes_bys, List.nil_append, List.append_nil, allF_zero]
    simp [nums_nil]
  | succ n =>
    rw [allF_succ, if_neg (by omega)]
    by_cases he : (getF l 0 0).2.2 = 0
    · rw [if_pos he]
      have ⟨h1, h2, h3⟩ := getF_ok he
      have := all_loop d f h n (l.drop (getF l 0 0).2.1) [(getF l 0 0).1] rounds (by simp; omega) (rounds_gt _ (by omega)) (by simp; omega)
      have e : nums [(getF l 0 0).1] = [AVal.int .u64 ((getF l 0 0).1 : Nat)] := by simp [nums]
      rw [e] at this
      simp (disch := (first | assumption | (simp only [Bool.and_eq_true, Bool.and_eq_false_iff, decide_eq_true_eq, decide_eq_false_iff_not, bne_iff_ne, beq_iff_eq, beq_eq_false_iff_ne, bne_eq_false_iff_eq, Bool.not_eq_true', Bool.not_eq_false', bys_length, List.length_append, List.length_cons, List.length_nil, List.length_map, List.length_drop, List.length_take, Int.natCast_add, wrap_i64_eq, wrap_u64, wrap_u8, ne_eq, not_true_eq_false, not_false_eq_true, Nat.zero_add, Nat.mul_one] <;> omega) | omega | (simp; done) | (simp; omega))) only [↓at_runK, ↓at_bind, ↓contQ_mk, ↓at_ret, ↓at_consK, ↓at_nilK, ↓at_optK, ↓at_intK, ↓at_boolK, ↓at_strK, ↓at_slK, ↓at_slOK, ↓at_slK0, ↓at_slOK0, ↓at_aggK, ↓at_cond_t, ↓at_cond_f, ↓at_sameL, ↓at_any1, ↓at_any, and_self, toBytes_bys, List.nil_append, List.append_nil, get_run, part_drop, Ans.at this]
    · rw [if_neg he]
      simp (disch := (first | assumption | (simp only [Bool.and_eq_true, Bool.and_eq_false_iff, decide_eq_true_eq, decide_eq_false_iff_not, bne_iff_ne, beq_iff_eq, beq_eq_false_iff_ne, bne_eq_false_iff_eq, Bool.not_eq_true', Bool.not_eq_false', bys_length, List.length_append, List.length_cons, List.length_nil, List.length_map, List.length_drop, List.length_take, Int.natCast_add, wrap_i64_eq, wrap_u64, wrap_u8, ne_eq, not_true_eq_false, not_false_eq_true, Nat.zero_add, Nat.mul_one] <;> omega) | omega | (simp; done) | (simp; omega))) only [↓at_runK, ↓at_bind, ↓contQ_mk, ↓at_ret, ↓at_consK, ↓at_nilK, ↓at_optK, ↓at_intK, ↓at_boolK, ↓at_strK, ↓at_slK, ↓at_slOK, ↓at_slK0, ↓at_slOK0, ↓at_aggK, ↓at_cond_t, ↓at_cond_f, ↓at_sameL, ↓at_any1, ↓at_any, and_self, toBytes_bys, List.nil_append, List.append_nil, get_run]
      simp [he, nums_nil]
theorem rall_ok (d : Nat) (f : Bool) (l : List UInt8) (h : Heap) (hl : l.length ≤ 1900000) :
    Ans (evFn Cw (d + 2) 22 [.sl f 0 (bys l)] h) ([.sl (decide ((allR l).2 ≠ 0)) 0 (nums (allR l).1), .int .i64 (allR l).2], h) := by
  have h1 := rall_loop d f h l (by omega) l.length 0 [] rounds (by omega) (by omega) (rounds_gt l.length (by omega)) (by simp; omega)
  rw [e0, List.drop_zero, nums_nil] at h1
  rw [F22_eq]
  unfold allR
  exact h1
theorem all_run {d : Nat} {f : Bool} {l : List UInt8} {h : Heap} {Q : Res → Prop} {tg : Hid Q} (hl : l.length ≤ 1900000) :
    Run (evFn Cw (d + 2) 21 [.sl f 0 (bys l)] h) Q tg = Q ([.sl (decide ((allR l).2 ≠ 0)) 0 (nums (allR l).1), .int .i64 (allR l).2], h) := (all_ok d f l h hl).at
theorem rall_run {d : Nat} {f : Bool} {l : List UInt8} {h : Heap} {Q : Res → Prop} {tg : Hid Q} (hl : l.length ≤ 1900000) :
    Run (evFn Cw (d + 2) 22 [.sl f 0 (bys l)] h) Q tg = Q ([.sl (decide ((allR l).2 ≠ 0)) 0 (nums (allR l).1), .int .i64 (allR l).2], h) := (rall_ok d f l h hl).at

/-- The bytes of numbers. -/
noncomputable def encs (l : List Nat) : List UInt8 := l.flatMap enc
theorem encs_len : ∀ (l : List Nat), (∀ n ∈ l, n < 18446744073709551616) → (encs l).length ≤ 10 * l.length
  | [], _ => by simp [encs]
  | n :: l, h => by
    have h1 := encs_len l fun m hm => h m (by simp [hm])
    have h2 := (enc_length 9 n (lt_128_10 (h n (by simp)))).2
    simp only [encs, List.flatMap_cons, List.length_append, List.length_cons] at h1 ⊢
    omega
theorem allF_encs : ∀ (l : List Nat) (n : Nat) (acc : List Nat), (∀ m ∈ l, m < 18446744073709551616) → (encs l).length ≤ n → allF n (encs l) acc = (acc ++ l, 0)
  | [], n, acc, _, _ => by
    cases n with
    | zero => rw [allF_zero]; simp
    | succ n => rw [allF_succ, if_pos (by simp [encs])]; simp
  | m :: l, n, acc, h, hn => by
    have hm := h m (by simp)
    have hlen := enc_length 9 m (lt_128_10 hm)
    have e : encs (m :: l) = enc m ++ encs l := by simp [encs]
    rw [e, List.length_append] at hn
    obtain ⟨n, rfl⟩ : ∃ q, n = q + 1 := ⟨n - 1, by omega⟩
    have hg := get_enc0 m (encs l) hm
    rw [allF_succ, e, hg, if_neg (by rw [List.length_append]; omega), if_pos rfl]
    simp only [List.drop_left]
    rw [allF_encs l n (acc ++ [m]) (fun q hq => h q (by simp [hq])) (by omega)]
    simp
theorem allR_encs (l : List Nat) (h : ∀ m ∈ l, m < 18446744073709551616) : allR (encs l) = (l, 0) := by
  unfold allR
  rw [allF_encs l _ [] h (Nat.le_refl _)]
  simp

/-- The comparing loops and the laying one. -/
theorem cmp2_loop (d : Nat) (f : Bool) (h : Heap) (l : List Nat) (hb : l.length ≤ 2000000) : ∀ (n i k : Nat), l.length = i + n → n < k →
    Ans (P5_2 (d + 2) k f (nums l) (nums l) i h) ([.bool true], h) := by
  intro n
  induction n with
  | zero =>
    intro i k hl hk
    obtain ⟨k, rfl⟩ : ∃ m, k = m + 1 := ⟨k - 1, by omega⟩
    refine Run.ans ?_
    rw [P5_2_eq]
    simp (disch := (first | assumption | (simp only [Bool.and_eq_true, Bool.and_eq_false_iff, decide_eq_true_eq, decide_eq_false_iff_not, bne_iff_ne, beq_iff_eq, beq_eq_false_iff_ne, bne_eq_false_iff_eq, Bool.not_eq_true', Bool.not_eq_false', bys_length, List.length_append, List.length_cons, List.length_nil, List.length_map, List.length_drop, List.length_take, Int.natCast_add, wrap_i64_eq, wrap_u64, wrap_u8, ne_eq, not_true_eq_false, not_false_eq_true, Nat.zero_add, Nat.mul_one] <;> omega) | omega | (simp; done) | (simp; omega))) only [↓at_runK, ↓at_bind, ↓contQ_mk, ↓at_ret, ↓at_consK, ↓at_nilK, ↓at_optK, ↓at_intK, ↓at_boolK, ↓at_strK, ↓at_slK, ↓at_slOK, ↓at_slK0, ↓at_slOK0, ↓at_aggK, ↓at_cond_t, ↓at_cond_f, ↓at_sameL, ↓at_any1, ↓at_any, and_self, toBytes_bys, List.nil_append, List.append_nil, awake_run, nums_length]
  | succ n ih =>
    intro i k hl hk
    obtain ⟨k, rfl⟩ : ∃ m, k = m + 1 := ⟨k - 1, by omega⟩
    have hi : i < l.length := by omega
    have e : IntKind.i64.wrap ((i : Int) + 1) = ((i + 1 : Nat) : Int) := by rw [wrap_i64_id (by omega) (by omega)]; omega
    refine Run.ans ?_
    rw [P5_2_eq]
    simp (disch := (first | assumption | (simp only [Bool.and_eq_true, Bool.and_eq_false_iff, decide_eq_true_eq, decide_eq_false_iff_not, bne_iff_ne, beq_iff_eq, beq_eq_false_iff_ne, bne_eq_false_iff_eq, Bool.not_eq_true', Bool.not_eq_false', bys_length, List.length_append, List.length_cons, List.length_nil, List.length_map, List.length_drop, List.length_take, Int.natCast_add, wrap_i64_eq, wrap_u64, wrap_u8, ne_eq, not_true_eq_false, not_false_eq_true, Nat.zero_add, Nat.mul_one] <;> omega) | omega | (simp; done) | (simp; omega))) only [↓at_runK, ↓at_bind, ↓contQ_mk, ↓at_ret, ↓at_consK, ↓at_nilK, ↓at_optK, ↓at_intK, ↓at_boolK, ↓at_strK, ↓at_slK, ↓at_slOK, ↓at_slK0, ↓at_slOK0, ↓at_aggK, ↓at_cond_t, ↓at_cond_f, ↓at_sameL, ↓at_any1, ↓at_any, and_self, toBytes_bys, List.nil_append, List.append_nil, nums_length, Int.toNat_natCast, nums_getD hi, e, Ans.at (ih (i + 1) k (by omega) (by omega))]
theorem cmp1_loop (d : Nat) (f : Bool) (h : Heap) (l : List Nat) (hb : l.length ≤ 2000) (hl : ∀ n ∈ l, n < 18446744073709551616) : ∀ (n i k : Nat), l.length = i + n → n < k →
    Ans (P5_1 (d + 3) k f (nums l) (bys (encs (l.take i))) i h) ([.bool true], h) := by
  intro n
  induction n with
  | zero =>
    intro i k hi hk
    obtain ⟨k, rfl⟩ : ∃ m, k = m + 1 := ⟨k - 1, by omega⟩
    have h1 := encs_len l hl
    have h2 := cmp2_loop (d + 1) f h l (by omega) l.length 0 rounds (by omega) (rounds_gt _ (by omega))
    rw [e0] at h2
    refine Run.ans ?_
    rw [P5_1_eq, List.take_of_length_le (by omega)]
    simp (disch := (first | assumption | (simp only [Bool.and_eq_true, Bool.and_eq_false_iff, decide_eq_true_eq, decide_eq_false_iff_not, bne_iff_ne, beq_iff_eq, beq_eq_false_iff_ne, bne_eq_false_iff_eq, Bool.not_eq_true', Bool.not_eq_false', bys_length, List.length_append, List.length_cons, List.length_nil, List.length_map, List.length_drop, List.length_take, Int.natCast_add, wrap_i64_eq, wrap_u64, wrap_u8, ne_eq, not_true_eq_false, not_false_eq_true, Nat.zero_add, Nat.mul_one] <;> omega) | omega | (simp; done) | (simp; omega))) only [↓at_runK, ↓at_bind, ↓contQ_mk, ↓at_ret, ↓at_consK, ↓at_nilK, ↓at_optK, ↓at_intK, ↓at_boolK, ↓at_strK, ↓at_slK, ↓at_slOK, ↓at_slK0, ↓at_slOK0, ↓at_aggK, ↓at_cond_t, ↓at_cond_f, ↓at_sameL, ↓at_any1, ↓at_any, and_self, toBytes_bys, List.nil_append, List.append_nil, nums_length, all_run, allR_encs l hl, Ans.at h2]
  | succ n ih =>
    intro i k hi hk
    obtain ⟨k, rfl⟩ : ∃ m, k = m + 1 := ⟨k - 1, by omega⟩
    have hi' : i < l.length := by omega
    have e : IntKind.i64.wrap ((i : Int) + 1) = ((i + 1 : Nat) : Int) := by rw [wrap_i64_id (by omega) (by omega)]; omega
    have h1 := encs_len (l.take i) fun m hm => hl m (List.mem_of_mem_take hm)
    rw [List.length_take] at h1
    have hm := hl l[i] (by simp)
    have e2 : encs (l.take i) ++ enc l[i] = encs (l.take (i + 1)) := by
      rw [List.take_succ_eq_append_getElem hi']
      simp only [encs, List.flatMap_append, List.flatMap_cons, List.flatMap_nil, List.append_nil]
    refine Run.ans ?_
    rw [P5_1_eq]
    simp (disch := (first | assumption | (simp only [Bool.and_eq_true, Bool.and_eq_false_iff, decide_eq_true_eq, decide_eq_false_iff_not, bne_iff_ne, beq_iff_eq, beq_eq_false_iff_ne, bne_eq_false_iff_eq, Bool.not_eq_true', Bool.not_eq_false', bys_length, List.length_append, List.length_cons, List.length_nil, List.length_map, List.length_drop, List.length_take, Int.natCast_add, wrap_i64_eq, wrap_u64, wrap_u8, ne_eq, not_true_eq_false, not_false_eq_true, Nat.zero_add, Nat.mul_one] <;> omega) | omega | (simp; done) | (simp; omega))) only [↓at_runK, ↓at_bind, ↓contQ_mk, ↓at_ret, ↓at_consK, ↓at_nilK, ↓at_optK, ↓at_intK, ↓at_boolK, ↓at_strK, ↓at_slK, ↓at_slOK, ↓at_slK0, ↓at_slOK0, ↓at_aggK, ↓at_cond_t, ↓at_cond_f, ↓at_sameL, ↓at_any1, ↓at_any, and_self, toBytes_bys, List.nil_append, List.append_nil, nums_length, Int.toNat_natCast, nums_getD hi', e, put_run, e2, Ans.at (ih (i + 1) k (by omega) (by omega))]
theorem cmp0_loop (d : Nat) (f : Bool) (h : Heap) (l m : List Nat) (hb : l.length ≤ 2000) (hl : ∀ n ∈ l, n < 18446744073709551616) (hm : m.length ≤ 2000000) : ∀ (n i k : Nat), m.length = i + n → n < k →
    Ans (P5_0 (d + 3) k f (nums l) (nums m) (nums m) i h) ([.bool true], h) := by
  intro n
  induction n with
  | zero =>
    intro i k hi hk
    obtain ⟨k, rfl⟩ : ∃ m, k = m + 1 := ⟨k - 1, by omega⟩
    refine Run.ans ?_
    have := cmp1_loop d f h l hb hl l.length 0 rounds (by omega) (rounds_gt _ (by omega))
    simp only [List.take_zero, encs, List.flatMap_nil, bys_nil, e0] at this
    rw [P5_0_eq]
    simp (disch := (first | assumption | (simp only [Bool.and_eq_true, Bool.and_eq_false_iff, decide_eq_true_eq, decide_eq_false_iff_not, bne_iff_ne, beq_iff_eq, beq_eq_false_iff_ne, bne_eq_false_iff_eq, Bool.not_eq_true', Bool.not_eq_false', bys_length, List.length_append, List.length_cons, List.length_nil, List.length_map, List.length_drop, List.length_take, Int.natCast_add, wrap_i64_eq, wrap_u64, wrap_u8, ne_eq, not_true_eq_false, not_false_eq_true, Nat.zero_add, Nat.mul_one] <;> omega) | omega | (simp; done) | (simp; omega))) only [↓at_runK, ↓at_bind, ↓contQ_mk, ↓at_ret, ↓at_consK, ↓at_nilK, ↓at_optK, ↓at_intK, ↓at_boolK, ↓at_strK, ↓at_slK, ↓at_slOK, ↓at_slK0, ↓at_slOK0, ↓at_aggK, ↓at_cond_t, ↓at_cond_f, ↓at_sameL, ↓at_any1, ↓at_any, and_self, toBytes_bys, List.nil_append, List.append_nil, nums_length, Ans.at this]
  | succ n ih =>
    intro i k hi hk
    obtain ⟨k, rfl⟩ : ∃ m, k = m + 1 := ⟨k - 1, by omega⟩
    have hi' : i < m.length := by omega
    have e : IntKind.i64.wrap ((i : Int) + 1) = ((i + 1 : Nat) : Int) := by rw [wrap_i64_id (by omega) (by omega)]; omega
    refine Run.ans ?_
    rw [P5_0_eq]
    simp (disch := (first | assumption | (simp only [Bool.and_eq_true, Bool.and_eq_false_iff, decide_eq_true_eq, decide_eq_false_iff_not, bne_iff_ne, beq_iff_eq, beq_eq_false_iff_ne, bne_eq_false_iff_eq, Bool.not_eq_true', Bool.not_eq_false', bys_length, List.length_append, List.length_cons, List.length_nil, List.length_map, List.length_drop, List.length_take, Int.natCast_add, wrap_i64_eq, wrap_u64, wrap_u8, ne_eq, not_true_eq_false, not_false_eq_true, Nat.zero_add, Nat.mul_one] <;> omega) | omega | (simp; done) | (simp; omega))) only [↓at_runK, ↓at_bind, ↓contQ_mk, ↓at_ret, ↓at_consK, ↓at_nilK, ↓at_optK, ↓at_intK, ↓at_boolK, ↓at_strK, ↓at_slK, ↓at_slOK, ↓at_slK0, ↓at_slOK0, ↓at_aggK, ↓at_cond_t, ↓at_cond_f, ↓at_sameL, ↓at_any1, ↓at_any, and_self, toBytes_bys, List.nil_append, List.append_nil, nums_length, Int.toNat_natCast, nums_getD hi', e, Ans.at (ih (i + 1) k (by omega) (by omega))]

theorem allF_len : ∀ (n : Nat) (l : List UInt8) (acc : List Nat), (allF n l acc).1.length ≤ acc.length + n
  | 0, l, acc => by rw [allF_zero]; simp
  | n + 1, l, acc => by
    rw [allF_succ]
    split
    · simp
    · split
      · have := allF_len n (l.drop (getF l 0 0).2.1) (acc ++ [(getF l 0 0).1])
        simp at this
        omega
      · simp

/-- VarintAll. -/
theorem alls_true (d : Nat) (f0 f2 : Bool) (b : List UInt8) (l : List Nat) (h : Heap) (hb : b.length ≤ 1900000) (hl : ∀ n ∈ l, n < 18446744073709551616) :
    Ans (evFn Cw (d + 4) 5 [.sl f0 0 (bys b), .sl f2 0 (nums l)] h) ([.bool true], h) := by
  have h1 := allF_len b.length b []
  have h2 : (allR b).1.length ≤ 1900000 := by unfold allR; simp at h1; omega
  refine Run.ans ?_
  rw [F5_eq]
  by_cases hs : l.length ≤ 2000
  · have h3 := cmp0_loop d f2 h l (allR b).1 hs hl (by omega) (allR b).1.length 0 rounds (by omega) (rounds_gt _ (by omega))
    rw [e0] at h3
    simp (disch := (first | assumption | (simp only [Bool.and_eq_true, Bool.and_eq_false_iff, decide_eq_true_eq, decide_eq_false_iff_not, bne_iff_ne, beq_iff_eq, beq_eq_false_iff_ne, bne_eq_false_iff_eq, Bool.not_eq_true', Bool.not_eq_false', bys_length, List.length_append, List.length_cons, List.length_nil, List.length_map, List.length_drop, List.length_take, Int.natCast_add, wrap_i64_eq, wrap_u64, wrap_u8, ne_eq, not_true_eq_false, not_false_eq_true, Nat.zero_add, Nat.mul_one] <;> omega) | omega | (simp; done) | (simp; omega))) only [↓at_runK, ↓at_bind, ↓contQ_mk, ↓at_ret, ↓at_consK, ↓at_nilK, ↓at_optK, ↓at_intK, ↓at_boolK, ↓at_strK, ↓at_slK, ↓at_slOK, ↓at_slK0, ↓at_slOK0, ↓at_aggK, ↓at_cond_t, ↓at_cond_f, ↓at_sameL, ↓at_any1, ↓at_any, and_self, toBytes_bys, List.nil_append, List.append_nil, nums_length, all_run, rall_run, Ans.at h3]
  · simp (disch := (first | assumption | (simp only [Bool.and_eq_true, Bool.and_eq_false_iff, decide_eq_true_eq, decide_eq_false_iff_not, bne_iff_ne, beq_iff_eq, beq_eq_false_iff_ne, bne_eq_false_iff_eq, Bool.not_eq_true', Bool.not_eq_false', bys_length, List.length_append, List.length_cons, List.length_nil, List.length_map, List.length_drop, List.length_take, Int.natCast_add, wrap_i64_eq, wrap_u64, wrap_u8, ne_eq, not_true_eq_false, not_false_eq_true, Nat.zero_add, Nat.mul_one] <;> omega) | omega | (simp; done) | (simp; omega))) only [↓at_runK, ↓at_bind, ↓contQ_mk, ↓at_ret, ↓at_consK, ↓at_nilK, ↓at_optK, ↓at_intK, ↓at_boolK, ↓at_strK, ↓at_slK, ↓at_slOK, ↓at_slK0, ↓at_slOK0, ↓at_aggK, ↓at_cond_t, ↓at_cond_f, ↓at_sameL, ↓at_any1, ↓at_any, and_self, toBytes_bys, List.nil_append, List.append_nil, nums_length, awake_run]
end Go.Proofs.Ythebimbdijkiiaa.Wa
