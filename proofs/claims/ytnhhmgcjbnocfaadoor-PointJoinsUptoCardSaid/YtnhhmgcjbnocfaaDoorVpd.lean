/- Points: pieces joined. -/
import Derived.Test.YtnhhmgcjbnocfaaDoorVpc
import Derived.Test.YtnhhmgcjbnocfaaDoorVtc
import Derived.Test.YtnhhmgcjbnocfaaDoorWs
namespace Go.Proofs.YtnhhmgcjbnocfaaDoor.Wa
open Go Go.Weave
set_option maxRecDepth 100000
set_option linter.unusedSimpArgs false
set_option linter.unusedVariables false
set_option linter.unusedSectionVars false

/-! ### The sum, by the reference -/
def stepN (x : Nat) : Nat := (x / 2) ^^^ (if x % 2 = 1 then 2197175160 else 0)
theorem stepN_xor (a b : Nat) : stepN (a ^^^ b) = stepN a ^^^ stepN b := by
  unfold stepN
  have h1 : (a ^^^ b) / 2 = a / 2 ^^^ b / 2 := Nat.xor_div_two
  have h2 : (a ^^^ b) % 2 = 1 ↔ ¬ (a % 2 = 1 ↔ b % 2 = 1) := Nat.xor_mod_two_eq_one
  have key : ∀ x y p : Nat, x ^^^ p ^^^ (y ^^^ p) = x ^^^ y := fun x y p => by
    rw [Nat.xor_comm y p, ← Nat.xor_assoc, Nat.xor_assoc x p p, Nat.xor_self, Nat.xor_zero]
  rw [h1]
  by_cases ha : a % 2 = 1 <;> by_cases hb : b % 2 = 1
  · rw [if_neg (fun h => (h2.1 h) ⟨fun _ => hb, fun _ => ha⟩), if_pos ha, if_pos hb, key, Nat.xor_zero]
  · rw [if_pos (h2.2 fun h => hb (h.1 ha)), if_pos ha, if_neg hb, Nat.xor_zero, Nat.xor_assoc, Nat.xor_comm (b / 2), ← Nat.xor_assoc]
  · rw [if_pos (h2.2 fun h => ha (h.2 hb)), if_neg ha, if_pos hb, Nat.xor_zero, Nat.xor_assoc]
  · rw [if_neg (fun h => (h2.1 h) ⟨fun h => absurd h ha, fun h => absurd h hb⟩), if_neg ha, if_neg hb, Nat.xor_zero, Nat.xor_zero, Nat.xor_zero]
theorem stepN_even (q : Nat) : stepN (2 * q) = q := by
  unfold stepN
  rw [if_neg (by omega), Nat.xor_zero]; omega
theorem t16_step : ∀ r, r < 16 → stepN (stepN (stepN (stepN r))) = t16.getD r 0 := by decide
theorem split16 (x : Nat) : x = (2 * (2 * (2 * (2 * (x / 16))))) ^^^ (x % 16) := by
  have e : 2 * (2 * (2 * (2 * (x / 16)))) = 2 ^ 4 * (x / 16) := by omega
  have e2 : x = 2 ^ 4 * (x / 16) + x % 16 := by omega
  rw [e]
  conv => lhs; rw [e2]
  have hr : x % 16 < 2 ^ 4 := by omega
  generalize x % 16 = r at hr
  generalize x / 16 = q
  apply Nat.eq_of_testBit_eq
  intro i
  rw [Nat.testBit_two_pow_mul_add q hr, Nat.testBit_xor, Nat.testBit_two_pow_mul]
  by_cases h : i < 4
  · rw [if_pos h]
    have : decide (i ≥ 4) = false := by simp; omega
    rw [this]; simp
  · rw [if_neg h]
    have h1 : decide (i ≥ 4) = true := by simp; omega
    have h2 : r.testBit i = false := Nat.testBit_lt_two_pow (Nat.lt_of_lt_of_le hr (Nat.pow_le_pow_right (by omega) (by omega)))
    rw [h1, h2]; simp
theorem fourN_step (x : Nat) : stepN (stepN (stepN (stepN x))) = fourN x := by
  conv => lhs; rw [split16 x]
  rw [stepN_xor, stepN_xor, stepN_xor, stepN_xor, stepN_even, stepN_even, stepN_even, stepN_even, t16_step _ (by omega)]
  unfold fourN
  rw [Nat.xor_comm]
theorem stepN_lt {x : Nat} (h : x < 4294967296) : stepN x < 4294967296 := by
  unfold stepN
  refine xor_lt (by omega) ?_
  split <;> omega
theorem rstep_run {d x : Nat} (hx : x < 4294967296) {h : Heap} {Q : Res → Prop} {tg : Hid Q} : Run (evFn Cw (d + 1) 27 [.int .u32 x] h) Q tg = Q ([.int .u32 (stepN x : Nat)], h) := by
  have e1 : Int.tdiv (x : Int) 2 = ((x / 2 : Nat) : Int) := by rw [Int.tdiv_eq_ediv_of_nonneg (by omega)]; omega
  have e2 : Int.tmod (x : Int) 2 = ((x % 2 : Nat) : Int) := by rw [Int.tmod_eq_emod_of_nonneg (by omega)]; omega
  have w := u32_id (n := x / 2) (by omega)
  have e3 : IntKind.u32.wrap (BitVec.ofInt 32 ((x / 2 : Nat) : Int) ^^^ BitVec.ofInt 32 2197175160).toNat = ((x / 2 ^^^ 2197175160 : Nat) : Int) := xor_wrap (b := 2197175160) (by omega) (by omega)
  rw [F27_eq, e1, e2, w, e3]
  by_cases c : x % 2 = 1
  · have c' : (((x % 2 : Nat) : Int) == 1) = true := by rw [c]; rfl
    have e : stepN x = x / 2 ^^^ 2197175160 := by unfold stepN; rw [if_pos c]
    rw [e]
    simp (disch := (first | assumption | (simp only [Bool.and_eq_true, Bool.and_eq_false_iff, decide_eq_true_eq, decide_eq_false_iff_not, bne_iff_ne, beq_iff_eq, beq_eq_false_iff_ne, bne_eq_false_iff_eq, Bool.not_eq_true', Bool.not_eq_false', bys_length, List.length_append, List.length_cons, List.length_nil, List.length_map, List.length_drop, List.length_take, Int.natCast_add, wrap_i64_eq, wrap_u64, wrap_u8, ne_eq, not_true_eq_false, not_false_eq_true, Nat.zero_add, Nat.mul_one] <;> omega) | omega | (simp; done) | (simp; omega))) only [↓at_runK, ↓at_bind, ↓contQ_mk, ↓at_ret, ↓at_consK, ↓at_nilK, ↓at_optK, ↓at_intK, ↓at_boolK, ↓at_strK, ↓at_slK, ↓at_slOK, ↓at_slK0, ↓at_slOK0, ↓at_aggK, ↓at_cond_t, ↓at_cond_f, ↓at_sameL, ↓at_any1, ↓at_any, and_self, toBytes_bys, List.nil_append, List.append_nil, ↓at_nodeW, List.drop_zero, List.take_succ_cons, List.take_zero, List.getElem?_cons_succ, List.getElem?_cons_zero, cells_agg, eqCells_cons, eqCells_nil, eq1_int, eq1_bool, eq1_str, ↓at_ptr_whole, ↓at_ptr_cell, ↓at_ptr_obj, ↓at_ptr_objs, shift_obj, shift_elt, toA_val, toA_own, Int.toNat_natCast, List.cons_append, c']
  · have c' : (((x % 2 : Nat) : Int) == 1) = false := by simp; omega
    have e : stepN x = x / 2 := by unfold stepN; rw [if_neg c, Nat.xor_zero]
    rw [e]
    simp (disch := (first | assumption | (simp only [Bool.and_eq_true, Bool.and_eq_false_iff, decide_eq_true_eq, decide_eq_false_iff_not, bne_iff_ne, beq_iff_eq, beq_eq_false_iff_ne, bne_eq_false_iff_eq, Bool.not_eq_true', Bool.not_eq_false', bys_length, List.length_append, List.length_cons, List.length_nil, List.length_map, List.length_drop, List.length_take, Int.natCast_add, wrap_i64_eq, wrap_u64, wrap_u8, ne_eq, not_true_eq_false, not_false_eq_true, Nat.zero_add, Nat.mul_one] <;> omega) | omega | (simp; done) | (simp; omega))) only [↓at_runK, ↓at_bind, ↓contQ_mk, ↓at_ret, ↓at_consK, ↓at_nilK, ↓at_optK, ↓at_intK, ↓at_boolK, ↓at_strK, ↓at_slK, ↓at_slOK, ↓at_slK0, ↓at_slOK0, ↓at_aggK, ↓at_cond_t, ↓at_cond_f, ↓at_sameL, ↓at_any1, ↓at_any, and_self, toBytes_bys, List.nil_append, List.append_nil, ↓at_nodeW, List.drop_zero, List.take_succ_cons, List.take_zero, List.getElem?_cons_succ, List.getElem?_cons_zero, cells_agg, eqCells_cons, eqCells_nil, eq1_int, eq1_bool, eq1_str, ↓at_ptr_whole, ↓at_ptr_cell, ↓at_ptr_obj, ↓at_ptr_objs, shift_obj, shift_elt, toA_val, toA_own, Int.toNat_natCast, List.cons_append, c']
theorem rmore_loop (d : Nat) (f : Bool) (l : List UInt8) (hl : l.length ≤ 140737488351232) (h : Heap) (Q : Res → Prop) : ∀ (n j k x : Nat) (tg : Hid Q), l.length = j + n → n < k → x < 4294967296 →
    Run (P22_0 (d + 1) k f (bys l) x j h) Q tg = Q ([.int .u32 (4294967295 ^^^ ((l.drop j).foldl (fun x c => fourN (fourN (x ^^^ c.toNat))) x) : Nat)], h) := by
  intro n
  induction n with
  | zero =>
    intro j k x tg hj hk hx
    obtain ⟨k, rfl⟩ : ∃ m, k = m + 1 := ⟨k - 1, by omega⟩
    have hd : l.drop j = [] := List.drop_eq_nil_of_le (by omega)
    have hx2 : 4294967295 ^^^ x = 4294967295 - x := by
      apply Nat.eq_of_testBit_eq
      intro i
      have h1 : (4294967295 : Nat).testBit i = decide (i < 32) := Nat.testBit_two_pow_sub_one 32 i
      have h2 : (4294967295 - x).testBit i = (decide (i < 32) && !x.testBit i) := by
        have e : 4294967295 - x = 2 ^ 32 - (x + 1) := by omega
        rw [e]; exact Nat.testBit_two_pow_sub_succ (by omega) i
      rw [Nat.testBit_xor, h1, h2]
      by_cases c : i < 32
      · simp [c]
      · have h3 : x.testBit i = false := Nat.testBit_lt_two_pow (Nat.lt_of_lt_of_le hx (by
          have : (2 : Nat) ^ 32 ≤ 2 ^ i := Nat.pow_le_pow_right (by omega) (by omega)
          omega))
        simp [c, h3]
    have e : IntKind.u32.wrap (4294967295 - (x : Int)) = ((4294967295 ^^^ x : Nat) : Int) := by
      rw [hx2]
      have : (4294967295 - (x : Int)) = ((4294967295 - x : Nat) : Int) := by omega
      rw [this]; exact u32_id (by omega)
    rw [P22_0_eq, hd]
    simp (disch := (first | assumption | (simp only [Bool.and_eq_true, Bool.and_eq_false_iff, decide_eq_true_eq, decide_eq_false_iff_not, bne_iff_ne, beq_iff_eq, beq_eq_false_iff_ne, bne_eq_false_iff_eq, Bool.not_eq_true', Bool.not_eq_false', bys_length, List.length_append, List.length_cons, List.length_nil, List.length_map, List.length_drop, List.length_take, Int.natCast_add, wrap_i64_eq, wrap_u64, wrap_u8, ne_eq, not_true_eq_false, not_false_eq_true, Nat.zero_add, Nat.mul_one] <;> omega) | omega | (simp; done) | (simp; omega))) only [↓at_runK, ↓at_bind, ↓contQ_mk, ↓at_ret, ↓at_consK, ↓at_nilK, ↓at_optK, ↓at_intK, ↓at_boolK, ↓at_strK, ↓at_slK, ↓at_slOK, ↓at_slK0, ↓at_slOK0, ↓at_aggK, ↓at_cond_t, ↓at_cond_f, ↓at_sameL, ↓at_any1, ↓at_any, and_self, toBytes_bys, List.nil_append, List.append_nil, ↓at_nodeW, List.drop_zero, List.take_succ_cons, List.take_zero, List.getElem?_cons_succ, List.getElem?_cons_zero, cells_agg, eqCells_cons, eqCells_nil, eq1_int, eq1_bool, eq1_str, ↓at_ptr_whole, ↓at_ptr_cell, ↓at_ptr_obj, ↓at_ptr_objs, shift_obj, shift_elt, toA_val, toA_own, Int.toNat_natCast, List.cons_append, bys_length, e]
    rfl
  | succ n ih =>
    intro j k x tg hj hk hx
    obtain ⟨k, rfl⟩ : ∃ m, k = m + 1 := ⟨k - 1, by omega⟩
    obtain ⟨k8, hk8⟩ : ∃ m, rounds = m + 9 := ⟨rounds - 9, by have := rounds_ge; omega⟩
    have h1 : j < l.length := by omega
    have hc := (l[j]).toNat_lt
    have e1 := succ_wrap (i := j) (by omega)
    have w := u32_id (n := (l[j]).toNat) (by omega)
    have e2 := xor_wrap hx (show (l[j]).toNat < 4294967296 by omega)
    have hx1 := xor_lt hx (show (l[j]).toNat < 4294967296 by omega)
    have g : (bys l).getD j AVal.undef = .int .u8 ((l[j]).toNat : Int) := by rw [bys_getD h1]; rfl
    have ih' := fun tg => ih (j + 1) k _ tg (by omega) (by omega) (fourN_lt (fourN_lt hx1))
    have inner : ∀ (tg : Hid Q) (y : Nat), y < 4294967296 → Run (P22_1 (d + 1) k (k8 + 9) f (bys l) y j 0 h) Q tg = Run (P22_0 (d + 1) k f (bys l) (fourN (fourN y) : Nat) (j + 1 : Nat) h) Q ⟨⟩ := fun tg y hy => by
      have a1 : IntKind.i64.wrap ((0 : Int) + 1) = 1 := by decide
      have a2 : IntKind.i64.wrap ((1 : Int) + 1) = 2 := by decide
      have a3 : IntKind.i64.wrap ((2 : Int) + 1) = 3 := by decide
      have a4 : IntKind.i64.wrap ((3 : Int) + 1) = 4 := by decide
      have a5 : IntKind.i64.wrap ((4 : Int) + 1) = 5 := by decide
      have a6 : IntKind.i64.wrap ((5 : Int) + 1) = 6 := by decide
      have a7 : IntKind.i64.wrap ((6 : Int) + 1) = 7 := by decide
      have a8 : IntKind.i64.wrap ((7 : Int) + 1) = 8 := by decide
      have y1 := stepN_lt hy
      have y2 := stepN_lt y1
      have y3 := stepN_lt y2
      have y4 := stepN_lt y3
      have y5 := stepN_lt y4
      have y6 := stepN_lt y5
      have y7 := stepN_lt y6
      have r := fun (z : Nat) (hz : z < 4294967296) (Q : Res → Prop) (tg : Hid Q) => rstep_run (d := d) hz (h := h) (Q := Q) (tg := tg)
      have r0 := r _ hy
      have r1 := r _ y1
      have r2 := r _ y2
      have r3 := r _ y3
      have r4 := r _ y4
      have r5 := r _ y5
      have r6 := r _ y6
      have r7 := r _ y7
      rw [P22_1_eq]
      simp (disch := (first | assumption | (simp only [Bool.and_eq_true, Bool.and_eq_false_iff, decide_eq_true_eq, decide_eq_false_iff_not, bne_iff_ne, beq_iff_eq, beq_eq_false_iff_ne, bne_eq_false_iff_eq, Bool.not_eq_true', Bool.not_eq_false', bys_length, List.length_append, List.length_cons, List.length_nil, List.length_map, List.length_drop, List.length_take, Int.natCast_add, wrap_i64_eq, wrap_u64, wrap_u8, ne_eq, not_true_eq_false, not_false_eq_true, Nat.zero_add, Nat.mul_one] <;> omega) | omega | (simp; done) | (simp; omega))) only [↓at_runK, ↓at_bind, ↓contQ_mk, ↓at_ret, ↓at_consK, ↓at_nilK, ↓at_optK, ↓at_intK, ↓at_boolK, ↓at_strK, ↓at_slK, ↓at_slOK, ↓at_slK0, ↓at_slOK0, ↓at_aggK, ↓at_cond_t, ↓at_cond_f, ↓at_sameL, ↓at_any1, ↓at_any, and_self, toBytes_bys, List.nil_append, List.append_nil, ↓at_nodeW, List.drop_zero, List.take_succ_cons, List.take_zero, List.getElem?_cons_succ, List.getElem?_cons_zero, cells_agg, eqCells_cons, eqCells_nil, eq1_int, eq1_bool, eq1_str, ↓at_ptr_whole, ↓at_ptr_cell, ↓at_ptr_obj, ↓at_ptr_objs, shift_obj, shift_elt, toA_val, toA_own, Int.toNat_natCast, List.cons_append, r0, a1]
      rw [P22_1_eq]
      simp (disch := (first | assumption | (simp only [Bool.and_eq_true, Bool.and_eq_false_iff, decide_eq_true_eq, decide_eq_false_iff_not, bne_iff_ne, beq_iff_eq, beq_eq_false_iff_ne, bne_eq_false_iff_eq, Bool.not_eq_true', Bool.not_eq_false', bys_length, List.length_append, List.length_cons, List.length_nil, List.length_map, List.length_drop, List.length_take, Int.natCast_add, wrap_i64_eq, wrap_u64, wrap_u8, ne_eq, not_true_eq_false, not_false_eq_true, Nat.zero_add, Nat.mul_one] <;> omega) | omega | (simp; done) | (simp; omega))) only [↓at_runK, ↓at_bind, ↓contQ_mk, ↓at_ret, ↓at_consK, ↓at_nilK, ↓at_optK, ↓at_intK, ↓at_boolK, ↓at_strK, ↓at_slK, ↓at_slOK, ↓at_slK0, ↓at_slOK0, ↓at_aggK, ↓at_cond_t, ↓at_cond_f, ↓at_sameL, ↓at_any1, ↓at_any, and_self, toBytes_bys, List.nil_append, List.append_nil, ↓at_nodeW, List.drop_zero, List.take_succ_cons, List.take_zero, List.getElem?_cons_succ, List.getElem?_cons_zero, cells_agg, eqCells_cons, eqCells_nil, eq1_int, eq1_bool, eq1_str, ↓at_ptr_whole, ↓at_ptr_cell, ↓at_ptr_obj, ↓at_ptr_objs, shift_obj, shift_elt, toA_val, toA_own, Int.toNat_natCast, List.cons_append, r1, a2]
      rw [P22_1_eq]
      simp (disch := (first | assumption | (simp only [Bool.and_eq_true, Bool.and_eq_false_iff, decide_eq_true_eq, decide_eq_false_iff_not, bne_iff_ne, beq_iff_eq, beq_eq_false_iff_ne, bne_eq_false_iff_eq, Bool.not_eq_true', Bool.not_eq_false', bys_length, List.length_append, List.length_cons, List.length_nil, List.length_map, List.length_drop, List.length_take, Int.natCast_add, wrap_i64_eq, wrap_u64, wrap_u8, ne_eq, not_true_eq_false, not_false_eq_true, Nat.zero_add, Nat.mul_one] <;> omega) | omega | (simp; done) | (simp; omega))) only [↓at_runK, ↓at_bind, ↓contQ_mk, ↓at_ret, ↓at_consK, ↓at_nilK, ↓at_optK, ↓at_intK, ↓at_boolK, ↓at_strK, ↓at_slK, ↓at_slOK, ↓at_slK0, ↓at_slOK0, ↓at_aggK, ↓at_cond_t, ↓at_cond_f, ↓at_sameL, ↓at_any1, ↓at_any, and_self, toBytes_bys, List.nil_append, List.append_nil, ↓at_nodeW, List.drop_zero, List.take_succ_cons, List.take_zero, List.getElem?_cons_succ, List.getElem?_cons_zero, cells_agg, eqCells_cons, eqCells_nil, eq1_int, eq1_bool, eq1_str, ↓at_ptr_whole, ↓at_ptr_cell, ↓at_ptr_obj, ↓at_ptr_objs, shift_obj, shift_elt, toA_val, toA_own, Int.toNat_natCast, List.cons_append, r2, a3]
      rw [P22_1_eq]
      simp (disch := (first | assumption | (simp only [Bool.and_eq_true, Bool.and_eq_false_iff, decide_eq_true_eq, decide_eq_false_iff_not, bne_iff_ne, beq_iff_eq, beq_eq_false_iff_ne, bne_eq_false_iff_eq, Bool.not_eq_true', Bool.not_eq_false', bys_length, List.length_append, List.length_cons, List.length_nil, List.length_map, List.length_drop, List.length_take, Int.natCast_add, wrap_i64_eq, wrap_u64, wrap_u8, ne_eq, not_true_eq_false, not_false_eq_true, Nat.zero_add, Nat.mul_one] <;> omega) | omega | (simp; done) | (simp; omega))) only [↓at_runK, ↓at_bind, ↓contQ_mk, ↓at_ret, ↓at_consK, ↓at_nilK, ↓at_optK, ↓at_intK, ↓at_boolK, ↓at_strK, ↓at_slK, ↓at_slOK, ↓at_slK0, ↓at_slOK0, ↓at_aggK, ↓at_cond_t, ↓at_cond_f, ↓at_sameL, ↓at_any1, ↓at_any, and_self, toBytes_bys, List.nil_append, List.append_nil, ↓at_nodeW, List.drop_zero, List.take_succ_cons, List.take_zero, List.getElem?_cons_succ, List.getElem?_cons_zero, cells_agg, eqCells_cons, eqCells_nil, eq1_int, eq1_bool, eq1_str, ↓at_ptr_whole, ↓at_ptr_cell, ↓at_ptr_obj, ↓at_ptr_objs, shift_obj, shift_elt, toA_val, toA_own, Int.toNat_natCast, List.cons_append, r3, a4]
      rw [P22_1_eq]
      simp (disch := (first | assumption | (simp only [Bool.and_eq_true, Bool.and_eq_false_iff, decide_eq_true_eq, decide_eq_false_iff_not, bne_iff_ne, beq_iff_eq, beq_eq_false_iff_ne, bne_eq_false_iff_eq, Bool.not_eq_true', Bool.not_eq_false', bys_length, List.length_append, List.length_cons, List.length_nil, List.length_map, List.length_drop, List.length_take, Int.natCast_add, wrap_i64_eq, wrap_u64, wrap_u8, ne_eq, not_true_eq_false, not_false_eq_true, Nat.zero_add, Nat.mul_one] <;> omega) | omega | (simp; done) | (simp; omega))) only [↓at_runK, ↓at_bind, ↓contQ_mk, ↓at_ret, ↓at_consK, ↓at_nilK, ↓at_optK, ↓at_intK, ↓at_boolK, ↓at_strK, ↓at_slK, ↓at_slOK, ↓at_slK0, ↓at_slOK0, ↓at_aggK, ↓at_cond_t, ↓at_cond_f, ↓at_sameL, ↓at_any1, ↓at_any, and_self, toBytes_bys, List.nil_append, List.append_nil, ↓at_nodeW, List.drop_zero, List.take_succ_cons, List.take_zero, List.getElem?_cons_succ, List.getElem?_cons_zero, cells_agg, eqCells_cons, eqCells_nil, eq1_int, eq1_bool, eq1_str, ↓at_ptr_whole, ↓at_ptr_cell, ↓at_ptr_obj, ↓at_ptr_objs, shift_obj, shift_elt, toA_val, toA_own, Int.toNat_natCast, List.cons_append, r4, a5]
      rw [P22_1_eq]
      simp (disch := (first | assumption | (simp only [Bool.and_eq_true, Bool.and_eq_false_iff, decide_eq_true_eq, decide_eq_false_iff_not, bne_iff_ne, beq_iff_eq, beq_eq_false_iff_ne, bne_eq_false_iff_eq, Bool.not_eq_true', Bool.not_eq_false', bys_length, List.length_append, List.length_cons, List.length_nil, List.length_map, List.length_drop, List.length_take, Int.natCast_add, wrap_i64_eq, wrap_u64, wrap_u8, ne_eq, not_true_eq_false, not_false_eq_true, Nat.zero_add, Nat.mul_one] <;> omega) | omega | (simp; done) | (simp; omega))) only [↓at_runK, ↓at_bind, ↓contQ_mk, ↓at_ret, ↓at_consK, ↓at_nilK, ↓at_optK, ↓at_intK, ↓at_boolK, ↓at_strK, ↓at_slK, ↓at_slOK, ↓at_slK0, ↓at_slOK0, ↓at_aggK, ↓at_cond_t, ↓at_cond_f, ↓at_sameL, ↓at_any1, ↓at_any, and_self, toBytes_bys, List.nil_append, List.append_nil, ↓at_nodeW, List.drop_zero, List.take_succ_cons, List.take_zero, List.getElem?_cons_succ, List.getElem?_cons_zero, cells_agg, eqCells_cons, eqCells_nil, eq1_int, eq1_bool, eq1_str, ↓at_ptr_whole, ↓at_ptr_cell, ↓at_ptr_obj, ↓at_ptr_objs, shift_obj, shift_elt, toA_val, toA_own, Int.toNat_natCast, List.cons_append, r5, a6]
      rw [P22_1_eq]
      simp (disch := (first | assumption | (simp only [Bool.and_eq_true, Bool.and_eq_false_iff, decide_eq_true_eq, decide_eq_false_iff_not, bne_iff_ne, beq_iff_eq, beq_eq_false_iff_ne, bne_eq_false_iff_eq, Bool.not_eq_true', Bool.not_eq_false', bys_length, List.length_append, List.length_cons, List.length_nil, List.length_map, List.length_drop, List.length_take, Int.natCast_add, wrap_i64_eq, wrap_u64, wrap_u8, ne_eq, not_true_eq_false, not_false_eq_true, Nat.zero_add, Nat.mul_one] <;> omega) | omega | (simp; done) | (simp; omega))) only [↓at_runK, ↓at_bind, ↓contQ_mk, ↓at_ret, ↓at_consK, ↓at_nilK, ↓at_optK, ↓at_intK, ↓at_boolK, ↓at_strK, ↓at_slK, ↓at_slOK, ↓at_slK0, ↓at_slOK0, ↓at_aggK, ↓at_cond_t, ↓at_cond_f, ↓at_sameL, ↓at_any1, ↓at_any, and_self, toBytes_bys, List.nil_append, List.append_nil, ↓at_nodeW, List.drop_zero, List.take_succ_cons, List.take_zero, List.getElem?_cons_succ, List.getElem?_cons_zero, cells_agg, eqCells_cons, eqCells_nil, eq1_int, eq1_bool, eq1_str, ↓at_ptr_whole, ↓at_ptr_cell, ↓at_ptr_obj, ↓at_ptr_objs, shift_obj, shift_elt, toA_val, toA_own, Int.toNat_natCast, List.cons_append, r6, a7]
      rw [P22_1_eq]
      simp (disch := (first | assumption | (simp only [Bool.and_eq_true, Bool.and_eq_false_iff, decide_eq_true_eq, decide_eq_false_iff_not, bne_iff_ne, beq_iff_eq, beq_eq_false_iff_ne, bne_eq_false_iff_eq, Bool.not_eq_true', Bool.not_eq_false', bys_length, List.length_append, List.length_cons, List.length_nil, List.length_map, List.length_drop, List.length_take, Int.natCast_add, wrap_i64_eq, wrap_u64, wrap_u8, ne_eq, not_true_eq_false, not_false_eq_true, Nat.zero_add, Nat.mul_one] <;> omega) | omega | (simp; done) | (simp; omega))) only [↓at_runK, ↓at_bind, ↓contQ_mk, ↓at_ret, ↓at_consK, ↓at_nilK, ↓at_optK, ↓at_intK, ↓at_boolK, ↓at_strK, ↓at_slK, ↓at_slOK, ↓at_slK0, ↓at_slOK0, ↓at_aggK, ↓at_cond_t, ↓at_cond_f, ↓at_sameL, ↓at_any1, ↓at_any, and_self, toBytes_bys, List.nil_append, List.append_nil, ↓at_nodeW, List.drop_zero, List.take_succ_cons, List.take_zero, List.getElem?_cons_succ, List.getElem?_cons_zero, cells_agg, eqCells_cons, eqCells_nil, eq1_int, eq1_bool, eq1_str, ↓at_ptr_whole, ↓at_ptr_cell, ↓at_ptr_obj, ↓at_ptr_objs, shift_obj, shift_elt, toA_val, toA_own, Int.toNat_natCast, List.cons_append, r7, a8]
      rw [P22_1_eq]
      simp (disch := (first | assumption | (simp only [Bool.and_eq_true, Bool.and_eq_false_iff, decide_eq_true_eq, decide_eq_false_iff_not, bne_iff_ne, beq_iff_eq, beq_eq_false_iff_ne, bne_eq_false_iff_eq, Bool.not_eq_true', Bool.not_eq_false', bys_length, List.length_append, List.length_cons, List.length_nil, List.length_map, List.length_drop, List.length_take, Int.natCast_add, wrap_i64_eq, wrap_u64, wrap_u8, ne_eq, not_true_eq_false, not_false_eq_true, Nat.zero_add, Nat.mul_one] <;> omega) | omega | (simp; done) | (simp; omega))) only [↓at_runK, ↓at_bind, ↓contQ_mk, ↓at_ret, ↓at_consK, ↓at_nilK, ↓at_optK, ↓at_intK, ↓at_boolK, ↓at_strK, ↓at_slK, ↓at_slOK, ↓at_slK0, ↓at_slOK0, ↓at_aggK, ↓at_cond_t, ↓at_cond_f, ↓at_sameL, ↓at_any1, ↓at_any, and_self, toBytes_bys, List.nil_append, List.append_nil, ↓at_nodeW, List.drop_zero, List.take_succ_cons, List.take_zero, List.getElem?_cons_succ, List.getElem?_cons_zero, cells_agg, eqCells_cons, eqCells_nil, eq1_int, eq1_bool, eq1_str, ↓at_ptr_whole, ↓at_ptr_cell, ↓at_ptr_obj, ↓at_ptr_objs, shift_obj, shift_elt, toA_val, toA_own, Int.toNat_natCast, List.cons_append, e1]
      rw [fourN_step, fourN_step]
    rw [P22_0_eq, List.drop_eq_getElem_cons h1, List.foldl_cons, hk8]
    simp (disch := (first | assumption | (simp only [Bool.and_eq_true, Bool.and_eq_false_iff, decide_eq_true_eq, decide_eq_false_iff_not, bne_iff_ne, beq_iff_eq, beq_eq_false_iff_ne, bne_eq_false_iff_eq, Bool.not_eq_true', Bool.not_eq_false', bys_length, List.length_append, List.length_cons, List.length_nil, List.length_map, List.length_drop, List.length_take, Int.natCast_add, wrap_i64_eq, wrap_u64, wrap_u8, ne_eq, not_true_eq_false, not_false_eq_true, Nat.zero_add, Nat.mul_one] <;> omega) | omega | (simp; done) | (simp; omega))) only [↓at_runK, ↓at_bind, ↓contQ_mk, ↓at_ret, ↓at_consK, ↓at_nilK, ↓at_optK, ↓at_intK, ↓at_boolK, ↓at_strK, ↓at_slK, ↓at_slOK, ↓at_slK0, ↓at_slOK0, ↓at_aggK, ↓at_cond_t, ↓at_cond_f, ↓at_sameL, ↓at_any1, ↓at_any, and_self, toBytes_bys, List.nil_append, List.append_nil, ↓at_nodeW, List.drop_zero, List.take_succ_cons, List.take_zero, List.getElem?_cons_succ, List.getElem?_cons_zero, cells_agg, eqCells_cons, eqCells_nil, eq1_int, eq1_bool, eq1_str, ↓at_ptr_whole, ↓at_ptr_cell, ↓at_ptr_obj, ↓at_ptr_objs, shift_obj, shift_elt, toA_val, toA_own, Int.toNat_natCast, List.cons_append, bys_length, g, w, e2]
    rw [inner _ _ hx1, ih']
theorem rmore_run {d : Nat} {f : Bool} {l : List UInt8} (hl : l.length ≤ 140737488351232) {h : Heap} {Q : Res → Prop} {tg : Hid Q} :
    Run (evFn Cw (d + 3) 16 [.sl f 0 (bys l)] h) Q tg = Q ([.int .u32 (moreN 0 l : Nat)], h) := by
  have e : IntKind.u32.wrap (4294967295 - (0 : Int)) = ((4294967295 ^^^ 0 : Nat) : Int) := by decide
  have r := fun (Q : Res → Prop) (tg : Hid Q) => rmore_loop d f l hl h Q l.length 0 rounds (4294967295 ^^^ 0) tg (by omega) (Nat.lt_of_lt_of_le (by omega) rounds_ge) (by decide)
  rw [e0, List.drop_zero] at r
  have r2 : ∀ (Q : Res → Prop) (tg : Hid Q), Run (evFn Cw (d + 2) 22 [.int .u32 0, .sl f 0 (bys l)] h) Q tg = Q ([.int .u32 (moreN 0 l : Nat)], h) := fun Q tg => by
    rw [F22_eq, e]
    exact r Q tg
  rw [F16_eq]
  simp (disch := (first | assumption | (simp only [Bool.and_eq_true, Bool.and_eq_false_iff, decide_eq_true_eq, decide_eq_false_iff_not, bne_iff_ne, beq_iff_eq, beq_eq_false_iff_ne, bne_eq_false_iff_eq, Bool.not_eq_true', Bool.not_eq_false', bys_length, List.length_append, List.length_cons, List.length_nil, List.length_map, List.length_drop, List.length_take, Int.natCast_add, wrap_i64_eq, wrap_u64, wrap_u8, ne_eq, not_true_eq_false, not_false_eq_true, Nat.zero_add, Nat.mul_one] <;> omega) | omega | (simp; done) | (simp; omega))) only [↓at_runK, ↓at_bind, ↓contQ_mk, ↓at_ret, ↓at_consK, ↓at_nilK, ↓at_optK, ↓at_intK, ↓at_boolK, ↓at_strK, ↓at_slK, ↓at_slOK, ↓at_slK0, ↓at_slOK0, ↓at_aggK, ↓at_cond_t, ↓at_cond_f, ↓at_sameL, ↓at_any1, ↓at_any, and_self, toBytes_bys, List.nil_append, List.append_nil, ↓at_nodeW, List.drop_zero, List.take_succ_cons, List.take_zero, List.getElem?_cons_succ, List.getElem?_cons_zero, cells_agg, eqCells_cons, eqCells_nil, eq1_int, eq1_bool, eq1_str, ↓at_ptr_whole, ↓at_ptr_cell, ↓at_ptr_obj, ↓at_ptr_objs, shift_obj, shift_elt, toA_val, toA_own, Int.toNat_natCast, List.cons_append, r2]
theorem moreN_append (s : Nat) (a b : List UInt8) : moreN s (a ++ b) = moreN (moreN s a) b := by
  unfold moreN
  rw [List.foldl_append]
  congr 2
  generalize a.foldl _ _ = x
  rw [← Nat.xor_assoc, Nat.xor_self, Nat.zero_xor]

/-! ### Pairs of pieces -/
def pairUp : List (List UInt8) → List KPair
  | k :: v :: r => ⟨k, v⟩ :: pairUp r
  | _ => []
noncomputable def pcF (b : List UInt8) : Option (List KPair) := if (unp b).2 ≠ 0 ∨ (unp b).1.length % 2 = 1 ∨ 400 < b.length then none else some (pairUp (unp b).1)
noncomputable def pcsF : List (List UInt8) → List KPair → Option (List KPair)
  | [], acc => some acc
  | b :: r, acc => match pcF b with | none => none | some l => pcsF r (acc ++ l)
theorem pairUp_len : ∀ l : List (List UInt8), (pairUp l).length ≤ l.length
  | [] => by simp [pairUp]
  | [_] => by simp [pairUp]
  | k :: v :: r => by have := pairUp_len r; simp only [pairUp, List.length_cons]; omega
theorem pcF_len {b : List UInt8} {l : List KPair} (h : pcF b = some l) : l.length ≤ 400 := by
  unfold pcF at h
  split at h
  · cases h
  · rename_i hc
    have h1 := unp_len b
    have h2 := pairUp_len (unp b).1
    simp only [not_or] at hc
    simp only [Option.some.injEq] at h
    rw [← h]; omega
theorem pcF_sz {b : List UInt8} {l : List KPair} (h : pcF b = some l) : b.length ≤ 400 := by
  unfold pcF at h
  split at h
  · cases h
  · rename_i hc
    simp only [not_or] at hc
    omega
theorem ppairs_loop (d : Nat) (fs : List (List UInt8)) (hl : fs.length ≤ 40000000) (h : Heap) (Q : Res → Prop) : ∀ (n i k : Nat) (acc : List KPair) (tg : Hid Q), fs.length = i + 2 * n → n < k → acc.length ≤ i →
    Run (P19_0 d k (flds fs) (prs acc) i h) Q tg = Q ([.sl false 3 (prs (acc ++ pairUp (fs.drop i))), .bool true], h) := by
  intro n
  induction n with
  | zero =>
    intro i k acc tg hi hk ha
    obtain ⟨k, rfl⟩ : ∃ m, k = m + 1 := ⟨k - 1, by omega⟩
    have hd : fs.drop i = [] := List.drop_eq_nil_of_le (by omega)
    rw [P19_0_eq, hd]
    simp (disch := (first | assumption | (simp only [Bool.and_eq_true, Bool.and_eq_false_iff, decide_eq_true_eq, decide_eq_false_iff_not, bne_iff_ne, beq_iff_eq, beq_eq_false_iff_ne, bne_eq_false_iff_eq, Bool.not_eq_true', Bool.not_eq_false', bys_length, List.length_append, List.length_cons, List.length_nil, List.length_map, List.length_drop, List.length_take, Int.natCast_add, wrap_i64_eq, wrap_u64, wrap_u8, ne_eq, not_true_eq_false, not_false_eq_true, Nat.zero_add, Nat.mul_one] <;> omega) | omega | (simp; done) | (simp; omega))) only [↓at_runK, ↓at_bind, ↓contQ_mk, ↓at_ret, ↓at_consK, ↓at_nilK, ↓at_optK, ↓at_intK, ↓at_boolK, ↓at_strK, ↓at_slK, ↓at_slOK, ↓at_slK0, ↓at_slOK0, ↓at_aggK, ↓at_cond_t, ↓at_cond_f, ↓at_sameL, ↓at_any1, ↓at_any, and_self, toBytes_bys, List.nil_append, List.append_nil, ↓at_nodeW, List.drop_zero, List.take_succ_cons, List.take_zero, List.getElem?_cons_succ, List.getElem?_cons_zero, cells_agg, eqCells_cons, eqCells_nil, eq1_int, eq1_bool, eq1_str, ↓at_ptr_whole, ↓at_ptr_cell, ↓at_ptr_obj, ↓at_ptr_objs, shift_obj, shift_elt, toA_val, toA_own, Int.toNat_natCast, List.cons_append, flds_length]
    simp [pairUp]
  | succ n ih =>
    intro i k acc tg hi hk ha
    obtain ⟨k, rfl⟩ : ∃ m, k = m + 1 := ⟨k - 1, by omega⟩
    have h1 : i < fs.length := by omega
    have h2 : i + 1 < fs.length := by omega
    have e1 := succ_wrap (i := i) (by omega)
    have e2 : IntKind.i64.wrap ((i : Int) + 2) = ((i + 2 : Nat) : Int) := by rw [wrap_i64_id (by omega) (by omega)]; omega
    have ih' := fun tg => ih (i + 2) k (acc ++ [⟨fs[i], fs[i + 1]⟩]) tg (by omega) (by omega) (by simp; omega)
    have hd : fs.drop i = fs[i] :: fs[i + 1] :: fs.drop (i + 2) := by rw [List.drop_eq_getElem_cons h1, List.drop_eq_getElem_cons h2]
    rw [P19_0_eq, hd]
    simp (disch := (first | assumption | (simp only [Bool.and_eq_true, Bool.and_eq_false_iff, decide_eq_true_eq, decide_eq_false_iff_not, bne_iff_ne, beq_iff_eq, beq_eq_false_iff_ne, bne_eq_false_iff_eq, Bool.not_eq_true', Bool.not_eq_false', bys_length, List.length_append, List.length_cons, List.length_nil, List.length_map, List.length_drop, List.length_take, Int.natCast_add, wrap_i64_eq, wrap_u64, wrap_u8, ne_eq, not_true_eq_false, not_false_eq_true, Nat.zero_add, Nat.mul_one] <;> omega) | omega | (simp; done) | (simp; omega))) only [↓at_runK, ↓at_bind, ↓contQ_mk, ↓at_ret, ↓at_consK, ↓at_nilK, ↓at_optK, ↓at_intK, ↓at_boolK, ↓at_strK, ↓at_slK, ↓at_slOK, ↓at_slK0, ↓at_slOK0, ↓at_aggK, ↓at_cond_t, ↓at_cond_f, ↓at_sameL, ↓at_any1, ↓at_any, and_self, toBytes_bys, List.nil_append, List.append_nil, ↓at_nodeW, List.drop_zero, List.take_succ_cons, List.take_zero, List.getElem?_cons_succ, List.getElem?_cons_zero, cells_agg, eqCells_cons, eqCells_nil, eq1_int, eq1_bool, eq1_str, ↓at_ptr_whole, ↓at_ptr_cell, ↓at_ptr_obj, ↓at_ptr_objs, shift_obj, shift_elt, toA_val, toA_own, Int.toNat_natCast, List.cons_append, flds_length, flds_getD h1, flds_getD h2, e1, e2, prs_length, prs_snoc, ih']
    simp [pairUp]
theorem ppairs_some {d : Nat} {f : Bool} {b : List UInt8} {l : List KPair} (hp : pcF b = some l) {h : Heap} {Q : Res → Prop} {tg : Hid Q} :
    Run (evFn Cw (d + 4) 19 [.sl f 0 (bys b)] h) Q tg = Q ([.sl false 3 (prs l), .bool true], h) := by
  have hb := pcF_sz hp
  have hu := unp_len b
  unfold pcF at hp
  split at hp
  · cases hp
  · rename_i hc
    simp only [not_or, ne_eq, Classical.not_not] at hc
    obtain ⟨c1, c2, c3⟩ := hc
    simp only [Option.some.injEq] at hp
    have r := fun (Q : Res → Prop) (tg : Hid Q) => unp_run (d := d) (f := f) (l := b) (h := h) (Q := Q) (tg := tg) (by omega)
    have q := fun (tg : Hid Q) => ppairs_loop (d + 3) (unp b).1 (by omega) h Q ((unp b).1.length / 2) 0 rounds [] tg (by omega) (Nat.lt_of_lt_of_le (by omega) rounds_ge) (by simp)
    rw [e0, prs_nil, List.drop_zero, List.nil_append, hp] at q
    have e1 : ((((unp b).2 : Nat) : Int) != 0) = false := by simp [c1]
    have e2 : (Int.tmod (((unp b).1.length : Nat) : Int) 2 != 0) = false := by
      have : Int.tmod (((unp b).1.length : Nat) : Int) 2 = (((unp b).1.length % 2 : Nat) : Int) := by rw [Int.tmod_eq_emod_of_nonneg (by omega)]; omega
      rw [this]; simp; omega
    have e3 : decide ((unp b).2 ≠ 0) = false := by simp [c1]
    rw [F19_eq]
    simp (disch := (first | assumption | (simp only [Bool.and_eq_true, Bool.and_eq_false_iff, decide_eq_true_eq, decide_eq_false_iff_not, bne_iff_ne, beq_iff_eq, beq_eq_false_iff_ne, bne_eq_false_iff_eq, Bool.not_eq_true', Bool.not_eq_false', bys_length, List.length_append, List.length_cons, List.length_nil, List.length_map, List.length_drop, List.length_take, Int.natCast_add, wrap_i64_eq, wrap_u64, wrap_u8, ne_eq, not_true_eq_false, not_false_eq_true, Nat.zero_add, Nat.mul_one] <;> omega) | omega | (simp; done) | (simp; omega))) only [↓at_runK, ↓at_bind, ↓contQ_mk, ↓at_ret, ↓at_consK, ↓at_nilK, ↓at_optK, ↓at_intK, ↓at_boolK, ↓at_strK, ↓at_slK, ↓at_slOK, ↓at_slK0, ↓at_slOK0, ↓at_aggK, ↓at_cond_t, ↓at_cond_f, ↓at_sameL, ↓at_any1, ↓at_any, and_self, toBytes_bys, List.nil_append, List.append_nil, ↓at_nodeW, List.drop_zero, List.take_succ_cons, List.take_zero, List.getElem?_cons_succ, List.getElem?_cons_zero, cells_agg, eqCells_cons, eqCells_nil, eq1_int, eq1_bool, eq1_str, ↓at_ptr_whole, ↓at_ptr_cell, ↓at_ptr_obj, ↓at_ptr_objs, shift_obj, shift_elt, toA_val, toA_own, Int.toNat_natCast, List.cons_append, r, e3, e1, flds_length, e2, bys_length, q]
theorem ppairs_none {d : Nat} {f : Bool} {b : List UInt8} (hp : pcF b = none) (hb : b.length ≤ 40000000) {h : Heap} {Q : Res → Prop} {tg : Hid Q} :
    Run (evFn Cw (d + 4) 19 [.sl f 0 (bys b)] h) Q tg = Q ([.sl true 0 [], .bool false], h) := by
  have hu := unp_len b
  have r := fun (Q : Res → Prop) (tg : Hid Q) => unp_run (d := d) (f := f) (l := b) (h := h) (Q := Q) (tg := tg) (by omega)
  unfold pcF at hp
  split at hp
  · rename_i hc
    rw [F19_eq]
    by_cases c1 : (unp b).2 = 0
    · have e1 : ((((unp b).2 : Nat) : Int) != 0) = false := by simp [c1]
      have e3 : decide ((unp b).2 ≠ 0) = false := by simp [c1]
      have e4 : Int.tmod (((unp b).1.length : Nat) : Int) 2 = (((unp b).1.length % 2 : Nat) : Int) := by rw [Int.tmod_eq_emod_of_nonneg (by omega)]; omega
      by_cases c2 : (unp b).1.length % 2 = 1
      · have e2 : ((((unp b).1.length % 2 : Nat) : Int) != 0) = true := by rw [c2]; rfl
        simp (disch := (first | assumption | (simp only [Bool.and_eq_true, Bool.and_eq_false_iff, decide_eq_true_eq, decide_eq_false_iff_not, bne_iff_ne, beq_iff_eq, beq_eq_false_iff_ne, bne_eq_false_iff_eq, Bool.not_eq_true', Bool.not_eq_false', bys_length, List.length_append, List.length_cons, List.length_nil, List.length_map, List.length_drop, List.length_take, Int.natCast_add, wrap_i64_eq, wrap_u64, wrap_u8, ne_eq, not_true_eq_false, not_false_eq_true, Nat.zero_add, Nat.mul_one] <;> omega) | omega | (simp; done) | (simp; omega))) only [↓at_runK, ↓at_bind, ↓contQ_mk, ↓at_ret, ↓at_consK, ↓at_nilK, ↓at_optK, ↓at_intK, ↓at_boolK, ↓at_strK, ↓at_slK, ↓at_slOK, ↓at_slK0, ↓at_slOK0, ↓at_aggK, ↓at_cond_t, ↓at_cond_f, ↓at_sameL, ↓at_any1, ↓at_any, and_self, toBytes_bys, List.nil_append, List.append_nil, ↓at_nodeW, List.drop_zero, List.take_succ_cons, List.take_zero, List.getElem?_cons_succ, List.getElem?_cons_zero, cells_agg, eqCells_cons, eqCells_nil, eq1_int, eq1_bool, eq1_str, ↓at_ptr_whole, ↓at_ptr_cell, ↓at_ptr_obj, ↓at_ptr_objs, shift_obj, shift_elt, toA_val, toA_own, Int.toNat_natCast, List.cons_append, r, e3, e1, flds_length, e4, e2]
      · have e2 : ((((unp b).1.length % 2 : Nat) : Int) != 0) = false := by simp; omega
        have c3 : 400 < b.length := by rcases hc with h | h | h <;> first | exact absurd c1 h | exact absurd h c2 | exact h
        simp (disch := (first | assumption | (simp only [Bool.and_eq_true, Bool.and_eq_false_iff, decide_eq_true_eq, decide_eq_false_iff_not, bne_iff_ne, beq_iff_eq, beq_eq_false_iff_ne, bne_eq_false_iff_eq, Bool.not_eq_true', Bool.not_eq_false', bys_length, List.length_append, List.length_cons, List.length_nil, List.length_map, List.length_drop, List.length_take, Int.natCast_add, wrap_i64_eq, wrap_u64, wrap_u8, ne_eq, not_true_eq_false, not_false_eq_true, Nat.zero_add, Nat.mul_one] <;> omega) | omega | (simp; done) | (simp; omega))) only [↓at_runK, ↓at_bind, ↓contQ_mk, ↓at_ret, ↓at_consK, ↓at_nilK, ↓at_optK, ↓at_intK, ↓at_boolK, ↓at_strK, ↓at_slK, ↓at_slOK, ↓at_slK0, ↓at_slOK0, ↓at_aggK, ↓at_cond_t, ↓at_cond_f, ↓at_sameL, ↓at_any1, ↓at_any, and_self, toBytes_bys, List.nil_append, List.append_nil, ↓at_nodeW, List.drop_zero, List.take_succ_cons, List.take_zero, List.getElem?_cons_succ, List.getElem?_cons_zero, cells_agg, eqCells_cons, eqCells_nil, eq1_int, eq1_bool, eq1_str, ↓at_ptr_whole, ↓at_ptr_cell, ↓at_ptr_obj, ↓at_ptr_objs, shift_obj, shift_elt, toA_val, toA_own, Int.toNat_natCast, List.cons_append, r, e3, e1, flds_length, e4, e2, bys_length]
    · have e1 : ((((unp b).2 : Nat) : Int) != 0) = true := by simp; exact c1
      have e3 : decide ((unp b).2 ≠ 0) = true := by simp [c1]
      simp (disch := (first | assumption | (simp only [Bool.and_eq_true, Bool.and_eq_false_iff, decide_eq_true_eq, decide_eq_false_iff_not, bne_iff_ne, beq_iff_eq, beq_eq_false_iff_ne, bne_eq_false_iff_eq, Bool.not_eq_true', Bool.not_eq_false', bys_length, List.length_append, List.length_cons, List.length_nil, List.length_map, List.length_drop, List.length_take, Int.natCast_add, wrap_i64_eq, wrap_u64, wrap_u8, ne_eq, not_true_eq_false, not_false_eq_true, Nat.zero_add, Nat.mul_one] <;> omega) | omega | (simp; done) | (simp; omega))) only [↓at_runK, ↓at_bind, ↓contQ_mk, ↓at_ret, ↓at_consK, ↓at_nilK, ↓at_optK, ↓at_intK, ↓at_boolK, ↓at_strK, ↓at_slK, ↓at_slOK, ↓at_slK0, ↓at_slOK0, ↓at_aggK, ↓at_cond_t, ↓at_cond_f, ↓at_sameL, ↓at_any1, ↓at_any, and_self, toBytes_bys, List.nil_append, List.append_nil, ↓at_nodeW, List.drop_zero, List.take_succ_cons, List.take_zero, List.getElem?_cons_succ, List.getElem?_cons_zero, cells_agg, eqCells_cons, eqCells_nil, eq1_int, eq1_bool, eq1_str, ↓at_ptr_whole, ↓at_ptr_cell, ↓at_ptr_obj, ↓at_ptr_objs, shift_obj, shift_elt, toA_val, toA_own, Int.toNat_natCast, List.cons_append, r, e3, e1]
  · cases hp

/-! ### All pieces -/
def sumN : List (List UInt8) → Nat → Nat
  | [], s => s
  | b :: r, s => sumN r (moreN s b)
theorem sumN_flat : ∀ (l : List (List UInt8)) (pre : List UInt8), sumN l (moreN 0 pre) = moreN 0 (pre ++ l.flatten)
  | [], pre => by simp [sumN]
  | b :: r, pre => by
    unfold sumN
    rw [← moreN_append, sumN_flat r (pre ++ b), List.flatten_cons, List.append_assoc]
theorem sumN_lt : ∀ (l : List (List UInt8)) {s : Nat}, s < 4294967296 → sumN l s < 4294967296
  | [], _, h => h
  | b :: r, _, h => sumN_lt r (moreN_lt h b)
theorem pcsF_len : ∀ (ps : List (List UInt8)) {acc l : List KPair}, pcsF ps acc = some l → l.length ≤ acc.length + 400 * ps.length
  | [], acc, l, h => by simp only [pcsF, Option.some.injEq] at h; rw [← h]; simp
  | b :: r, acc, l, h => by
    unfold pcsF at h
    split at h
    · cases h
    · rename_i l1 h1
      have h2 := pcsF_len r h
      have h3 := pcF_len h1
      rw [List.length_append] at h2
      simp only [List.length_cons]; omega
theorem pcsF_sz : ∀ (ps : List (List UInt8)) {acc l : List KPair}, pcsF ps acc = some l → ps.flatten.length ≤ 400 * ps.length
  | [], acc, l, h => by simp
  | b :: r, acc, l, h => by
    unfold pcsF at h
    split at h
    · cases h
    · rename_i l1 h1
      have h2 := pcsF_sz r h
      have h3 := pcF_sz h1
      simp only [List.flatten_cons, List.length_append, List.length_cons]; omega
theorem all_some (d : Nat) (f : Bool) (ps : List (List UInt8)) (hps : ps.length ≤ 100000) (h : Heap) (Q : Res → Prop) : ∀ (n i k s : Nat) (acc l : List KPair) (tg : Hid Q), ps.length = i + n → n < k → acc.length ≤ 400 * i → s < 4294967296 → pcsF (ps.drop i) acc = some l →
    Run (P12_0 (d + 4) k (prs acc) f (flds ps) (ps.length : Nat) i 0 0 0 (ps.length : Nat) 0 s h) Q tg = Q ([.sl false 3 (prs l), .agg [.int .i64 ps.length, .int .i64 l.length, .int .u32 (sumN (ps.drop i) s : Nat)], .bool true], h) := by
  intro n
  induction n with
  | zero =>
    intro i k s acc l tg hi hk ha hs hp
    obtain ⟨k, rfl⟩ : ∃ m, k = m + 1 := ⟨k - 1, by omega⟩
    have hd : ps.drop i = [] := List.drop_eq_nil_of_le (by omega)
    rw [hd] at hp ⊢
    simp only [pcsF, Option.some.injEq] at hp
    subst hp
    rw [P12_0_eq]
    simp (disch := (first | assumption | (simp only [Bool.and_eq_true, Bool.and_eq_false_iff, decide_eq_true_eq, decide_eq_false_iff_not, bne_iff_ne, beq_iff_eq, beq_eq_false_iff_ne, bne_eq_false_iff_eq, Bool.not_eq_true', Bool.not_eq_false', bys_length, List.length_append, List.length_cons, List.length_nil, List.length_map, List.length_drop, List.length_take, Int.natCast_add, wrap_i64_eq, wrap_u64, wrap_u8, ne_eq, not_true_eq_false, not_false_eq_true, Nat.zero_add, Nat.mul_one] <;> omega) | omega | (simp; done) | (simp; omega))) only [↓at_runK, ↓at_bind, ↓contQ_mk, ↓at_ret, ↓at_consK, ↓at_nilK, ↓at_optK, ↓at_intK, ↓at_boolK, ↓at_strK, ↓at_slK, ↓at_slOK, ↓at_slK0, ↓at_slOK0, ↓at_aggK, ↓at_cond_t, ↓at_cond_f, ↓at_sameL, ↓at_any1, ↓at_any, and_self, toBytes_bys, List.nil_append, List.append_nil, ↓at_nodeW, List.drop_zero, List.take_succ_cons, List.take_zero, List.getElem?_cons_succ, List.getElem?_cons_zero, cells_agg, eqCells_cons, eqCells_nil, eq1_int, eq1_bool, eq1_str, ↓at_ptr_whole, ↓at_ptr_cell, ↓at_ptr_obj, ↓at_ptr_objs, shift_obj, shift_elt, toA_val, toA_own, Int.toNat_natCast, List.cons_append, prs_length]
    rfl
  | succ n ih =>
    intro i k s acc l tg hi hk ha hs hp
    obtain ⟨k, rfl⟩ : ∃ m, k = m + 1 := ⟨k - 1, by omega⟩
    have h1 : i < ps.length := by omega
    have e1 := succ_wrap (i := i) (by omega)
    rw [List.drop_eq_getElem_cons h1] at hp ⊢
    unfold pcsF at hp
    unfold sumN
    split at hp
    · cases hp
    · rename_i l1 h1'
      have hl1 := pcF_len h1'
      have hsz := pcF_sz h1'
      have rp := fun (Q : Res → Prop) (tg : Hid Q) => ppairs_some (d := d) (f := false) h1' (h := h) (Q := Q) (tg := tg)
      have rm := fun (Q : Res → Prop) (tg : Hid Q) => more_run (d := d + 2) (s := s) (f := false) (l := ps[i]) hs (by omega) (h := h) (Q := Q) (tg := tg)
      have ih' := fun tg => ih (i + 1) k (moreN s ps[i]) (acc ++ l1) l tg (by omega) (by omega) (by rw [List.length_append]; omega) (moreN_lt hs _) hp
      have ea : prs acc ++ prs l1 = prs (acc ++ l1) := by simp [prs]
      rw [P12_0_eq]
      simp (disch := (first | assumption | (simp only [Bool.and_eq_true, Bool.and_eq_false_iff, decide_eq_true_eq, decide_eq_false_iff_not, bne_iff_ne, beq_iff_eq, beq_eq_false_iff_ne, bne_eq_false_iff_eq, Bool.not_eq_true', Bool.not_eq_false', bys_length, List.length_append, List.length_cons, List.length_nil, List.length_map, List.length_drop, List.length_take, Int.natCast_add, wrap_i64_eq, wrap_u64, wrap_u8, ne_eq, not_true_eq_false, not_false_eq_true, Nat.zero_add, Nat.mul_one] <;> omega) | omega | (simp; done) | (simp; omega))) only [↓at_runK, ↓at_bind, ↓contQ_mk, ↓at_ret, ↓at_consK, ↓at_nilK, ↓at_optK, ↓at_intK, ↓at_boolK, ↓at_strK, ↓at_slK, ↓at_slOK, ↓at_slK0, ↓at_slOK0, ↓at_aggK, ↓at_cond_t, ↓at_cond_f, ↓at_sameL, ↓at_any1, ↓at_any, and_self, toBytes_bys, List.nil_append, List.append_nil, ↓at_nodeW, List.drop_zero, List.take_succ_cons, List.take_zero, List.getElem?_cons_succ, List.getElem?_cons_zero, cells_agg, eqCells_cons, eqCells_nil, eq1_int, eq1_bool, eq1_str, ↓at_ptr_whole, ↓at_ptr_cell, ↓at_ptr_obj, ↓at_ptr_objs, shift_obj, shift_elt, toA_val, toA_own, Int.toNat_natCast, List.cons_append, flds_length, flds_getD h1, rp, prs_length, rm, ea, e1, ih']
theorem all_none (d : Nat) (f : Bool) (ps : List (List UInt8)) (hps : ps.length ≤ 100000) (hb : ∀ b ∈ ps, b.length ≤ 40000000) (h : Heap) (Q : Res → Prop) : ∀ (n i k s : Nat) (acc : List KPair) (tg : Hid Q), ps.length = i + n → n < k → acc.length ≤ 400 * i → s < 4294967296 → pcsF (ps.drop i) acc = none →
    Run (P12_0 (d + 4) k (prs acc) f (flds ps) (ps.length : Nat) i 0 0 0 (ps.length : Nat) 0 s h) Q tg = Q ([.sl true 0 [], .agg [.int .i64 0, .int .i64 0, .int .u32 0], .bool false], h) := by
  intro n
  induction n with
  | zero =>
    intro i k s acc tg hi hk ha hs hp
    have hd : ps.drop i = [] := List.drop_eq_nil_of_le (by omega)
    rw [hd] at hp
    simp [pcsF] at hp
  | succ n ih =>
    intro i k s acc tg hi hk ha hs hp
    obtain ⟨k, rfl⟩ : ∃ m, k = m + 1 := ⟨k - 1, by omega⟩
    have h1 : i < ps.length := by omega
    have e1 := succ_wrap (i := i) (by omega)
    rw [List.drop_eq_getElem_cons h1] at hp
    unfold pcsF at hp
    rw [P12_0_eq]
    split at hp
    · rename_i h1'
      have rp := fun (Q : Res → Prop) (tg : Hid Q) => ppairs_none (d := d) (f := false) h1' (hb _ (List.getElem_mem h1)) (h := h) (Q := Q) (tg := tg)
      simp (disch := (first | assumption | (simp only [Bool.and_eq_true, Bool.and_eq_false_iff, decide_eq_true_eq, decide_eq_false_iff_not, bne_iff_ne, beq_iff_eq, beq_eq_false_iff_ne, bne_eq_false_iff_eq, Bool.not_eq_true', Bool.not_eq_false', bys_length, List.length_append, List.length_cons, List.length_nil, List.length_map, List.length_drop, List.length_take, Int.natCast_add, wrap_i64_eq, wrap_u64, wrap_u8, ne_eq, not_true_eq_false, not_false_eq_true, Nat.zero_add, Nat.mul_one] <;> omega) | omega | (simp; done) | (simp; omega))) only [↓at_runK, ↓at_bind, ↓contQ_mk, ↓at_ret, ↓at_consK, ↓at_nilK, ↓at_optK, ↓at_intK, ↓at_boolK, ↓at_strK, ↓at_slK, ↓at_slOK, ↓at_slK0, ↓at_slOK0, ↓at_aggK, ↓at_cond_t, ↓at_cond_f, ↓at_sameL, ↓at_any1, ↓at_any, and_self, toBytes_bys, List.nil_append, List.append_nil, ↓at_nodeW, List.drop_zero, List.take_succ_cons, List.take_zero, List.getElem?_cons_succ, List.getElem?_cons_zero, cells_agg, eqCells_cons, eqCells_nil, eq1_int, eq1_bool, eq1_str, ↓at_ptr_whole, ↓at_ptr_cell, ↓at_ptr_obj, ↓at_ptr_objs, shift_obj, shift_elt, toA_val, toA_own, Int.toNat_natCast, List.cons_append, flds_length, flds_getD h1, rp, Bool.not_false]
    · rename_i l1 h1'
      have hl1 := pcF_len h1'
      have hsz := pcF_sz h1'
      have rp := fun (Q : Res → Prop) (tg : Hid Q) => ppairs_some (d := d) (f := false) h1' (h := h) (Q := Q) (tg := tg)
      have rm := fun (Q : Res → Prop) (tg : Hid Q) => more_run (d := d + 2) (s := s) (f := false) (l := ps[i]) hs (by omega) (h := h) (Q := Q) (tg := tg)
      have ih' := fun tg => ih (i + 1) k (moreN s ps[i]) (acc ++ l1) tg (by omega) (by omega) (by rw [List.length_append]; omega) (moreN_lt hs _) hp
      have ea : prs acc ++ prs l1 = prs (acc ++ l1) := by simp [prs]
      simp (disch := (first | assumption | (simp only [Bool.and_eq_true, Bool.and_eq_false_iff, decide_eq_true_eq, decide_eq_false_iff_not, bne_iff_ne, beq_iff_eq, beq_eq_false_iff_ne, bne_eq_false_iff_eq, Bool.not_eq_true', Bool.not_eq_false', bys_length, List.length_append, List.length_cons, List.length_nil, List.length_map, List.length_drop, List.length_take, Int.natCast_add, wrap_i64_eq, wrap_u64, wrap_u8, ne_eq, not_true_eq_false, not_false_eq_true, Nat.zero_add, Nat.mul_one] <;> omega) | omega | (simp; done) | (simp; omega))) only [↓at_runK, ↓at_bind, ↓contQ_mk, ↓at_ret, ↓at_consK, ↓at_nilK, ↓at_optK, ↓at_intK, ↓at_boolK, ↓at_strK, ↓at_slK, ↓at_slOK, ↓at_slK0, ↓at_slOK0, ↓at_aggK, ↓at_cond_t, ↓at_cond_f, ↓at_sameL, ↓at_any1, ↓at_any, and_self, toBytes_bys, List.nil_append, List.append_nil, ↓at_nodeW, List.drop_zero, List.take_succ_cons, List.take_zero, List.getElem?_cons_succ, List.getElem?_cons_zero, cells_agg, eqCells_cons, eqCells_nil, eq1_int, eq1_bool, eq1_str, ↓at_ptr_whole, ↓at_ptr_cell, ↓at_ptr_obj, ↓at_ptr_objs, shift_obj, shift_elt, toA_val, toA_own, Int.toNat_natCast, List.cons_append, flds_length, flds_getD h1, rp, Bool.not_true, prs_length, rm, ea, e1, ih']
theorem all_run_some {d : Nat} {f : Bool} {ps : List (List UInt8)} {l : List KPair} (hps : ps.length ≤ 100000) (hp : pcsF ps [] = some l) {h : Heap} {Q : Res → Prop} {tg : Hid Q} :
    Run (evFn Cw (d + 5) 12 [.sl f 0 (flds ps)] h) Q tg = Q ([.sl false 3 (prs l), .agg [.int .i64 ps.length, .int .i64 l.length, .int .u32 (sumN ps 0 : Nat)], .bool true], h) := by
  have := all_some d f ps hps h Q ps.length 0 rounds 0 [] l ⟨⟩ (by omega) (Nat.lt_of_lt_of_le (by omega) rounds_ge) (by simp) (by omega) (by rw [List.drop_zero]; exact hp)
  rw [e0, prs_nil, List.drop_zero] at this
  rw [F12_eq, flds_length]
  exact this
theorem all_run_none {d : Nat} {f : Bool} {ps : List (List UInt8)} (hps : ps.length ≤ 100000) (hb : ∀ b ∈ ps, b.length ≤ 40000000) (hp : pcsF ps [] = none) {h : Heap} {Q : Res → Prop} {tg : Hid Q} :
    Run (evFn Cw (d + 5) 12 [.sl f 0 (flds ps)] h) Q tg = Q ([.sl true 0 [], .agg [.int .i64 0, .int .i64 0, .int .u32 0], .bool false], h) := by
  have := all_none d f ps hps hb h Q ps.length 0 rounds 0 [] ⟨⟩ (by omega) (Nat.lt_of_lt_of_le (by omega) rounds_ge) (by simp) (by omega) (by rw [List.drop_zero]; exact hp)
  rw [e0, prs_nil] at this
  rw [F12_eq, flds_length]
  exact this
/-- The reference's pairs. -/
theorem rpairs1_loop (d n0 : Nat) (f : Bool) (ps fs : List (List UInt8)) (j : Nat) (hj : j < 1000000) (hl : fs.length ≤ 40000000) (h : Heap) (Q : Res → Prop) : ∀ (n i k : Nat) (acc : List KPair) (tg : Hid Q), fs.length = i + 2 * n → n < k → acc.length ≤ 400 * j + i →
    Run (P8_1 d n0 k f (flds ps) (prs acc) j (flds fs) i h) Q tg = Run (P8_0 d n0 f (flds ps) (prs (acc ++ pairUp (fs.drop i))) (j + 1 : Nat) h) Q ⟨⟩ := by
  have ej := succ_wrap (i := j) (by omega)
  intro n
  induction n with
  | zero =>
    intro i k acc tg hi hk ha
    obtain ⟨k, rfl⟩ : ∃ m, k = m + 1 := ⟨k - 1, by omega⟩
    have e1 := succ_wrap (i := i) (by omega)
    have hd : fs.drop i = [] := List.drop_eq_nil_of_le (by omega)
    rw [P8_1_eq, hd]
    simp (disch := (first | assumption | (simp only [Bool.and_eq_true, Bool.and_eq_false_iff, decide_eq_true_eq, decide_eq_false_iff_not, bne_iff_ne, beq_iff_eq, beq_eq_false_iff_ne, bne_eq_false_iff_eq, Bool.not_eq_true', Bool.not_eq_false', bys_length, List.length_append, List.length_cons, List.length_nil, List.length_map, List.length_drop, List.length_take, Int.natCast_add, wrap_i64_eq, wrap_u64, wrap_u8, ne_eq, not_true_eq_false, not_false_eq_true, Nat.zero_add, Nat.mul_one] <;> omega) | omega | (simp; done) | (simp; omega))) only [↓at_runK, ↓at_bind, ↓contQ_mk, ↓at_ret, ↓at_consK, ↓at_nilK, ↓at_optK, ↓at_intK, ↓at_boolK, ↓at_strK, ↓at_slK, ↓at_slOK, ↓at_slK0, ↓at_slOK0, ↓at_aggK, ↓at_cond_t, ↓at_cond_f, ↓at_sameL, ↓at_any1, ↓at_any, and_self, toBytes_bys, List.nil_append, List.append_nil, ↓at_nodeW, List.drop_zero, List.take_succ_cons, List.take_zero, List.getElem?_cons_succ, List.getElem?_cons_zero, cells_agg, eqCells_cons, eqCells_nil, eq1_int, eq1_bool, eq1_str, ↓at_ptr_whole, ↓at_ptr_cell, ↓at_ptr_obj, ↓at_ptr_objs, shift_obj, shift_elt, toA_val, toA_own, Int.toNat_natCast, List.cons_append, flds_length, e1, ej]
    simp [pairUp]
  | succ n ih =>
    intro i k acc tg hi hk ha
    obtain ⟨k, rfl⟩ : ∃ m, k = m + 1 := ⟨k - 1, by omega⟩
    have h1 : i < fs.length := by omega
    have h2 : i + 1 < fs.length := by omega
    have e1 := succ_wrap (i := i) (by omega)
    have e2 : IntKind.i64.wrap ((i : Int) + 2) = ((i + 2 : Nat) : Int) := by rw [wrap_i64_id (by omega) (by omega)]; omega
    have ih' := fun tg => ih (i + 2) k (acc ++ [⟨fs[i], fs[i + 1]⟩]) tg (by omega) (by omega) (by simp; omega)
    have hd : fs.drop i = fs[i] :: fs[i + 1] :: fs.drop (i + 2) := by rw [List.drop_eq_getElem_cons h1, List.drop_eq_getElem_cons h2]
    rw [P8_1_eq, hd]
    simp (disch := (first | assumption | (simp only [Bool.and_eq_true, Bool.and_eq_false_iff, decide_eq_true_eq, decide_eq_false_iff_not, bne_iff_ne, beq_iff_eq, beq_eq_false_iff_ne, bne_eq_false_iff_eq, Bool.not_eq_true', Bool.not_eq_false', bys_length, List.length_append, List.length_cons, List.length_nil, List.length_map, List.length_drop, List.length_take, Int.natCast_add, wrap_i64_eq, wrap_u64, wrap_u8, ne_eq, not_true_eq_false, not_false_eq_true, Nat.zero_add, Nat.mul_one] <;> omega) | omega | (simp; done) | (simp; omega))) only [↓at_runK, ↓at_bind, ↓contQ_mk, ↓at_ret, ↓at_consK, ↓at_nilK, ↓at_optK, ↓at_intK, ↓at_boolK, ↓at_strK, ↓at_slK, ↓at_slOK, ↓at_slK0, ↓at_slOK0, ↓at_aggK, ↓at_cond_t, ↓at_cond_f, ↓at_sameL, ↓at_any1, ↓at_any, and_self, toBytes_bys, List.nil_append, List.append_nil, ↓at_nodeW, List.drop_zero, List.take_succ_cons, List.take_zero, List.getElem?_cons_succ, List.getElem?_cons_zero, cells_agg, eqCells_cons, eqCells_nil, eq1_int, eq1_bool, eq1_str, ↓at_ptr_whole, ↓at_ptr_cell, ↓at_ptr_obj, ↓at_ptr_objs, shift_obj, shift_elt, toA_val, toA_own, Int.toNat_natCast, List.cons_append, flds_length, flds_getD h1, flds_getD h2, e1, e2, prs_length, prs_snoc, ih']
    simp [pairUp]
def prR (o : Option (List KPair)) : List AVal := match o with | none => [.sl true 0 [], .bool false] | some l => [.sl false 3 (prs l), .bool true]
theorem rpairs_loop (d : Nat) (f : Bool) (ps : List (List UInt8)) (hps : ps.length ≤ 100000) (hb : ∀ b ∈ ps, b.length ≤ 40000000) (h : Heap) (Q : Res → Prop) : ∀ (n i k : Nat) (acc : List KPair) (tg : Hid Q), ps.length = i + n → n < k → acc.length ≤ 400 * i →
    Run (P8_0 (d + 3) k f (flds ps) (prs acc) i h) Q tg = Q (prR (pcsF (ps.drop i) acc), h) := by
  intro n
  induction n with
  | zero =>
    intro i k acc tg hi hk ha
    obtain ⟨k, rfl⟩ : ∃ m, k = m + 1 := ⟨k - 1, by omega⟩
    have hd : ps.drop i = [] := List.drop_eq_nil_of_le (by omega)
    rw [P8_0_eq, hd]
    simp (disch := (first | assumption | (simp only [Bool.and_eq_true, Bool.and_eq_false_iff, decide_eq_true_eq, decide_eq_false_iff_not, bne_iff_ne, beq_iff_eq, beq_eq_false_iff_ne, bne_eq_false_iff_eq, Bool.not_eq_true', Bool.not_eq_false', bys_length, List.length_append, List.length_cons, List.length_nil, List.length_map, List.length_drop, List.length_take, Int.natCast_add, wrap_i64_eq, wrap_u64, wrap_u8, ne_eq, not_true_eq_false, not_false_eq_true, Nat.zero_add, Nat.mul_one] <;> omega) | omega | (simp; done) | (simp; omega))) only [↓at_runK, ↓at_bind, ↓contQ_mk, ↓at_ret, ↓at_consK, ↓at_nilK, ↓at_optK, ↓at_intK, ↓at_boolK, ↓at_strK, ↓at_slK, ↓at_slOK, ↓at_slK0, ↓at_slOK0, ↓at_aggK, ↓at_cond_t, ↓at_cond_f, ↓at_sameL, ↓at_any1, ↓at_any, and_self, toBytes_bys, List.nil_append, List.append_nil, ↓at_nodeW, List.drop_zero, List.take_succ_cons, List.take_zero, List.getElem?_cons_succ, List.getElem?_cons_zero, cells_agg, eqCells_cons, eqCells_nil, eq1_int, eq1_bool, eq1_str, ↓at_ptr_whole, ↓at_ptr_cell, ↓at_ptr_obj, ↓at_ptr_objs, shift_obj, shift_elt, toA_val, toA_own, Int.toNat_natCast, List.cons_append, flds_length]
    rfl
  | succ n ih =>
    intro i k acc tg hi hk ha
    obtain ⟨k, rfl⟩ : ∃ m, k = m + 1 := ⟨k - 1, by omega⟩
    have h1 : i < ps.length := by omega
    have hbi := hb _ (List.getElem_mem h1)
    have hu := unp_len ps[i]
    have r := fun (Q : Res → Prop) (tg : Hid Q) => runp_run (d := d) (f := false) (l := ps[i]) (h := h) (Q := Q) (tg := tg) hbi
    have e4 : Int.tmod (((unp ps[i]).1.length : Nat) : Int) 2 = (((unp ps[i]).1.length % 2 : Nat) : Int) := by rw [Int.tmod_eq_emod_of_nonneg (by omega)]; omega
    rw [P8_0_eq, List.drop_eq_getElem_cons h1]
    unfold pcsF
    by_cases c1 : (unp ps[i]).2 = 0
    · have e1 : ((((unp ps[i]).2 : Nat) : Int) != 0) = false := by simp [c1]
      have e3 : decide ((unp ps[i]).2 ≠ 0) = false := by simp [c1]
      by_cases c2 : (unp ps[i]).1.length % 2 = 1
      · have e2 : ((((unp ps[i]).1.length % 2 : Nat) : Int) == 1) = true := by rw [c2]; rfl
        have hp : pcF ps[i] = none := by unfold pcF; rw [if_pos (.inr (.inl c2))]
        rw [hp]
        simp (disch := (first | assumption | (simp only [Bool.and_eq_true, Bool.and_eq_false_iff, decide_eq_true_eq, decide_eq_false_iff_not, bne_iff_ne, beq_iff_eq, beq_eq_false_iff_ne, bne_eq_false_iff_eq, Bool.not_eq_true', Bool.not_eq_false', bys_length, List.length_append, List.length_cons, List.length_nil, List.length_map, List.length_drop, List.length_take, Int.natCast_add, wrap_i64_eq, wrap_u64, wrap_u8, ne_eq, not_true_eq_false, not_false_eq_true, Nat.zero_add, Nat.mul_one] <;> omega) | omega | (simp; done) | (simp; omega))) only [↓at_runK, ↓at_bind, ↓contQ_mk, ↓at_ret, ↓at_consK, ↓at_nilK, ↓at_optK, ↓at_intK, ↓at_boolK, ↓at_strK, ↓at_slK, ↓at_slOK, ↓at_slK0, ↓at_slOK0, ↓at_aggK, ↓at_cond_t, ↓at_cond_f, ↓at_sameL, ↓at_any1, ↓at_any, and_self, toBytes_bys, List.nil_append, List.append_nil, ↓at_nodeW, List.drop_zero, List.take_succ_cons, List.take_zero, List.getElem?_cons_succ, List.getElem?_cons_zero, cells_agg, eqCells_cons, eqCells_nil, eq1_int, eq1_bool, eq1_str, ↓at_ptr_whole, ↓at_ptr_cell, ↓at_ptr_obj, ↓at_ptr_objs, shift_obj, shift_elt, toA_val, toA_own, Int.toNat_natCast, List.cons_append, flds_length, flds_getD h1, r, e3, e1, e4, e2]
        rfl
      · have e2 : ((((unp ps[i]).1.length % 2 : Nat) : Int) == 1) = false := by simp; omega
        by_cases c3 : 400 < (ps[i]).length
        · have hp : pcF ps[i] = none := by unfold pcF; rw [if_pos (.inr (.inr c3))]
          rw [hp]
          simp (disch := (first | assumption | (simp only [Bool.and_eq_true, Bool.and_eq_false_iff, decide_eq_true_eq, decide_eq_false_iff_not, bne_iff_ne, beq_iff_eq, beq_eq_false_iff_ne, bne_eq_false_iff_eq, Bool.not_eq_true', Bool.not_eq_false', bys_length, List.length_append, List.length_cons, List.length_nil, List.length_map, List.length_drop, List.length_take, Int.natCast_add, wrap_i64_eq, wrap_u64, wrap_u8, ne_eq, not_true_eq_false, not_false_eq_true, Nat.zero_add, Nat.mul_one] <;> omega) | omega | (simp; done) | (simp; omega))) only [↓at_runK, ↓at_bind, ↓contQ_mk, ↓at_ret, ↓at_consK, ↓at_nilK, ↓at_optK, ↓at_intK, ↓at_boolK, ↓at_strK, ↓at_slK, ↓at_slOK, ↓at_slK0, ↓at_slOK0, ↓at_aggK, ↓at_cond_t, ↓at_cond_f, ↓at_sameL, ↓at_any1, ↓at_any, and_self, toBytes_bys, List.nil_append, List.append_nil, ↓at_nodeW, List.drop_zero, List.take_succ_cons, List.take_zero, List.getElem?_cons_succ, List.getElem?_cons_zero, cells_agg, eqCells_cons, eqCells_nil, eq1_int, eq1_bool, eq1_str, ↓at_ptr_whole, ↓at_ptr_cell, ↓at_ptr_obj, ↓at_ptr_objs, shift_obj, shift_elt, toA_val, toA_own, Int.toNat_natCast, List.cons_append, flds_length, flds_getD h1, r, e3, e1, e4, e2, bys_length]
          rfl
        · have hp : pcF ps[i] = some (pairUp (unp ps[i]).1) := by
            unfold pcF; rw [if_neg (by rw [not_or, not_or]; exact ⟨by simp [c1], c2, c3⟩)]
          have hl1 := pcF_len hp
          rw [hp]
          have q := fun (Q : Res → Prop) (tg : Hid Q) => rpairs1_loop (d + 3) k f ps (unp ps[i]).1 i (by omega) (by omega) h Q ((unp ps[i]).1.length / 2) 0 rounds acc tg (by omega) (Nat.lt_of_lt_of_le (by omega) rounds_ge) (by omega)
          rw [e0, List.drop_zero] at q
          have ih' := fun tg => ih (i + 1) k (acc ++ pairUp (unp ps[i]).1) tg (by omega) (by omega) (by rw [List.length_append]; omega)
          simp (disch := (first | assumption | (simp only [Bool.and_eq_true, Bool.and_eq_false_iff, decide_eq_true_eq, decide_eq_false_iff_not, bne_iff_ne, beq_iff_eq, beq_eq_false_iff_ne, bne_eq_false_iff_eq, Bool.not_eq_true', Bool.not_eq_false', bys_length, List.length_append, List.length_cons, List.length_nil, List.length_map, List.length_drop, List.length_take, Int.natCast_add, wrap_i64_eq, wrap_u64, wrap_u8, ne_eq, not_true_eq_false, not_false_eq_true, Nat.zero_add, Nat.mul_one] <;> omega) | omega | (simp; done) | (simp; omega))) only [↓at_runK, ↓at_bind, ↓contQ_mk, ↓at_ret, ↓at_consK, ↓at_nilK, ↓at_optK, ↓at_intK, ↓at_boolK, ↓at_strK, ↓at_slK, ↓at_slOK, ↓at_slK0, ↓at_slOK0, ↓at_aggK, ↓at_cond_t, ↓at_cond_f, ↓at_sameL, ↓at_any1, ↓at_any, and_self, toBytes_bys, List.nil_append, List.append_nil, ↓at_nodeW, List.drop_zero, List.take_succ_cons, List.take_zero, List.getElem?_cons_succ, List.getElem?_cons_zero, cells_agg, eqCells_cons, eqCells_nil, eq1_int, eq1_bool, eq1_str, ↓at_ptr_whole, ↓at_ptr_cell, ↓at_ptr_obj, ↓at_ptr_objs, shift_obj, shift_elt, toA_val, toA_own, Int.toNat_natCast, List.cons_append, flds_length, flds_getD h1, r, e3, e1, e4, e2, bys_length, q, ih']
    · have e1 : ((((unp ps[i]).2 : Nat) : Int) != 0) = true := by simp; exact c1
      have e3 : decide ((unp ps[i]).2 ≠ 0) = true := by simp [c1]
      have hp : pcF ps[i] = none := by unfold pcF; rw [if_pos (.inl c1)]
      rw [hp]
      simp (disch := (first | assumption | (simp only [Bool.and_eq_true, Bool.and_eq_false_iff, decide_eq_true_eq, decide_eq_false_iff_not, bne_iff_ne, beq_iff_eq, beq_eq_false_iff_ne, bne_eq_false_iff_eq, Bool.not_eq_true', Bool.not_eq_false', bys_length, List.length_append, List.length_cons, List.length_nil, List.length_map, List.length_drop, List.length_take, Int.natCast_add, wrap_i64_eq, wrap_u64, wrap_u8, ne_eq, not_true_eq_false, not_false_eq_true, Nat.zero_add, Nat.mul_one] <;> omega) | omega | (simp; done) | (simp; omega))) only [↓at_runK, ↓at_bind, ↓contQ_mk, ↓at_ret, ↓at_consK, ↓at_nilK, ↓at_optK, ↓at_intK, ↓at_boolK, ↓at_strK, ↓at_slK, ↓at_slOK, ↓at_slK0, ↓at_slOK0, ↓at_aggK, ↓at_cond_t, ↓at_cond_f, ↓at_sameL, ↓at_any1, ↓at_any, and_self, toBytes_bys, List.nil_append, List.append_nil, ↓at_nodeW, List.drop_zero, List.take_succ_cons, List.take_zero, List.getElem?_cons_succ, List.getElem?_cons_zero, cells_agg, eqCells_cons, eqCells_nil, eq1_int, eq1_bool, eq1_str, ↓at_ptr_whole, ↓at_ptr_cell, ↓at_ptr_obj, ↓at_ptr_objs, shift_obj, shift_elt, toA_val, toA_own, Int.toNat_natCast, List.cons_append, flds_length, flds_getD h1, r, e3, e1]
      rfl
theorem rpairs_run {d : Nat} {f : Bool} {ps : List (List UInt8)} (hps : ps.length ≤ 100000) (hb : ∀ b ∈ ps, b.length ≤ 40000000) {h : Heap} {Q : Res → Prop} {tg : Hid Q} :
    Run (evFn Cw (d + 4) 8 [.sl f 0 (flds ps)] h) Q tg = Q (prR (pcsF ps []), h) := by
  have := rpairs_loop d f ps hps hb h Q ps.length 0 rounds [] ⟨⟩ (by omega) (Nat.lt_of_lt_of_le (by omega) rounds_ge) (by simp)
  rw [e0, prs_nil, List.drop_zero] at this
  rw [F8_eq]
  exact this
theorem rcat_loop (d : Nat) (f : Bool) (ps : List (List UInt8)) (hps : ps.length ≤ 100000) (hb : ∀ b ∈ ps, b.length ≤ 40000000) (l2 : List AVal) (h : Heap) (Q : Res → Prop) : ∀ (n i k : Nat) (acc : List UInt8) (tg : Hid Q), ps.length = i + n → n < k → acc.length ≤ 40000000 * i →
    Run (P10_0 (d + 3) k f (flds ps) l2 (bys acc) i 0 0 0 h) Q tg = Q ([.agg [.int .i64 ps.length, .int .i64 l2.length, .int .u32 (moreN 0 (acc ++ (ps.drop i).flatten) : Nat)]], h) := by
  intro n
  induction n with
  | zero =>
    intro i k acc tg hi hk ha
    obtain ⟨k, rfl⟩ : ∃ m, k = m + 1 := ⟨k - 1, by omega⟩
    have hd : ps.drop i = [] := List.drop_eq_nil_of_le (by omega)
    have rm := fun (Q : Res → Prop) (tg : Hid Q) => rmore_run (d := d) (f := false) (l := acc) (by omega) (h := h) (Q := Q) (tg := tg)
    rw [P10_0_eq, hd, List.flatten_nil, List.append_nil]
    simp (disch := (first | assumption | (simp only [Bool.and_eq_true, Bool.and_eq_false_iff, decide_eq_true_eq, decide_eq_false_iff_not, bne_iff_ne, beq_iff_eq, beq_eq_false_iff_ne, bne_eq_false_iff_eq, Bool.not_eq_true', Bool.not_eq_false', bys_length, List.length_append, List.length_cons, List.length_nil, List.length_map, List.length_drop, List.length_take, Int.natCast_add, wrap_i64_eq, wrap_u64, wrap_u8, ne_eq, not_true_eq_false, not_false_eq_true, Nat.zero_add, Nat.mul_one] <;> omega) | omega | (simp; done) | (simp; omega))) only [↓at_runK, ↓at_bind, ↓contQ_mk, ↓at_ret, ↓at_consK, ↓at_nilK, ↓at_optK, ↓at_intK, ↓at_boolK, ↓at_strK, ↓at_slK, ↓at_slOK, ↓at_slK0, ↓at_slOK0, ↓at_aggK, ↓at_cond_t, ↓at_cond_f, ↓at_sameL, ↓at_any1, ↓at_any, and_self, toBytes_bys, List.nil_append, List.append_nil, ↓at_nodeW, List.drop_zero, List.take_succ_cons, List.take_zero, List.getElem?_cons_succ, List.getElem?_cons_zero, cells_agg, eqCells_cons, eqCells_nil, eq1_int, eq1_bool, eq1_str, ↓at_ptr_whole, ↓at_ptr_cell, ↓at_ptr_obj, ↓at_ptr_objs, shift_obj, shift_elt, toA_val, toA_own, Int.toNat_natCast, List.cons_append, flds_length, rm]
  | succ n ih =>
    intro i k acc tg hi hk ha
    obtain ⟨k, rfl⟩ : ∃ m, k = m + 1 := ⟨k - 1, by omega⟩
    have h1 : i < ps.length := by omega
    have e1 := succ_wrap (i := i) (by omega)
    have hbi := hb _ (List.getElem_mem h1)
    have ih' := fun tg => ih (i + 1) k (acc ++ ps[i]) tg (by omega) (by omega) (by rw [List.length_append]; omega)
    rw [P10_0_eq, List.drop_eq_getElem_cons h1, List.flatten_cons, ← List.append_assoc]
    simp (disch := (first | assumption | (simp only [Bool.and_eq_true, Bool.and_eq_false_iff, decide_eq_true_eq, decide_eq_false_iff_not, bne_iff_ne, beq_iff_eq, beq_eq_false_iff_ne, bne_eq_false_iff_eq, Bool.not_eq_true', Bool.not_eq_false', bys_length, List.length_append, List.length_cons, List.length_nil, List.length_map, List.length_drop, List.length_take, Int.natCast_add, wrap_i64_eq, wrap_u64, wrap_u8, ne_eq, not_true_eq_false, not_false_eq_true, Nat.zero_add, Nat.mul_one] <;> omega) | omega | (simp; done) | (simp; omega))) only [↓at_runK, ↓at_bind, ↓contQ_mk, ↓at_ret, ↓at_consK, ↓at_nilK, ↓at_optK, ↓at_intK, ↓at_boolK, ↓at_strK, ↓at_slK, ↓at_slOK, ↓at_slK0, ↓at_slOK0, ↓at_aggK, ↓at_cond_t, ↓at_cond_f, ↓at_sameL, ↓at_any1, ↓at_any, and_self, toBytes_bys, List.nil_append, List.append_nil, ↓at_nodeW, List.drop_zero, List.take_succ_cons, List.take_zero, List.getElem?_cons_succ, List.getElem?_cons_zero, cells_agg, eqCells_cons, eqCells_nil, eq1_int, eq1_bool, eq1_str, ↓at_ptr_whole, ↓at_ptr_cell, ↓at_ptr_obj, ↓at_ptr_objs, shift_obj, shift_elt, toA_val, toA_own, Int.toNat_natCast, List.cons_append, flds_length, flds_getD h1, bys_length, ← bys_append, e1, ih']
theorem rptof_run {d : Nat} {f : Bool} {ps : List (List UInt8)} (hps : ps.length ≤ 100000) (hb : ∀ b ∈ ps, b.length ≤ 40000000) {l : List KPair} (hp : pcsF ps [] = some l) {h : Heap} {Q : Res → Prop} {tg : Hid Q} :
    Run (evFn Cw (d + 5) 10 [.sl f 0 (flds ps)] h) Q tg = Q ([.agg [.int .i64 ps.length, .int .i64 l.length, .int .u32 (sumN ps 0 : Nat)]], h) := by
  have r1 := fun (Q : Res → Prop) (tg : Hid Q) => rpairs_run (d := d) (f := f) hps hb (h := h) (Q := Q) (tg := tg)
  rw [hp] at r1
  have r2 := fun (Q : Res → Prop) (tg : Hid Q) => rcat_loop (d + 1) f ps hps hb (prs l) h Q ps.length 0 rounds [] tg (by omega) (Nat.lt_of_lt_of_le (by omega) rounds_ge) (by simp)
  have es : sumN ps 0 = moreN 0 ps.flatten := by
    have h0 : moreN 0 [] = 0 := by decide
    have := sumN_flat ps []
    rw [h0, List.nil_append] at this
    exact this
  rw [e0, bys_nil, List.drop_zero, List.nil_append, ← es, prs_length] at r2
  unfold prR at r1
  rw [F10_eq]
  simp (disch := (first | assumption | (simp only [Bool.and_eq_true, Bool.and_eq_false_iff, decide_eq_true_eq, decide_eq_false_iff_not, bne_iff_ne, beq_iff_eq, beq_eq_false_iff_ne, bne_eq_false_iff_eq, Bool.not_eq_true', Bool.not_eq_false', bys_length, List.length_append, List.length_cons, List.length_nil, List.length_map, List.length_drop, List.length_take, Int.natCast_add, wrap_i64_eq, wrap_u64, wrap_u8, ne_eq, not_true_eq_false, not_false_eq_true, Nat.zero_add, Nat.mul_one] <;> omega) | omega | (simp; done) | (simp; omega))) only [↓at_runK, ↓at_bind, ↓contQ_mk, ↓at_ret, ↓at_consK, ↓at_nilK, ↓at_optK, ↓at_intK, ↓at_boolK, ↓at_strK, ↓at_slK, ↓at_slOK, ↓at_slK0, ↓at_slOK0, ↓at_aggK, ↓at_cond_t, ↓at_cond_f, ↓at_sameL, ↓at_any1, ↓at_any, and_self, toBytes_bys, List.nil_append, List.append_nil, ↓at_nodeW, List.drop_zero, List.take_succ_cons, List.take_zero, List.getElem?_cons_succ, List.getElem?_cons_zero, cells_agg, eqCells_cons, eqCells_nil, eq1_int, eq1_bool, eq1_str, ↓at_ptr_whole, ↓at_ptr_cell, ↓at_ptr_obj, ↓at_ptr_objs, shift_obj, shift_elt, toA_val, toA_own, Int.toNat_natCast, List.cons_append, r1, r2]
end Go.Proofs.YtnhhmgcjbnocfaaDoor.Wa
