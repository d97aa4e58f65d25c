/- Points: their bytes. -/
import Derived.Test.YtdlcjibefbnckaaDoorVe
import Derived.Test.YtdlcjibefbnckaaDoorVapi
import Derived.Test.YtdlcjibefbnckaaDoorWr
import Derived.Test.YtdlcjibefbnckaaDoorWvLc
namespace Go.Proofs.YtdlcjibefbnckaaDoor.Wa
open Go Go.Weave
set_option maxRecDepth 100000
set_option linter.unusedSimpArgs false
set_option linter.unusedVariables false
set_option linter.unusedSectionVars false

/-! ### Words of four bytes -/
def le4 (x : Nat) : List UInt8 := [UInt8.ofNat x, UInt8.ofNat (x / 256), UInt8.ofNat (x / 256 / 256), UInt8.ofNat (x / 256 / 256 / 256)]
def get4 : List UInt8 → Nat
  | [a, b, c, d] => a.toNat + b.toNat * 256 + c.toNat * 65536 + d.toNat * 16777216
  | _ => 0
theorem le4_len (x : Nat) : (le4 x).length = 4 := rfl
theorem get4_lt : ∀ l : List UInt8, get4 l < 4294967296
  | [a, b, c, d] => by
    have h1 := a.toNat_lt
    have h2 := b.toNat_lt
    have h3 := c.toNat_lt
    have h4 := d.toNat_lt
    simp only [get4]
    omega
  | [] | [_] | [_, _] | [_, _, _] | _ :: _ :: _ :: _ :: _ :: _ => by simp [get4]
theorem get4_le4 {x : Nat} (h : x < 4294967296) : get4 (le4 x) = x := by
  simp only [get4, le4, UInt8.toNat_ofNat']
  omega
theorem byte_wrap (n : Nat) : IntKind.u8.wrap (n : Int) = ((UInt8.ofNat n).toNat : Int) := by
  rw [wrap_u8, UInt8.toNat_ofNat']; omega
theorem fdiv_nat (x p : Nat) : Int.fdiv (x : Int) (p : Int) = ((x / p : Nat) : Int) := by
  rw [Int.fdiv_eq_ediv_of_nonneg _ (by omega)]; rfl
theorem near_run {d : Nat} {h : Heap} {Q : Res → Prop} {tg : Hid Q} : Run (evFn Cw (d + 1) 38 [.int .i64 4, .int .i64 0, .int .i64 8] h) Q tg = Q ([.int .i64 4], h) := by
  rw [F38_eq]
  simp (disch := (first | assumption | (simp only [Bool.and_eq_true, Bool.and_eq_false_iff, decide_eq_true_eq, decide_eq_false_iff_not, bne_iff_ne, beq_iff_eq, beq_eq_false_iff_ne, bne_eq_false_iff_eq, Bool.not_eq_true', Bool.not_eq_false', bys_length, List.length_append, List.length_cons, List.length_nil, List.length_map, List.length_drop, List.length_take, Int.natCast_add, wrap_i64_eq, wrap_u64, wrap_u8, ne_eq, not_true_eq_false, not_false_eq_true, Nat.zero_add, Nat.mul_one] <;> omega) | omega | (simp; done) | (simp; omega))) only [↓at_runK, ↓at_bind, ↓contQ_mk, ↓at_ret, ↓at_consK, ↓at_nilK, ↓at_optK, ↓at_intK, ↓at_boolK, ↓at_strK, ↓at_slK, ↓at_slOK, ↓at_slK0, ↓at_slOK0, ↓at_aggK, ↓at_cond_t, ↓at_cond_f, ↓at_sameL, ↓at_any1, ↓at_any, and_self, toBytes_bys, List.nil_append, List.append_nil, ↓at_nodeW, List.drop_zero, List.take_succ_cons, List.take_zero, List.getElem?_cons_succ, List.getElem?_cons_zero, cells_agg, eqCells_cons, eqCells_nil, eq1_int, eq1_bool, eq1_str, ↓at_ptr_whole, ↓at_ptr_cell, ↓at_ptr_obj, ↓at_ptr_objs, shift_obj, shift_elt, toA_val, toA_own, Int.toNat_natCast, List.cons_append]
  rfl
theorem bys_le4 (x : Nat) : bys (le4 x) = [.int .u8 ((UInt8.ofNat x).toNat : Int), .int .u8 ((UInt8.ofNat (x / 256)).toNat : Int), .int .u8 ((UInt8.ofNat (x / 256 / 256)).toNat : Int), .int .u8 ((UInt8.ofNat (x / 256 / 256 / 256)).toNat : Int)] := rfl
theorem wput_run {d x : Nat} {h : Heap} {Q : Res → Prop} {tg : Hid Q} : Run (evFn Cw (d + 2) 23 [.int .u64 x, .int .i64 4] h) Q tg = Q ([.sl false 0 (bys (le4 x))], h) := by
  obtain ⟨k, hk⟩ : ∃ m, rounds = m + 5 := ⟨rounds - 5, by have := rounds_ge; omega⟩
  have a1 : IntKind.i64.wrap ((0 : Int) + 1) = 1 := by decide
  have a2 : IntKind.i64.wrap ((1 : Int) + 1) = 2 := by decide
  have a3 : IntKind.i64.wrap ((2 : Int) + 1) = 3 := by decide
  have a4 : IntKind.i64.wrap ((3 : Int) + 1) = 4 := by decide
  have m0 : IntKind.i64.wrap ((8 : Int) * 0) = 0 := by decide
  have m1 : IntKind.i64.wrap ((8 : Int) * 1) = 8 := by decide
  have m2 : IntKind.i64.wrap ((8 : Int) * 2) = 16 := by decide
  have m3 : IntKind.i64.wrap ((8 : Int) * 3) = 24 := by decide
  have b0 : IntKind.u8.wrap (Int.fdiv (x : Int) (2 ^ (min (Int.toNat 0) 64))) = ((UInt8.ofNat x).toNat : Int) := by
    have : ((2 : Int) ^ (min (Int.toNat 0) 64)) = ((1 : Nat) : Int) := by decide
    rw [this, fdiv_nat, Nat.div_one]; exact byte_wrap x
  have b1 : IntKind.u8.wrap (Int.fdiv (x : Int) (2 ^ (min (Int.toNat 8) 64))) = ((UInt8.ofNat (x / 256)).toNat : Int) := by
    have : ((2 : Int) ^ (min (Int.toNat 8) 64)) = ((256 : Nat) : Int) := by decide
    rw [this, fdiv_nat]; exact byte_wrap _
  have b2 : IntKind.u8.wrap (Int.fdiv (x : Int) (2 ^ (min (Int.toNat 16) 64))) = ((UInt8.ofNat (x / 256 / 256)).toNat : Int) := by
    have : ((2 : Int) ^ (min (Int.toNat 16) 64)) = ((256 * 256 : Nat) : Int) := by decide
    rw [this, fdiv_nat, ← Nat.div_div_eq_div_mul]; exact byte_wrap _
  have b3 : IntKind.u8.wrap (Int.fdiv (x : Int) (2 ^ (min (Int.toNat 24) 64))) = ((UInt8.ofNat (x / 256 / 256 / 256)).toNat : Int) := by
    have : ((2 : Int) ^ (min (Int.toNat 24) 64)) = ((256 * 256 * 256 : Nat) : Int) := by decide
    rw [this, fdiv_nat, ← Nat.div_div_eq_div_mul, ← Nat.div_div_eq_div_mul]; exact byte_wrap _
  rw [F23_eq, hk, bys_le4]
  simp (disch := (first | assumption | (simp only [Bool.and_eq_true, Bool.and_eq_false_iff, decide_eq_true_eq, decide_eq_false_iff_not, bne_iff_ne, beq_iff_eq, beq_eq_false_iff_ne, bne_eq_false_iff_eq, Bool.not_eq_true', Bool.not_eq_false', bys_length, List.length_append, List.length_cons, List.length_nil, List.length_map, List.length_drop, List.length_take, Int.natCast_add, wrap_i64_eq, wrap_u64, wrap_u8, ne_eq, not_true_eq_false, not_false_eq_true, Nat.zero_add, Nat.mul_one] <;> omega) | omega | (simp; done) | (simp; omega))) only [↓at_runK, ↓at_bind, ↓contQ_mk, ↓at_ret, ↓at_consK, ↓at_nilK, ↓at_optK, ↓at_intK, ↓at_boolK, ↓at_strK, ↓at_slK, ↓at_slOK, ↓at_slK0, ↓at_slOK0, ↓at_aggK, ↓at_cond_t, ↓at_cond_f, ↓at_sameL, ↓at_any1, ↓at_any, and_self, toBytes_bys, List.nil_append, List.append_nil, ↓at_nodeW, List.drop_zero, List.take_succ_cons, List.take_zero, List.getElem?_cons_succ, List.getElem?_cons_zero, cells_agg, eqCells_cons, eqCells_nil, eq1_int, eq1_bool, eq1_str, ↓at_ptr_whole, ↓at_ptr_cell, ↓at_ptr_obj, ↓at_ptr_objs, shift_obj, shift_elt, toA_val, toA_own, Int.toNat_natCast, List.cons_append, near_run]
  rw [P23_0_eq]
  simp (disch := (first | assumption | (simp only [Bool.and_eq_true, Bool.and_eq_false_iff, decide_eq_true_eq, decide_eq_false_iff_not, bne_iff_ne, beq_iff_eq, beq_eq_false_iff_ne, bne_eq_false_iff_eq, Bool.not_eq_true', Bool.not_eq_false', bys_length, List.length_append, List.length_cons, List.length_nil, List.length_map, List.length_drop, List.length_take, Int.natCast_add, wrap_i64_eq, wrap_u64, wrap_u8, ne_eq, not_true_eq_false, not_false_eq_true, Nat.zero_add, Nat.mul_one] <;> omega) | omega | (simp; done) | (simp; omega))) only [↓at_runK, ↓at_bind, ↓contQ_mk, ↓at_ret, ↓at_consK, ↓at_nilK, ↓at_optK, ↓at_intK, ↓at_boolK, ↓at_strK, ↓at_slK, ↓at_slOK, ↓at_slK0, ↓at_slOK0, ↓at_aggK, ↓at_cond_t, ↓at_cond_f, ↓at_sameL, ↓at_any1, ↓at_any, and_self, toBytes_bys, List.nil_append, List.append_nil, ↓at_nodeW, List.drop_zero, List.take_succ_cons, List.take_zero, List.getElem?_cons_succ, List.getElem?_cons_zero, cells_agg, eqCells_cons, eqCells_nil, eq1_int, eq1_bool, eq1_str, ↓at_ptr_whole, ↓at_ptr_cell, ↓at_ptr_obj, ↓at_ptr_objs, shift_obj, shift_elt, toA_val, toA_own, Int.toNat_natCast, List.cons_append, m0, b0, a1]
  rw [P23_0_eq]
  simp (disch := (first | assumption | (simp only [Bool.and_eq_true, Bool.and_eq_false_iff, decide_eq_true_eq, decide_eq_false_iff_not, bne_iff_ne, beq_iff_eq, beq_eq_false_iff_ne, bne_eq_false_iff_eq, Bool.not_eq_true', Bool.not_eq_false', bys_length, List.length_append, List.length_cons, List.length_nil, List.length_map, List.length_drop, List.length_take, Int.natCast_add, wrap_i64_eq, wrap_u64, wrap_u8, ne_eq, not_true_eq_false, not_false_eq_true, Nat.zero_add, Nat.mul_one] <;> omega) | omega | (simp; done) | (simp; omega))) only [↓at_runK, ↓at_bind, ↓contQ_mk, ↓at_ret, ↓at_consK, ↓at_nilK, ↓at_optK, ↓at_intK, ↓at_boolK, ↓at_strK, ↓at_slK, ↓at_slOK, ↓at_slK0, ↓at_slOK0, ↓at_aggK, ↓at_cond_t, ↓at_cond_f, ↓at_sameL, ↓at_any1, ↓at_any, and_self, toBytes_bys, List.nil_append, List.append_nil, ↓at_nodeW, List.drop_zero, List.take_succ_cons, List.take_zero, List.getElem?_cons_succ, List.getElem?_cons_zero, cells_agg, eqCells_cons, eqCells_nil, eq1_int, eq1_bool, eq1_str, ↓at_ptr_whole, ↓at_ptr_cell, ↓at_ptr_obj, ↓at_ptr_objs, shift_obj, shift_elt, toA_val, toA_own, Int.toNat_natCast, List.cons_append, m1, b1, a2]
  rw [P23_0_eq]
  simp (disch := (first | assumption | (simp only [Bool.and_eq_true, Bool.and_eq_false_iff, decide_eq_true_eq, decide_eq_false_iff_not, bne_iff_ne, beq_iff_eq, beq_eq_false_iff_ne, bne_eq_false_iff_eq, Bool.not_eq_true', Bool.not_eq_false', bys_length, List.length_append, List.length_cons, List.length_nil, List.length_map, List.length_drop, List.length_take, Int.natCast_add, wrap_i64_eq, wrap_u64, wrap_u8, ne_eq, not_true_eq_false, not_false_eq_true, Nat.zero_add, Nat.mul_one] <;> omega) | omega | (simp; done) | (simp; omega))) only [↓at_runK, ↓at_bind, ↓contQ_mk, ↓at_ret, ↓at_consK, ↓at_nilK, ↓at_optK, ↓at_intK, ↓at_boolK, ↓at_strK, ↓at_slK, ↓at_slOK, ↓at_slK0, ↓at_slOK0, ↓at_aggK, ↓at_cond_t, ↓at_cond_f, ↓at_sameL, ↓at_any1, ↓at_any, and_self, toBytes_bys, List.nil_append, List.append_nil, ↓at_nodeW, List.drop_zero, List.take_succ_cons, List.take_zero, List.getElem?_cons_succ, List.getElem?_cons_zero, cells_agg, eqCells_cons, eqCells_nil, eq1_int, eq1_bool, eq1_str, ↓at_ptr_whole, ↓at_ptr_cell, ↓at_ptr_obj, ↓at_ptr_objs, shift_obj, shift_elt, toA_val, toA_own, Int.toNat_natCast, List.cons_append, m2, b2, a3]
  rw [P23_0_eq]
  simp (disch := (first | assumption | (simp only [Bool.and_eq_true, Bool.and_eq_false_iff, decide_eq_true_eq, decide_eq_false_iff_not, bne_iff_ne, beq_iff_eq, beq_eq_false_iff_ne, bne_eq_false_iff_eq, Bool.not_eq_true', Bool.not_eq_false', bys_length, List.length_append, List.length_cons, List.length_nil, List.length_map, List.length_drop, List.length_take, Int.natCast_add, wrap_i64_eq, wrap_u64, wrap_u8, ne_eq, not_true_eq_false, not_false_eq_true, Nat.zero_add, Nat.mul_one] <;> omega) | omega | (simp; done) | (simp; omega))) only [↓at_runK, ↓at_bind, ↓contQ_mk, ↓at_ret, ↓at_consK, ↓at_nilK, ↓at_optK, ↓at_intK, ↓at_boolK, ↓at_strK, ↓at_slK, ↓at_slOK, ↓at_slK0, ↓at_slOK0, ↓at_aggK, ↓at_cond_t, ↓at_cond_f, ↓at_sameL, ↓at_any1, ↓at_any, and_self, toBytes_bys, List.nil_append, List.append_nil, ↓at_nodeW, List.drop_zero, List.take_succ_cons, List.take_zero, List.getElem?_cons_succ, List.getElem?_cons_zero, cells_agg, eqCells_cons, eqCells_nil, eq1_int, eq1_bool, eq1_str, ↓at_ptr_whole, ↓at_ptr_cell, ↓at_ptr_obj, ↓at_ptr_objs, shift_obj, shift_elt, toA_val, toA_own, Int.toNat_natCast, List.cons_append, m3, b3, a4]
  rw [P23_0_eq]
  simp (disch := (first | assumption | (simp only [Bool.and_eq_true, Bool.and_eq_false_iff, decide_eq_true_eq, decide_eq_false_iff_not, bne_iff_ne, beq_iff_eq, beq_eq_false_iff_ne, bne_eq_false_iff_eq, Bool.not_eq_true', Bool.not_eq_false', bys_length, List.length_append, List.length_cons, List.length_nil, List.length_map, List.length_drop, List.length_take, Int.natCast_add, wrap_i64_eq, wrap_u64, wrap_u8, ne_eq, not_true_eq_false, not_false_eq_true, Nat.zero_add, Nat.mul_one] <;> omega) | omega | (simp; done) | (simp; omega))) only [↓at_runK, ↓at_bind, ↓contQ_mk, ↓at_ret, ↓at_consK, ↓at_nilK, ↓at_optK, ↓at_intK, ↓at_boolK, ↓at_strK, ↓at_slK, ↓at_slOK, ↓at_slK0, ↓at_slOK0, ↓at_aggK, ↓at_cond_t, ↓at_cond_f, ↓at_sameL, ↓at_any1, ↓at_any, and_self, toBytes_bys, List.nil_append, List.append_nil, ↓at_nodeW, List.drop_zero, List.take_succ_cons, List.take_zero, List.getElem?_cons_succ, List.getElem?_cons_zero, cells_agg, eqCells_cons, eqCells_nil, eq1_int, eq1_bool, eq1_str, ↓at_ptr_whole, ↓at_ptr_cell, ↓at_ptr_obj, ↓at_ptr_objs, shift_obj, shift_elt, toA_val, toA_own, Int.toNat_natCast, List.cons_append]
theorem r1put_run {d x : Nat} (hx : x < 18446744073709551616) {h : Heap} {Q : Res → Prop} {tg : Hid Q} : Run (evFn Cw (d + 1) 25 [.int .u64 x, .int .i64 4] h) Q tg = Q ([.sl false 0 (bys (le4 x))], h) := by
  obtain ⟨k, hk⟩ : ∃ m, rounds = m + 5 := ⟨rounds - 5, by have := rounds_ge; omega⟩
  have a1 : IntKind.i64.wrap ((0 : Int) + 1) = 1 := by decide
  have a2 : IntKind.i64.wrap ((1 : Int) + 1) = 2 := by decide
  have a3 : IntKind.i64.wrap ((2 : Int) + 1) = 3 := by decide
  have a4 : IntKind.i64.wrap ((3 : Int) + 1) = 4 := by decide
  have q : ∀ y : Nat, y < 18446744073709551616 → IntKind.u64.wrap (Int.tdiv (y : Int) 256) = ((y / 256 : Nat) : Int) := fun y hy => by
    have : Int.tdiv (y : Int) 256 = ((y / 256 : Nat) : Int) := by rw [Int.tdiv_eq_ediv_of_nonneg (by omega)]; omega
    rw [this]; exact wrap_u64_id (by omega) (by omega)
  have b : ∀ y : Nat, IntKind.u8.wrap (Int.tmod (y : Int) 256) = ((UInt8.ofNat y).toNat : Int) := fun y => by
    have : Int.tmod (y : Int) 256 = ((y % 256 : Nat) : Int) := by rw [Int.tmod_eq_emod_of_nonneg (by omega)]; omega
    rw [this, byte_wrap]
    congr 1
    simp
  have q1 := q x hx
  have q2 := q (x / 256) (by omega)
  have q3 := q (x / 256 / 256) (by omega)
  have q4 := q (x / 256 / 256 / 256) (by omega)
  rw [F25_eq, hk, bys_le4]
  rw [P25_0_eq]
  simp (disch := (first | assumption | (simp only [Bool.and_eq_true, Bool.and_eq_false_iff, decide_eq_true_eq, decide_eq_false_iff_not, bne_iff_ne, beq_iff_eq, beq_eq_false_iff_ne, bne_eq_false_iff_eq, Bool.not_eq_true', Bool.not_eq_false', bys_length, List.length_append, List.length_cons, List.length_nil, List.length_map, List.length_drop, List.length_take, Int.natCast_add, wrap_i64_eq, wrap_u64, wrap_u8, ne_eq, not_true_eq_false, not_false_eq_true, Nat.zero_add, Nat.mul_one] <;> omega) | omega | (simp; done) | (simp; omega))) only [↓at_runK, ↓at_bind, ↓contQ_mk, ↓at_ret, ↓at_consK, ↓at_nilK, ↓at_optK, ↓at_intK, ↓at_boolK, ↓at_strK, ↓at_slK, ↓at_slOK, ↓at_slK0, ↓at_slOK0, ↓at_aggK, ↓at_cond_t, ↓at_cond_f, ↓at_sameL, ↓at_any1, ↓at_any, and_self, toBytes_bys, List.nil_append, List.append_nil, ↓at_nodeW, List.drop_zero, List.take_succ_cons, List.take_zero, List.getElem?_cons_succ, List.getElem?_cons_zero, cells_agg, eqCells_cons, eqCells_nil, eq1_int, eq1_bool, eq1_str, ↓at_ptr_whole, ↓at_ptr_cell, ↓at_ptr_obj, ↓at_ptr_objs, shift_obj, shift_elt, toA_val, toA_own, Int.toNat_natCast, List.cons_append, b, q1, a1]
  rw [P25_0_eq]
  simp (disch := (first | assumption | (simp only [Bool.and_eq_true, Bool.and_eq_false_iff, decide_eq_true_eq, decide_eq_false_iff_not, bne_iff_ne, beq_iff_eq, beq_eq_false_iff_ne, bne_eq_false_iff_eq, Bool.not_eq_true', Bool.not_eq_false', bys_length, List.length_append, List.length_cons, List.length_nil, List.length_map, List.length_drop, List.length_take, Int.natCast_add, wrap_i64_eq, wrap_u64, wrap_u8, ne_eq, not_true_eq_false, not_false_eq_true, Nat.zero_add, Nat.mul_one] <;> omega) | omega | (simp; done) | (simp; omega))) only [↓at_runK, ↓at_bind, ↓contQ_mk, ↓at_ret, ↓at_consK, ↓at_nilK, ↓at_optK, ↓at_intK, ↓at_boolK, ↓at_strK, ↓at_slK, ↓at_slOK, ↓at_slK0, ↓at_slOK0, ↓at_aggK, ↓at_cond_t, ↓at_cond_f, ↓at_sameL, ↓at_any1, ↓at_any, and_self, toBytes_bys, List.nil_append, List.append_nil, ↓at_nodeW, List.drop_zero, List.take_succ_cons, List.take_zero, List.getElem?_cons_succ, List.getElem?_cons_zero, cells_agg, eqCells_cons, eqCells_nil, eq1_int, eq1_bool, eq1_str, ↓at_ptr_whole, ↓at_ptr_cell, ↓at_ptr_obj, ↓at_ptr_objs, shift_obj, shift_elt, toA_val, toA_own, Int.toNat_natCast, List.cons_append, b, q2, a2]
  rw [P25_0_eq]
  simp (disch := (first | assumption | (simp only [Bool.and_eq_true, Bool.and_eq_false_iff, decide_eq_true_eq, decide_eq_false_iff_not, bne_iff_ne, beq_iff_eq, beq_eq_false_iff_ne, bne_eq_false_iff_eq, Bool.not_eq_true', Bool.not_eq_false', bys_length, List.length_append, List.length_cons, List.length_nil, List.length_map, List.length_drop, List.length_take, Int.natCast_add, wrap_i64_eq, wrap_u64, wrap_u8, ne_eq, not_true_eq_false, not_false_eq_true, Nat.zero_add, Nat.mul_one] <;> omega) | omega | (simp; done) | (simp; omega))) only [↓at_runK, ↓at_bind, ↓contQ_mk, ↓at_ret, ↓at_consK, ↓at_nilK, ↓at_optK, ↓at_intK, ↓at_boolK, ↓at_strK, ↓at_slK, ↓at_slOK, ↓at_slK0, ↓at_slOK0, ↓at_aggK, ↓at_cond_t, ↓at_cond_f, ↓at_sameL, ↓at_any1, ↓at_any, and_self, toBytes_bys, List.nil_append, List.append_nil, ↓at_nodeW, List.drop_zero, List.take_succ_cons, List.take_zero, List.getElem?_cons_succ, List.getElem?_cons_zero, cells_agg, eqCells_cons, eqCells_nil, eq1_int, eq1_bool, eq1_str, ↓at_ptr_whole, ↓at_ptr_cell, ↓at_ptr_obj, ↓at_ptr_objs, shift_obj, shift_elt, toA_val, toA_own, Int.toNat_natCast, List.cons_append, b, q3, a3]
  rw [P25_0_eq]
  simp (disch := (first | assumption | (simp only [Bool.and_eq_true, Bool.and_eq_false_iff, decide_eq_true_eq, decide_eq_false_iff_not, bne_iff_ne, beq_iff_eq, beq_eq_false_iff_ne, bne_eq_false_iff_eq, Bool.not_eq_true', Bool.not_eq_false', bys_length, List.length_append, List.length_cons, List.length_nil, List.length_map, List.length_drop, List.length_take, Int.natCast_add, wrap_i64_eq, wrap_u64, wrap_u8, ne_eq, not_true_eq_false, not_false_eq_true, Nat.zero_add, Nat.mul_one] <;> omega) | omega | (simp; done) | (simp; omega))) only [↓at_runK, ↓at_bind, ↓contQ_mk, ↓at_ret, ↓at_consK, ↓at_nilK, ↓at_optK, ↓at_intK, ↓at_boolK, ↓at_strK, ↓at_slK, ↓at_slOK, ↓at_slK0, ↓at_slOK0, ↓at_aggK, ↓at_cond_t, ↓at_cond_f, ↓at_sameL, ↓at_any1, ↓at_any, and_self, toBytes_bys, List.nil_append, List.append_nil, ↓at_nodeW, List.drop_zero, List.take_succ_cons, List.take_zero, List.getElem?_cons_succ, List.getElem?_cons_zero, cells_agg, eqCells_cons, eqCells_nil, eq1_int, eq1_bool, eq1_str, ↓at_ptr_whole, ↓at_ptr_cell, ↓at_ptr_obj, ↓at_ptr_objs, shift_obj, shift_elt, toA_val, toA_own, Int.toNat_natCast, List.cons_append, b, q4, a4]
  rw [P25_0_eq]
  simp (disch := (first | assumption | (simp only [Bool.and_eq_true, Bool.and_eq_false_iff, decide_eq_true_eq, decide_eq_false_iff_not, bne_iff_ne, beq_iff_eq, beq_eq_false_iff_ne, bne_eq_false_iff_eq, Bool.not_eq_true', Bool.not_eq_false', bys_length, List.length_append, List.length_cons, List.length_nil, List.length_map, List.length_drop, List.length_take, Int.natCast_add, wrap_i64_eq, wrap_u64, wrap_u8, ne_eq, not_true_eq_false, not_false_eq_true, Nat.zero_add, Nat.mul_one] <;> omega) | omega | (simp; done) | (simp; omega))) only [↓at_runK, ↓at_bind, ↓contQ_mk, ↓at_ret, ↓at_consK, ↓at_nilK, ↓at_optK, ↓at_intK, ↓at_boolK, ↓at_strK, ↓at_slK, ↓at_slOK, ↓at_slK0, ↓at_slOK0, ↓at_aggK, ↓at_cond_t, ↓at_cond_f, ↓at_sameL, ↓at_any1, ↓at_any, and_self, toBytes_bys, List.nil_append, List.append_nil, ↓at_nodeW, List.drop_zero, List.take_succ_cons, List.take_zero, List.getElem?_cons_succ, List.getElem?_cons_zero, cells_agg, eqCells_cons, eqCells_nil, eq1_int, eq1_bool, eq1_str, ↓at_ptr_whole, ↓at_ptr_cell, ↓at_ptr_obj, ↓at_ptr_objs, shift_obj, shift_elt, toA_val, toA_own, Int.toNat_natCast, List.cons_append]
theorem or_step {acc y s : Nat} (h : acc < 2 ^ s) (hy : y < 256) (hs : s ≤ 24) (t : Int) (ht : min (Int.toNat t) 64 = s) :
    IntKind.u64.wrap (BitVec.ofInt 64 (acc : Int) ||| BitVec.ofInt 64 (IntKind.u64.wrap ((IntKind.u64.wrap (y : Int)) * 2 ^ (min (Int.toNat t) 64)))).toNat = ((acc + y * 2 ^ s : Nat) : Int) := by
  have h1 : (2 : Nat) ^ s ≤ 2 ^ 24 := Nat.pow_le_pow_right (by omega) hs
  have h2 : (2 : Nat) ^ 24 = 16777216 := by decide
  rw [h2] at h1
  have h3 : y * 2 ^ s ≤ 255 * 16777216 := Nat.mul_le_mul (by omega) h1
  rw [ht]
  have e5 : IntKind.u64.wrap (y : Int) = (y : Int) := wrap_u64_id (by omega) (by omega)
  have e6 : (y : Int) * 2 ^ s = ((y * 2 ^ s : Nat) : Int) := by rw [Int.natCast_mul, Int.natCast_pow]; rfl
  rw [e5, e6, wrap_u64_id (n := ((y * 2 ^ s : Nat) : Int)) (by omega) (by omega)]
  have e7 : (BitVec.ofInt 64 (acc : Int)).toNat = acc := by simp; omega
  have e8 : (BitVec.ofInt 64 ((y * 2 ^ s : Nat) : Int)).toNat = y * 2 ^ s := by
    rw [BitVec.toNat_ofInt]
    have : ((2 ^ 64 : Nat) : Int) = 18446744073709551616 := by decide
    rw [this]; omega
  have e9 : acc ||| y * 2 ^ s = acc + y * 2 ^ s := by
    rw [Nat.or_comm, Nat.mul_comm y, Nat.add_comm]
    exact (Nat.two_pow_add_eq_or_of_lt h y).symm
  rw [BitVec.toNat_or, e7, e8, e9]
  exact wrap_u64_id (by omega) (by omega)
theorem len4 {l : List UInt8} (h : l.length = 4) : ∃ a b c d, l = [a, b, c, d] := by
  match l, h with
  | [a, b, c, d], _ => exact ⟨a, b, c, d, rfl⟩
theorem wget_run {d : Nat} {f : Bool} {l : List UInt8} (hl : l.length = 4) {h : Heap} {Q : Res → Prop} {tg : Hid Q} : Run (evFn Cw (d + 1) 19 [.sl f 0 (bys l)] h) Q tg = Q ([.int .u64 (get4 l : Nat)], h) := by
  obtain ⟨b0, b1, b2, b3, rfl⟩ := len4 hl
  obtain ⟨k, hk⟩ : ∃ m, rounds = m + 5 := ⟨rounds - 5, by have := rounds_ge; omega⟩
  have a1 : IntKind.i64.wrap ((0 : Int) + 1) = 1 := by decide
  have a2 : IntKind.i64.wrap ((1 : Int) + 1) = 2 := by decide
  have a3 : IntKind.i64.wrap ((2 : Int) + 1) = 3 := by decide
  have a4 : IntKind.i64.wrap ((3 : Int) + 1) = 4 := by decide
  have m0 : IntKind.i64.wrap ((8 : Int) * 0) = 0 := by decide
  have m1 : IntKind.i64.wrap ((8 : Int) * 1) = 8 := by decide
  have m2 : IntKind.i64.wrap ((8 : Int) * 2) = 16 := by decide
  have m3 : IntKind.i64.wrap ((8 : Int) * 3) = 24 := by decide
  have h0 := b0.toNat_lt
  have h1 := b1.toNat_lt
  have h2 := b2.toNat_lt
  have h3 := b3.toNat_lt
  have o0 := or_step (acc := 0) (y := b0.toNat) (s := 0) (by omega) (by omega) (by omega) 0 (by decide)
  have o1 := or_step (acc := 0 + b0.toNat * 2 ^ 0) (y := b1.toNat) (s := 8) (by omega) (by omega) (by omega) 8 (by decide)
  have o2 := or_step (acc := 0 + b0.toNat * 2 ^ 0 + b1.toNat * 2 ^ 8) (y := b2.toNat) (s := 16) (by omega) (by omega) (by omega) 16 (by decide)
  have o3 := or_step (acc := 0 + b0.toNat * 2 ^ 0 + b1.toNat * 2 ^ 8 + b2.toNat * 2 ^ 16) (y := b3.toNat) (s := 24) (by omega) (by omega) (by omega) 24 (by decide)
  have z0 : ((0 : Nat) : Int) = 0 := rfl
  rw [z0] at o0
  have g0 : (bys [b0, b1, b2, b3]).getD (Int.toNat 0) AVal.undef = .int .u8 (b0.toNat : Int) := rfl
  have g1 : (bys [b0, b1, b2, b3]).getD (Int.toNat 1) AVal.undef = .int .u8 (b1.toNat : Int) := rfl
  have g2 : (bys [b0, b1, b2, b3]).getD (Int.toNat 2) AVal.undef = .int .u8 (b2.toNat : Int) := rfl
  have g3 : (bys [b0, b1, b2, b3]).getD (Int.toNat 3) AVal.undef = .int .u8 (b3.toNat : Int) := rfl
  have hL : (bys [b0, b1, b2, b3]).length = 4 := rfl
  have hm : (if (8 : Int) < ((4 : Nat) : Int) then (8 : Int) else ((4 : Nat) : Int)) = 4 := by decide
  rw [F19_eq, hL, hm, hk]
  rw [P19_0_eq]
  simp (disch := (first | assumption | (simp only [Bool.and_eq_true, Bool.and_eq_false_iff, decide_eq_true_eq, decide_eq_false_iff_not, bne_iff_ne, beq_iff_eq, beq_eq_false_iff_ne, bne_eq_false_iff_eq, Bool.not_eq_true', Bool.not_eq_false', bys_length, List.length_append, List.length_cons, List.length_nil, List.length_map, List.length_drop, List.length_take, Int.natCast_add, wrap_i64_eq, wrap_u64, wrap_u8, ne_eq, not_true_eq_false, not_false_eq_true, Nat.zero_add, Nat.mul_one] <;> omega) | omega | (simp; done) | (simp; omega))) only [↓at_runK, ↓at_bind, ↓contQ_mk, ↓at_ret, ↓at_consK, ↓at_nilK, ↓at_optK, ↓at_intK, ↓at_boolK, ↓at_strK, ↓at_slK, ↓at_slOK, ↓at_slK0, ↓at_slOK0, ↓at_aggK, ↓at_cond_t, ↓at_cond_f, ↓at_sameL, ↓at_any1, ↓at_any, and_self, toBytes_bys, List.nil_append, List.append_nil, ↓at_nodeW, List.drop_zero, List.take_succ_cons, List.take_zero, List.getElem?_cons_succ, List.getElem?_cons_zero, cells_agg, eqCells_cons, eqCells_nil, eq1_int, eq1_bool, eq1_str, ↓at_ptr_whole, ↓at_ptr_cell, ↓at_ptr_obj, ↓at_ptr_objs, shift_obj, shift_elt, toA_val, toA_own, Int.toNat_natCast, List.cons_append, hL, g0, m0, o0, a1]
  rw [P19_0_eq]
  simp (disch := (first | assumption | (simp only [Bool.and_eq_true, Bool.and_eq_false_iff, decide_eq_true_eq, decide_eq_false_iff_not, bne_iff_ne, beq_iff_eq, beq_eq_false_iff_ne, bne_eq_false_iff_eq, Bool.not_eq_true', Bool.not_eq_false', bys_length, List.length_append, List.length_cons, List.length_nil, List.length_map, List.length_drop, List.length_take, Int.natCast_add, wrap_i64_eq, wrap_u64, wrap_u8, ne_eq, not_true_eq_false, not_false_eq_true, Nat.zero_add, Nat.mul_one] <;> omega) | omega | (simp; done) | (simp; omega))) only [↓at_runK, ↓at_bind, ↓contQ_mk, ↓at_ret, ↓at_consK, ↓at_nilK, ↓at_optK, ↓at_intK, ↓at_boolK, ↓at_strK, ↓at_slK, ↓at_slOK, ↓at_slK0, ↓at_slOK0, ↓at_aggK, ↓at_cond_t, ↓at_cond_f, ↓at_sameL, ↓at_any1, ↓at_any, and_self, toBytes_bys, List.nil_append, List.append_nil, ↓at_nodeW, List.drop_zero, List.take_succ_cons, List.take_zero, List.getElem?_cons_succ, List.getElem?_cons_zero, cells_agg, eqCells_cons, eqCells_nil, eq1_int, eq1_bool, eq1_str, ↓at_ptr_whole, ↓at_ptr_cell, ↓at_ptr_obj, ↓at_ptr_objs, shift_obj, shift_elt, toA_val, toA_own, Int.toNat_natCast, List.cons_append, hL, g1, m1, o1, a2]
  rw [P19_0_eq]
  simp (disch := (first | assumption | (simp only [Bool.and_eq_true, Bool.and_eq_false_iff, decide_eq_true_eq, decide_eq_false_iff_not, bne_iff_ne, beq_iff_eq, beq_eq_false_iff_ne, bne_eq_false_iff_eq, Bool.not_eq_true', Bool.not_eq_false', bys_length, List.length_append, List.length_cons, List.length_nil, List.length_map, List.length_drop, List.length_take, Int.natCast_add, wrap_i64_eq, wrap_u64, wrap_u8, ne_eq, not_true_eq_false, not_false_eq_true, Nat.zero_add, Nat.mul_one] <;> omega) | omega | (simp; done) | (simp; omega))) only [↓at_runK, ↓at_bind, ↓contQ_mk, ↓at_ret, ↓at_consK, ↓at_nilK, ↓at_optK, ↓at_intK, ↓at_boolK, ↓at_strK, ↓at_slK, ↓at_slOK, ↓at_slK0, ↓at_slOK0, ↓at_aggK, ↓at_cond_t, ↓at_cond_f, ↓at_sameL, ↓at_any1, ↓at_any, and_self, toBytes_bys, List.nil_append, List.append_nil, ↓at_nodeW, List.drop_zero, List.take_succ_cons, List.take_zero, List.getElem?_cons_succ, List.getElem?_cons_zero, cells_agg, eqCells_cons, eqCells_nil, eq1_int, eq1_bool, eq1_str, ↓at_ptr_whole, ↓at_ptr_cell, ↓at_ptr_obj, ↓at_ptr_objs, shift_obj, shift_elt, toA_val, toA_own, Int.toNat_natCast, List.cons_append, hL, g2, m2, o2, a3]
  rw [P19_0_eq]
  simp (disch := (first | assumption | (simp only [Bool.and_eq_true, Bool.and_eq_false_iff, decide_eq_true_eq, decide_eq_false_iff_not, bne_iff_ne, beq_iff_eq, beq_eq_false_iff_ne, bne_eq_false_iff_eq, Bool.not_eq_true', Bool.not_eq_false', bys_length, List.length_append, List.length_cons, List.length_nil, List.length_map, List.length_drop, List.length_take, Int.natCast_add, wrap_i64_eq, wrap_u64, wrap_u8, ne_eq, not_true_eq_false, not_false_eq_true, Nat.zero_add, Nat.mul_one] <;> omega) | omega | (simp; done) | (simp; omega))) only [↓at_runK, ↓at_bind, ↓contQ_mk, ↓at_ret, ↓at_consK, ↓at_nilK, ↓at_optK, ↓at_intK, ↓at_boolK, ↓at_strK, ↓at_slK, ↓at_slOK, ↓at_slK0, ↓at_slOK0, ↓at_aggK, ↓at_cond_t, ↓at_cond_f, ↓at_sameL, ↓at_any1, ↓at_any, and_self, toBytes_bys, List.nil_append, List.append_nil, ↓at_nodeW, List.drop_zero, List.take_succ_cons, List.take_zero, List.getElem?_cons_succ, List.getElem?_cons_zero, cells_agg, eqCells_cons, eqCells_nil, eq1_int, eq1_bool, eq1_str, ↓at_ptr_whole, ↓at_ptr_cell, ↓at_ptr_obj, ↓at_ptr_objs, shift_obj, shift_elt, toA_val, toA_own, Int.toNat_natCast, List.cons_append, hL, g3, m3, o3, a4]
  rw [P19_0_eq]
  simp (disch := (first | assumption | (simp only [Bool.and_eq_true, Bool.and_eq_false_iff, decide_eq_true_eq, decide_eq_false_iff_not, bne_iff_ne, beq_iff_eq, beq_eq_false_iff_ne, bne_eq_false_iff_eq, Bool.not_eq_true', Bool.not_eq_false', bys_length, List.length_append, List.length_cons, List.length_nil, List.length_map, List.length_drop, List.length_take, Int.natCast_add, wrap_i64_eq, wrap_u64, wrap_u8, ne_eq, not_true_eq_false, not_false_eq_true, Nat.zero_add, Nat.mul_one] <;> omega) | omega | (simp; done) | (simp; omega))) only [↓at_runK, ↓at_bind, ↓contQ_mk, ↓at_ret, ↓at_consK, ↓at_nilK, ↓at_optK, ↓at_intK, ↓at_boolK, ↓at_strK, ↓at_slK, ↓at_slOK, ↓at_slK0, ↓at_slOK0, ↓at_aggK, ↓at_cond_t, ↓at_cond_f, ↓at_sameL, ↓at_any1, ↓at_any, and_self, toBytes_bys, List.nil_append, List.append_nil, ↓at_nodeW, List.drop_zero, List.take_succ_cons, List.take_zero, List.getElem?_cons_succ, List.getElem?_cons_zero, cells_agg, eqCells_cons, eqCells_nil, eq1_int, eq1_bool, eq1_str, ↓at_ptr_whole, ↓at_ptr_cell, ↓at_ptr_obj, ↓at_ptr_objs, shift_obj, shift_elt, toA_val, toA_own, Int.toNat_natCast, List.cons_append]
  have e : 0 + b0.toNat * 2 ^ 0 + b1.toNat * 2 ^ 8 + b2.toNat * 2 ^ 16 + b3.toNat * 2 ^ 24 = get4 [b0, b1, b2, b3] := by simp only [get4]; omega
  rw [e]
theorem two_loop (d : Nat) (n : Nat) (hn : n ≤ 24) (h : Heap) (Q : Res → Prop) : ∀ (m j k : Nat) (tg : Hid Q), n = j + m → m < k → Run (P37_0 d k n (2 ^ j : Nat) j h) Q tg = Q ([.int .u64 (2 ^ n : Nat)], h) := by
  intro m
  induction m with
  | zero =>
    intro j k tg hj hk
    obtain ⟨k, rfl⟩ : ∃ m, k = m + 1 := ⟨k - 1, by omega⟩
    obtain rfl : j = n := by omega
    rw [P37_0_eq]
    simp (disch := (first | assumption | (simp only [Bool.and_eq_true, Bool.and_eq_false_iff, decide_eq_true_eq, decide_eq_false_iff_not, bne_iff_ne, beq_iff_eq, beq_eq_false_iff_ne, bne_eq_false_iff_eq, Bool.not_eq_true', Bool.not_eq_false', bys_length, List.length_append, List.length_cons, List.length_nil, List.length_map, List.length_drop, List.length_take, Int.natCast_add, wrap_i64_eq, wrap_u64, wrap_u8, ne_eq, not_true_eq_false, not_false_eq_true, Nat.zero_add, Nat.mul_one] <;> omega) | omega | (simp; done) | (simp; omega))) only [↓at_runK, ↓at_bind, ↓contQ_mk, ↓at_ret, ↓at_consK, ↓at_nilK, ↓at_optK, ↓at_intK, ↓at_boolK, ↓at_strK, ↓at_slK, ↓at_slOK, ↓at_slK0, ↓at_slOK0, ↓at_aggK, ↓at_cond_t, ↓at_cond_f, ↓at_sameL, ↓at_any1, ↓at_any, and_self, toBytes_bys, List.nil_append, List.append_nil, ↓at_nodeW, List.drop_zero, List.take_succ_cons, List.take_zero, List.getElem?_cons_succ, List.getElem?_cons_zero, cells_agg, eqCells_cons, eqCells_nil, eq1_int, eq1_bool, eq1_str, ↓at_ptr_whole, ↓at_ptr_cell, ↓at_ptr_obj, ↓at_ptr_objs, shift_obj, shift_elt, toA_val, toA_own, Int.toNat_natCast, List.cons_append]
  | succ m ih =>
    intro j k tg hj hk
    obtain ⟨k, rfl⟩ : ∃ m, k = m + 1 := ⟨k - 1, by omega⟩
    have e1 := succ_wrap (i := j) (by omega)
    have h1 : (2 : Nat) ^ (j + 1) ≤ 2 ^ 24 := Nat.pow_le_pow_right (by omega) (by omega)
    have h2 : (2 : Nat) ^ 24 = 16777216 := by decide
    have w : IntKind.u64.wrap (((2 ^ j : Nat) : Int) * 2) = ((2 ^ (j + 1) : Nat) : Int) := by
      rw [Nat.pow_succ] at h1 ⊢
      rw [wrap_u64_id (by omega) (by omega)]; omega
    have ih' := fun tg => ih (j + 1) k tg (by omega) (by omega)
    rw [P37_0_eq]
    simp (disch := (first | assumption | (simp only [Bool.and_eq_true, Bool.and_eq_false_iff, decide_eq_true_eq, decide_eq_false_iff_not, bne_iff_ne, beq_iff_eq, beq_eq_false_iff_ne, bne_eq_false_iff_eq, Bool.not_eq_true', Bool.not_eq_false', bys_length, List.length_append, List.length_cons, List.length_nil, List.length_map, List.length_drop, List.length_take, Int.natCast_add, wrap_i64_eq, wrap_u64, wrap_u8, ne_eq, not_true_eq_false, not_false_eq_true, Nat.zero_add, Nat.mul_one] <;> omega) | omega | (simp; done) | (simp; omega))) only [↓at_runK, ↓at_bind, ↓contQ_mk, ↓at_ret, ↓at_consK, ↓at_nilK, ↓at_optK, ↓at_intK, ↓at_boolK, ↓at_strK, ↓at_slK, ↓at_slOK, ↓at_slK0, ↓at_slOK0, ↓at_aggK, ↓at_cond_t, ↓at_cond_f, ↓at_sameL, ↓at_any1, ↓at_any, and_self, toBytes_bys, List.nil_append, List.append_nil, ↓at_nodeW, List.drop_zero, List.take_succ_cons, List.take_zero, List.getElem?_cons_succ, List.getElem?_cons_zero, cells_agg, eqCells_cons, eqCells_nil, eq1_int, eq1_bool, eq1_str, ↓at_ptr_whole, ↓at_ptr_cell, ↓at_ptr_obj, ↓at_ptr_objs, shift_obj, shift_elt, toA_val, toA_own, Int.toNat_natCast, List.cons_append, w, e1, ih']
theorem two_run {d n : Nat} (hn : n ≤ 24) {h : Heap} {Q : Res → Prop} {tg : Hid Q} : Run (evFn Cw (d + 1) 37 [.int .i64 n] h) Q tg = Q ([.int .u64 (2 ^ n : Nat)], h) := by
  have := two_loop d n hn h Q n 0 rounds ⟨⟩ (by omega) (Nat.lt_of_lt_of_le (by omega) rounds_ge)
  have z : ((2 ^ 0 : Nat) : Int) = 1 := rfl
  rw [z, e0] at this
  rw [F37_eq]
  exact this
theorem r1get_run {d : Nat} {f : Bool} {l : List UInt8} (hl : l.length = 4) {h : Heap} {Q : Res → Prop} {tg : Hid Q} : Run (evFn Cw (d + 2) 21 [.sl f 0 (bys l)] h) Q tg = Q ([.int .u64 (get4 l : Nat)], h) := by
  obtain ⟨b0, b1, b2, b3, rfl⟩ := len4 hl
  obtain ⟨k, hk⟩ : ∃ m, rounds = m + 5 := ⟨rounds - 5, by have := rounds_ge; omega⟩
  have a1 : IntKind.i64.wrap ((0 : Int) + 1) = 1 := by decide
  have a2 : IntKind.i64.wrap ((1 : Int) + 1) = 2 := by decide
  have a3 : IntKind.i64.wrap ((2 : Int) + 1) = 3 := by decide
  have a4 : IntKind.i64.wrap ((3 : Int) + 1) = 4 := by decide
  have m0 : IntKind.i64.wrap ((8 : Int) * 0) = ((0 : Nat) : Int) := by decide
  have m1 : IntKind.i64.wrap ((8 : Int) * 1) = ((8 : Nat) : Int) := by decide
  have m2 : IntKind.i64.wrap ((8 : Int) * 2) = ((16 : Nat) : Int) := by decide
  have m3 : IntKind.i64.wrap ((8 : Int) * 3) = ((24 : Nat) : Int) := by decide
  have h0 := b0.toNat_lt
  have h1 := b1.toNat_lt
  have h2 := b2.toNat_lt
  have h3 := b3.toNat_lt
  have st : ∀ (acc y p : Nat), acc < 4294967296 → y < 256 → p ≤ 16777216 → IntKind.u64.wrap ((acc : Int) + IntKind.u64.wrap ((IntKind.u64.wrap (y : Int)) * (p : Int))) = ((acc + y * p : Nat) : Int) := fun acc y p ha hy hp => by
    have h3 : y * p ≤ 255 * 16777216 := Nat.mul_le_mul (by omega) hp
    have e5 : IntKind.u64.wrap (y : Int) = (y : Int) := wrap_u64_id (by omega) (by omega)
    have e6 : (y : Int) * (p : Int) = ((y * p : Nat) : Int) := (Int.natCast_mul _ _).symm
    rw [e5, e6, wrap_u64_id (n := ((y * p : Nat) : Int)) (by omega) (by omega), wrap_u64_id (by omega) (by omega)]
    omega
  have o0 := st 0 b0.toNat (2 ^ 0) (by omega) (by omega) (by omega)
  have o1 := st (0 + b0.toNat * 2 ^ 0) b1.toNat (2 ^ 8) (by omega) (by omega) (by omega)
  have o2 := st (0 + b0.toNat * 2 ^ 0 + b1.toNat * 2 ^ 8) b2.toNat (2 ^ 16) (by omega) (by omega) (by omega)
  have o3 := st (0 + b0.toNat * 2 ^ 0 + b1.toNat * 2 ^ 8 + b2.toNat * 2 ^ 16) b3.toNat (2 ^ 24) (by omega) (by omega) (by omega)
  have z0 : ((0 : Nat) : Int) = 0 := rfl
  rw [z0] at o0
  have g0 : (bys [b0, b1, b2, b3]).getD (Int.toNat 0) AVal.undef = .int .u8 (b0.toNat : Int) := rfl
  have g1 : (bys [b0, b1, b2, b3]).getD (Int.toNat 1) AVal.undef = .int .u8 (b1.toNat : Int) := rfl
  have g2 : (bys [b0, b1, b2, b3]).getD (Int.toNat 2) AVal.undef = .int .u8 (b2.toNat : Int) := rfl
  have g3 : (bys [b0, b1, b2, b3]).getD (Int.toNat 3) AVal.undef = .int .u8 (b3.toNat : Int) := rfl
  have hL : (bys [b0, b1, b2, b3]).length = 4 := rfl
  have t0 := fun (Q : Res → Prop) (tg : Hid Q) => two_run (d := d) (n := 0) (by omega) (h := h) (Q := Q) (tg := tg)
  have t1 := fun (Q : Res → Prop) (tg : Hid Q) => two_run (d := d) (n := 8) (by omega) (h := h) (Q := Q) (tg := tg)
  have t2 := fun (Q : Res → Prop) (tg : Hid Q) => two_run (d := d) (n := 16) (by omega) (h := h) (Q := Q) (tg := tg)
  have t3 := fun (Q : Res → Prop) (tg : Hid Q) => two_run (d := d) (n := 24) (by omega) (h := h) (Q := Q) (tg := tg)
  rw [F21_eq, hk]
  rw [P21_0_eq]
  simp (disch := (first | assumption | (simp only [Bool.and_eq_true, Bool.and_eq_false_iff, decide_eq_true_eq, decide_eq_false_iff_not, bne_iff_ne, beq_iff_eq, beq_eq_false_iff_ne, bne_eq_false_iff_eq, Bool.not_eq_true', Bool.not_eq_false', bys_length, List.length_append, List.length_cons, List.length_nil, List.length_map, List.length_drop, List.length_take, Int.natCast_add, wrap_i64_eq, wrap_u64, wrap_u8, ne_eq, not_true_eq_false, not_false_eq_true, Nat.zero_add, Nat.mul_one] <;> omega) | omega | (simp; done) | (simp; omega))) only [↓at_runK, ↓at_bind, ↓contQ_mk, ↓at_ret, ↓at_consK, ↓at_nilK, ↓at_optK, ↓at_intK, ↓at_boolK, ↓at_strK, ↓at_slK, ↓at_slOK, ↓at_slK0, ↓at_slOK0, ↓at_aggK, ↓at_cond_t, ↓at_cond_f, ↓at_sameL, ↓at_any1, ↓at_any, and_self, toBytes_bys, List.nil_append, List.append_nil, ↓at_nodeW, List.drop_zero, List.take_succ_cons, List.take_zero, List.getElem?_cons_succ, List.getElem?_cons_zero, cells_agg, eqCells_cons, eqCells_nil, eq1_int, eq1_bool, eq1_str, ↓at_ptr_whole, ↓at_ptr_cell, ↓at_ptr_obj, ↓at_ptr_objs, shift_obj, shift_elt, toA_val, toA_own, Int.toNat_natCast, List.cons_append, hL, g0, m0, t0, o0, a1]
  rw [P21_0_eq]
  simp (disch := (first | assumption | (simp only [Bool.and_eq_true, Bool.and_eq_false_iff, decide_eq_true_eq, decide_eq_false_iff_not, bne_iff_ne, beq_iff_eq, beq_eq_false_iff_ne, bne_eq_false_iff_eq, Bool.not_eq_true', Bool.not_eq_false', bys_length, List.length_append, List.length_cons, List.length_nil, List.length_map, List.length_drop, List.length_take, Int.natCast_add, wrap_i64_eq, wrap_u64, wrap_u8, ne_eq, not_true_eq_false, not_false_eq_true, Nat.zero_add, Nat.mul_one] <;> omega) | omega | (simp; done) | (simp; omega))) only [↓at_runK, ↓at_bind, ↓contQ_mk, ↓at_ret, ↓at_consK, ↓at_nilK, ↓at_optK, ↓at_intK, ↓at_boolK, ↓at_strK, ↓at_slK, ↓at_slOK, ↓at_slK0, ↓at_slOK0, ↓at_aggK, ↓at_cond_t, ↓at_cond_f, ↓at_sameL, ↓at_any1, ↓at_any, and_self, toBytes_bys, List.nil_append, List.append_nil, ↓at_nodeW, List.drop_zero, List.take_succ_cons, List.take_zero, List.getElem?_cons_succ, List.getElem?_cons_zero, cells_agg, eqCells_cons, eqCells_nil, eq1_int, eq1_bool, eq1_str, ↓at_ptr_whole, ↓at_ptr_cell, ↓at_ptr_obj, ↓at_ptr_objs, shift_obj, shift_elt, toA_val, toA_own, Int.toNat_natCast, List.cons_append, hL, g1, m1, t1, o1, a2]
  rw [P21_0_eq]
  simp (disch := (first | assumption | (simp only [Bool.and_eq_true, Bool.and_eq_false_iff, decide_eq_true_eq, decide_eq_false_iff_not, bne_iff_ne, beq_iff_eq, beq_eq_false_iff_ne, bne_eq_false_iff_eq, Bool.not_eq_true', Bool.not_eq_false', bys_length, List.length_append, List.length_cons, List.length_nil, List.length_map, List.length_drop, List.length_take, Int.natCast_add, wrap_i64_eq, wrap_u64, wrap_u8, ne_eq, not_true_eq_false, not_false_eq_true, Nat.zero_add, Nat.mul_one] <;> omega) | omega | (simp; done) | (simp; omega))) only [↓at_runK, ↓at_bind, ↓contQ_mk, ↓at_ret, ↓at_consK, ↓at_nilK, ↓at_optK, ↓at_intK, ↓at_boolK, ↓at_strK, ↓at_slK, ↓at_slOK, ↓at_slK0, ↓at_slOK0, ↓at_aggK, ↓at_cond_t, ↓at_cond_f, ↓at_sameL, ↓at_any1, ↓at_any, and_self, toBytes_bys, List.nil_append, List.append_nil, ↓at_nodeW, List.drop_zero, List.take_succ_cons, List.take_zero, List.getElem?_cons_succ, List.getElem?_cons_zero, cells_agg, eqCells_cons, eqCells_nil, eq1_int, eq1_bool, eq1_str, ↓at_ptr_whole, ↓at_ptr_cell, ↓at_ptr_obj, ↓at_ptr_objs, shift_obj, shift_elt, toA_val, toA_own, Int.toNat_natCast, List.cons_append, hL, g2, m2, t2, o2, a3]
  rw [P21_0_eq]
  simp (disch := (first | assumption | (simp only [Bool.and_eq_true, Bool.and_eq_false_iff, decide_eq_true_eq, decide_eq_false_iff_not, bne_iff_ne, beq_iff_eq, beq_eq_false_iff_ne, bne_eq_false_iff_eq, Bool.not_eq_true', Bool.not_eq_false', bys_length, List.length_append, List.length_cons, List.length_nil, List.length_map, List.length_drop, List.length_take, Int.natCast_add, wrap_i64_eq, wrap_u64, wrap_u8, ne_eq, not_true_eq_false, not_false_eq_true, Nat.zero_add, Nat.mul_one] <;> omega) | omega | (simp; done) | (simp; omega))) only [↓at_runK, ↓at_bind, ↓contQ_mk, ↓at_ret, ↓at_consK, ↓at_nilK, ↓at_optK, ↓at_intK, ↓at_boolK, ↓at_strK, ↓at_slK, ↓at_slOK, ↓at_slK0, ↓at_slOK0, ↓at_aggK, ↓at_cond_t, ↓at_cond_f, ↓at_sameL, ↓at_any1, ↓at_any, and_self, toBytes_bys, List.nil_append, List.append_nil, ↓at_nodeW, List.drop_zero, List.take_succ_cons, List.take_zero, List.getElem?_cons_succ, List.getElem?_cons_zero, cells_agg, eqCells_cons, eqCells_nil, eq1_int, eq1_bool, eq1_str, ↓at_ptr_whole, ↓at_ptr_cell, ↓at_ptr_obj, ↓at_ptr_objs, shift_obj, shift_elt, toA_val, toA_own, Int.toNat_natCast, List.cons_append, hL, g3, m3, t3, o3, a4]
  rw [P21_0_eq]
  simp (disch := (first | assumption | (simp only [Bool.and_eq_true, Bool.and_eq_false_iff, decide_eq_true_eq, decide_eq_false_iff_not, bne_iff_ne, beq_iff_eq, beq_eq_false_iff_ne, bne_eq_false_iff_eq, Bool.not_eq_true', Bool.not_eq_false', bys_length, List.length_append, List.length_cons, List.length_nil, List.length_map, List.length_drop, List.length_take, Int.natCast_add, wrap_i64_eq, wrap_u64, wrap_u8, ne_eq, not_true_eq_false, not_false_eq_true, Nat.zero_add, Nat.mul_one] <;> omega) | omega | (simp; done) | (simp; omega))) only [↓at_runK, ↓at_bind, ↓contQ_mk, ↓at_ret, ↓at_consK, ↓at_nilK, ↓at_optK, ↓at_intK, ↓at_boolK, ↓at_strK, ↓at_slK, ↓at_slOK, ↓at_slK0, ↓at_slOK0, ↓at_aggK, ↓at_cond_t, ↓at_cond_f, ↓at_sameL, ↓at_any1, ↓at_any, and_self, toBytes_bys, List.nil_append, List.append_nil, ↓at_nodeW, List.drop_zero, List.take_succ_cons, List.take_zero, List.getElem?_cons_succ, List.getElem?_cons_zero, cells_agg, eqCells_cons, eqCells_nil, eq1_int, eq1_bool, eq1_str, ↓at_ptr_whole, ↓at_ptr_cell, ↓at_ptr_obj, ↓at_ptr_objs, shift_obj, shift_elt, toA_val, toA_own, Int.toNat_natCast, List.cons_append, hL]
  have e : 0 + b0.toNat * 2 ^ 0 + b1.toNat * 2 ^ 8 + b2.toNat * 2 ^ 16 + b3.toNat * 2 ^ 24 = get4 [b0, b1, b2, b3] := by simp only [get4]; omega
  rw [e]
end Go.Proofs.YtdlcjibefbnckaaDoor.Wa
