/- Records: encoded and decoded; RecordDecodes, RecordEncodes. -/
import Derived.Test.YtfdkkhmaikgmcaaVd
import Derived.Test.YtfdkkhmaikgmcaaWc
import Derived.Test.YtfdkkhmaikgmcaaWvLc
import Derived.Test.YtfdkkhmaikgmcaaVapi
import Derived.Test.YtfdkkhmaikgmcaaVq
namespace Go.Proofs.Ytfdkkhmaikgmcaa.Wa
open Go Go.Weave
set_option maxRecDepth 100000
set_option linter.unusedSimpArgs false
set_option linter.unusedVariables false
set_option linter.unusedSectionVars false

theorem size_run {d n : Nat} {h : Heap} {Q : Res → Prop} {tg : Hid Q} (hn : n < 18446744073709551616) : Run (evFn Cw (d + 1) 75 [.int .u64 n] h) Q tg = Q ([.int .i64 ((enc n).length : Int)], h) := (size_ok d n h hn).at
theorem rput_run' {d : Nat} {f : Bool} {l : List UInt8} {n : Nat} {h : Heap} {Q : Res → Prop} {tg : Hid Q} (hn : n < 18446744073709551616) (hl : l.length ≤ 140737488355000) :
    Run (evFn Cw (d + 1) 74 [.sl f 0 (bys l), .int .u64 n] h) Q tg = Q ([.sl false 0 (bys (l ++ enc n))], h) := (rput_ok d f l n h hn hl).at

/-! ### Encoded -/
noncomputable def rbytes (k c l p : Int) (dt : List UInt8) : List UInt8 := [UInt8.ofNat k.toNat, UInt8.ofNat c.toNat] ++ enc l.toNat ++ enc (l - p).toNat ++ dt
theorem two_bytes {k c : Int} (hk : 0 ≤ k ∧ k < 256) (hc : 0 ≤ c ∧ c < 256) : [AVal.int .u8 (IntKind.u8.wrap k), AVal.int .u8 (IntKind.u8.wrap c)] = bys [UInt8.ofNat k.toNat, UInt8.ofNat c.toNat] := by
  have h1 := bys_one k.toNat (by omega)
  have h2 := bys_one c.toNat (by omega)
  have e1 : ((k.toNat : Nat) : Int) = k := by omega
  have e2 : ((c.toNat : Nat) : Int) = c := by omega
  rw [e1] at h1
  rw [e2] at h2
  rw [wrap_u8_id (by omega) (by omega), wrap_u8_id (by omega) (by omega)]
  have : bys [UInt8.ofNat k.toNat, UInt8.ofNat c.toNat] = bys [UInt8.ofNat k.toNat] ++ bys [UInt8.ofNat c.toNat] := of_eq_true (eq_self _)
  rw [this, ← h1, ← h2]; rfl
theorem rbytes_len {k c l p : Int} {dt : List UInt8} (hr : rright k c l p = true) : (rbytes k c l p dt).length ≤ dt.length + 22 := by
  have hs := hr
  simp only [rright, decide_eq_true_eq] at hs
  have h1 := (enc_length 9 l.toNat (lt_128_10 (by omega))).2
  have h2 := (enc_length 9 (l - p).toNat (lt_128_10 (by omega))).2
  simp only [rbytes, List.length_append, List.length_cons, List.length_nil]
  omega
/-- What comes of encoding: nothing (not right, or too long), or the bytes. -/
noncomputable def rencE (k c l p : Int) (dt : List UInt8) : Nat := if rright k c l p = false then 13 else if (rbytes k c l p dt).length > 512 then 5 else 0
theorem rsize_run {d : Nat} {k c l p : Int} {f : Bool} {dt : List UInt8} {h : Heap} {Q : Res → Prop} {tg : Hid Q} (hr : rright k c l p = true) (hd : dt.length ≤ 140737488351232) :
    Run (evFn Cw (d + 2) 25 [.agg [.int .i64 k, .int .i64 c, .int .i64 l, .int .i64 p, .sl f 0 (bys dt)]] h) Q tg = Q ([.int .i64 ((rbytes k c l p dt).length : Nat)], h) := by
  have hs := hr
  simp only [rright, decide_eq_true_eq] at hs
  have h1 := (enc_length 9 l.toNat (lt_128_10 (by omega))).2
  have h2 := (enc_length 9 (l - p).toNat (lt_128_10 (by omega))).2
  have e1 : IntKind.u64.wrap l = ((l.toNat : Nat) : Int) := by rw [wrap_u64_id (by omega) (by omega)]; omega
  have e2 : IntKind.u64.wrap (IntKind.i64.wrap (l - p)) = (((l - p).toNat : Nat) : Int) := by rw [wrap_i64_id (by omega) (by omega), wrap_u64_id (by omega) (by omega)]; omega
  have e3 : IntKind.i64.wrap (IntKind.i64.wrap (IntKind.i64.wrap (2 + ((enc l.toNat).length : Int)) + ((enc (l - p).toNat).length : Int)) + (dt.length : Int)) = ((rbytes k c l p dt).length : Nat) := by
    have e : (rbytes k c l p dt).length = 2 + (enc l.toNat).length + (enc (l - p).toNat).length + dt.length := by simp [rbytes]; omega
    rw [e]
    rw [wrap_i64_id (n := 2 + ((enc l.toNat).length : Int)) (by omega) (by omega), wrap_i64_id (n := 2 + ((enc l.toNat).length : Int) + ((enc (l - p).toNat).length : Int)) (by omega) (by omega), wrap_i64_id (by omega) (by omega)]
    omega
  rw [F25_eq]
  simp (disch := (first | assumption | (simp only [Bool.and_eq_true, Bool.and_eq_false_iff, decide_eq_true_eq, decide_eq_false_iff_not, bne_iff_ne, beq_iff_eq, beq_eq_false_iff_ne, bne_eq_false_iff_eq, Bool.not_eq_true', Bool.not_eq_false', bys_length, List.length_append, List.length_cons, List.length_nil, List.length_map, List.length_drop, List.length_take, Int.natCast_add, wrap_i64_eq, wrap_u64, wrap_u8, ne_eq, not_true_eq_false, not_false_eq_true, Nat.zero_add, Nat.mul_one] <;> omega) | omega | (simp; done) | (simp; omega))) only [↓at_runK, ↓at_bind, ↓contQ_mk, ↓at_ret, ↓at_consK, ↓at_nilK, ↓at_optK, ↓at_intK, ↓at_boolK, ↓at_strK, ↓at_slK, ↓at_slOK, ↓at_slK0, ↓at_slOK0, ↓at_aggK, ↓at_cond_t, ↓at_cond_f, ↓at_sameL, ↓at_any1, ↓at_any, and_self, toBytes_bys, List.nil_append, List.append_nil, List.drop_zero, List.take_succ_cons, List.take_zero, List.getElem?_cons_succ, List.getElem?_cons_zero, cells_agg, eqCells_cons, eqCells_nil, eq1_int, eq1_bool, eq1_str, ↓at_ptr_whole, ↓at_ptr_cell, ↓at_ptr_obj, ↓at_ptr_objs, shift_obj, shift_elt, toA_val, toA_own, Int.toNat_natCast, List.cons_append, rright_run, hr, e1, e2, size_run, bys_length, e3]
theorem rencode_run {d : Nat} {k c l p : Int} {f : Bool} {dt : List UInt8} {h : Heap} {Q : Res → Prop} {tg : Hid Q} (hd : dt.length ≤ 140737488351232) :
    Run (evFn Cw (d + 3) 18 [.agg [.int .i64 k, .int .i64 c, .int .i64 l, .int .i64 p, .sl f 0 (bys dt)]] h) Q tg = Q ([.sl (decide (rencE k c l p dt ≠ 0)) 0 (bys (if rencE k c l p dt = 0 then rbytes k c l p dt else [])), .int .i64 (rencE k c l p dt : Nat)], h) := by
  rw [F18_eq]
  unfold rencE
  cases hr : rright k c l p
  · rw [if_pos rfl]
    simp (disch := (first | assumption | (simp only [Bool.and_eq_true, Bool.and_eq_false_iff, decide_eq_true_eq, decide_eq_false_iff_not, bne_iff_ne, beq_iff_eq, beq_eq_false_iff_ne, bne_eq_false_iff_eq, Bool.not_eq_true', Bool.not_eq_false', bys_length, List.length_append, List.length_cons, List.length_nil, List.length_map, List.length_drop, List.length_take, Int.natCast_add, wrap_i64_eq, wrap_u64, wrap_u8, ne_eq, not_true_eq_false, not_false_eq_true, Nat.zero_add, Nat.mul_one] <;> omega) | omega | (simp; done) | (simp; omega))) only [↓at_runK, ↓at_bind, ↓contQ_mk, ↓at_ret, ↓at_consK, ↓at_nilK, ↓at_optK, ↓at_intK, ↓at_boolK, ↓at_strK, ↓at_slK, ↓at_slOK, ↓at_slK0, ↓at_slOK0, ↓at_aggK, ↓at_cond_t, ↓at_cond_f, ↓at_sameL, ↓at_any1, ↓at_any, and_self, toBytes_bys, List.nil_append, List.append_nil, List.drop_zero, List.take_succ_cons, List.take_zero, List.getElem?_cons_succ, List.getElem?_cons_zero, cells_agg, eqCells_cons, eqCells_nil, eq1_int, eq1_bool, eq1_str, ↓at_ptr_whole, ↓at_ptr_cell, ↓at_ptr_obj, ↓at_ptr_objs, shift_obj, shift_elt, toA_val, toA_own, Int.toNat_natCast, List.cons_append, rright_run, hr]
    rfl
  · rw [if_neg (by simp)]
    have hs := hr
    simp only [rright, decide_eq_true_eq] at hs
    have hlen := rbytes_len (dt := dt) hr
    by_cases hl : (rbytes k c l p dt).length > 512
    · rw [if_pos hl]
      simp (disch := (first | assumption | (simp only [Bool.and_eq_true, Bool.and_eq_false_iff, decide_eq_true_eq, decide_eq_false_iff_not, bne_iff_ne, beq_iff_eq, beq_eq_false_iff_ne, bne_eq_false_iff_eq, Bool.not_eq_true', Bool.not_eq_false', bys_length, List.length_append, List.length_cons, List.length_nil, List.length_map, List.length_drop, List.length_take, Int.natCast_add, wrap_i64_eq, wrap_u64, wrap_u8, ne_eq, not_true_eq_false, not_false_eq_true, Nat.zero_add, Nat.mul_one] <;> omega) | omega | (simp; done) | (simp; omega))) only [↓at_runK, ↓at_bind, ↓contQ_mk, ↓at_ret, ↓at_consK, ↓at_nilK, ↓at_optK, ↓at_intK, ↓at_boolK, ↓at_strK, ↓at_slK, ↓at_slOK, ↓at_slK0, ↓at_slOK0, ↓at_aggK, ↓at_cond_t, ↓at_cond_f, ↓at_sameL, ↓at_any1, ↓at_any, and_self, toBytes_bys, List.nil_append, List.append_nil, List.drop_zero, List.take_succ_cons, List.take_zero, List.getElem?_cons_succ, List.getElem?_cons_zero, cells_agg, eqCells_cons, eqCells_nil, eq1_int, eq1_bool, eq1_str, ↓at_ptr_whole, ↓at_ptr_cell, ↓at_ptr_obj, ↓at_ptr_objs, shift_obj, shift_elt, toA_val, toA_own, Int.toNat_natCast, List.cons_append, rright_run, hr, rsize_run hr hd]
      rfl
    · rw [if_neg hl]
      have e1 : IntKind.u64.wrap l = ((l.toNat : Nat) : Int) := by rw [wrap_u64_id (by omega) (by omega)]; omega
      have e2 : IntKind.u64.wrap (IntKind.i64.wrap (l - p)) = (((l - p).toNat : Nat) : Int) := by rw [wrap_i64_id (by omega) (by omega), wrap_u64_id (by omega) (by omega)]; omega
      have h1 := (enc_length 9 l.toNat (lt_128_10 (by omega))).2
      have h2 := (enc_length 9 (l - p).toNat (lt_128_10 (by omega))).2
      have hb := two_bytes (k := k) (c := c) (by omega) (by omega)
      have hdl : dt.length ≤ 512 := by
        simp only [rbytes, List.length_append] at hl; omega
      simp (disch := (first | assumption | (simp only [Bool.and_eq_true, Bool.and_eq_false_iff, decide_eq_true_eq, decide_eq_false_iff_not, bne_iff_ne, beq_iff_eq, beq_eq_false_iff_ne, bne_eq_false_iff_eq, Bool.not_eq_true', Bool.not_eq_false', bys_length, List.length_append, List.length_cons, List.length_nil, List.length_map, List.length_drop, List.length_take, Int.natCast_add, wrap_i64_eq, wrap_u64, wrap_u8, ne_eq, not_true_eq_false, not_false_eq_true, Nat.zero_add, Nat.mul_one] <;> omega) | omega | (simp; done) | (simp; omega))) only [↓at_runK, ↓at_bind, ↓contQ_mk, ↓at_ret, ↓at_consK, ↓at_nilK, ↓at_optK, ↓at_intK, ↓at_boolK, ↓at_strK, ↓at_slK, ↓at_slOK, ↓at_slK0, ↓at_slOK0, ↓at_aggK, ↓at_cond_t, ↓at_cond_f, ↓at_sameL, ↓at_any1, ↓at_any, and_self, toBytes_bys, List.nil_append, List.append_nil, List.drop_zero, List.take_succ_cons, List.take_zero, List.getElem?_cons_succ, List.getElem?_cons_zero, cells_agg, eqCells_cons, eqCells_nil, eq1_int, eq1_bool, eq1_str, ↓at_ptr_whole, ↓at_ptr_cell, ↓at_ptr_obj, ↓at_ptr_objs, shift_obj, shift_elt, toA_val, toA_own, Int.toNat_natCast, List.cons_append, rright_run, hr, rsize_run hr hd, hb, e1, e2, put_run, ← bys_append]
      rfl
theorem rrbytes_run {d : Nat} {k c l p : Int} {f : Bool} {dt : List UInt8} {h : Heap} {Q : Res → Prop} {tg : Hid Q} (hr : rright k c l p = true) (hd : dt.length ≤ 140737488351232) :
    Run (evFn Cw (d + 2) 24 [.agg [.int .i64 k, .int .i64 c, .int .i64 l, .int .i64 p, .sl f 0 (bys dt)]] h) Q tg = Q ([.sl false 0 (bys (rbytes k c l p dt))], h) := by
  have hs := hr
  simp only [rright, decide_eq_true_eq] at hs
  have e1 : IntKind.u64.wrap l = ((l.toNat : Nat) : Int) := by rw [wrap_u64_id (by omega) (by omega)]; omega
  have e2 : IntKind.u64.wrap (IntKind.i64.wrap (l - p)) = (((l - p).toNat : Nat) : Int) := by rw [wrap_i64_id (by omega) (by omega), wrap_u64_id (by omega) (by omega)]; omega
  have h1 := (enc_length 9 l.toNat (lt_128_10 (by omega))).2
  have h2 := (enc_length 9 (l - p).toNat (lt_128_10 (by omega))).2
  have hb := two_bytes (k := k) (c := c) (by omega) (by omega)
  rw [F24_eq]
  simp (disch := (first | assumption | (simp only [Bool.and_eq_true, Bool.and_eq_false_iff, decide_eq_true_eq, decide_eq_false_iff_not, bne_iff_ne, beq_iff_eq, beq_eq_false_iff_ne, bne_eq_false_iff_eq, Bool.not_eq_true', Bool.not_eq_false', bys_length, List.length_append, List.length_cons, List.length_nil, List.length_map, List.length_drop, List.length_take, Int.natCast_add, wrap_i64_eq, wrap_u64, wrap_u8, ne_eq, not_true_eq_false, not_false_eq_true, Nat.zero_add, Nat.mul_one] <;> omega) | omega | (simp; done) | (simp; omega))) only [↓at_runK, ↓at_bind, ↓contQ_mk, ↓at_ret, ↓at_consK, ↓at_nilK, ↓at_optK, ↓at_intK, ↓at_boolK, ↓at_strK, ↓at_slK, ↓at_slOK, ↓at_slK0, ↓at_slOK0, ↓at_aggK, ↓at_cond_t, ↓at_cond_f, ↓at_sameL, ↓at_any1, ↓at_any, and_self, toBytes_bys, List.nil_append, List.append_nil, List.drop_zero, List.take_succ_cons, List.take_zero, List.getElem?_cons_succ, List.getElem?_cons_zero, cells_agg, eqCells_cons, eqCells_nil, eq1_int, eq1_bool, eq1_str, ↓at_ptr_whole, ↓at_ptr_cell, ↓at_ptr_obj, ↓at_ptr_objs, shift_obj, shift_elt, toA_val, toA_own, Int.toNat_natCast, List.cons_append, hb, e1, e2, rput_run', ← bys_append]
  rfl
theorem rrencode_run {d : Nat} {k c l p : Int} {f : Bool} {dt : List UInt8} {h : Heap} {Q : Res → Prop} {tg : Hid Q} (hd : dt.length ≤ 140737488351232) :
    Run (evFn Cw (d + 3) 20 [.agg [.int .i64 k, .int .i64 c, .int .i64 l, .int .i64 p, .sl f 0 (bys dt)]] h) Q tg = Q ([.sl (decide (rencE k c l p dt ≠ 0)) 0 (bys (if rencE k c l p dt = 0 then rbytes k c l p dt else [])), .int .i64 (rencE k c l p dt : Nat)], h) := by
  rw [F20_eq]
  unfold rencE
  cases hr : rright k c l p
  · rw [if_pos rfl]
    simp (disch := (first | assumption | (simp only [Bool.and_eq_true, Bool.and_eq_false_iff, decide_eq_true_eq, decide_eq_false_iff_not, bne_iff_ne, beq_iff_eq, beq_eq_false_iff_ne, bne_eq_false_iff_eq, Bool.not_eq_true', Bool.not_eq_false', bys_length, List.length_append, List.length_cons, List.length_nil, List.length_map, List.length_drop, List.length_take, Int.natCast_add, wrap_i64_eq, wrap_u64, wrap_u8, ne_eq, not_true_eq_false, not_false_eq_true, Nat.zero_add, Nat.mul_one] <;> omega) | omega | (simp; done) | (simp; omega))) only [↓at_runK, ↓at_bind, ↓contQ_mk, ↓at_ret, ↓at_consK, ↓at_nilK, ↓at_optK, ↓at_intK, ↓at_boolK, ↓at_strK, ↓at_slK, ↓at_slOK, ↓at_slK0, ↓at_slOK0, ↓at_aggK, ↓at_cond_t, ↓at_cond_f, ↓at_sameL, ↓at_any1, ↓at_any, and_self, toBytes_bys, List.nil_append, List.append_nil, List.drop_zero, List.take_succ_cons, List.take_zero, List.getElem?_cons_succ, List.getElem?_cons_zero, cells_agg, eqCells_cons, eqCells_nil, eq1_int, eq1_bool, eq1_str, ↓at_ptr_whole, ↓at_ptr_cell, ↓at_ptr_obj, ↓at_ptr_objs, shift_obj, shift_elt, toA_val, toA_own, Int.toNat_natCast, List.cons_append, ref_right_run, hr]
    rfl
  · rw [if_neg (by simp)]
    by_cases hl : (rbytes k c l p dt).length > 512
    · rw [if_pos hl]
      simp (disch := (first | assumption | (simp only [Bool.and_eq_true, Bool.and_eq_false_iff, decide_eq_true_eq, decide_eq_false_iff_not, bne_iff_ne, beq_iff_eq, beq_eq_false_iff_ne, bne_eq_false_iff_eq, Bool.not_eq_true', Bool.not_eq_false', bys_length, List.length_append, List.length_cons, List.length_nil, List.length_map, List.length_drop, List.length_take, Int.natCast_add, wrap_i64_eq, wrap_u64, wrap_u8, ne_eq, not_true_eq_false, not_false_eq_true, Nat.zero_add, Nat.mul_one] <;> omega) | omega | (simp; done) | (simp; omega))) only [↓at_runK, ↓at_bind, ↓contQ_mk, ↓at_ret, ↓at_consK, ↓at_nilK, ↓at_optK, ↓at_intK, ↓at_boolK, ↓at_strK, ↓at_slK, ↓at_slOK, ↓at_slK0, ↓at_slOK0, ↓at_aggK, ↓at_cond_t, ↓at_cond_f, ↓at_sameL, ↓at_any1, ↓at_any, and_self, toBytes_bys, List.nil_append, List.append_nil, List.drop_zero, List.take_succ_cons, List.take_zero, List.getElem?_cons_succ, List.getElem?_cons_zero, cells_agg, eqCells_cons, eqCells_nil, eq1_int, eq1_bool, eq1_str, ↓at_ptr_whole, ↓at_ptr_cell, ↓at_ptr_obj, ↓at_ptr_objs, shift_obj, shift_elt, toA_val, toA_own, Int.toNat_natCast, List.cons_append, ref_right_run, hr, rrbytes_run hr hd]
      rfl
    · rw [if_neg hl]
      simp (disch := (first | assumption | (simp only [Bool.and_eq_true, Bool.and_eq_false_iff, decide_eq_true_eq, decide_eq_false_iff_not, bne_iff_ne, beq_iff_eq, beq_eq_false_iff_ne, bne_eq_false_iff_eq, Bool.not_eq_true', Bool.not_eq_false', bys_length, List.length_append, List.length_cons, List.length_nil, List.length_map, List.length_drop, List.length_take, Int.natCast_add, wrap_i64_eq, wrap_u64, wrap_u8, ne_eq, not_true_eq_false, not_false_eq_true, Nat.zero_add, Nat.mul_one] <;> omega) | omega | (simp; done) | (simp; omega))) only [↓at_runK, ↓at_bind, ↓contQ_mk, ↓at_ret, ↓at_consK, ↓at_nilK, ↓at_optK, ↓at_intK, ↓at_boolK, ↓at_strK, ↓at_slK, ↓at_slOK, ↓at_slK0, ↓at_slOK0, ↓at_aggK, ↓at_cond_t, ↓at_cond_f, ↓at_sameL, ↓at_any1, ↓at_any, and_self, toBytes_bys, List.nil_append, List.append_nil, List.drop_zero, List.take_succ_cons, List.take_zero, List.getElem?_cons_succ, List.getElem?_cons_zero, cells_agg, eqCells_cons, eqCells_nil, eq1_int, eq1_bool, eq1_str, ↓at_ptr_whole, ↓at_ptr_cell, ↓at_ptr_obj, ↓at_ptr_objs, shift_obj, shift_elt, toA_val, toA_own, Int.toNat_natCast, List.cons_append, ref_right_run, hr, rrbytes_run hr hd]
      rfl

/-! ### Decoded -/
structure RD where
  e : Nat
  k : Int
  c : Int
  l : Int
  p : Int
  dt : List UInt8
def RD.bad (e : Nat) : RD := ⟨e, 0, 0, 0, 0, []⟩
noncomputable def rdec (b : List UInt8) : RD :=
  if h : 512 < b.length then .bad 5 else if h2 : b.length < 2 then .bad 1 else
  if (getF (b.drop 2) 0 0).2.2 ≠ 0 then .bad (getF (b.drop 2) 0 0).2.2 else
  if (getF (b.drop (2 + (getF (b.drop 2) 0 0).2.1)) 0 0).2.2 ≠ 0 then .bad (getF (b.drop (2 + (getF (b.drop 2) 0 0).2.1)) 0 0).2.2 else
  if (getF (b.drop 2) 0 0).1 ≤ 2147483647 ∧ 1 ≤ (getF (b.drop (2 + (getF (b.drop 2) 0 0).2.1)) 0 0).1 ∧ (getF (b.drop (2 + (getF (b.drop 2) 0 0).2.1)) 0 0).1 ≤ (getF (b.drop 2) 0 0).1 ∧
      rright ((b[0]'(by omega)).toNat : Nat) ((b[1]'(by omega)).toNat : Nat) (getF (b.drop 2) 0 0).1 ((getF (b.drop 2) 0 0).1 - (getF (b.drop (2 + (getF (b.drop 2) 0 0).2.1)) 0 0).1) = true then
    ⟨0, ((b[0]'(by omega)).toNat : Nat), ((b[1]'(by omega)).toNat : Nat), (getF (b.drop 2) 0 0).1, (getF (b.drop 2) 0 0).1 - (getF (b.drop (2 + (getF (b.drop 2) 0 0).2.1)) 0 0).1,
      b.drop (2 + (getF (b.drop 2) 0 0).2.1 + (getF (b.drop (2 + (getF (b.drop 2) 0 0).2.1)) 0 0).2.1)⟩
  else .bad 2
noncomputable def RD.A (r : RD) : AVal := .agg [.int .i64 r.k, .int .i64 r.c, .int .i64 r.l, .int .i64 r.p, .sl (decide (r.e ≠ 0)) 0 (bys r.dt)]
theorem RD.bad_A {e : Nat} (he : e ≠ 0) : (RD.bad e).A = .agg [.int .i64 0, .int .i64 0, .int .i64 0, .int .i64 0, .sl true 0 []] := by simp [RD.bad, RD.A, he, bys_nil]

def capN (n : Nat) : Nat := if 2147483648 < n then 2147483648 else n
theorem number_run {d : Nat} {f : Bool} {l : List UInt8} {h : Heap} {Q : Res → Prop} {tg : Hid Q} (hl : l.length ≤ 140737488351232) :
    Run (evFn Cw (d + 2) 71 [.sl f 0 (bys l)] h) Q tg = if (getF l 0 0).2.2 = 0 then Q ([.int .i64 (capN (getF l 0 0).1 : Nat), .sl f 0 (bys (l.drop (getF l 0 0).2.1)), .int .i64 0], h) else Q ([.int .i64 0, .sl true 0 [], .int .i64 (getF l 0 0).2.2], h) := by
  rw [F71_eq]
  by_cases he : (getF l 0 0).2.2 = 0
  · have ⟨h1, h2, h3⟩ := getF_ok he
    have e1 : IntKind.i64.wrap (if (2147483648 : Int) < (((getF l 0 0).1 : Nat) : Int) then 2147483648 else (((getF l 0 0).1 : Nat) : Int)) = (capN (getF l 0 0).1 : Nat) := by
      unfold capN
      by_cases hc : 2147483648 < (getF l 0 0).1
      · rw [if_pos (by omega), if_pos hc]; decide
      · rw [if_neg (by omega), if_neg hc, wrap_i64_id (by omega) (by omega)]
    rw [if_pos he]
    simp (disch := (first | assumption | (simp only [Bool.and_eq_true, Bool.and_eq_false_iff, decide_eq_true_eq, decide_eq_false_iff_not, bne_iff_ne, beq_iff_eq, beq_eq_false_iff_ne, bne_eq_false_iff_eq, Bool.not_eq_true', Bool.not_eq_false', bys_length, List.length_append, List.length_cons, List.length_nil, List.length_map, List.length_drop, List.length_take, Int.natCast_add, wrap_i64_eq, wrap_u64, wrap_u8, ne_eq, not_true_eq_false, not_false_eq_true, Nat.zero_add, Nat.mul_one] <;> omega) | omega | (simp; done) | (simp; omega))) only [↓at_runK, ↓at_bind, ↓contQ_mk, ↓at_ret, ↓at_consK, ↓at_nilK, ↓at_optK, ↓at_intK, ↓at_boolK, ↓at_strK, ↓at_slK, ↓at_slOK, ↓at_slK0, ↓at_slOK0, ↓at_aggK, ↓at_cond_t, ↓at_cond_f, ↓at_sameL, ↓at_any1, ↓at_any, and_self, toBytes_bys, List.nil_append, List.append_nil, List.drop_zero, List.take_succ_cons, List.take_zero, List.getElem?_cons_succ, List.getElem?_cons_zero, cells_agg, eqCells_cons, eqCells_nil, eq1_int, eq1_bool, eq1_str, ↓at_ptr_whole, ↓at_ptr_cell, ↓at_ptr_obj, ↓at_ptr_objs, shift_obj, shift_elt, toA_val, toA_own, Int.toNat_natCast, List.cons_append, get_run, part_drop, e1]
  · rw [if_neg he]
    simp (disch := (first | assumption | (simp only [Bool.and_eq_true, Bool.and_eq_false_iff, decide_eq_true_eq, decide_eq_false_iff_not, bne_iff_ne, beq_iff_eq, beq_eq_false_iff_ne, bne_eq_false_iff_eq, Bool.not_eq_true', Bool.not_eq_false', bys_length, List.length_append, List.length_cons, List.length_nil, List.length_map, List.length_drop, List.length_take, Int.natCast_add, wrap_i64_eq, wrap_u64, wrap_u8, ne_eq, not_true_eq_false, not_false_eq_true, Nat.zero_add, Nat.mul_one] <;> omega) | omega | (simp; done) | (simp; omega))) only [↓at_runK, ↓at_bind, ↓contQ_mk, ↓at_ret, ↓at_consK, ↓at_nilK, ↓at_optK, ↓at_intK, ↓at_boolK, ↓at_strK, ↓at_slK, ↓at_slOK, ↓at_slK0, ↓at_slOK0, ↓at_aggK, ↓at_cond_t, ↓at_cond_f, ↓at_sameL, ↓at_any1, ↓at_any, and_self, toBytes_bys, List.nil_append, List.append_nil, List.drop_zero, List.take_succ_cons, List.take_zero, List.getElem?_cons_succ, List.getElem?_cons_zero, cells_agg, eqCells_cons, eqCells_nil, eq1_int, eq1_bool, eq1_str, ↓at_ptr_whole, ↓at_ptr_cell, ↓at_ptr_obj, ↓at_ptr_objs, shift_obj, shift_elt, toA_val, toA_own, Int.toNat_natCast, List.cons_append, get_run]
theorem byte_wrap (x : UInt8) : IntKind.i64.wrap ((x.toNat : Nat) : Int) = (x.toNat : Nat) := by
  have := x.toNat_lt
  exact wrap_i64_id (by omega) (by omega)
theorem ofByte_int (x : UInt8) : ofByte x = AVal.int .u8 (x.toNat : Int) := of_eq_true (eq_self _)
theorem rdecode_run {d : Nat} {f : Bool} {b : List UInt8} {h : Heap} {Q : Res → Prop} {tg : Hid Q} :
    Run (evFn Cw (d + 3) 16 [.sl f 0 (bys b)] h) Q tg = Q ([(rdec b).A, .int .i64 (rdec b).e], h) := by
  rw [F16_eq]
  unfold rdec
  by_cases h1 : 512 < b.length
  · rw [dif_pos h1, RD.bad_A (by omega)]
    simp (disch := (first | assumption | (simp only [Bool.and_eq_true, Bool.and_eq_false_iff, decide_eq_true_eq, decide_eq_false_iff_not, bne_iff_ne, beq_iff_eq, beq_eq_false_iff_ne, bne_eq_false_iff_eq, Bool.not_eq_true', Bool.not_eq_false', bys_length, List.length_append, List.length_cons, List.length_nil, List.length_map, List.length_drop, List.length_take, Int.natCast_add, wrap_i64_eq, wrap_u64, wrap_u8, ne_eq, not_true_eq_false, not_false_eq_true, Nat.zero_add, Nat.mul_one] <;> omega) | omega | (simp; done) | (simp; omega))) only [↓at_runK, ↓at_bind, ↓contQ_mk, ↓at_ret, ↓at_consK, ↓at_nilK, ↓at_optK, ↓at_intK, ↓at_boolK, ↓at_strK, ↓at_slK, ↓at_slOK, ↓at_slK0, ↓at_slOK0, ↓at_aggK, ↓at_cond_t, ↓at_cond_f, ↓at_sameL, ↓at_any1, ↓at_any, and_self, toBytes_bys, List.nil_append, List.append_nil, List.drop_zero, List.take_succ_cons, List.take_zero, List.getElem?_cons_succ, List.getElem?_cons_zero, cells_agg, eqCells_cons, eqCells_nil, eq1_int, eq1_bool, eq1_str, ↓at_ptr_whole, ↓at_ptr_cell, ↓at_ptr_obj, ↓at_ptr_objs, shift_obj, shift_elt, toA_val, toA_own, Int.toNat_natCast, List.cons_append, bys_length]
    rfl
  · rw [dif_neg h1]
    by_cases h2 : b.length < 2
    · rw [dif_pos h2, RD.bad_A (by omega)]
      simp (disch := (first | assumption | (simp only [Bool.and_eq_true, Bool.and_eq_false_iff, decide_eq_true_eq, decide_eq_false_iff_not, bne_iff_ne, beq_iff_eq, beq_eq_false_iff_ne, bne_eq_false_iff_eq, Bool.not_eq_true', Bool.not_eq_false', bys_length, List.length_append, List.length_cons, List.length_nil, List.length_map, List.length_drop, List.length_take, Int.natCast_add, wrap_i64_eq, wrap_u64, wrap_u8, ne_eq, not_true_eq_false, not_false_eq_true, Nat.zero_add, Nat.mul_one] <;> omega) | omega | (simp; done) | (simp; omega))) only [↓at_runK, ↓at_bind, ↓contQ_mk, ↓at_ret, ↓at_consK, ↓at_nilK, ↓at_optK, ↓at_intK, ↓at_boolK, ↓at_strK, ↓at_slK, ↓at_slOK, ↓at_slK0, ↓at_slOK0, ↓at_aggK, ↓at_cond_t, ↓at_cond_f, ↓at_sameL, ↓at_any1, ↓at_any, and_self, toBytes_bys, List.nil_append, List.append_nil, List.drop_zero, List.take_succ_cons, List.take_zero, List.getElem?_cons_succ, List.getElem?_cons_zero, cells_agg, eqCells_cons, eqCells_nil, eq1_int, eq1_bool, eq1_str, ↓at_ptr_whole, ↓at_ptr_cell, ↓at_ptr_obj, ↓at_ptr_objs, shift_obj, shift_elt, toA_val, toA_own, Int.toNat_natCast, List.cons_append, bys_length]
      rfl
    · rw [dif_neg h2]
      have g0 : (bys b).getD 0 AVal.undef = .int .u8 ((b[0]'(by omega)).toNat : Int) := bys_getD (by omega)
      have g1 : (bys b).getD 1 AVal.undef = .int .u8 ((b[1]'(by omega)).toNat : Int) := bys_getD (by omega)
      have hp : Weave.part 2 (b.length : Int) (bys b) = bys (b.drop 2) := by
        have := part_drop (l := b) (k := 2)
        rw [bys_length] at this
        exact this
      have hl2 : (b.drop 2).length ≤ 140737488351232 := by rw [List.length_drop]; omega
      by_cases he : (getF (b.drop 2) 0 0).2.2 = 0
      · have ⟨q1, q2, q3⟩ := getF_ok he
        rw [if_neg (by simp [he])]
        rw [List.length_drop] at q2
        have hl3 : ((b.drop 2).drop (getF (b.drop 2) 0 0).2.1).length ≤ 140737488351232 := by simp; omega
        have hn1 := fun (f : Bool) (Q : Res → Prop) (tg : Hid Q) => number_run (d := d) (f := f) (h := h) (Q := Q) (tg := tg) hl2
        simp only [if_pos he] at hn1
        have hn2 := fun (f : Bool) (Q : Res → Prop) (tg : Hid Q) => number_run (d := d) (f := f) (h := h) (Q := Q) (tg := tg) hl3
        simp only [List.drop_drop] at hn1 hn2
        by_cases he2 : (getF (b.drop (2 + (getF (b.drop 2) 0 0).2.1)) 0 0).2.2 = 0
        · have ⟨r1, r2, r3⟩ := getF_ok he2
          rw [List.length_drop] at r2
          simp only [if_pos he2] at hn2
          rw [if_neg (by simp [he2])]
          generalize hN : (getF (b.drop 2) 0 0).1 = N at *
          generalize hM : (getF (b.drop (2 + (getF (b.drop 2) 0 0).2.1)) 0 0).1 = M at *
          have hcN : capN N ≤ 2147483648 := by unfold capN; split <;> omega
          have hcM : capN M ≤ 2147483648 := by unfold capN; split <;> omega
          have w : IntKind.i64.wrap ((capN N : Nat) - (capN M : Nat) : Int) = (capN N : Nat) - (capN M : Nat) := wrap_i64_id (by omega) (by omega)
          have hb0 := (b[0]'(by omega)).toNat_lt
          have hb1 := (b[1]'(by omega)).toNat_lt
          by_cases hok : N ≤ 2147483647 ∧ 1 ≤ M ∧ M ≤ N ∧ rright ((b[0]'(by omega)).toNat : Nat) ((b[1]'(by omega)).toNat : Nat) N (N - M) = true
          · have eN : capN N = N := by unfold capN; rw [if_neg (by omega)]
            have eM : capN M = M := by unfold capN; rw [if_neg (by omega)]
            rw [eN, eM] at w
            rw [eN] at hn1
            rw [eM] at hn2
            rw [if_pos hok]
            simp (disch := (first | assumption | (simp only [Bool.and_eq_true, Bool.and_eq_false_iff, decide_eq_true_eq, decide_eq_false_iff_not, bne_iff_ne, beq_iff_eq, beq_eq_false_iff_ne, bne_eq_false_iff_eq, Bool.not_eq_true', Bool.not_eq_false', bys_length, List.length_append, List.length_cons, List.length_nil, List.length_map, List.length_drop, List.length_take, Int.natCast_add, wrap_i64_eq, wrap_u64, wrap_u8, ne_eq, not_true_eq_false, not_false_eq_true, Nat.zero_add, Nat.mul_one] <;> omega) | omega | (simp; done) | (simp; omega))) only [↓at_runK, ↓at_bind, ↓contQ_mk, ↓at_ret, ↓at_consK, ↓at_nilK, ↓at_optK, ↓at_intK, ↓at_boolK, ↓at_strK, ↓at_slK, ↓at_slOK, ↓at_slK0, ↓at_slOK0, ↓at_aggK, ↓at_cond_t, ↓at_cond_f, ↓at_sameL, ↓at_any1, ↓at_any, and_self, toBytes_bys, List.nil_append, List.append_nil, List.drop_zero, List.take_succ_cons, List.take_zero, List.getElem?_cons_succ, List.getElem?_cons_zero, cells_agg, eqCells_cons, eqCells_nil, eq1_int, eq1_bool, eq1_str, ↓at_ptr_whole, ↓at_ptr_cell, ↓at_ptr_obj, ↓at_ptr_objs, shift_obj, shift_elt, toA_val, toA_own, Int.toNat_natCast, List.cons_append, bys_length, g0, g1, byte_wrap, P16_0_eq, hp, hn1, hn2, w, rright_run, hok.2.2.2]
            rfl
          · have hr : rright ((b[0]'(by omega)).toNat : Nat) ((b[1]'(by omega)).toNat : Nat) (capN N : Nat) ((capN N : Nat) - (capN M : Nat)) = false := by
              cases hx : rright ((b[0]'(by omega)).toNat : Nat) ((b[1]'(by omega)).toNat : Nat) (capN N : Nat) ((capN N : Nat) - (capN M : Nat))
              · rfl
              · exfalso; apply hok
                have hx' := hx
                simp only [rright, decide_eq_true_eq] at hx'
                have eN : capN N = N := by unfold capN at hx' ⊢; split at hx' <;> first | omega | (rename_i hq; rw [if_neg hq])
                have hM2 : M ≤ 2147483648 := by
                  rcases Nat.lt_or_ge 2147483648 M with hq | hq
                  · unfold capN at hx'; rw [if_pos hq] at hx'; rw [show (if 2147483648 < N then 2147483648 else N) = N from eN] at hx'; omega
                  · exact hq
                have eM : capN M = M := by unfold capN; rw [if_neg (by omega)]
                rw [eN, eM] at hx hx'
                exact ⟨by omega, by omega, by omega, hx⟩
            rw [if_neg hok, RD.bad_A (by omega)]
            simp (disch := (first | assumption | (simp only [Bool.and_eq_true, Bool.and_eq_false_iff, decide_eq_true_eq, decide_eq_false_iff_not, bne_iff_ne, beq_iff_eq, beq_eq_false_iff_ne, bne_eq_false_iff_eq, Bool.not_eq_true', Bool.not_eq_false', bys_length, List.length_append, List.length_cons, List.length_nil, List.length_map, List.length_drop, List.length_take, Int.natCast_add, wrap_i64_eq, wrap_u64, wrap_u8, ne_eq, not_true_eq_false, not_false_eq_true, Nat.zero_add, Nat.mul_one] <;> omega) | omega | (simp; done) | (simp; omega))) only [↓at_runK, ↓at_bind, ↓contQ_mk, ↓at_ret, ↓at_consK, ↓at_nilK, ↓at_optK, ↓at_intK, ↓at_boolK, ↓at_strK, ↓at_slK, ↓at_slOK, ↓at_slK0, ↓at_slOK0, ↓at_aggK, ↓at_cond_t, ↓at_cond_f, ↓at_sameL, ↓at_any1, ↓at_any, and_self, toBytes_bys, List.nil_append, List.append_nil, List.drop_zero, List.take_succ_cons, List.take_zero, List.getElem?_cons_succ, List.getElem?_cons_zero, cells_agg, eqCells_cons, eqCells_nil, eq1_int, eq1_bool, eq1_str, ↓at_ptr_whole, ↓at_ptr_cell, ↓at_ptr_obj, ↓at_ptr_objs, shift_obj, shift_elt, toA_val, toA_own, Int.toNat_natCast, List.cons_append, bys_length, g0, g1, byte_wrap, P16_0_eq, hp, hn1, hn2, w, rright_run, hr]
            rfl
        · simp only [if_neg he2] at hn2
          rw [if_pos he2, RD.bad_A he2]
          simp (disch := (first | assumption | (simp only [Bool.and_eq_true, Bool.and_eq_false_iff, decide_eq_true_eq, decide_eq_false_iff_not, bne_iff_ne, beq_iff_eq, beq_eq_false_iff_ne, bne_eq_false_iff_eq, Bool.not_eq_true', Bool.not_eq_false', bys_length, List.length_append, List.length_cons, List.length_nil, List.length_map, List.length_drop, List.length_take, Int.natCast_add, wrap_i64_eq, wrap_u64, wrap_u8, ne_eq, not_true_eq_false, not_false_eq_true, Nat.zero_add, Nat.mul_one] <;> omega) | omega | (simp; done) | (simp; omega))) only [↓at_runK, ↓at_bind, ↓contQ_mk, ↓at_ret, ↓at_consK, ↓at_nilK, ↓at_optK, ↓at_intK, ↓at_boolK, ↓at_strK, ↓at_slK, ↓at_slOK, ↓at_slK0, ↓at_slOK0, ↓at_aggK, ↓at_cond_t, ↓at_cond_f, ↓at_sameL, ↓at_any1, ↓at_any, and_self, toBytes_bys, List.nil_append, List.append_nil, List.drop_zero, List.take_succ_cons, List.take_zero, List.getElem?_cons_succ, List.getElem?_cons_zero, cells_agg, eqCells_cons, eqCells_nil, eq1_int, eq1_bool, eq1_str, ↓at_ptr_whole, ↓at_ptr_cell, ↓at_ptr_obj, ↓at_ptr_objs, shift_obj, shift_elt, toA_val, toA_own, Int.toNat_natCast, List.cons_append, bys_length, g0, g1, byte_wrap, P16_0_eq, hp, hn1, hn2]
          rfl
      · have hn1 := fun (f : Bool) (Q : Res → Prop) (tg : Hid Q) => number_run (d := d) (f := f) (h := h) (Q := Q) (tg := tg) hl2
        simp only [if_neg he] at hn1
        rw [if_pos he, RD.bad_A he]
        simp (disch := (first | assumption | (simp only [Bool.and_eq_true, Bool.and_eq_false_iff, decide_eq_true_eq, decide_eq_false_iff_not, bne_iff_ne, beq_iff_eq, beq_eq_false_iff_ne, bne_eq_false_iff_eq, Bool.not_eq_true', Bool.not_eq_false', bys_length, List.length_append, List.length_cons, List.length_nil, List.length_map, List.length_drop, List.length_take, Int.natCast_add, wrap_i64_eq, wrap_u64, wrap_u8, ne_eq, not_true_eq_false, not_false_eq_true, Nat.zero_add, Nat.mul_one] <;> omega) | omega | (simp; done) | (simp; omega))) only [↓at_runK, ↓at_bind, ↓contQ_mk, ↓at_ret, ↓at_consK, ↓at_nilK, ↓at_optK, ↓at_intK, ↓at_boolK, ↓at_strK, ↓at_slK, ↓at_slOK, ↓at_slK0, ↓at_slOK0, ↓at_aggK, ↓at_cond_t, ↓at_cond_f, ↓at_sameL, ↓at_any1, ↓at_any, and_self, toBytes_bys, List.nil_append, List.append_nil, List.drop_zero, List.take_succ_cons, List.take_zero, List.getElem?_cons_succ, List.getElem?_cons_zero, cells_agg, eqCells_cons, eqCells_nil, eq1_int, eq1_bool, eq1_str, ↓at_ptr_whole, ↓at_ptr_cell, ↓at_ptr_obj, ↓at_ptr_objs, shift_obj, shift_elt, toA_val, toA_own, Int.toNat_natCast, List.cons_append, bys_length, g0, g1, byte_wrap, P16_0_eq, hp, hn1]
        rfl
end Go.Proofs.Ytfdkkhmaikgmcaa.Wa
