/- Sums; points, awake; PointCodes. -/
import Derived.Test.YtnhhmgcjbnocfaaDoorVpb
namespace Go.Proofs.YtnhhmgcjbnocfaaDoor.Wa
open Go Go.Weave
set_option maxRecDepth 100000
set_option linter.unusedSimpArgs false
set_option linter.unusedVariables false
set_option linter.unusedSectionVars false

/-! ### The sum -/
def t16 : List Nat := [0, 274646895, 549293790, 820201905, 1098587580, 1361435347, 1640403810, 1905808397, 2197175160, 2460548119, 2722870694, 2987750089, 3280807620, 3553878443, 3811616794, 4084100981]
def tabL : List AVal := t16.map fun (n : Nat) => AVal.int .u32 (n : Int)
theorem tabL_eq : [(AVal.int .u32 0), (AVal.int .u32 274646895), (AVal.int .u32 549293790), (AVal.int .u32 820201905), (AVal.int .u32 1098587580), (AVal.int .u32 1361435347), (AVal.int .u32 1640403810), (AVal.int .u32 1905808397), (AVal.int .u32 2197175160), (AVal.int .u32 2460548119), (AVal.int .u32 2722870694), (AVal.int .u32 2987750089), (AVal.int .u32 3280807620), (AVal.int .u32 3553878443), (AVal.int .u32 3811616794), (AVal.int .u32 4084100981)] = tabL := rfl
theorem t16_lt : ∀ r, r < 16 → t16.getD r 0 < 4294967296 := by decide
theorem tabL_get {r : Nat} (h : r < 16) : tabL[0 + r * 1]? = some (AVal.int .u32 (t16.getD r 0 : Nat)) := by
  have hl : t16.length = 16 := rfl
  rw [Nat.zero_add, Nat.mul_one]
  unfold tabL
  rw [List.getElem?_map, List.getElem?_eq_getElem (by omega)]
  simp [List.getD_eq_getElem?_getD, List.getElem?_eq_getElem (show r < t16.length by omega)]
def fourN (x : Nat) : Nat := t16.getD (x % 16) 0 ^^^ (x / 16)
theorem bv32 {n : Nat} (h : n < 4294967296) : (BitVec.ofInt 32 (n : Int)).toNat = n := by simp; omega
theorem xor_lt {a b : Nat} (ha : a < 4294967296) (hb : b < 4294967296) : a ^^^ b < 4294967296 := Nat.xor_lt_two_pow (n := 32) ha hb
theorem xor_wrap {a b : Nat} (ha : a < 4294967296) (hb : b < 4294967296) : IntKind.u32.wrap (BitVec.ofInt 32 (a : Int) ^^^ BitVec.ofInt 32 (b : Int)).toNat = ((a ^^^ b : Nat) : Int) := by
  rw [BitVec.toNat_xor, bv32 ha, bv32 hb]; exact u32_id (xor_lt ha hb)
theorem fourN_lt {x : Nat} (h : x < 4294967296) : fourN x < 4294967296 := xor_lt (t16_lt _ (by omega)) (by omega)
theorem four_run {d x : Nat} (hx : x < 4294967296) {h : Heap} {Q : Res → Prop} {tg : Hid Q} : Run (evFn Cw (d + 1) 25 [.int .u32 x] h) Q tg = Q ([.int .u32 (fourN x : Nat)], h) := by
  have e1 : IntKind.u32.wrap (BitVec.ofInt 32 (x : Int) &&& BitVec.ofInt 32 15).toNat = ((x % 16 : Nat) : Int) := by
    have h15 : (BitVec.ofInt 32 15).toNat = 15 := by decide
    have h2 : x &&& 15 = x % 16 := Nat.and_two_pow_sub_one_eq_mod x 4
    rw [BitVec.toNat_and, bv32 hx, h15, h2]; exact u32_id (by omega)
  have e2 : Int.fdiv (x : Int) (2 ^ 4) = ((x / 16 : Nat) : Int) := fdiv_nat x 16
  have e3 := xor_wrap (t16_lt (x % 16) (by omega)) (show x / 16 < 4294967296 by omega)
  have e4 := tabL_get (r := x % 16) (by omega)
  rw [F25_eq, tabL_eq]
  simp (disch := (first | assumption | (simp only [Bool.and_eq_true, Bool.and_eq_false_iff, decide_eq_true_eq, decide_eq_false_iff_not, bne_iff_ne, beq_iff_eq, beq_eq_false_iff_ne, bne_eq_false_iff_eq, Bool.not_eq_true', Bool.not_eq_false', bys_length, List.length_append, List.length_cons, List.length_nil, List.length_map, List.length_drop, List.length_take, Int.natCast_add, wrap_i64_eq, wrap_u64, wrap_u8, ne_eq, not_true_eq_false, not_false_eq_true, Nat.zero_add, Nat.mul_one] <;> omega) | omega | (simp; done) | (simp; omega))) only [↓at_runK, ↓at_bind, ↓contQ_mk, ↓at_ret, ↓at_consK, ↓at_nilK, ↓at_optK, ↓at_intK, ↓at_boolK, ↓at_strK, ↓at_slK, ↓at_slOK, ↓at_slK0, ↓at_slOK0, ↓at_aggK, ↓at_cond_t, ↓at_cond_f, ↓at_sameL, ↓at_any1, ↓at_any, and_self, toBytes_bys, List.nil_append, List.append_nil, ↓at_nodeW, List.drop_zero, List.take_succ_cons, List.take_zero, List.getElem?_cons_succ, List.getElem?_cons_zero, cells_agg, eqCells_cons, eqCells_nil, eq1_int, eq1_bool, eq1_str, ↓at_ptr_whole, ↓at_ptr_cell, ↓at_ptr_obj, ↓at_ptr_objs, shift_obj, shift_elt, toA_val, toA_own, Int.toNat_natCast, List.cons_append, e1, e4, e2, e3]
  rfl
def moreN (s : Nat) (l : List UInt8) : Nat := 4294967295 ^^^ (l.foldl (fun x c => fourN (fourN (x ^^^ c.toNat))) (4294967295 ^^^ s))
theorem more_lt : ∀ (l : List UInt8) (x : Nat), x < 4294967296 → l.foldl (fun x c => fourN (fourN (x ^^^ c.toNat))) x < 4294967296
  | [], _, h => h
  | c :: l, x, h => more_lt l _ (fourN_lt (fourN_lt (xor_lt h (by have := c.toNat_lt; omega))))
theorem moreN_lt {s : Nat} (hs : s < 4294967296) (l : List UInt8) : moreN s l < 4294967296 := xor_lt (by omega) (more_lt l _ (xor_lt (by omega) hs))
theorem more_loop (d : Nat) (f : Bool) (l : List UInt8) (hl : l.length ≤ 140737488351232) (h : Heap) (Q : Res → Prop) : ∀ (n j k x : Nat) (tg : Hid Q), l.length = j + n → n < k → x < 4294967296 →
    Run (P20_0 (d + 1) k x f (bys l) (l.length : Nat) j h) Q tg = Q ([.int .u32 (4294967295 ^^^ ((l.drop j).foldl (fun x c => fourN (fourN (x ^^^ c.toNat))) x) : Nat)], h) := by
  intro n
  induction n with
  | zero =>
    intro j k x tg hj hk hx
    obtain ⟨k, rfl⟩ : ∃ m, k = m + 1 := ⟨k - 1, by omega⟩
    have hd : l.drop j = [] := List.drop_eq_nil_of_le (by omega)
    have e : IntKind.u32.wrap (BitVec.ofInt 32 (IntKind.u32.max) ^^^ BitVec.ofInt 32 (x : Int)).toNat = ((4294967295 ^^^ x : Nat) : Int) := xor_wrap (a := 4294967295) (by omega) hx
    rw [P20_0_eq, hd]
    simp (disch := (first | assumption | (simp only [Bool.and_eq_true, Bool.and_eq_false_iff, decide_eq_true_eq, decide_eq_false_iff_not, bne_iff_ne, beq_iff_eq, beq_eq_false_iff_ne, bne_eq_false_iff_eq, Bool.not_eq_true', Bool.not_eq_false', bys_length, List.length_append, List.length_cons, List.length_nil, List.length_map, List.length_drop, List.length_take, Int.natCast_add, wrap_i64_eq, wrap_u64, wrap_u8, ne_eq, not_true_eq_false, not_false_eq_true, Nat.zero_add, Nat.mul_one] <;> omega) | omega | (simp; done) | (simp; omega))) only [↓at_runK, ↓at_bind, ↓contQ_mk, ↓at_ret, ↓at_consK, ↓at_nilK, ↓at_optK, ↓at_intK, ↓at_boolK, ↓at_strK, ↓at_slK, ↓at_slOK, ↓at_slK0, ↓at_slOK0, ↓at_aggK, ↓at_cond_t, ↓at_cond_f, ↓at_sameL, ↓at_any1, ↓at_any, and_self, toBytes_bys, List.nil_append, List.append_nil, ↓at_nodeW, List.drop_zero, List.take_succ_cons, List.take_zero, List.getElem?_cons_succ, List.getElem?_cons_zero, cells_agg, eqCells_cons, eqCells_nil, eq1_int, eq1_bool, eq1_str, ↓at_ptr_whole, ↓at_ptr_cell, ↓at_ptr_obj, ↓at_ptr_objs, shift_obj, shift_elt, toA_val, toA_own, Int.toNat_natCast, List.cons_append, e]
    rfl
  | succ n ih =>
    intro j k x tg hj hk hx
    obtain ⟨k, rfl⟩ : ∃ m, k = m + 1 := ⟨k - 1, by omega⟩
    have h1 : j < l.length := by omega
    have hc := (l[j]).toNat_lt
    have e1 := succ_wrap (i := j) (by omega)
    have w := u32_id (n := (l[j]).toNat) (by omega)
    have e2 := xor_wrap hx (show (l[j]).toNat < 4294967296 by omega)
    have hx1 := xor_lt hx (show (l[j]).toNat < 4294967296 by omega)
    have r1 := fun (Q : Res → Prop) (tg : Hid Q) => four_run (d := d) hx1 (h := h) (Q := Q) (tg := tg)
    have r2 := fun (Q : Res → Prop) (tg : Hid Q) => four_run (d := d) (fourN_lt hx1) (h := h) (Q := Q) (tg := tg)
    have ih' := fun tg => ih (j + 1) k _ tg (by omega) (by omega) (fourN_lt (fourN_lt hx1))
    have g : (bys l).getD j AVal.undef = .int .u8 ((l[j]).toNat : Int) := by rw [bys_getD h1]; rfl
    rw [P20_0_eq, List.drop_eq_getElem_cons h1, List.foldl_cons]
    simp (disch := (first | assumption | (simp only [Bool.and_eq_true, Bool.and_eq_false_iff, decide_eq_true_eq, decide_eq_false_iff_not, bne_iff_ne, beq_iff_eq, beq_eq_false_iff_ne, bne_eq_false_iff_eq, Bool.not_eq_true', Bool.not_eq_false', bys_length, List.length_append, List.length_cons, List.length_nil, List.length_map, List.length_drop, List.length_take, Int.natCast_add, wrap_i64_eq, wrap_u64, wrap_u8, ne_eq, not_true_eq_false, not_false_eq_true, Nat.zero_add, Nat.mul_one] <;> omega) | omega | (simp; done) | (simp; omega))) only [↓at_runK, ↓at_bind, ↓contQ_mk, ↓at_ret, ↓at_consK, ↓at_nilK, ↓at_optK, ↓at_intK, ↓at_boolK, ↓at_strK, ↓at_slK, ↓at_slOK, ↓at_slK0, ↓at_slOK0, ↓at_aggK, ↓at_cond_t, ↓at_cond_f, ↓at_sameL, ↓at_any1, ↓at_any, and_self, toBytes_bys, List.nil_append, List.append_nil, ↓at_nodeW, List.drop_zero, List.take_succ_cons, List.take_zero, List.getElem?_cons_succ, List.getElem?_cons_zero, cells_agg, eqCells_cons, eqCells_nil, eq1_int, eq1_bool, eq1_str, ↓at_ptr_whole, ↓at_ptr_cell, ↓at_ptr_obj, ↓at_ptr_objs, shift_obj, shift_elt, toA_val, toA_own, Int.toNat_natCast, List.cons_append, bys_length, g, w, e2, r1, r2, e1, ih']
theorem more_run {d s : Nat} {f : Bool} {l : List UInt8} (hs : s < 4294967296) (hl : l.length ≤ 140737488351232) {h : Heap} {Q : Res → Prop} {tg : Hid Q} :
    Run (evFn Cw (d + 2) 20 [.int .u32 s, .sl f 0 (bys l)] h) Q tg = Q ([.int .u32 (moreN s l : Nat)], h) := by
  have e : IntKind.u32.wrap (BitVec.ofInt 32 (IntKind.u32.max) ^^^ BitVec.ofInt 32 (s : Int)).toNat = ((4294967295 ^^^ s : Nat) : Int) := xor_wrap (a := 4294967295) (by omega) hs
  have r := more_loop d f l hl h Q l.length 0 rounds (4294967295 ^^^ s) ⟨⟩ (by omega) (Nat.lt_of_lt_of_le (by omega) rounds_ge) (xor_lt (by omega) hs)
  rw [e0, List.drop_zero] at r
  rw [F20_eq, e, bys_length]
  exact r

/-! ### Awake -/
theorem pk_short {l : List UInt8} (h : l.length < 128) : pk l = UInt8.ofNat l.length :: l := by
  unfold pk
  rw [if_neg (by omega), enc_lt h]; rfl
theorem fget_short {l r : List UInt8} (h : l.length < 128) : fget (UInt8.ofNat l.length :: l ++ r) = (l, l.length + 1, 0) := by
  have e : UInt8.ofNat l.length :: l ++ r = enc l.length ++ (l ++ r) := by rw [enc_lt h]; rfl
  have e1 : (enc l.length).length = 1 := by rw [enc_lt h]; rfl
  rw [e, fget_eq]
  unfold fgetW
  rw [get_enc0 _ _ (by omega)]
  simp only [e1]
  rw [if_neg (by simp), if_neg (by omega), if_neg (by simp [e1])]
  have e2 : (enc l.length ++ (l ++ r)).drop 1 = l ++ r := by rw [enc_lt h]; rfl
  rw [e2]
  simp [Nat.add_comm]
def aB : List UInt8 := [1, 97, 1, 98]
theorem aB_pks : pks [[97], [98]] = aB := by
  unfold pks
  simp only [List.flatMap_cons, List.flatMap_nil]
  rw [pk_short (by decide), pk_short (by decide)]; rfl
theorem aB_unp : unp aB = ([[97], [98]], 0) := by
  have g1 : fget aB = ([97], 2, 0) := fget_short (l := [97]) (r := [1, 98]) (by decide)
  have g2 : fget [1, 98] = ([98], 2, 0) := fget_short (l := [98]) (r := []) (by decide)
  unfold unp
  have e : aB.length = 3 + 1 := rfl
  rw [e, unpF_succ, g1, if_neg (by decide), if_pos rfl]
  have e2 : aB.drop (([97], 2, 0) : List UInt8 × Nat × Nat).2.1 = [1, 98] := rfl
  rw [e2, unpF_succ, g2, if_neg (by decide), if_pos rfl]
  have e3 : ([1, 98] : List UInt8).drop (([98], 2, 0) : List UInt8 × Nat × Nat).2.1 = [] := rfl
  rw [e3, unpF_succ, if_pos (by decide)]
  rfl
theorem ptpairs_a {d : Nat} {f : Bool} {h : Heap} {Q : Res → Prop} {tg : Hid Q} : Run (evFn Cw (d + 4) 19 [.sl f 0 (bys aB)] h) Q tg = Q ([.sl false 3 [.agg [.str [97], .str [98]]], .bool true], h) := by
  obtain ⟨k, hk⟩ : ∃ m, rounds = m + 2 := ⟨rounds - 2, by have := rounds_ge; omega⟩
  have r := fun (Q : Res → Prop) (tg : Hid Q) => unp_run (d := d) (f := f) (l := aB) (h := h) (Q := Q) (tg := tg) (by decide)
  rw [aB_unp] at r
  have c0 : ((((0 : Nat)) : Int) != 0) = false := rfl
  have cd : decide ((0 : Nat) ≠ 0) = false := rfl
  have hL : (flds [[97], [98]]).length = 2 := rfl
  have c1 : (Int.tmod ((2 : Nat) : Int) 2 != 0) = false := by decide
  have hA : (bys aB).length = 4 := rfl
  have g0 : (flds [[97], [98]]).getD (Int.toNat 0) AVal.undef = .sl false 0 (bys [97]) := rfl
  have a1 : IntKind.i64.wrap ((0 : Int) + 1) = 1 := by decide
  have a2 : IntKind.i64.wrap ((0 : Int) + 2) = 2 := by decide
  have g1 : (flds [[97], [98]]).getD (Int.toNat 1) AVal.undef = .sl false 0 (bys [98]) := rfl
  rw [F19_eq, hk]
  simp (disch := (first | assumption | (simp only [Bool.and_eq_true, Bool.and_eq_false_iff, decide_eq_true_eq, decide_eq_false_iff_not, bne_iff_ne, beq_iff_eq, beq_eq_false_iff_ne, bne_eq_false_iff_eq, Bool.not_eq_true', Bool.not_eq_false', bys_length, List.length_append, List.length_cons, List.length_nil, List.length_map, List.length_drop, List.length_take, Int.natCast_add, wrap_i64_eq, wrap_u64, wrap_u8, ne_eq, not_true_eq_false, not_false_eq_true, Nat.zero_add, Nat.mul_one] <;> omega) | omega | (simp; done) | (simp; omega))) only [↓at_runK, ↓at_bind, ↓contQ_mk, ↓at_ret, ↓at_consK, ↓at_nilK, ↓at_optK, ↓at_intK, ↓at_boolK, ↓at_strK, ↓at_slK, ↓at_slOK, ↓at_slK0, ↓at_slOK0, ↓at_aggK, ↓at_cond_t, ↓at_cond_f, ↓at_sameL, ↓at_any1, ↓at_any, and_self, toBytes_bys, List.nil_append, List.append_nil, ↓at_nodeW, List.drop_zero, List.take_succ_cons, List.take_zero, List.getElem?_cons_succ, List.getElem?_cons_zero, cells_agg, eqCells_cons, eqCells_nil, eq1_int, eq1_bool, eq1_str, ↓at_ptr_whole, ↓at_ptr_cell, ↓at_ptr_obj, ↓at_ptr_objs, shift_obj, shift_elt, toA_val, toA_own, Int.toNat_natCast, List.cons_append, r, c0, cd, hL, c1, hA]
  rw [P19_0_eq]
  simp (disch := (first | assumption | (simp only [Bool.and_eq_true, Bool.and_eq_false_iff, decide_eq_true_eq, decide_eq_false_iff_not, bne_iff_ne, beq_iff_eq, beq_eq_false_iff_ne, bne_eq_false_iff_eq, Bool.not_eq_true', Bool.not_eq_false', bys_length, List.length_append, List.length_cons, List.length_nil, List.length_map, List.length_drop, List.length_take, Int.natCast_add, wrap_i64_eq, wrap_u64, wrap_u8, ne_eq, not_true_eq_false, not_false_eq_true, Nat.zero_add, Nat.mul_one] <;> omega) | omega | (simp; done) | (simp; omega))) only [↓at_runK, ↓at_bind, ↓contQ_mk, ↓at_ret, ↓at_consK, ↓at_nilK, ↓at_optK, ↓at_intK, ↓at_boolK, ↓at_strK, ↓at_slK, ↓at_slOK, ↓at_slK0, ↓at_slOK0, ↓at_aggK, ↓at_cond_t, ↓at_cond_f, ↓at_sameL, ↓at_any1, ↓at_any, and_self, toBytes_bys, List.nil_append, List.append_nil, ↓at_nodeW, List.drop_zero, List.take_succ_cons, List.take_zero, List.getElem?_cons_succ, List.getElem?_cons_zero, cells_agg, eqCells_cons, eqCells_nil, eq1_int, eq1_bool, eq1_str, ↓at_ptr_whole, ↓at_ptr_cell, ↓at_ptr_obj, ↓at_ptr_objs, shift_obj, shift_elt, toA_val, toA_own, Int.toNat_natCast, List.cons_append, hL, g0, a1, g1, a2, List.length_nil]
  rw [P19_0_eq]
  simp (disch := (first | assumption | (simp only [Bool.and_eq_true, Bool.and_eq_false_iff, decide_eq_true_eq, decide_eq_false_iff_not, bne_iff_ne, beq_iff_eq, beq_eq_false_iff_ne, bne_eq_false_iff_eq, Bool.not_eq_true', Bool.not_eq_false', bys_length, List.length_append, List.length_cons, List.length_nil, List.length_map, List.length_drop, List.length_take, Int.natCast_add, wrap_i64_eq, wrap_u64, wrap_u8, ne_eq, not_true_eq_false, not_false_eq_true, Nat.zero_add, Nat.mul_one] <;> omega) | omega | (simp; done) | (simp; omega))) only [↓at_runK, ↓at_bind, ↓contQ_mk, ↓at_ret, ↓at_consK, ↓at_nilK, ↓at_optK, ↓at_intK, ↓at_boolK, ↓at_strK, ↓at_slK, ↓at_slOK, ↓at_slK0, ↓at_slOK0, ↓at_aggK, ↓at_cond_t, ↓at_cond_f, ↓at_sameL, ↓at_any1, ↓at_any, and_self, toBytes_bys, List.nil_append, List.append_nil, ↓at_nodeW, List.drop_zero, List.take_succ_cons, List.take_zero, List.getElem?_cons_succ, List.getElem?_cons_zero, cells_agg, eqCells_cons, eqCells_nil, eq1_int, eq1_bool, eq1_str, ↓at_ptr_whole, ↓at_ptr_cell, ↓at_ptr_obj, ↓at_ptr_objs, shift_obj, shift_elt, toA_val, toA_own, Int.toNat_natCast, List.cons_append, hL]
theorem ptof_a {d : Nat} {h : Heap} : ∃ s : Nat, ∀ (Q : Res → Prop) (tg : Hid Q), Run (evFn Cw (d + 6) 7 [.sl false 0 [.sl false 0 (bys aB)]] h) Q tg = Q ([.agg [.int .i64 1, .int .i64 1, .int .u32 s], .int .i64 0], h) := by
  obtain ⟨k, hk⟩ : ∃ m, rounds = m + 2 := ⟨rounds - 2, by have := rounds_ge; omega⟩
  refine ⟨moreN 0 aB, fun Q tg => ?_⟩
  have r := fun (Q : Res → Prop) (tg : Hid Q) => more_run (d := d + 2) (s := 0) (f := false) (l := aB) (by omega) (by decide) (h := h) (Q := Q) (tg := tg)
  have z : ((0 : Nat) : Int) = 0 := rfl
  rw [z] at r
  have hL : ([.sl false 0 (bys aB)] : List AVal).length = 1 := rfl
  have g0 : ([.sl false 0 (bys aB)] : List AVal).getD (Int.toNat 0) AVal.undef = .sl false 0 (bys aB) := rfl
  have a1 : IntKind.i64.wrap ((0 : Int) + 1) = 1 := by decide
  have hP : ([.agg [.str [97], .str [98]]] : List AVal).length = 1 := rfl
  have ra : ∀ (Q : Res → Prop) (tg : Hid Q), Run (evFn Cw (d + 5) 12 [.sl false 0 [.sl false 0 (bys aB)]] h) Q tg = Q ([.sl false 3 [.agg [.str [97], .str [98]]], .agg [.int .i64 1, .int .i64 1, .int .u32 (moreN 0 aB : Nat)], .bool true], h) := fun Q tg => by
    rw [F12_eq, hk, hL]
    rw [P12_0_eq]
    simp (disch := (first | assumption | (simp only [Bool.and_eq_true, Bool.and_eq_false_iff, decide_eq_true_eq, decide_eq_false_iff_not, bne_iff_ne, beq_iff_eq, beq_eq_false_iff_ne, bne_eq_false_iff_eq, Bool.not_eq_true', Bool.not_eq_false', bys_length, List.length_append, List.length_cons, List.length_nil, List.length_map, List.length_drop, List.length_take, Int.natCast_add, wrap_i64_eq, wrap_u64, wrap_u8, ne_eq, not_true_eq_false, not_false_eq_true, Nat.zero_add, Nat.mul_one] <;> omega) | omega | (simp; done) | (simp; omega))) only [↓at_runK, ↓at_bind, ↓contQ_mk, ↓at_ret, ↓at_consK, ↓at_nilK, ↓at_optK, ↓at_intK, ↓at_boolK, ↓at_strK, ↓at_slK, ↓at_slOK, ↓at_slK0, ↓at_slOK0, ↓at_aggK, ↓at_cond_t, ↓at_cond_f, ↓at_sameL, ↓at_any1, ↓at_any, and_self, toBytes_bys, List.nil_append, List.append_nil, ↓at_nodeW, List.drop_zero, List.take_succ_cons, List.take_zero, List.getElem?_cons_succ, List.getElem?_cons_zero, cells_agg, eqCells_cons, eqCells_nil, eq1_int, eq1_bool, eq1_str, ↓at_ptr_whole, ↓at_ptr_cell, ↓at_ptr_obj, ↓at_ptr_objs, shift_obj, shift_elt, toA_val, toA_own, Int.toNat_natCast, List.cons_append, hL, g0, ptpairs_a, r, a1, List.length_nil, hP]
    rw [P12_0_eq]
    simp (disch := (first | assumption | (simp only [Bool.and_eq_true, Bool.and_eq_false_iff, decide_eq_true_eq, decide_eq_false_iff_not, bne_iff_ne, beq_iff_eq, beq_eq_false_iff_ne, bne_eq_false_iff_eq, Bool.not_eq_true', Bool.not_eq_false', bys_length, List.length_append, List.length_cons, List.length_nil, List.length_map, List.length_drop, List.length_take, Int.natCast_add, wrap_i64_eq, wrap_u64, wrap_u8, ne_eq, not_true_eq_false, not_false_eq_true, Nat.zero_add, Nat.mul_one] <;> omega) | omega | (simp; done) | (simp; omega))) only [↓at_runK, ↓at_bind, ↓contQ_mk, ↓at_ret, ↓at_consK, ↓at_nilK, ↓at_optK, ↓at_intK, ↓at_boolK, ↓at_strK, ↓at_slK, ↓at_slOK, ↓at_slK0, ↓at_slOK0, ↓at_aggK, ↓at_cond_t, ↓at_cond_f, ↓at_sameL, ↓at_any1, ↓at_any, and_self, toBytes_bys, List.nil_append, List.append_nil, ↓at_nodeW, List.drop_zero, List.take_succ_cons, List.take_zero, List.getElem?_cons_succ, List.getElem?_cons_zero, cells_agg, eqCells_cons, eqCells_nil, eq1_int, eq1_bool, eq1_str, ↓at_ptr_whole, ↓at_ptr_cell, ↓at_ptr_obj, ↓at_ptr_objs, shift_obj, shift_elt, toA_val, toA_own, Int.toNat_natCast, List.cons_append, hL, hP]
    rfl
  rw [F7_eq]
  simp (disch := (first | assumption | (simp only [Bool.and_eq_true, Bool.and_eq_false_iff, decide_eq_true_eq, decide_eq_false_iff_not, bne_iff_ne, beq_iff_eq, beq_eq_false_iff_ne, bne_eq_false_iff_eq, Bool.not_eq_true', Bool.not_eq_false', bys_length, List.length_append, List.length_cons, List.length_nil, List.length_map, List.length_drop, List.length_take, Int.natCast_add, wrap_i64_eq, wrap_u64, wrap_u8, ne_eq, not_true_eq_false, not_false_eq_true, Nat.zero_add, Nat.mul_one] <;> omega) | omega | (simp; done) | (simp; omega))) only [↓at_runK, ↓at_bind, ↓contQ_mk, ↓at_ret, ↓at_consK, ↓at_nilK, ↓at_optK, ↓at_intK, ↓at_boolK, ↓at_strK, ↓at_slK, ↓at_slOK, ↓at_slK0, ↓at_slOK0, ↓at_aggK, ↓at_cond_t, ↓at_cond_f, ↓at_sameL, ↓at_any1, ↓at_any, and_self, toBytes_bys, List.nil_append, List.append_nil, ↓at_nodeW, List.drop_zero, List.take_succ_cons, List.take_zero, List.getElem?_cons_succ, List.getElem?_cons_zero, cells_agg, eqCells_cons, eqCells_nil, eq1_int, eq1_bool, eq1_str, ↓at_ptr_whole, ↓at_ptr_cell, ↓at_ptr_obj, ↓at_ptr_objs, shift_obj, shift_elt, toA_val, toA_own, Int.toNat_natCast, List.cons_append, ra, Bool.not_true]
def pvA : Weave.Obj := .cells [HCell.val (.sl true 0 [])]
theorem split_a {d : Nat} {h : Heap} : ∃ h', h.ext h' ∧ ∀ (Q : Res → Prop) (tg : Hid Q), Run (evFn Cw (d + 5) 11 [.sl true 3 [.agg [.str [97], .str [98]]]] h) Q tg = Q ([.sl false 0 [.sl false 0 (bys aB)], .int .i64 0], h') := by
  obtain ⟨k, hk⟩ : ∃ m, rounds = m + 2 := ⟨rounds - 2, by have := rounds_ge; omega⟩
  have hL : ([.agg [.str [97], .str [98]]] : List AVal).length = 1 := rfl
  have g0 : ([.agg [.str [97], .str [98]]] : List AVal).getD (Int.toNat 0) AVal.undef = .agg [.str [97], .str [98]] := rfl
  have a1 : IntKind.i64.wrap ((0 : Int) + 1) = 1 := by decide
  have n1 : ([97] : List UInt8).length = 1 := rfl
  have n2 : ([98] : List UInt8).length = 1 := rfl
  have rr : ∀ (Q : Res → Prop) (tg : Hid Q), Run (evFn Cw (d + 4) 13 [.sl true 3 [.agg [.str [97], .str [98]]]] h) Q tg = Q ([.bool true], h) := fun Q tg => by
    rw [F13_eq, hk, hL]
    rw [P13_0_eq]
    simp (disch := (first | assumption | (simp only [Bool.and_eq_true, Bool.and_eq_false_iff, decide_eq_true_eq, decide_eq_false_iff_not, bne_iff_ne, beq_iff_eq, beq_eq_false_iff_ne, bne_eq_false_iff_eq, Bool.not_eq_true', Bool.not_eq_false', bys_length, List.length_append, List.length_cons, List.length_nil, List.length_map, List.length_drop, List.length_take, Int.natCast_add, wrap_i64_eq, wrap_u64, wrap_u8, ne_eq, not_true_eq_false, not_false_eq_true, Nat.zero_add, Nat.mul_one] <;> omega) | omega | (simp; done) | (simp; omega))) only [↓at_runK, ↓at_bind, ↓contQ_mk, ↓at_ret, ↓at_consK, ↓at_nilK, ↓at_optK, ↓at_intK, ↓at_boolK, ↓at_strK, ↓at_slK, ↓at_slOK, ↓at_slK0, ↓at_slOK0, ↓at_aggK, ↓at_cond_t, ↓at_cond_f, ↓at_sameL, ↓at_any1, ↓at_any, and_self, toBytes_bys, List.nil_append, List.append_nil, ↓at_nodeW, List.drop_zero, List.take_succ_cons, List.take_zero, List.getElem?_cons_succ, List.getElem?_cons_zero, cells_agg, eqCells_cons, eqCells_nil, eq1_int, eq1_bool, eq1_str, ↓at_ptr_whole, ↓at_ptr_cell, ↓at_ptr_obj, ↓at_ptr_objs, shift_obj, shift_elt, toA_val, toA_own, Int.toNat_natCast, List.cons_append, hL, g0, n1, n2, a1]
    rw [P13_0_eq]
    simp (disch := (first | assumption | (simp only [Bool.and_eq_true, Bool.and_eq_false_iff, decide_eq_true_eq, decide_eq_false_iff_not, bne_iff_ne, beq_iff_eq, beq_eq_false_iff_ne, bne_eq_false_iff_eq, Bool.not_eq_true', Bool.not_eq_false', bys_length, List.length_append, List.length_cons, List.length_nil, List.length_map, List.length_drop, List.length_take, Int.natCast_add, wrap_i64_eq, wrap_u64, wrap_u8, ne_eq, not_true_eq_false, not_false_eq_true, Nat.zero_add, Nat.mul_one] <;> omega) | omega | (simp; done) | (simp; omega))) only [↓at_runK, ↓at_bind, ↓contQ_mk, ↓at_ret, ↓at_consK, ↓at_nilK, ↓at_optK, ↓at_intK, ↓at_boolK, ↓at_strK, ↓at_slK, ↓at_slOK, ↓at_slK0, ↓at_slOK0, ↓at_aggK, ↓at_cond_t, ↓at_cond_f, ↓at_sameL, ↓at_any1, ↓at_any, and_self, toBytes_bys, List.nil_append, List.append_nil, ↓at_nodeW, List.drop_zero, List.take_succ_cons, List.take_zero, List.getElem?_cons_succ, List.getElem?_cons_zero, cells_agg, eqCells_cons, eqCells_nil, eq1_int, eq1_bool, eq1_str, ↓at_ptr_whole, ↓at_ptr_cell, ↓at_ptr_obj, ↓at_ptr_objs, shift_obj, shift_elt, toA_val, toA_own, Int.toNat_natCast, List.cons_append, hL]
  have e1 : (h.push pvA).objs.length = h.objs.length + 1 := Heap.push_len _ _
  have m1 : ((h.push pvA).push pvA).objs[h.objs.length]? = some pvA := (Heap.ext.push (h.push pvA) _).get (Heap.push_new h _)
  have m2 : ((h.push pvA).push pvA).objs[h.objs.length + 1]? = some pvA := by rw [← e1]; exact Heap.push_new _ _
  generalize hB : (h.push pvA).push pvA = hh at m1 m2
  have EB : h.ext hh := by rw [← hB]; exact (Heap.ext.push h _).trans (Heap.ext.push _ _)
  have hB' : (h.push (Weave.Obj.cells [HCell.val (.sl true 0 [])])).push (Weave.Obj.cells [HCell.val (.sl true 0 [])]) = hh := hB
  have e1' : (h.push (Weave.Obj.cells [HCell.val (.sl true 0 [])])).objs.length = h.objs.length + 1 := e1
  have rp := fun (Q : Res → Prop) (tg : Hid Q) => pack_run (d := d + 1) (f := true) (l := [[97], [98]]) (h := hh) (Q := Q) (tg := tg) (by rw [aB_pks]; decide) (by decide)
  rw [aB_pks] at rp
  have ep : [AVal.sl false 0 ([97].map ofByte), AVal.sl false 0 ([98].map ofByte)] = flds [[97], [98]] := rfl
  have hA : (bys aB).length = 4 := rfl
  have w4 : IntKind.i64.wrap (((0 : Nat) : Int) + ((4 : Nat) : Int)) = 4 := by decide
  have c1 : hh.cell? (h.objs.length + 1) 0 = some (HCell.val (.sl true 0 [])) := by rw [Heap.cell_at m2]; rfl
  have s1 : hh.setCell (h.objs.length + 1) 0 (HCell.own 0 (bys aB)) = hh.put (h.objs.length + 1) (.cells [HCell.own 0 (bys aB)]) := by rw [Heap.set_at m2]; rfl
  have m3 : (hh.put (h.objs.length + 1) (.cells [HCell.own 0 (bys aB)])).objs[h.objs.length + 1]? = some (.cells [HCell.own 0 (bys aB)]) := Heap.put_get m2
  have m4 : (hh.put (h.objs.length + 1) (.cells [HCell.own 0 (bys aB)])).objs[h.objs.length]? = some pvA := by rw [Heap.put_ne (by omega)]; exact m1
  have c3 : (hh.put (h.objs.length + 1) (.cells [HCell.own 0 (bys aB)])).cell? (h.objs.length + 1) 0 = some (HCell.own 0 (bys aB)) := by rw [Heap.cell_at m3]; rfl
  have c4 : (hh.put (h.objs.length + 1) (.cells [HCell.own 0 (bys aB)])).cell? h.objs.length 0 = some (HCell.val (.sl true 0 [])) := by rw [Heap.cell_at m4]; rfl
  have s4 : (hh.put (h.objs.length + 1) (.cells [HCell.own 0 (bys aB)])).setCell h.objs.length 0 (HCell.own 0 [.sl false 0 (bys aB)]) = (hh.put (h.objs.length + 1) (.cells [HCell.own 0 (bys aB)])).put h.objs.length (.cells [HCell.own 0 [.sl false 0 (bys aB)]]) := by rw [Heap.set_at m4]; rfl
  have m5 : ((hh.put (h.objs.length + 1) (.cells [HCell.own 0 (bys aB)])).put h.objs.length (.cells [HCell.own 0 [.sl false 0 (bys aB)]])).objs[h.objs.length + 1]? = some (.cells [HCell.own 0 (bys aB)]) := by rw [Heap.put_ne (by omega)]; exact m3
  have c5 : ((hh.put (h.objs.length + 1) (.cells [HCell.own 0 (bys aB)])).put h.objs.length (.cells [HCell.own 0 [.sl false 0 (bys aB)]])).cell? (h.objs.length + 1) 0 = some (HCell.own 0 (bys aB)) := by rw [Heap.cell_at m5]; rfl
  have s5 : ((hh.put (h.objs.length + 1) (.cells [HCell.own 0 (bys aB)])).put h.objs.length (.cells [HCell.own 0 [.sl false 0 (bys aB)]])).setCell (h.objs.length + 1) 0 (HCell.val (.sl true 0 [])) = ((hh.put (h.objs.length + 1) (.cells [HCell.own 0 (bys aB)])).put h.objs.length (.cells [HCell.own 0 [.sl false 0 (bys aB)]])).put (h.objs.length + 1) pvA := by rw [Heap.set_at m5]; rfl
  have m6 : (((hh.put (h.objs.length + 1) (.cells [HCell.own 0 (bys aB)])).put h.objs.length (.cells [HCell.own 0 [.sl false 0 (bys aB)]])).put (h.objs.length + 1) pvA).objs[h.objs.length]? = some (.cells [HCell.own 0 [.sl false 0 (bys aB)]]) := by rw [Heap.put_ne (by omega)]; exact Heap.put_get m4
  have c6 : (((hh.put (h.objs.length + 1) (.cells [HCell.own 0 (bys aB)])).put h.objs.length (.cells [HCell.own 0 [.sl false 0 (bys aB)]])).put (h.objs.length + 1) pvA).cell? h.objs.length 0 = some (HCell.own 0 [.sl false 0 (bys aB)]) := by rw [Heap.cell_at m6]; rfl
  refine ⟨_, ((EB.put (id := h.objs.length + 1) (o := .cells [HCell.own 0 (bys aB)]) (by omega)).put (id := h.objs.length) (o := .cells [HCell.own 0 [.sl false 0 (bys aB)]]) (by omega)).put (id := h.objs.length + 1) (o := pvA) (by omega), fun Q tg => ?_⟩
  have r1 : ∀ (Q : Res → Prop) (tg : Hid Q), Run (evFn Cw (d + 4) 17 [.obj (h.objs.length + 1) 0, .obj h.objs.length 0] (hh.put (h.objs.length + 1) (.cells [HCell.own 0 (bys aB)]))) Q tg
      = Q ([], ((hh.put (h.objs.length + 1) (.cells [HCell.own 0 (bys aB)])).put h.objs.length (.cells [HCell.own 0 [.sl false 0 (bys aB)]])).put (h.objs.length + 1) pvA) := fun Q tg => by
    rw [F17_eq]
    simp (disch := (first | assumption | (simp only [Bool.and_eq_true, Bool.and_eq_false_iff, decide_eq_true_eq, decide_eq_false_iff_not, bne_iff_ne, beq_iff_eq, beq_eq_false_iff_ne, bne_eq_false_iff_eq, Bool.not_eq_true', Bool.not_eq_false', bys_length, List.length_append, List.length_cons, List.length_nil, List.length_map, List.length_drop, List.length_take, Int.natCast_add, wrap_i64_eq, wrap_u64, wrap_u8, ne_eq, not_true_eq_false, not_false_eq_true, Nat.zero_add, Nat.mul_one] <;> omega) | omega | (simp; done) | (simp; omega))) only [↓at_runK, ↓at_bind, ↓contQ_mk, ↓at_ret, ↓at_consK, ↓at_nilK, ↓at_optK, ↓at_intK, ↓at_boolK, ↓at_strK, ↓at_slK, ↓at_slOK, ↓at_slK0, ↓at_slOK0, ↓at_aggK, ↓at_cond_t, ↓at_cond_f, ↓at_sameL, ↓at_any1, ↓at_any, and_self, toBytes_bys, List.nil_append, List.append_nil, ↓at_nodeW, List.drop_zero, List.take_succ_cons, List.take_zero, List.getElem?_cons_succ, List.getElem?_cons_zero, cells_agg, eqCells_cons, eqCells_nil, eq1_int, eq1_bool, eq1_str, ↓at_ptr_whole, ↓at_ptr_cell, ↓at_ptr_obj, ↓at_ptr_objs, shift_obj, shift_elt, toA_val, toA_own, Int.toNat_natCast, List.cons_append, c3, c4, at_lentK_full c4, hA, List.length_nil, s4, c5, s5]
  rw [F11_eq, hk]
  simp (disch := (first | assumption | (simp only [Bool.and_eq_true, Bool.and_eq_false_iff, decide_eq_true_eq, decide_eq_false_iff_not, bne_iff_ne, beq_iff_eq, beq_eq_false_iff_ne, bne_eq_false_iff_eq, Bool.not_eq_true', Bool.not_eq_false', bys_length, List.length_append, List.length_cons, List.length_nil, List.length_map, List.length_drop, List.length_take, Int.natCast_add, wrap_i64_eq, wrap_u64, wrap_u8, ne_eq, not_true_eq_false, not_false_eq_true, Nat.zero_add, Nat.mul_one] <;> omega) | omega | (simp; done) | (simp; omega))) only [↓at_runK, ↓at_bind, ↓contQ_mk, ↓at_ret, ↓at_consK, ↓at_nilK, ↓at_optK, ↓at_intK, ↓at_boolK, ↓at_strK, ↓at_slK, ↓at_slOK, ↓at_slK0, ↓at_slOK0, ↓at_aggK, ↓at_cond_t, ↓at_cond_f, ↓at_sameL, ↓at_any1, ↓at_any, and_self, toBytes_bys, List.nil_append, List.append_nil, ↓at_nodeW, List.drop_zero, List.take_succ_cons, List.take_zero, List.getElem?_cons_succ, List.getElem?_cons_zero, cells_agg, eqCells_cons, eqCells_nil, eq1_int, eq1_bool, eq1_str, ↓at_ptr_whole, ↓at_ptr_cell, ↓at_ptr_obj, ↓at_ptr_objs, shift_obj, shift_elt, toA_val, toA_own, Int.toNat_natCast, List.cons_append, rr, Bool.not_true, e1', hB', hL]
  rw [P11_0_eq]
  simp (disch := (first | assumption | (simp only [Bool.and_eq_true, Bool.and_eq_false_iff, decide_eq_true_eq, decide_eq_false_iff_not, bne_iff_ne, beq_iff_eq, beq_eq_false_iff_ne, bne_eq_false_iff_eq, Bool.not_eq_true', Bool.not_eq_false', bys_length, List.length_append, List.length_cons, List.length_nil, List.length_map, List.length_drop, List.length_take, Int.natCast_add, wrap_i64_eq, wrap_u64, wrap_u8, ne_eq, not_true_eq_false, not_false_eq_true, Nat.zero_add, Nat.mul_one] <;> omega) | omega | (simp; done) | (simp; omega))) only [↓at_runK, ↓at_bind, ↓contQ_mk, ↓at_ret, ↓at_consK, ↓at_nilK, ↓at_optK, ↓at_intK, ↓at_boolK, ↓at_strK, ↓at_slK, ↓at_slOK, ↓at_slK0, ↓at_slOK0, ↓at_aggK, ↓at_cond_t, ↓at_cond_f, ↓at_sameL, ↓at_any1, ↓at_any, and_self, toBytes_bys, List.nil_append, List.append_nil, ↓at_nodeW, List.drop_zero, List.take_succ_cons, List.take_zero, List.getElem?_cons_succ, List.getElem?_cons_zero, cells_agg, eqCells_cons, eqCells_nil, eq1_int, eq1_bool, eq1_str, ↓at_ptr_whole, ↓at_ptr_cell, ↓at_ptr_obj, ↓at_ptr_objs, shift_obj, shift_elt, toA_val, toA_own, Int.toNat_natCast, List.cons_append, hL, g0, ep, rp, c1, at_lentK_full c1, hA, List.length_nil, w4, s1, a1]
  rw [P11_0_eq]
  simp (disch := (first | assumption | (simp only [Bool.and_eq_true, Bool.and_eq_false_iff, decide_eq_true_eq, decide_eq_false_iff_not, bne_iff_ne, beq_iff_eq, beq_eq_false_iff_ne, bne_eq_false_iff_eq, Bool.not_eq_true', Bool.not_eq_false', bys_length, List.length_append, List.length_cons, List.length_nil, List.length_map, List.length_drop, List.length_take, Int.natCast_add, wrap_i64_eq, wrap_u64, wrap_u8, ne_eq, not_true_eq_false, not_false_eq_true, Nat.zero_add, Nat.mul_one] <;> omega) | omega | (simp; done) | (simp; omega))) only [↓at_runK, ↓at_bind, ↓contQ_mk, ↓at_ret, ↓at_consK, ↓at_nilK, ↓at_optK, ↓at_intK, ↓at_boolK, ↓at_strK, ↓at_slK, ↓at_slOK, ↓at_slK0, ↓at_slOK0, ↓at_aggK, ↓at_cond_t, ↓at_cond_f, ↓at_sameL, ↓at_any1, ↓at_any, and_self, toBytes_bys, List.nil_append, List.append_nil, ↓at_nodeW, List.drop_zero, List.take_succ_cons, List.take_zero, List.getElem?_cons_succ, List.getElem?_cons_zero, cells_agg, eqCells_cons, eqCells_nil, eq1_int, eq1_bool, eq1_str, ↓at_ptr_whole, ↓at_ptr_cell, ↓at_ptr_obj, ↓at_ptr_objs, shift_obj, shift_elt, toA_val, toA_own, Int.toNat_natCast, List.cons_append, hL, r1, c6]
theorem awake34_run (d : Nat) (h : Heap) : ∃ h', h.ext h' ∧ ∀ (Q : Res → Prop) (tg : Hid Q), Run (evFn Cw (d + 7) 4 [] h) Q tg = Q ([.bool true], h') := by
  obtain ⟨h', E, r⟩ := split_a (d := d + 1) (h := h)
  obtain ⟨s, r2⟩ := ptof_a (d := d) (h := h')
  refine ⟨h', E, fun Q tg => ?_⟩
  have hL : ([.sl false 0 (bys aB)] : List AVal).length = 1 := rfl
  have g0 : ([.sl false 0 (bys aB)] : List AVal).getD 0 AVal.undef = .sl false 0 (bys aB) := rfl
  have c1 : (((1 : Nat) : Int) == 1) = true := rfl
  have c2 : (aB == [1, 97, 1, 98]) = true := by decide
  rw [F4_eq]
  simp (disch := (first | assumption | (simp only [Bool.and_eq_true, Bool.and_eq_false_iff, decide_eq_true_eq, decide_eq_false_iff_not, bne_iff_ne, beq_iff_eq, beq_eq_false_iff_ne, bne_eq_false_iff_eq, Bool.not_eq_true', Bool.not_eq_false', bys_length, List.length_append, List.length_cons, List.length_nil, List.length_map, List.length_drop, List.length_take, Int.natCast_add, wrap_i64_eq, wrap_u64, wrap_u8, ne_eq, not_true_eq_false, not_false_eq_true, Nat.zero_add, Nat.mul_one] <;> omega) | omega | (simp; done) | (simp; omega))) only [↓at_runK, ↓at_bind, ↓contQ_mk, ↓at_ret, ↓at_consK, ↓at_nilK, ↓at_optK, ↓at_intK, ↓at_boolK, ↓at_strK, ↓at_slK, ↓at_slOK, ↓at_slK0, ↓at_slOK0, ↓at_aggK, ↓at_cond_t, ↓at_cond_f, ↓at_sameL, ↓at_any1, ↓at_any, and_self, toBytes_bys, List.nil_append, List.append_nil, ↓at_nodeW, List.drop_zero, List.take_succ_cons, List.take_zero, List.getElem?_cons_succ, List.getElem?_cons_zero, cells_agg, eqCells_cons, eqCells_nil, eq1_int, eq1_bool, eq1_str, ↓at_ptr_whole, ↓at_ptr_cell, ↓at_ptr_obj, ↓at_ptr_objs, shift_obj, shift_elt, toA_val, toA_own, Int.toNat_natCast, List.cons_append, r, r2, hL, c1, g0, c2]
end Go.Proofs.YtnhhmgcjbnocfaaDoor.Wa
