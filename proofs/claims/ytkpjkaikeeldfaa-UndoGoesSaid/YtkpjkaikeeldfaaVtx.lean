/- TxEncodes. -/
import Derived.Test.YtkpjkaikeeldfaaVu
import Derived.Test.YtkpjkaikeeldfaaWq
namespace Go.Proofs.Ytkpjkaikeeldfaa.Wa
open Go Go.Weave
set_option maxRecDepth 100000
set_option linter.unusedSimpArgs false
set_option linter.unusedVariables false
set_option linter.unusedSectionVars false

theorem fget_pk {f rest : List UInt8} (h : f.length ≤ 65536) : fget (pk f ++ rest) = (f, (pk f).length, 0) := by
  have e : pk f = enc f.length ++ f := by unfold pk; rw [if_neg (by omega)]
  rw [fget_eq, e]
  unfold fgetW
  rw [List.append_assoc, get_enc0 f.length (f ++ rest) (by omega)]
  simp only [ne_eq, not_true_eq_false, if_false]
  rw [if_neg (by omega), if_neg (by simp), List.drop_left, List.take_left, List.length_append]
theorem dtext_pk {f rest : List UInt8} (h : f.length ≤ 65536) : dtext true (pk f ++ rest) 0 = (f, rest, 0) := by
  rw [dtext_on, fget_pk h, List.drop_left]
theorem ctail_enc {w i : Bool} {k o n : List UInt8} {m : Nat} (hr : cright k w i o n (m : Int) = true) : ctail w i k o n (enc m) = (⟨k, w, i, o, n, m⟩, 0) := by
  have hm : m ≤ 2147483647 := by simp only [cright, decide_eq_true_eq] at hr; omega
  have g := get_enc0 m [] (by omega)
  rw [List.append_nil] at g
  unfold ctail
  rw [g]
  simp only [ne_eq, not_true_eq_false, if_false]
  have e : min m 2147483648 = m := by omega
  rw [if_neg (by omega), e, if_pos hr]
theorem cdec_cbytes {k : List UInt8} {w i : Bool} {o n : List UInt8} {x : Int} (hr : cright k w i o n x = true) : cdec (cbytes k w i o n x) = (⟨k, w, i, o, n, x⟩, 0) := by
  have hr2 := hr
  simp only [cright, decide_eq_true_eq] at hr2
  obtain ⟨m, rfl⟩ : ∃ m : Nat, x = (m : Int) := ⟨x.toNat, by omega⟩
  have em : ((m : Nat) : Int).toNat = m := by omega
  have hk : k.length ≤ 65536 := by omega
  have ho : o.length ≤ 65536 := by omega
  have hn : n.length ≤ 65536 := by omega
  unfold cdec cbytes
  rw [em]
  have h4 : ¬ 4 ≤ (cflags w i).toNat := by cases w <;> cases i <;> decide
  have hw : decide ((cflags w i).toNat % 2 = 1) = w := by cases w <;> cases i <;> decide
  have hi : decide (2 ≤ (cflags w i).toNat) = i := by cases w <;> cases i <;> decide
  simp only [h4, if_false, hw, hi]
  unfold cdec1 cfields pks
  cases w <;> cases i
  · have e1 : o = [] := by simpa using hr2.2.2.2.2.1
    have e2 : n = [] := by simpa using hr2.2.2.2.2.2.1
    subst e1; subst e2
    simp only [List.flatMap_cons, List.flatMap_nil, List.append_nil, List.append_assoc, if_false, Bool.false_eq_true, dtext_pk hk, dtext_off, ne_eq, not_true_eq_false, List.nil_append]
    exact ctail_enc hr
  · have e1 : o = [] := by simpa using hr2.2.2.2.2.1
    subst e1
    simp only [List.flatMap_append, List.flatMap_cons, List.flatMap_nil, List.append_nil, List.append_assoc, if_false, if_true, Bool.false_eq_true, dtext_pk hk, dtext_pk hn, dtext_off, ne_eq, not_true_eq_false, List.nil_append]
    exact ctail_enc hr
  · have e2 : n = [] := by simpa using hr2.2.2.2.2.2.1
    subst e2
    simp only [List.flatMap_append, List.flatMap_cons, List.flatMap_nil, List.append_nil, List.append_assoc, if_false, if_true, Bool.false_eq_true, dtext_pk hk, dtext_pk ho, dtext_off, ne_eq, not_true_eq_false, List.nil_append]
    exact ctail_enc hr
  · simp only [List.flatMap_append, List.flatMap_cons, List.flatMap_nil, List.append_nil, List.append_assoc, if_true, dtext_pk hk, dtext_pk ho, dtext_pk hn, ne_eq, not_true_eq_false, if_false, List.nil_append]
    exact ctail_enc hr

/-! ### The reference's bytes -/
theorem rpk_run {d : Nat} {f : Bool} {b : List UInt8} (hb : b.length ≤ 128) {h : Heap} {Q : Res → Prop} {tg : Hid Q} : Run (evFn Cw (d + 2) 22 [.sl f 0 [.sl false 0 (bys b)]] h) Q tg = Q ([.sl false 0 (bys (pk b))], h) := by
  have hp := pk_len b
  have e : pks [b] = pk b := pks_one b
  have := rpack_run (d := d) (f := f) (l := [b]) (h := h) (Q := Q) (tg := tg) (by rw [e]; omega) (by simp)
  rw [e] at this
  exact this
theorem pk_len2 {f : List UInt8} (hf : f.length ≤ 128) : (pk f).length ≤ 138 := by
  unfold pk
  rw [if_neg (by omega), List.length_append]
  have := (enc_length 9 f.length (lt_128_10 (by omega))).2
  omega
theorem bytes42_fin {d : Nat} {k : List UInt8} {w i : Bool} {o n : List UInt8} {x : Int} {c : UInt8} {b : List UInt8} (hc : c.toNat ≤ 1) (hx : 0 ≤ x ∧ x ≤ 2147483647) (hn : n.length ≤ 128) (hb : b.length ≤ 1000) {h : Heap} {Q : Res → Prop} {tg : Hid Q} :
    Run (P11_0 (d + 2) k w i o n x (bys (c :: b)) h) Q tg = Q ([.sl false 0 (bys ((c + (if i then 2 else 0)) :: (b ++ (if i then pk n else []) ++ enc x.toNat)))], h) := by
  have e1 : IntKind.u64.wrap x = ((x.toNat : Nat) : Int) := by rw [wrap_u64_id (by omega) (by omega)]; omega
  have hp := pk_len2 hn
  rw [P11_0_eq]
  cases i
  · have r := fun (Q : Res → Prop) (tg : Hid Q) => rput_run (d := d + 1) (f := false) (l := c :: b) (n := x.toNat) (h := h) (Q := Q) (tg := tg) (by omega) (by simp; omega)
    simp (disch := (first | assumption | (simp only [Bool.and_eq_true, Bool.and_eq_false_iff, decide_eq_true_eq, decide_eq_false_iff_not, bne_iff_ne, beq_iff_eq, beq_eq_false_iff_ne, bne_eq_false_iff_eq, Bool.not_eq_true', Bool.not_eq_false', bys_length, List.length_append, List.length_cons, List.length_nil, List.length_map, List.length_drop, List.length_take, Int.natCast_add, wrap_i64_eq, wrap_u64, wrap_u8, ne_eq, not_true_eq_false, not_false_eq_true, Nat.zero_add, Nat.mul_one] <;> omega) | omega | (simp; done) | (simp; omega))) only [↓at_runK, ↓at_bind, ↓contQ_mk, ↓at_ret, ↓at_consK, ↓at_nilK, ↓at_optK, ↓at_intK, ↓at_boolK, ↓at_strK, ↓at_slK, ↓at_slOK, ↓at_slK0, ↓at_slOK0, ↓at_aggK, ↓at_cond_t, ↓at_cond_f, ↓at_sameL, ↓at_any1, ↓at_any, and_self, toBytes_bys, List.nil_append, List.append_nil, ↓at_nodeW, List.drop_zero, List.take_succ_cons, List.take_zero, List.getElem?_cons_succ, List.getElem?_cons_zero, cells_agg, eqCells_cons, eqCells_nil, eq1_int, eq1_bool, eq1_str, ↓at_ptr_whole, ↓at_ptr_cell, ↓at_ptr_obj, ↓at_ptr_objs, shift_obj, shift_elt, toA_val, toA_own, Int.toNat_natCast, List.cons_append, e1, r]
    simp
  · have e2 : IntKind.u8.wrap ((c.toNat : Int) + 2) = ((c + 2).toNat : Int) := by
      have : c = 0 ∨ c = 1 := by
        rcases Nat.lt_or_ge c.toNat 1 with h | h
        · left; exact UInt8.toNat_inj.1 (by simp; omega)
        · right; exact UInt8.toNat_inj.1 (by simp; omega)
      rcases this with rfl | rfl <;> decide
    have e3 : (bys (c :: b)).set 0 (AVal.int .u8 ((c + 2).toNat : Int)) = bys ((c + 2) :: b) := of_eq_true (eq_self _)
    have e4 : (bys (c :: b)).getD 0 AVal.undef = AVal.int .u8 (c.toNat : Int) := of_eq_true (eq_self _)
    have e5 : bys ((c + 2) :: b) ++ bys (pk n) = bys ((c + 2) :: (b ++ pk n)) := by rw [← bys_append]; rfl
    have r := fun (Q : Res → Prop) (tg : Hid Q) => rput_run (d := d + 1) (f := false) (l := (c + 2) :: (b ++ pk n)) (n := x.toNat) (h := h) (Q := Q) (tg := tg) (by omega) (by simp; omega)
    have rp := fun (Q : Res → Prop) (tg : Hid Q) => rpk_run (d := d) (f := true) hn (h := h) (Q := Q) (tg := tg)
    simp (disch := (first | assumption | (simp only [Bool.and_eq_true, Bool.and_eq_false_iff, decide_eq_true_eq, decide_eq_false_iff_not, bne_iff_ne, beq_iff_eq, beq_eq_false_iff_ne, bne_eq_false_iff_eq, Bool.not_eq_true', Bool.not_eq_false', bys_length, List.length_append, List.length_cons, List.length_nil, List.length_map, List.length_drop, List.length_take, Int.natCast_add, wrap_i64_eq, wrap_u64, wrap_u8, ne_eq, not_true_eq_false, not_false_eq_true, Nat.zero_add, Nat.mul_one] <;> omega) | omega | (simp; done) | (simp; omega))) only [↓at_runK, ↓at_bind, ↓contQ_mk, ↓at_ret, ↓at_consK, ↓at_nilK, ↓at_optK, ↓at_intK, ↓at_boolK, ↓at_strK, ↓at_slK, ↓at_slOK, ↓at_slK0, ↓at_slOK0, ↓at_aggK, ↓at_cond_t, ↓at_cond_f, ↓at_sameL, ↓at_any1, ↓at_any, and_self, toBytes_bys, List.nil_append, List.append_nil, ↓at_nodeW, List.drop_zero, List.take_succ_cons, List.take_zero, List.getElem?_cons_succ, List.getElem?_cons_zero, cells_agg, eqCells_cons, eqCells_nil, eq1_int, eq1_bool, eq1_str, ↓at_ptr_whole, ↓at_ptr_cell, ↓at_ptr_obj, ↓at_ptr_objs, shift_obj, shift_elt, toA_val, toA_own, Int.toNat_natCast, List.cons_append, bys_length, List.length_cons, e4, e2, e3, map_bys, rp, e5, e1, r]
    simp
theorem bytes42_run {d : Nat} {k : List UInt8} {w i : Bool} {o n : List UInt8} {x : Int} (hr : cright k w i o n x = true) {h : Heap} {Q : Res → Prop} {tg : Hid Q} :
    Run (evFn Cw (d + 3) 11 [.agg [.str k, .bool w, .bool i, .str o, .str n, .int .i64 x]] h) Q tg = Q ([.sl false 0 (bys (cbytes k w i o n x))], h) := by
  simp only [cright, decide_eq_true_eq] at hr
  have hk := pk_len2 (f := k) (by omega)
  have ho := pk_len2 (f := o) (by omega)
  have b0 : AVal.int .u8 0 = ofByte 0 := of_eq_true (eq_self _)
  have e1 : ofByte 0 :: bys (pk k) = bys (0 :: pk k) := of_eq_true (eq_self _)
  have rk := fun (Q : Res → Prop) (tg : Hid Q) => rpk_run (d := d) (f := true) (b := k) (by omega) (h := h) (Q := Q) (tg := tg)
  have ro := fun (Q : Res → Prop) (tg : Hid Q) => rpk_run (d := d) (f := true) (b := o) (by omega) (h := h) (Q := Q) (tg := tg)
  rw [F11_eq, b0]
  cases w
  · have rf := fun (Q : Res → Prop) (tg : Hid Q) => bytes42_fin (d := d) (k := k) (w := false) (i := i) (o := o) (n := n) (x := x) (c := 0) (b := pk k) (by decide) (by omega) (by omega) (by omega) (h := h) (Q := Q) (tg := tg)
    have ec : (0 + (if i then 2 else 0) : UInt8) :: (pk k ++ (if i then pk n else []) ++ enc x.toNat) = cbytes k false i o n x := by
      unfold cbytes cfields cflags pks
      cases i <;> simp
    rw [ec] at rf
    simp (disch := (first | assumption | (simp only [Bool.and_eq_true, Bool.and_eq_false_iff, decide_eq_true_eq, decide_eq_false_iff_not, bne_iff_ne, beq_iff_eq, beq_eq_false_iff_ne, bne_eq_false_iff_eq, Bool.not_eq_true', Bool.not_eq_false', bys_length, List.length_append, List.length_cons, List.length_nil, List.length_map, List.length_drop, List.length_take, Int.natCast_add, wrap_i64_eq, wrap_u64, wrap_u8, ne_eq, not_true_eq_false, not_false_eq_true, Nat.zero_add, Nat.mul_one] <;> omega) | omega | (simp; done) | (simp; omega))) only [↓at_runK, ↓at_bind, ↓contQ_mk, ↓at_ret, ↓at_consK, ↓at_nilK, ↓at_optK, ↓at_intK, ↓at_boolK, ↓at_strK, ↓at_slK, ↓at_slOK, ↓at_slK0, ↓at_slOK0, ↓at_aggK, ↓at_cond_t, ↓at_cond_f, ↓at_sameL, ↓at_any1, ↓at_any, and_self, toBytes_bys, List.nil_append, List.append_nil, ↓at_nodeW, List.drop_zero, List.take_succ_cons, List.take_zero, List.getElem?_cons_succ, List.getElem?_cons_zero, cells_agg, eqCells_cons, eqCells_nil, eq1_int, eq1_bool, eq1_str, ↓at_ptr_whole, ↓at_ptr_cell, ↓at_ptr_obj, ↓at_ptr_objs, shift_obj, shift_elt, toA_val, toA_own, Int.toNat_natCast, List.cons_append, map_bys, rk, bys_length, e1, rf]
  · have e2 : IntKind.u8.wrap ((0 : Int) + 1) = 1 := by decide
    have e3 : (bys (0 :: pk k)).set 0 (AVal.int .u8 1) = bys (1 :: pk k) := of_eq_true (eq_self _)
    have e4 : (bys (0 :: pk k)).getD 0 AVal.undef = AVal.int .u8 0 := of_eq_true (eq_self _)
    have e5 : bys (1 :: pk k) ++ bys (pk o) = bys (1 :: (pk k ++ pk o)) := by rw [← bys_append]; rfl
    have rf := fun (Q : Res → Prop) (tg : Hid Q) => bytes42_fin (d := d) (k := k) (w := true) (i := i) (o := o) (n := n) (x := x) (c := 1) (b := pk k ++ pk o) (by decide) (by omega) (by omega) (by simp; omega) (h := h) (Q := Q) (tg := tg)
    have ec : (1 + (if i then 2 else 0) : UInt8) :: (pk k ++ pk o ++ (if i then pk n else []) ++ enc x.toNat) = cbytes k true i o n x := by
      unfold cbytes cfields cflags pks
      cases i <;> simp
    rw [ec] at rf
    simp (disch := (first | assumption | (simp only [Bool.and_eq_true, Bool.and_eq_false_iff, decide_eq_true_eq, decide_eq_false_iff_not, bne_iff_ne, beq_iff_eq, beq_eq_false_iff_ne, bne_eq_false_iff_eq, Bool.not_eq_true', Bool.not_eq_false', bys_length, List.length_append, List.length_cons, List.length_nil, List.length_map, List.length_drop, List.length_take, Int.natCast_add, wrap_i64_eq, wrap_u64, wrap_u8, ne_eq, not_true_eq_false, not_false_eq_true, Nat.zero_add, Nat.mul_one] <;> omega) | omega | (simp; done) | (simp; omega))) only [↓at_runK, ↓at_bind, ↓contQ_mk, ↓at_ret, ↓at_consK, ↓at_nilK, ↓at_optK, ↓at_intK, ↓at_boolK, ↓at_strK, ↓at_slK, ↓at_slOK, ↓at_slK0, ↓at_slOK0, ↓at_aggK, ↓at_cond_t, ↓at_cond_f, ↓at_sameL, ↓at_any1, ↓at_any, and_self, toBytes_bys, List.nil_append, List.append_nil, ↓at_nodeW, List.drop_zero, List.take_succ_cons, List.take_zero, List.getElem?_cons_succ, List.getElem?_cons_zero, cells_agg, eqCells_cons, eqCells_nil, eq1_int, eq1_bool, eq1_str, ↓at_ptr_whole, ↓at_ptr_cell, ↓at_ptr_obj, ↓at_ptr_objs, shift_obj, shift_elt, toA_val, toA_own, Int.toNat_natCast, List.cons_append, map_bys, rk, ro, bys_length, List.length_cons, e1, e4, e2, e3, e5, rf]
/-- TxEncodes. -/
theorem cencodes_true (d : Nat) (c : Change) (h : Heap) : ∃ h', Ans (evFn Cw (d + 6) 3 [c.A] h) ([.bool true], h') := by
  obtain ⟨k, w, i, o, n, x⟩ := c
  unfold Change.A Change.C
  cases hr : cright k w i o n x
  · refine ⟨h, Run.ans ?_⟩
    rw [F3_eq]
    simp (disch := (first | assumption | (simp only [Bool.and_eq_true, Bool.and_eq_false_iff, decide_eq_true_eq, decide_eq_false_iff_not, bne_iff_ne, beq_iff_eq, beq_eq_false_iff_ne, bne_eq_false_iff_eq, Bool.not_eq_true', Bool.not_eq_false', bys_length, List.length_append, List.length_cons, List.length_nil, List.length_map, List.length_drop, List.length_take, Int.natCast_add, wrap_i64_eq, wrap_u64, wrap_u8, ne_eq, not_true_eq_false, not_false_eq_true, Nat.zero_add, Nat.mul_one] <;> omega) | omega | (simp; done) | (simp; omega))) only [↓at_runK, ↓at_bind, ↓contQ_mk, ↓at_ret, ↓at_consK, ↓at_nilK, ↓at_optK, ↓at_intK, ↓at_boolK, ↓at_strK, ↓at_slK, ↓at_slOK, ↓at_slK0, ↓at_slOK0, ↓at_aggK, ↓at_cond_t, ↓at_cond_f, ↓at_sameL, ↓at_any1, ↓at_any, and_self, toBytes_bys, List.nil_append, List.append_nil, ↓at_nodeW, List.drop_zero, List.take_succ_cons, List.take_zero, List.getElem?_cons_succ, List.getElem?_cons_zero, cells_agg, eqCells_cons, eqCells_nil, eq1_int, eq1_bool, eq1_str, ↓at_ptr_whole, ↓at_ptr_cell, ↓at_ptr_obj, ↓at_ptr_objs, shift_obj, shift_elt, toA_val, toA_own, Int.toNat_natCast, List.cons_append, encode_bad, hr, cright_run, rcright_run, awake42_run]
  · have hd := cdec_cbytes hr
    have hl : (cbytes k w i o n x).length ≤ 140737488351232 := by
      have h1 := cfields_pks hr
      have h2 := hr
      simp only [cright, decide_eq_true_eq] at h2
      have := (enc_length 9 x.toNat (lt_128_10 (by omega))).2
      unfold cbytes
      simp; omega
    obtain ⟨h1, _, hc⟩ := cdecode_run (d := d + 1) (f := false) (b := cbytes k w i o n x) (h := h) hl
    rw [hd] at hc
    simp only [Change.A, Change.C] at hc
    refine ⟨h1, Run.ans ?_⟩
    rw [F3_eq]
    have er := fun (Q : Res → Prop) (tg : Hid Q) => encode_run (d := d + 1) hr (h := h) (Q := Q) (tg := tg)
    have br := fun (Q : Res → Prop) (tg : Hid Q) => bytes42_run (d := d + 2) hr (h := h1) (Q := Q) (tg := tg)
    have bi : ∀ x : Int, (x == x) = true := fun x => by simp
    have bs : ∀ x : List UInt8, (x == x) = true := fun x => by simp
    have bb : ∀ x : Bool, (x == x) = true := fun x => by simp
    simp (disch := (first | assumption | (simp only [Bool.and_eq_true, Bool.and_eq_false_iff, decide_eq_true_eq, decide_eq_false_iff_not, bne_iff_ne, beq_iff_eq, beq_eq_false_iff_ne, bne_eq_false_iff_eq, Bool.not_eq_true', Bool.not_eq_false', bys_length, List.length_append, List.length_cons, List.length_nil, List.length_map, List.length_drop, List.length_take, Int.natCast_add, wrap_i64_eq, wrap_u64, wrap_u8, ne_eq, not_true_eq_false, not_false_eq_true, Nat.zero_add, Nat.mul_one] <;> omega) | omega | (simp; done) | (simp; omega))) only [↓at_runK, ↓at_bind, ↓contQ_mk, ↓at_ret, ↓at_consK, ↓at_nilK, ↓at_optK, ↓at_intK, ↓at_boolK, ↓at_strK, ↓at_slK, ↓at_slOK, ↓at_slK0, ↓at_slOK0, ↓at_aggK, ↓at_cond_t, ↓at_cond_f, ↓at_sameL, ↓at_any1, ↓at_any, and_self, toBytes_bys, List.nil_append, List.append_nil, ↓at_nodeW, List.drop_zero, List.take_succ_cons, List.take_zero, List.getElem?_cons_succ, List.getElem?_cons_zero, cells_agg, eqCells_cons, eqCells_nil, eq1_int, eq1_bool, eq1_str, ↓at_ptr_whole, ↓at_ptr_cell, ↓at_ptr_obj, ↓at_ptr_objs, shift_obj, shift_elt, toA_val, toA_own, Int.toNat_natCast, List.cons_append, er, cright_run, rcright_run, hr, hc, br, bi, bs, bb, awake42_run]
end Go.Proofs.Ytkpjkaikeeldfaa.Wa
