/- Changes of a transaction: right, encoded, turned; TxTurns. -/
import Derived.Test.YtkpjkaikeeldfaaVe
import Derived.Test.YtkpjkaikeeldfaaWe
import Derived.Test.YtkpjkaikeeldfaaWvLc
import Derived.Test.YtkpjkaikeeldfaaVapi
namespace Go.Proofs.Ytkpjkaikeeldfaa.Wa
open Go Go.Weave
set_option maxRecDepth 100000
set_option linter.unusedSimpArgs false
set_option linter.unusedVariables false
set_option linter.unusedSectionVars false

theorem map_bys (s : List UInt8) : List.map ofByte s = bys s := of_eq_true (eq_self _)

def cright (k : List UInt8) (w i : Bool) (o n : List UInt8) (x : Int) : Bool :=
  decide (1 ≤ k.length ∧ k.length ≤ 24 ∧ o.length ≤ 128 ∧ n.length ≤ 128 ∧ (w = true ∨ o = []) ∧ (i = true ∨ n = []) ∧ 0 ≤ x ∧ x ≤ 2147483647)
theorem cright_run {d : Nat} {k : List UInt8} {w i : Bool} {o n : List UInt8} {x : Int} {h : Heap} {Q : Res → Prop} {tg : Hid Q} :
    Run (evFn Cw (d + 1) 7 [.agg [.str k, .bool w, .bool i, .str o, .str n, .int .i64 x]] h) Q tg = Q ([.bool (cright k w i o n x)], h) := by
  rw [F7_eq]
  repeat' (first | (refine at_ret.trans ?_) | (refine at_cases (fun _ => ?_) (fun _ => ?_)))
  all_goals (refine congrArg (fun b => Q ([AVal.bool b], h)) ?_; simp only [cright]; simp_all)
  all_goals (try omega)
  all_goals (rw [Bool.eq_iff_iff]; simp only [Bool.and_eq_true, decide_eq_true_eq]; omega)

def cflags (w i : Bool) : UInt8 := (if w then 1 else 0) + (if i then 2 else 0)
def cfields (k : List UInt8) (w i : Bool) (o n : List UInt8) : List (List UInt8) := [k] ++ (if w then [o] else []) ++ (if i then [n] else [])
noncomputable def cbytes (k : List UInt8) (w i : Bool) (o n : List UInt8) (x : Int) : List UInt8 := cflags w i :: (pks (cfields k w i o n) ++ enc x.toNat)
theorem cfields_pks {k : List UInt8} {w i : Bool} {o n : List UInt8} {x : Int} (hr : cright k w i o n x = true) : (pks (cfields k w i o n)).length ≤ 500 := by
  simp only [cright, decide_eq_true_eq] at hr
  have h1 := fun (f : List UInt8) (hf : f.length ≤ 128) => (enc_length 9 f.length (lt_128_10 (by omega))).2
  have h2 : ∀ f : List UInt8, f.length ≤ 128 → (pk f).length ≤ 138 := fun f hf => by
    unfold pk
    rw [if_neg (by omega), List.length_append]
    have := h1 f hf
    omega
  unfold cfields pks
  have a1 := h2 k (by omega)
  have a2 := h2 o (by omega)
  have a3 := h2 n (by omega)
  cases w <;> cases i <;> simp <;> omega

theorem encode_bad {d : Nat} {k : List UInt8} {w i : Bool} {o n : List UInt8} {x : Int} {h : Heap} {Q : Res → Prop} {tg : Hid Q} (hr : cright k w i o n x = false) :
    Run (evFn Cw (d + 2) 6 [.agg [.str k, .bool w, .bool i, .str o, .str n, .int .i64 x]] h) Q tg = Q ([.sl true 0 [], .int .i64 13], h) := by
  rw [F6_eq]
  simp (disch := (first | assumption | (simp only [Bool.and_eq_true, Bool.and_eq_false_iff, decide_eq_true_eq, decide_eq_false_iff_not, bne_iff_ne, beq_iff_eq, beq_eq_false_iff_ne, bne_eq_false_iff_eq, Bool.not_eq_true', Bool.not_eq_false', bys_length, List.length_append, List.length_cons, List.length_nil, List.length_map, List.length_drop, List.length_take, Int.natCast_add, wrap_i64_eq, wrap_u64, wrap_u8, ne_eq, not_true_eq_false, not_false_eq_true, Nat.zero_add, Nat.mul_one] <;> omega) | omega | (simp; done) | (simp; omega))) only [↓at_runK, ↓at_bind, ↓contQ_mk, ↓at_ret, ↓at_consK, ↓at_nilK, ↓at_optK, ↓at_intK, ↓at_boolK, ↓at_strK, ↓at_slK, ↓at_slOK, ↓at_slK0, ↓at_slOK0, ↓at_aggK, ↓at_cond_t, ↓at_cond_f, ↓at_sameL, ↓at_any1, ↓at_any, and_self, toBytes_bys, List.nil_append, List.append_nil, cright_run, hr]
theorem flag1 : IntKind.u8.wrap (BitVec.ofInt 8 0 ||| BitVec.ofInt 8 1).toNat = 1 := by decide
theorem flag3 : IntKind.u8.wrap (BitVec.ofInt 8 1 ||| BitVec.ofInt 8 2).toNat = 3 := by decide
theorem flag2 : IntKind.u8.wrap (BitVec.ofInt 8 0 ||| BitVec.ofInt 8 2).toNat = 2 := by decide
theorem packs_run {d : Nat} {f : Bool} {l : List (List UInt8)} {es : List AVal} {h : Heap} {Q : Res → Prop} {tg : Hid Q} (he : es = flds l) (hb : (pks l).length ≤ 500) (hlen : l.length ≤ 3) :
    Run (evFn Cw (d + 3) 18 [.sl f 0 es] h) Q tg = Q ([.sl false 0 (bys (pks l))], h) := by
  rw [he]
  exact pack_run (by omega) (by omega)
theorem cbytes_cons (b : UInt8) (l : List UInt8) : [ofByte b] ++ bys l = bys (b :: l) := of_eq_true (eq_self _)
theorem encode_run {d : Nat} {k : List UInt8} {w i : Bool} {o n : List UInt8} {x : Int} {h : Heap} {Q : Res → Prop} {tg : Hid Q} (hr : cright k w i o n x = true) :
    Run (evFn Cw (d + 4) 6 [.agg [.str k, .bool w, .bool i, .str o, .str n, .int .i64 x]] h) Q tg = Q ([.sl false 0 (bys (cbytes k w i o n x)), .int .i64 0], h) := by
  have hp := cfields_pks hr
  have hx : 0 ≤ x ∧ x ≤ 2147483647 := by
    simp only [cright, decide_eq_true_eq] at hr
    omega
  have e1 : IntKind.u64.wrap x = ((x.toNat : Nat) : Int) := by rw [wrap_u64_id (by omega) (by omega)]; omega
  have hl : (cfields k w i o n).length ≤ 3 := by cases w <;> cases i <;> simp [cfields]
  rw [F6_eq]
  have b0 : AVal.int .u8 0 = ofByte 0 := of_eq_true (eq_self _)
  have b1 : AVal.int .u8 1 = ofByte 1 := of_eq_true (eq_self _)
  have b2 : AVal.int .u8 2 = ofByte 2 := of_eq_true (eq_self _)
  have b3 : AVal.int .u8 3 = ofByte 3 := of_eq_true (eq_self _)
  cases w <;> cases i
  · have h1 := fun (f : Bool) (h : Heap) (Q : Res → Prop) (tg : Hid Q) => packs_run (d := d) (f := f) (h := h) (Q := Q) (tg := tg) (l := cfields k false false o n) (es := [AVal.sl false 0 (bys k)]) (of_eq_true (eq_self _)) hp hl
    simp (disch := (first | assumption | (simp only [Bool.and_eq_true, Bool.and_eq_false_iff, decide_eq_true_eq, decide_eq_false_iff_not, bne_iff_ne, beq_iff_eq, beq_eq_false_iff_ne, bne_eq_false_iff_eq, Bool.not_eq_true', Bool.not_eq_false', bys_length, List.length_append, List.length_cons, List.length_nil, List.length_map, List.length_drop, List.length_take, Int.natCast_add, wrap_i64_eq, wrap_u64, wrap_u8, ne_eq, not_true_eq_false, not_false_eq_true, Nat.zero_add, Nat.mul_one] <;> omega) | omega | (simp; done) | (simp; omega))) only [↓at_runK, ↓at_bind, ↓contQ_mk, ↓at_ret, ↓at_consK, ↓at_nilK, ↓at_optK, ↓at_intK, ↓at_boolK, ↓at_strK, ↓at_slK, ↓at_slOK, ↓at_slK0, ↓at_slOK0, ↓at_aggK, ↓at_cond_t, ↓at_cond_f, ↓at_sameL, ↓at_any1, ↓at_any, and_self, toBytes_bys, List.nil_append, List.append_nil, cright_run, hr, P6_0_eq, map_bys, h1, e1, flag1, flag2, flag3, b0, b1, b2, b3, cbytes_cons, put_run]
    rfl
  · have h1 := fun (f : Bool) (h : Heap) (Q : Res → Prop) (tg : Hid Q) => packs_run (d := d) (f := f) (h := h) (Q := Q) (tg := tg) (l := cfields k false true o n) (es := [AVal.sl false 0 (bys k)] ++ [AVal.sl false 0 (bys n)]) (of_eq_true (eq_self _)) hp hl
    simp (disch := (first | assumption | (simp only [Bool.and_eq_true, Bool.and_eq_false_iff, decide_eq_true_eq, decide_eq_false_iff_not, bne_iff_ne, beq_iff_eq, beq_eq_false_iff_ne, bne_eq_false_iff_eq, Bool.not_eq_true', Bool.not_eq_false', bys_length, List.length_append, List.length_cons, List.length_nil, List.length_map, List.length_drop, List.length_take, Int.natCast_add, wrap_i64_eq, wrap_u64, wrap_u8, ne_eq, not_true_eq_false, not_false_eq_true, Nat.zero_add, Nat.mul_one] <;> omega) | omega | (simp; done) | (simp; omega))) only [↓at_runK, ↓at_bind, ↓contQ_mk, ↓at_ret, ↓at_consK, ↓at_nilK, ↓at_optK, ↓at_intK, ↓at_boolK, ↓at_strK, ↓at_slK, ↓at_slOK, ↓at_slK0, ↓at_slOK0, ↓at_aggK, ↓at_cond_t, ↓at_cond_f, ↓at_sameL, ↓at_any1, ↓at_any, and_self, toBytes_bys, List.nil_append, List.append_nil, cright_run, hr, P6_0_eq, map_bys, h1, e1, flag1, flag2, flag3, b0, b1, b2, b3, cbytes_cons, put_run]
    rfl
  · have h1 := fun (f : Bool) (h : Heap) (Q : Res → Prop) (tg : Hid Q) => packs_run (d := d) (f := f) (h := h) (Q := Q) (tg := tg) (l := cfields k true false o n) (es := [AVal.sl false 0 (bys k), AVal.sl false 0 (bys o)]) (of_eq_true (eq_self _)) hp hl
    simp (disch := (first | assumption | (simp only [Bool.and_eq_true, Bool.and_eq_false_iff, decide_eq_true_eq, decide_eq_false_iff_not, bne_iff_ne, beq_iff_eq, beq_eq_false_iff_ne, bne_eq_false_iff_eq, Bool.not_eq_true', Bool.not_eq_false', bys_length, List.length_append, List.length_cons, List.length_nil, List.length_map, List.length_drop, List.length_take, Int.natCast_add, wrap_i64_eq, wrap_u64, wrap_u8, ne_eq, not_true_eq_false, not_false_eq_true, Nat.zero_add, Nat.mul_one] <;> omega) | omega | (simp; done) | (simp; omega))) only [↓at_runK, ↓at_bind, ↓contQ_mk, ↓at_ret, ↓at_consK, ↓at_nilK, ↓at_optK, ↓at_intK, ↓at_boolK, ↓at_strK, ↓at_slK, ↓at_slOK, ↓at_slK0, ↓at_slOK0, ↓at_aggK, ↓at_cond_t, ↓at_cond_f, ↓at_sameL, ↓at_any1, ↓at_any, and_self, toBytes_bys, List.nil_append, List.append_nil, cright_run, hr, P6_0_eq, map_bys, h1, e1, flag1, flag2, flag3, b0, b1, b2, b3, cbytes_cons, put_run]
    rfl
  · have h1 := fun (f : Bool) (h : Heap) (Q : Res → Prop) (tg : Hid Q) => packs_run (d := d) (f := f) (h := h) (Q := Q) (tg := tg) (l := cfields k true true o n) (es := [AVal.sl false 0 (bys k), AVal.sl false 0 (bys o)] ++ [AVal.sl false 0 (bys n)]) (of_eq_true (eq_self _)) hp hl
    simp (disch := (first | assumption | (simp only [Bool.and_eq_true, Bool.and_eq_false_iff, decide_eq_true_eq, decide_eq_false_iff_not, bne_iff_ne, beq_iff_eq, beq_eq_false_iff_ne, bne_eq_false_iff_eq, Bool.not_eq_true', Bool.not_eq_false', bys_length, List.length_append, List.length_cons, List.length_nil, List.length_map, List.length_drop, List.length_take, Int.natCast_add, wrap_i64_eq, wrap_u64, wrap_u8, ne_eq, not_true_eq_false, not_false_eq_true, Nat.zero_add, Nat.mul_one] <;> omega) | omega | (simp; done) | (simp; omega))) only [↓at_runK, ↓at_bind, ↓contQ_mk, ↓at_ret, ↓at_consK, ↓at_nilK, ↓at_optK, ↓at_intK, ↓at_boolK, ↓at_strK, ↓at_slK, ↓at_slOK, ↓at_slK0, ↓at_slOK0, ↓at_aggK, ↓at_cond_t, ↓at_cond_f, ↓at_sameL, ↓at_any1, ↓at_any, and_self, toBytes_bys, List.nil_append, List.append_nil, cright_run, hr, P6_0_eq, map_bys, h1, e1, flag1, flag2, flag3, b0, b1, b2, b3, cbytes_cons, put_run]
    rfl

theorem awake42_run {d : Nat} {h : Heap} {Q : Res → Prop} {tg : Hid Q} : Run (evFn Cw (d + 5) 9 [] h) Q tg = Q ([.bool true], h) := by
  have hr : cright [97] false true [] [120] 0 = true := by decide
  have e : cbytes [97] false true [] [120] 0 = [2, 1, 97, 1, 120, 0] := by
    have p1 : pk [97] = [1, 97] := by unfold pk; rw [if_neg (by decide), enc_lt (by decide)]; rfl
    have p2 : pk [120] = [1, 120] := by unfold pk; rw [if_neg (by decide), enc_lt (by decide)]; rfl
    have p3 : enc (0 : Int).toNat = [0] := by rw [enc_lt (by decide)]; rfl
    unfold cbytes
    have e1 : cfields [97] false true [] [120] = [[97], [120]] := rfl
    have e2 : pks [[97], [120]] = pk [97] ++ pk [120] := by simp [pks]
    rw [e1, e2, p1, p2, p3]
    rfl
  rw [F9_eq]
  simp (disch := (first | assumption | (simp only [Bool.and_eq_true, Bool.and_eq_false_iff, decide_eq_true_eq, decide_eq_false_iff_not, bne_iff_ne, beq_iff_eq, beq_eq_false_iff_ne, bne_eq_false_iff_eq, Bool.not_eq_true', Bool.not_eq_false', bys_length, List.length_append, List.length_cons, List.length_nil, List.length_map, List.length_drop, List.length_take, Int.natCast_add, wrap_i64_eq, wrap_u64, wrap_u8, ne_eq, not_true_eq_false, not_false_eq_true, Nat.zero_add, Nat.mul_one] <;> omega) | omega | (simp; done) | (simp; omega))) only [↓at_runK, ↓at_bind, ↓contQ_mk, ↓at_ret, ↓at_consK, ↓at_nilK, ↓at_optK, ↓at_intK, ↓at_boolK, ↓at_strK, ↓at_slK, ↓at_slOK, ↓at_slK0, ↓at_slOK0, ↓at_aggK, ↓at_cond_t, ↓at_cond_f, ↓at_sameL, ↓at_any1, ↓at_any, and_self, toBytes_bys, List.nil_append, List.append_nil, encode_run hr, e]
  simp

theorem turn_run {d : Nat} {k : List UInt8} {w i : Bool} {o n : List UInt8} {x y : Int} {h : Heap} {Q : Res → Prop} {tg : Hid Q} :
    Run (evFn Cw (d + 1) 29 [.agg [.str k, .bool w, .bool i, .str o, .str n, .int .i64 x], .int .i64 y] h) Q tg = Q ([.agg [.str k, .bool i, .bool w, .str n, .str o, .int .i64 y]], h) := (at_eq (F29_eq _ _ _ _ _ _ _ _ _)).trans at_ret
end Go.Proofs.Ytkpjkaikeeldfaa.Wa
