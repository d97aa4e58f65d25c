/- Fields: got, put, packed, unpacked; FieldGets, FieldUnpacks, FieldPacks. -/
import Derived.Test.YtkpjkaikeeldfaaVd
import Derived.Test.YtkpjkaikeeldfaaWd
namespace Go.Proofs.Ytkpjkaikeeldfaa.Wa
open Go Go.Weave
set_option maxRecDepth 100000
set_option linter.unusedSimpArgs false
set_option linter.unusedVariables false
set_option linter.unusedSectionVars false

theorem rput_run {d : Nat} {f : Bool} {l : List UInt8} {n : Nat} {h : Heap} {Q : Res → Prop} {tg : Hid Q} (hn : n < 18446744073709551616) (hl : l.length ≤ 140737488355000) :
    Run (evFn Cw (d + 1) 23 [.sl f 0 (bys l), .int .u64 n] h) Q tg = Q ([.sl false 0 (bys (l ++ enc n))], h) := (rput_ok d f l n h hn hl).at
theorem wrap_u64_len (l : List AVal) (h : l.length < 18446744073709551616) : IntKind.u64.wrap (l.length : Int) = ((l.length : Nat) : Int) := wrap_u64_id (by omega) (by omega)

/-- The field that bytes begin with. -/
def fgetW (l : List UInt8) : List UInt8 × Nat × Nat :=
  if (getF l 0 0).2.2 ≠ 0 then ([], 0, (getF l 0 0).2.2) else if 65536 < (getF l 0 0).1 then ([], 0, 5) else if l.length < (getF l 0 0).2.1 + (getF l 0 0).1 then ([], 0, 1) else
    ((l.drop (getF l 0 0).2.1).take (getF l 0 0).1, (getF l 0 0).2.1 + (getF l 0 0).1, 0)
theorem fget_ex : ∃ f : List UInt8 → List UInt8 × Nat × Nat, ∀ l, f l = fgetW l := ⟨fgetW, fun _ => rfl⟩
noncomputable def fget : List UInt8 → List UInt8 × Nat × Nat := Classical.choose fget_ex
theorem fget_eq (l : List UInt8) : fget l = fgetW l := Classical.choose_spec fget_ex l

theorem part_mid {l : List UInt8} {k m : Nat} : Weave.part (k : Int) ((k + m : Nat) : Int) (bys l) = bys ((l.drop k).take m) := by
  rw [part_bys]
  congr 1
  simp only [Weave.part, Int.toNat_natCast]
  congr 1
  omega

theorem fget_ok (d : Nat) (f : Bool) (l : List UInt8) (h : Heap) (hl : l.length ≤ 140737488351232) :
    Ans (evFn Cw (d + 2) 28 [.sl f 0 (bys l)] h) ([.sl (decide ((fget l).2.2 ≠ 0)) 0 (bys (fget l).1), .int .i64 (fget l).2.1, .int .i64 (fget l).2.2], h) := by
  refine Run.ans ?_
  rw [F28_eq, fget_eq]
  unfold fgetW
  by_cases he : (getF l 0 0).2.2 = 0
  · have ⟨h1, h2, h3⟩ := getF_ok he
    rw [if_neg (by omega)]
    by_cases hb : 65536 < (getF l 0 0).1
    · rw [if_pos hb]
      simp (disch := (first | assumption | (simp only [Bool.and_eq_true, Bool.and_eq_false_iff, decide_eq_true_eq, decide_eq_false_iff_not, bne_iff_ne, beq_iff_eq, beq_eq_false_iff_ne, bne_eq_false_iff_eq, Bool.not_eq_true', Bool.not_eq_false', bys_length, List.length_append, List.length_cons, List.length_nil, List.length_map, List.length_drop, List.length_take, Int.natCast_add, wrap_i64_eq, wrap_u64, wrap_u8, ne_eq, not_true_eq_false, not_false_eq_true, Nat.zero_add, Nat.mul_one] <;> omega) | omega | (simp; done) | (simp; omega))) only [↓at_runK, ↓at_bind, ↓contQ_mk, ↓at_ret, ↓at_consK, ↓at_nilK, ↓at_optK, ↓at_intK, ↓at_boolK, ↓at_strK, ↓at_slK, ↓at_slOK, ↓at_slK0, ↓at_slOK0, ↓at_aggK, ↓at_cond_t, ↓at_cond_f, ↓at_sameL, ↓at_any1, ↓at_any, and_self, toBytes_bys, List.nil_append, List.append_nil, get_run]
      simp [bys_nil]
    · have e1 : IntKind.i64.wrap (((getF l 0 0).1 : Nat) : Int) = (((getF l 0 0).1 : Nat) : Int) := wrap_i64_id (by omega) (by omega)
      have e2 : IntKind.i64.wrap ((((getF l 0 0).2.1 : Nat) : Int) + (((getF l 0 0).1 : Nat) : Int)) = (((getF l 0 0).2.1 + (getF l 0 0).1 : Nat) : Int) := by rw [wrap_i64_id (by omega) (by omega)]; omega
      rw [if_neg hb]
      by_cases hs : l.length < (getF l 0 0).2.1 + (getF l 0 0).1
      · rw [if_pos hs]
        simp (disch := (first | assumption | (simp only [Bool.and_eq_true, Bool.and_eq_false_iff, decide_eq_true_eq, decide_eq_false_iff_not, bne_iff_ne, beq_iff_eq, beq_eq_false_iff_ne, bne_eq_false_iff_eq, Bool.not_eq_true', Bool.not_eq_false', bys_length, List.length_append, List.length_cons, List.length_nil, List.length_map, List.length_drop, List.length_take, Int.natCast_add, wrap_i64_eq, wrap_u64, wrap_u8, ne_eq, not_true_eq_false, not_false_eq_true, Nat.zero_add, Nat.mul_one] <;> omega) | omega | (simp; done) | (simp; omega))) only [↓at_runK, ↓at_bind, ↓contQ_mk, ↓at_ret, ↓at_consK, ↓at_nilK, ↓at_optK, ↓at_intK, ↓at_boolK, ↓at_strK, ↓at_slK, ↓at_slOK, ↓at_slK0, ↓at_slOK0, ↓at_aggK, ↓at_cond_t, ↓at_cond_f, ↓at_sameL, ↓at_any1, ↓at_any, and_self, toBytes_bys, List.nil_append, List.append_nil, get_run, e1, e2]
        simp [bys_nil]
      · rw [if_neg hs]
        simp (disch := (first | assumption | (simp only [Bool.and_eq_true, Bool.and_eq_false_iff, decide_eq_true_eq, decide_eq_false_iff_not, bne_iff_ne, beq_iff_eq, beq_eq_false_iff_ne, bne_eq_false_iff_eq, Bool.not_eq_true', Bool.not_eq_false', bys_length, List.length_append, List.length_cons, List.length_nil, List.length_map, List.length_drop, List.length_take, Int.natCast_add, wrap_i64_eq, wrap_u64, wrap_u8, ne_eq, not_true_eq_false, not_false_eq_true, Nat.zero_add, Nat.mul_one] <;> omega) | omega | (simp; done) | (simp; omega))) only [↓at_runK, ↓at_bind, ↓contQ_mk, ↓at_ret, ↓at_consK, ↓at_nilK, ↓at_optK, ↓at_intK, ↓at_boolK, ↓at_strK, ↓at_slK, ↓at_slOK, ↓at_slK0, ↓at_slOK0, ↓at_aggK, ↓at_cond_t, ↓at_cond_f, ↓at_sameL, ↓at_any1, ↓at_any, and_self, toBytes_bys, List.nil_append, List.append_nil, get_run, e1, e2, part_mid, List.length_take]
        simp
  · rw [if_pos he]
    simp (disch := (first | assumption | (simp only [Bool.and_eq_true, Bool.and_eq_false_iff, decide_eq_true_eq, decide_eq_false_iff_not, bne_iff_ne, beq_iff_eq, beq_eq_false_iff_ne, bne_eq_false_iff_eq, Bool.not_eq_true', Bool.not_eq_false', bys_length, List.length_append, List.length_cons, List.length_nil, List.length_map, List.length_drop, List.length_take, Int.natCast_add, wrap_i64_eq, wrap_u64, wrap_u8, ne_eq, not_true_eq_false, not_false_eq_true, Nat.zero_add, Nat.mul_one] <;> omega) | omega | (simp; done) | (simp; omega))) only [↓at_runK, ↓at_bind, ↓contQ_mk, ↓at_ret, ↓at_consK, ↓at_nilK, ↓at_optK, ↓at_intK, ↓at_boolK, ↓at_strK, ↓at_slK, ↓at_slOK, ↓at_slK0, ↓at_slOK0, ↓at_aggK, ↓at_cond_t, ↓at_cond_f, ↓at_sameL, ↓at_any1, ↓at_any, and_self, toBytes_bys, List.nil_append, List.append_nil, get_run]
    simp [he, bys_nil]

theorem rfget_ok (d : Nat) (f : Bool) (l : List UInt8) (h : Heap) (hl : l.length ≤ 140737488351232) :
    Ans (evFn Cw (d + 2) 30 [.sl f 0 (bys l)] h) ([.sl (decide ((fget l).2.2 ≠ 0)) 0 (bys (fget l).1), .int .i64 (fget l).2.1, .int .i64 (fget l).2.2], h) := by
  refine Run.ans ?_
  rw [F30_eq, fget_eq]
  unfold fgetW
  by_cases he : (getF l 0 0).2.2 = 0
  · have ⟨h1, h2, h3⟩ := getF_ok he
    rw [if_neg (by omega)]
    by_cases hb : 65536 < (getF l 0 0).1
    · rw [if_pos hb]
      simp (disch := (first | assumption | (simp only [Bool.and_eq_true, Bool.and_eq_false_iff, decide_eq_true_eq, decide_eq_false_iff_not, bne_iff_ne, beq_iff_eq, beq_eq_false_iff_ne, bne_eq_false_iff_eq, Bool.not_eq_true', Bool.not_eq_false', bys_length, List.length_append, List.length_cons, List.length_nil, List.length_map, List.length_drop, List.length_take, Int.natCast_add, wrap_i64_eq, wrap_u64, wrap_u8, ne_eq, not_true_eq_false, not_false_eq_true, Nat.zero_add, Nat.mul_one] <;> omega) | omega | (simp; done) | (simp; omega))) only [↓at_runK, ↓at_bind, ↓contQ_mk, ↓at_ret, ↓at_consK, ↓at_nilK, ↓at_optK, ↓at_intK, ↓at_boolK, ↓at_strK, ↓at_slK, ↓at_slOK, ↓at_slK0, ↓at_slOK0, ↓at_aggK, ↓at_cond_t, ↓at_cond_f, ↓at_sameL, ↓at_any1, ↓at_any, and_self, toBytes_bys, List.nil_append, List.append_nil, rget_run]
      simp [bys_nil]
    · have e1 : IntKind.i64.wrap (((getF l 0 0).1 : Nat) : Int) = (((getF l 0 0).1 : Nat) : Int) := wrap_i64_id (by omega) (by omega)
      have e2 : IntKind.i64.wrap ((((getF l 0 0).2.1 : Nat) : Int) + (((getF l 0 0).1 : Nat) : Int)) = (((getF l 0 0).2.1 + (getF l 0 0).1 : Nat) : Int) := by rw [wrap_i64_id (by omega) (by omega)]; omega
      rw [if_neg hb]
      by_cases hs : l.length < (getF l 0 0).2.1 + (getF l 0 0).1
      · rw [if_pos hs]
        simp (disch := (first | assumption | (simp only [Bool.and_eq_true, Bool.and_eq_false_iff, decide_eq_true_eq, decide_eq_false_iff_not, bne_iff_ne, beq_iff_eq, beq_eq_false_iff_ne, bne_eq_false_iff_eq, Bool.not_eq_true', Bool.not_eq_false', bys_length, List.length_append, List.length_cons, List.length_nil, List.length_map, List.length_drop, List.length_take, Int.natCast_add, wrap_i64_eq, wrap_u64, wrap_u8, ne_eq, not_true_eq_false, not_false_eq_true, Nat.zero_add, Nat.mul_one] <;> omega) | omega | (simp; done) | (simp; omega))) only [↓at_runK, ↓at_bind, ↓contQ_mk, ↓at_ret, ↓at_consK, ↓at_nilK, ↓at_optK, ↓at_intK, ↓at_boolK, ↓at_strK, ↓at_slK, ↓at_slOK, ↓at_slK0, ↓at_slOK0, ↓at_aggK, ↓at_cond_t, ↓at_cond_f, ↓at_sameL, ↓at_any1, ↓at_any, and_self, toBytes_bys, List.nil_append, List.append_nil, rget_run, e1, e2]
        simp [bys_nil]
      · rw [if_neg hs]
        simp (disch := (first | assumption | (simp only [Bool.and_eq_true, Bool.and_eq_false_iff, decide_eq_true_eq, decide_eq_false_iff_not, bne_iff_ne, beq_iff_eq, beq_eq_false_iff_ne, bne_eq_false_iff_eq, Bool.not_eq_true', Bool.not_eq_false', bys_length, List.length_append, List.length_cons, List.length_nil, List.length_map, List.length_drop, List.length_take, Int.natCast_add, wrap_i64_eq, wrap_u64, wrap_u8, ne_eq, not_true_eq_false, not_false_eq_true, Nat.zero_add, Nat.mul_one] <;> omega) | omega | (simp; done) | (simp; omega))) only [↓at_runK, ↓at_bind, ↓contQ_mk, ↓at_ret, ↓at_consK, ↓at_nilK, ↓at_optK, ↓at_intK, ↓at_boolK, ↓at_strK, ↓at_slK, ↓at_slOK, ↓at_slK0, ↓at_slOK0, ↓at_aggK, ↓at_cond_t, ↓at_cond_f, ↓at_sameL, ↓at_any1, ↓at_any, and_self, toBytes_bys, List.nil_append, List.append_nil, rget_run, e1, e2, part_mid, List.length_take]
        simp
  · rw [if_pos he]
    simp (disch := (first | assumption | (simp only [Bool.and_eq_true, Bool.and_eq_false_iff, decide_eq_true_eq, decide_eq_false_iff_not, bne_iff_ne, beq_iff_eq, beq_eq_false_iff_ne, bne_eq_false_iff_eq, Bool.not_eq_true', Bool.not_eq_false', bys_length, List.length_append, List.length_cons, List.length_nil, List.length_map, List.length_drop, List.length_take, Int.natCast_add, wrap_i64_eq, wrap_u64, wrap_u8, ne_eq, not_true_eq_false, not_false_eq_true, Nat.zero_add, Nat.mul_one] <;> omega) | omega | (simp; done) | (simp; omega))) only [↓at_runK, ↓at_bind, ↓contQ_mk, ↓at_ret, ↓at_consK, ↓at_nilK, ↓at_optK, ↓at_intK, ↓at_boolK, ↓at_strK, ↓at_slK, ↓at_slOK, ↓at_slK0, ↓at_slOK0, ↓at_aggK, ↓at_cond_t, ↓at_cond_f, ↓at_sameL, ↓at_any1, ↓at_any, and_self, toBytes_bys, List.nil_append, List.append_nil, rget_run]
    simp [he, bys_nil]
theorem fget_run {d : Nat} {f : Bool} {l : List UInt8} {h : Heap} {Q : Res → Prop} {tg : Hid Q} (hl : l.length ≤ 140737488351232) :
    Run (evFn Cw (d + 2) 28 [.sl f 0 (bys l)] h) Q tg = Q ([.sl (decide ((fget l).2.2 ≠ 0)) 0 (bys (fget l).1), .int .i64 (fget l).2.1, .int .i64 (fget l).2.2], h) := (fget_ok d f l h hl).at
theorem rfget_run {d : Nat} {f : Bool} {l : List UInt8} {h : Heap} {Q : Res → Prop} {tg : Hid Q} (hl : l.length ≤ 140737488351232) :
    Run (evFn Cw (d + 2) 30 [.sl f 0 (bys l)] h) Q tg = Q ([.sl (decide ((fget l).2.2 ≠ 0)) 0 (bys (fget l).1), .int .i64 (fget l).2.1, .int .i64 (fget l).2.2], h) := (rfget_ok d f l h hl).at

/-- A field's bytes. -/
noncomputable def pk (f : List UInt8) : List UInt8 := if 65536 < f.length then [] else enc f.length ++ f
theorem pk_len (f : List UInt8) : (pk f).length ≤ 65546 := by
  unfold pk
  split
  · simp
  · have := (enc_length 9 f.length (lt_128_10 (by omega))).2
    simp; omega
theorem fget_spec {l : List UInt8} (h : (fget l).2.2 = 0) : (fget l).1.length ≤ 65536 ∧ 1 ≤ (fget l).2.1 ∧ (fget l).2.1 ≤ l.length ∧ l.take (fget l).2.1 = pk (fget l).1 := by
  rw [fget_eq] at h ⊢
  unfold fgetW at h ⊢
  rcases getF_spec0 l with ⟨m, h1, h2, h3, h4⟩ | ⟨e, h1, he⟩
  · rw [h1] at h ⊢
    simp only [ne_eq, not_true_eq_false, if_false] at h ⊢
    split at h
    · simp at h
    · rename_i hm
      rw [if_neg hm]
      split at h
      · simp at h
      · rename_i hs
        rw [if_neg hs]
        have hlen := (enc_length 9 m (lt_128_10 h4)).1
        have e1 : ((l.drop (enc m).length).take m).length = m := by simp; omega
        refine ⟨by rw [e1]; omega, by simp only; omega, by simp only; omega, ?_⟩
        unfold pk
        rw [e1, if_neg hm]
        simp only
        rw [List.take_add, h2]
  · rw [h1] at h
    rw [if_pos (by simp; omega)] at h
    simp at h; omega

theorem fput_ok (d : Nat) (f g : Bool) (b x : List UInt8) (h : Heap) (hb : b.length ≤ 140737488200000) :
    Ans (evFn Cw (d + 2) 27 [.sl f 0 (bys b), .sl g 0 (bys x)] h) ([.sl false 0 (bys (b ++ pk x))], h) := by
  refine Run.ans ?_
  rw [F27_eq]
  unfold pk
  by_cases hx : 65536 < x.length
  · rw [if_pos hx]
    simp (disch := (first | assumption | (simp only [Bool.and_eq_true, Bool.and_eq_false_iff, decide_eq_true_eq, decide_eq_false_iff_not, bne_iff_ne, beq_iff_eq, beq_eq_false_iff_ne, bne_eq_false_iff_eq, Bool.not_eq_true', Bool.not_eq_false', bys_length, List.length_append, List.length_cons, List.length_nil, List.length_map, List.length_drop, List.length_take, Int.natCast_add, wrap_i64_eq, wrap_u64, wrap_u8, ne_eq, not_true_eq_false, not_false_eq_true, Nat.zero_add, Nat.mul_one] <;> omega) | omega | (simp; done) | (simp; omega))) only [↓at_runK, ↓at_bind, ↓contQ_mk, ↓at_ret, ↓at_consK, ↓at_nilK, ↓at_optK, ↓at_intK, ↓at_boolK, ↓at_strK, ↓at_slK, ↓at_slOK, ↓at_slK0, ↓at_slOK0, ↓at_aggK, ↓at_cond_t, ↓at_cond_f, ↓at_sameL, ↓at_any1, ↓at_any, and_self, toBytes_bys, List.nil_append, List.append_nil]
  · rw [if_neg hx]
    have e1 : IntKind.u64.wrap (((bys x).length : Nat) : Int) = ((x.length : Nat) : Int) := by rw [bys_length, wrap_u64_id (by omega) (by omega)]
    have h2 := (enc_length 9 x.length (lt_128_10 (by omega))).2
    simp (disch := (first | assumption | (simp only [Bool.and_eq_true, Bool.and_eq_false_iff, decide_eq_true_eq, decide_eq_false_iff_not, bne_iff_ne, beq_iff_eq, beq_eq_false_iff_ne, bne_eq_false_iff_eq, Bool.not_eq_true', Bool.not_eq_false', bys_length, List.length_append, List.length_cons, List.length_nil, List.length_map, List.length_drop, List.length_take, Int.natCast_add, wrap_i64_eq, wrap_u64, wrap_u8, ne_eq, not_true_eq_false, not_false_eq_true, Nat.zero_add, Nat.mul_one] <;> omega) | omega | (simp; done) | (simp; omega))) only [↓at_runK, ↓at_bind, ↓contQ_mk, ↓at_ret, ↓at_consK, ↓at_nilK, ↓at_optK, ↓at_intK, ↓at_boolK, ↓at_strK, ↓at_slK, ↓at_slOK, ↓at_slK0, ↓at_slOK0, ↓at_aggK, ↓at_cond_t, ↓at_cond_f, ↓at_sameL, ↓at_any1, ↓at_any, and_self, toBytes_bys, List.nil_append, List.append_nil, put_run, e1, ← bys_append, List.append_assoc]
theorem fput_run {d : Nat} {f g : Bool} {b x : List UInt8} {h : Heap} {Q : Res → Prop} {tg : Hid Q} (hb : b.length ≤ 140737488200000) :
    Run (evFn Cw (d + 2) 27 [.sl f 0 (bys b), .sl g 0 (bys x)] h) Q tg = Q ([.sl false 0 (bys (b ++ pk x))], h) := (fput_ok d f g b x h hb).at
theorem fput_run0 {d : Nat} {f g : Bool} {x : List UInt8} {h : Heap} {Q : Res → Prop} {tg : Hid Q} :
    Run (evFn Cw (d + 2) 27 [.sl f 0 [], .sl g 0 (bys x)] h) Q tg = Q ([.sl false 0 (bys (pk x))], h) := by
  have := fput_ok d f g [] x h (by simp)
  simp only [bys_nil, List.nil_append] at this
  exact this.at

/-- Rows of bytes. -/
def flds (l : List (List UInt8)) : List AVal := l.map fun b => .sl false 0 (bys b)
theorem flds_length (l : List (List UInt8)) : (flds l).length = l.length := by simp [flds]
theorem flds_nil : flds [] = [] := of_eq_true (eq_self _)
theorem flds_snoc (l : List (List UInt8)) (n : List UInt8) : flds l ++ [AVal.sl false 0 (bys n)] = flds (l ++ [n]) := by simp [flds]
theorem flds_getD {l : List (List UInt8)} {i : Nat} (h : i < l.length) : (flds l).getD i AVal.undef = .sl false 0 (bys l[i]) := by simp [flds, h]

/-- All fields that bytes are. -/
noncomputable def unpW : Nat → List UInt8 → List (List UInt8) → List (List UInt8) × Nat
  | 0, _, acc => (acc, 0)
  | n + 1, l, acc => if l.length = 0 then (acc, 0) else if (fget l).2.2 = 0 then unpW n (l.drop (fget l).2.1) (acc ++ [(fget l).1]) else ([], (fget l).2.2)
theorem unp_ex : ∃ f : Nat → List UInt8 → List (List UInt8) → List (List UInt8) × Nat, (∀ l acc, f 0 l acc = (acc, 0)) ∧ ∀ n l acc, f (n + 1) l acc = if l.length = 0 then (acc, 0) else if (fget l).2.2 = 0 then f n (l.drop (fget l).2.1) (acc ++ [(fget l).1]) else ([], (fget l).2.2) := ⟨unpW, fun _ _ => rfl, fun _ _ _ => rfl⟩
noncomputable def unpF : Nat → List UInt8 → List (List UInt8) → List (List UInt8) × Nat := Classical.choose unp_ex
theorem unpF_zero (l : List UInt8) (acc : List (List UInt8)) : unpF 0 l acc = (acc, 0) := (Classical.choose_spec unp_ex).1 l acc
theorem unpF_succ (n : Nat) (l : List UInt8) (acc : List (List UInt8)) : unpF (n + 1) l acc = if l.length = 0 then (acc, 0) else if (fget l).2.2 = 0 then unpF n (l.drop (fget l).2.1) (acc ++ [(fget l).1]) else ([], (fget l).2.2) := (Classical.choose_spec unp_ex).2 n l acc

noncomputable def unp (l : List UInt8) : List (List UInt8) × Nat := unpF l.length l []
theorem awake_unp : unp [2, 97, 98, 0] = ([[97, 98], []], 0) := by
  have g1 : fget [2, 97, 98, 0] = ([97, 98], 3, 0) := by rw [fget_eq]; decide
  have g2 : fget [0] = ([], 1, 0) := by rw [fget_eq]; decide
  unfold unp
  have e : ([2, 97, 98, 0] : List UInt8).length = 3 + 1 := rfl
  rw [e, unpF_succ, g1, if_neg (by decide), if_pos rfl]
  have e2 : ([2, 97, 98, 0] : List UInt8).drop (([97, 98], 3, 0) : List UInt8 × Nat × Nat).2.1 = [0] := rfl
  rw [e2, unpF_succ, g2, if_neg (by decide), if_pos rfl]
  have e3 : ([0] : List UInt8).drop (([], 1, 0) : List UInt8 × Nat × Nat).2.1 = [] := rfl
  rw [e3, unpF_succ, if_pos (by decide)]
  rfl
/-- The bytes of fields. -/
noncomputable def pks (l : List (List UInt8)) : List UInt8 := l.flatMap pk
theorem pks_take (l : List (List UInt8)) (i : Nat) (h : i < l.length) : pks (l.take i) ++ pk l[i] = pks (l.take (i + 1)) := by
  rw [List.take_succ_eq_append_getElem h]
  simp only [pks, List.flatMap_append, List.flatMap_cons, List.flatMap_nil, List.append_nil]
theorem pks_le (l : List (List UInt8)) (i : Nat) : (pks (l.take i)).length ≤ (pks l).length := by
  have : pks l = pks (l.take i) ++ pks (l.drop i) := by
    unfold pks
    rw [← List.flatMap_append, List.take_append_drop]
  rw [this, List.length_append]; omega
theorem pks_len : ∀ l : List (List UInt8), (pks l).length ≤ 65546 * l.length
  | [] => by simp [pks]
  | f :: l => by
    have h1 := pks_len l
    have h2 := pk_len f
    have e : pks (f :: l) = pk f ++ pks l := by simp [pks]
    rw [e, List.length_append, List.length_cons]
    omega
theorem unp_pks : ∀ (n : Nat) (l : List UInt8) (acc : List (List UInt8)), l.length ≤ n → (unpF n l acc).2 = 0 → pks (unpF n l acc).1 = pks acc ++ l
  | 0, l, acc, hl, _ => by
    have : l = [] := List.length_eq_zero_iff.1 (by omega)
    rw [unpF_zero, this]; simp
  | n + 1, l, acc, hl, h => by
    rw [unpF_succ] at h ⊢
    by_cases h0 : l.length = 0
    · rw [if_pos h0, List.length_eq_zero_iff.1 h0]; simp
    · rw [if_neg h0] at h ⊢
      by_cases he : (fget l).2.2 = 0
      · rw [if_pos he] at h ⊢
        have ⟨h1, h2, h3, h4⟩ := fget_spec he
        rw [unp_pks n _ _ (by simp; omega) h]
        have e : pks (acc ++ [(fget l).1]) = pks acc ++ pk (fget l).1 := by simp only [pks, List.flatMap_append, List.flatMap_cons, List.flatMap_nil, List.append_nil]
        rw [e, ← h4, List.append_assoc, List.take_append_drop]
      · rw [if_neg he] at h
        exact absurd h he

theorem pack_loop (d : Nat) (f : Bool) (h : Heap) (l : List (List UInt8)) (hb : (pks l).length ≤ 140737488200000) (hlen : l.length ≤ 40000000) : ∀ (n i k : Nat), l.length = i + n → n < k →
    Ans (P18_0 (d + 2) k (bys (pks (l.take i))) f (flds l) ((flds l).length : Nat) i h) ([.sl false 0 (bys (pks l))], h) := by
  intro n
  induction n with
  | zero =>
    intro i k hi hk
    obtain ⟨k, rfl⟩ : ∃ m, k = m + 1 := ⟨k - 1, by omega⟩
    refine Run.ans ?_
    rw [P18_0_eq, List.take_of_length_le (by omega)]
    simp (disch := (first | assumption | (simp only [Bool.and_eq_true, Bool.and_eq_false_iff, decide_eq_true_eq, decide_eq_false_iff_not, bne_iff_ne, beq_iff_eq, beq_eq_false_iff_ne, bne_eq_false_iff_eq, Bool.not_eq_true', Bool.not_eq_false', bys_length, List.length_append, List.length_cons, List.length_nil, List.length_map, List.length_drop, List.length_take, Int.natCast_add, wrap_i64_eq, wrap_u64, wrap_u8, ne_eq, not_true_eq_false, not_false_eq_true, Nat.zero_add, Nat.mul_one] <;> omega) | omega | (simp; done) | (simp; omega))) only [↓at_runK, ↓at_bind, ↓contQ_mk, ↓at_ret, ↓at_consK, ↓at_nilK, ↓at_optK, ↓at_intK, ↓at_boolK, ↓at_strK, ↓at_slK, ↓at_slOK, ↓at_slK0, ↓at_slOK0, ↓at_aggK, ↓at_cond_t, ↓at_cond_f, ↓at_sameL, ↓at_any1, ↓at_any, and_self, toBytes_bys, List.nil_append, List.append_nil, flds_length]
  | succ n ih =>
    intro i k hi hk
    obtain ⟨k, rfl⟩ : ∃ m, k = m + 1 := ⟨k - 1, by omega⟩
    have hi' : i < l.length := by omega
    have e : IntKind.i64.wrap ((i : Int) + 1) = ((i + 1 : Nat) : Int) := by rw [wrap_i64_id (by omega) (by omega)]; omega
    have hle := pks_le l i
    refine Run.ans ?_
    rw [P18_0_eq]
    rw [flds_length] at ih ⊢
    simp (disch := (first | assumption | (simp only [Bool.and_eq_true, Bool.and_eq_false_iff, decide_eq_true_eq, decide_eq_false_iff_not, bne_iff_ne, beq_iff_eq, beq_eq_false_iff_ne, bne_eq_false_iff_eq, Bool.not_eq_true', Bool.not_eq_false', bys_length, List.length_append, List.length_cons, List.length_nil, List.length_map, List.length_drop, List.length_take, Int.natCast_add, wrap_i64_eq, wrap_u64, wrap_u8, ne_eq, not_true_eq_false, not_false_eq_true, Nat.zero_add, Nat.mul_one] <;> omega) | omega | (simp; done) | (simp; omega))) only [↓at_runK, ↓at_bind, ↓contQ_mk, ↓at_ret, ↓at_consK, ↓at_nilK, ↓at_optK, ↓at_intK, ↓at_boolK, ↓at_strK, ↓at_slK, ↓at_slOK, ↓at_slK0, ↓at_slOK0, ↓at_aggK, ↓at_cond_t, ↓at_cond_f, ↓at_sameL, ↓at_any1, ↓at_any, and_self, toBytes_bys, List.nil_append, List.append_nil, flds_length, Int.toNat_natCast, flds_getD hi', e, fput_run, pks_take l i hi', Ans.at (ih (i + 1) k (by omega) (by omega))]
theorem rpack_loop (d : Nat) (f : Bool) (h : Heap) (l : List (List UInt8)) (hb : (pks l).length ≤ 140737488200000) (hlen : l.length ≤ 40000000) : ∀ (n i k : Nat), l.length = i + n → n < k →
    Ans (P22_0 (d + 1) k f (flds l) (bys (pks (l.take i))) i h) ([.sl false 0 (bys (pks l))], h) := by
  intro n
  induction n with
  | zero =>
    intro i k hi hk
    obtain ⟨k, rfl⟩ : ∃ m, k = m + 1 := ⟨k - 1, by omega⟩
    refine Run.ans ?_
    rw [P22_0_eq, List.take_of_length_le (by omega)]
    simp (disch := (first | assumption | (simp only [Bool.and_eq_true, Bool.and_eq_false_iff, decide_eq_true_eq, decide_eq_false_iff_not, bne_iff_ne, beq_iff_eq, beq_eq_false_iff_ne, bne_eq_false_iff_eq, Bool.not_eq_true', Bool.not_eq_false', bys_length, List.length_append, List.length_cons, List.length_nil, List.length_map, List.length_drop, List.length_take, Int.natCast_add, wrap_i64_eq, wrap_u64, wrap_u8, ne_eq, not_true_eq_false, not_false_eq_true, Nat.zero_add, Nat.mul_one] <;> omega) | omega | (simp; done) | (simp; omega))) only [↓at_runK, ↓at_bind, ↓contQ_mk, ↓at_ret, ↓at_consK, ↓at_nilK, ↓at_optK, ↓at_intK, ↓at_boolK, ↓at_strK, ↓at_slK, ↓at_slOK, ↓at_slK0, ↓at_slOK0, ↓at_aggK, ↓at_cond_t, ↓at_cond_f, ↓at_sameL, ↓at_any1, ↓at_any, and_self, toBytes_bys, List.nil_append, List.append_nil, flds_length]
  | succ n ih =>
    intro i k hi hk
    obtain ⟨k, rfl⟩ : ∃ m, k = m + 1 := ⟨k - 1, by omega⟩
    have hi' : i < l.length := by omega
    have e : IntKind.i64.wrap ((i : Int) + 1) = ((i + 1 : Nat) : Int) := by rw [wrap_i64_id (by omega) (by omega)]; omega
    have hle := pks_le l i
    have ht := pks_take l i hi'
    refine Run.ans ?_
    rw [P22_0_eq]
    by_cases hx : 65536 < (l[i]).length
    · have e0 : pk l[i] = [] := by unfold pk; rw [if_pos hx]
      rw [e0, List.append_nil] at ht
      simp (disch := (first | assumption | (simp only [Bool.and_eq_true, Bool.and_eq_false_iff, decide_eq_true_eq, decide_eq_false_iff_not, bne_iff_ne, beq_iff_eq, beq_eq_false_iff_ne, bne_eq_false_iff_eq, Bool.not_eq_true', Bool.not_eq_false', bys_length, List.length_append, List.length_cons, List.length_nil, List.length_map, List.length_drop, List.length_take, Int.natCast_add, wrap_i64_eq, wrap_u64, wrap_u8, ne_eq, not_true_eq_false, not_false_eq_true, Nat.zero_add, Nat.mul_one] <;> omega) | omega | (simp; done) | (simp; omega))) only [↓at_runK, ↓at_bind, ↓contQ_mk, ↓at_ret, ↓at_consK, ↓at_nilK, ↓at_optK, ↓at_intK, ↓at_boolK, ↓at_strK, ↓at_slK, ↓at_slOK, ↓at_slK0, ↓at_slOK0, ↓at_aggK, ↓at_cond_t, ↓at_cond_f, ↓at_sameL, ↓at_any1, ↓at_any, and_self, toBytes_bys, List.nil_append, List.append_nil, flds_length, Int.toNat_natCast, flds_getD hi', e, ht, Ans.at (ih (i + 1) k (by omega) (by omega))]
    · have e0 : pk l[i] = enc (l[i]).length ++ l[i] := by unfold pk; rw [if_neg hx]
      have e1 : IntKind.u64.wrap (((bys l[i]).length : Nat) : Int) = (((l[i]).length : Nat) : Int) := by rw [bys_length, wrap_u64_id (by omega) (by omega)]
      have h2 := (enc_length 9 (l[i]).length (lt_128_10 (by omega))).2
      rw [e0, ← List.append_assoc] at ht
      simp (disch := (first | assumption | (simp only [Bool.and_eq_true, Bool.and_eq_false_iff, decide_eq_true_eq, decide_eq_false_iff_not, bne_iff_ne, beq_iff_eq, beq_eq_false_iff_ne, bne_eq_false_iff_eq, Bool.not_eq_true', Bool.not_eq_false', bys_length, List.length_append, List.length_cons, List.length_nil, List.length_map, List.length_drop, List.length_take, Int.natCast_add, wrap_i64_eq, wrap_u64, wrap_u8, ne_eq, not_true_eq_false, not_false_eq_true, Nat.zero_add, Nat.mul_one] <;> omega) | omega | (simp; done) | (simp; omega))) only [↓at_runK, ↓at_bind, ↓contQ_mk, ↓at_ret, ↓at_consK, ↓at_nilK, ↓at_optK, ↓at_intK, ↓at_boolK, ↓at_strK, ↓at_slK, ↓at_slOK, ↓at_slK0, ↓at_slOK0, ↓at_aggK, ↓at_cond_t, ↓at_cond_f, ↓at_sameL, ↓at_any1, ↓at_any, and_self, toBytes_bys, List.nil_append, List.append_nil, flds_length, Int.toNat_natCast, flds_getD hi', e, e1, rput_run, ← bys_append, ht, Ans.at (ih (i + 1) k (by omega) (by omega))]
theorem pack_run {d : Nat} {f : Bool} {l : List (List UInt8)} {h : Heap} {Q : Res → Prop} {tg : Hid Q} (hb : (pks l).length ≤ 140737488200000) (hlen : l.length ≤ 40000000) :
    Run (evFn Cw (d + 3) 18 [.sl f 0 (flds l)] h) Q tg = Q ([.sl false 0 (bys (pks l))], h) := by
  have h1 := pack_loop d f h l hb hlen l.length 0 rounds (by omega) (rounds_gt _ (by omega))
  have e : pks (l.take 0) = [] := by simp [pks]
  rw [e0, e, bys_nil] at h1
  rw [F18_eq]
  exact h1.at
theorem rpack_run {d : Nat} {f : Bool} {l : List (List UInt8)} {h : Heap} {Q : Res → Prop} {tg : Hid Q} (hb : (pks l).length ≤ 140737488200000) (hlen : l.length ≤ 40000000) :
    Run (evFn Cw (d + 2) 22 [.sl f 0 (flds l)] h) Q tg = Q ([.sl false 0 (bys (pks l))], h) := by
  have h1 := rpack_loop d f h l hb hlen l.length 0 rounds (by omega) (rounds_gt _ (by omega))
  have e : pks (l.take 0) = [] := by simp [pks]
  rw [e0, e, bys_nil] at h1
  rw [F22_eq]
  exact h1.at
theorem unpF_len : ∀ (n : Nat) (l : List UInt8) (acc : List (List UInt8)), (unpF n l acc).1.length ≤ acc.length + n
  | 0, l, acc => by rw [unpF_zero]; simp
  | n + 1, l, acc => by
    rw [unpF_succ]
    split
    · simp
    · split
      · have := unpF_len n (l.drop (fget l).2.1) (acc ++ [(fget l).1])
        simp at this
        omega
      · simp
theorem unp_len (l : List UInt8) : (unp l).1.length ≤ l.length := by
  have := unpF_len l.length l []
  unfold unp
  simpa using this

theorem part_flds {l : List (List UInt8)} {i : Nat} (h : i < l.length) : Weave.part (i : Int) ((i + 1 : Nat) : Int) (flds l) = flds [l[i]] := by
  have e : ((l.drop i).take 1) = [l[i]] := by
    rw [List.drop_eq_getElem_cons h]; rfl
  simp only [Weave.part, Int.toNat_natCast]
  have e2 : (((i + 1 : Nat) : Int) - (i : Int)).toNat = 1 := by omega
  rw [e2]
  unfold flds
  rw [← List.map_drop, ← List.map_take, e]
theorem pks_one (f : List UInt8) : pks [f] = pk f := by simp [pks]
/-- What is packed is unpacked: the fields that are not too long. -/
theorem unp_packed : ∀ (l : List (List UInt8)) (n : Nat) (acc : List (List UInt8)), (pks l).length ≤ n → (unpF n (pks l) acc).2 = 0
  | [], n, acc, _ => by
    cases n with
    | zero => rw [unpF_zero]
    | succ n => rw [unpF_succ, if_pos (by simp [pks])]
  | f :: l, n, acc, hn => by
    have e : pks (f :: l) = pk f ++ pks l := by simp [pks]
    rw [e] at hn ⊢
    by_cases hx : 65536 < f.length
    · have e0 : pk f = [] := by unfold pk; rw [if_pos hx]
      rw [e0, List.nil_append] at hn ⊢
      exact unp_packed l n acc hn
    · have e0 : pk f = enc f.length ++ f := by unfold pk; rw [if_neg hx]
      rw [e0] at hn ⊢
      have hl := (enc_length 9 f.length (lt_128_10 (by omega))).1
      simp only [List.length_append] at hn
      obtain ⟨n, rfl⟩ : ∃ q, n = q + 1 := ⟨n - 1, by omega⟩
      have hg : fget ((enc f.length ++ f) ++ pks l) = (f, (enc f.length).length + f.length, 0) := by
        rw [fget_eq]
        unfold fgetW
        rw [List.append_assoc, get_enc0 f.length (f ++ pks l) (by omega)]
        simp only [ne_eq, not_true_eq_false, if_false]
        rw [if_neg hx, if_neg (by simp only [List.length_append]; omega)]
        simp
      rw [unpF_succ, hg, if_neg (by simp only [List.length_append]; omega), if_pos rfl]
      have e2 : ((enc f.length ++ f) ++ pks l).drop ((enc f.length).length + f.length) = pks l := by
        rw [List.drop_append_of_le_length (by simp)]
        simp
      simp only [e2]
      exact unp_packed l n _ (by omega)

end Go.Proofs.Ytkpjkaikeeldfaa.Wa
