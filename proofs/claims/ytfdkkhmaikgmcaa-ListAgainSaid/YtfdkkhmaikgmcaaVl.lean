/- Records that follow one another; chains; recoveries. ListFollows, ListMays. -/
import Derived.Test.YtfdkkhmaikgmcaaVd
import Derived.Test.YtfdkkhmaikgmcaaWc
import Derived.Test.YtfdkkhmaikgmcaaWf
import Derived.Test.YtfdkkhmaikgmcaaWvLc
import Derived.Test.YtfdkkhmaikgmcaaVapi
import Derived.Test.YtfdkkhmaikgmcaaVq
namespace Go.Proofs.Ytfdkkhmaikgmcaa.Wa
open Go Go.Weave
set_option maxRecDepth 100000
set_option linter.unusedSimpArgs false
set_option linter.unusedVariables false
set_option linter.unusedSectionVars false


def recs (l : List Rec) : List AVal := l.map Rec.A
theorem recs_length (l : List Rec) : (recs l).length = l.length := by simp [recs]
theorem recs_getD {l : List Rec} {i : Nat} (h : i < l.length) : (recs l).getD i AVal.undef = .agg [.int .i64 l[i].kind, .int .i64 l[i].chain, .int .i64 l[i].lsn, .int .i64 l[i].prev, .sl l[i].full 0 (bys l[i].data)] := by simp [recs, h, Rec.A, Rec.C]
theorem recs_nil : recs [] = [] := of_eq_true (eq_self _)
theorem recs_take (l : List Rec) (i : Nat) : (recs l).take i = recs (l.take i) := by simp [recs]
theorem recs_part0 {l : List Rec} {i : Nat} : Weave.part 0 (i : Int) (recs l) = recs (l.take i) := by
  simp only [Weave.part, Int.toNat_zero, List.drop_zero, Int.sub_zero, Int.toNat_natCast, recs_take]
theorem recs_snoc (l : List Rec) (r : Rec) : recs l ++ [AVal.agg [.int .i64 r.kind, .int .i64 r.chain, .int .i64 r.lsn, .int .i64 r.prev, .sl r.full 0 (bys r.data)]] = recs (l ++ [r]) := by simp [recs, Rec.A, Rec.C]

/-! ### Heads -/
def headsL : List Rec → List Int → List Int
  | [], hs => hs
  | r :: rs, hs => headsL rs (if 0 ≤ r.chain ∧ r.chain < 4 then hs.set r.chain.toNat r.lsn else hs)
def headAt : List Rec → Int → Int → Int
  | [], _, a => a
  | r :: rs, c, a => headAt rs c (if r.chain = c then r.lsn else a)
theorem headsL_length : ∀ (l : List Rec) (hs : List Int), (headsL l hs).length = hs.length
  | [], _ => rfl
  | r :: rs, hs => by
    unfold headsL
    rw [headsL_length rs]
    split <;> simp
theorem headsL_four : ∀ (l : List Rec) (a b c e : Int), headsL l [a, b, c, e] = [headAt l 0 a, headAt l 1 b, headAt l 2 c, headAt l 3 e]
  | [], _, _, _, _ => rfl
  | r :: rs, a, b, c, e => by
    unfold headsL headAt
    by_cases h0 : r.chain = 0
    · rw [h0]; exact headsL_four rs r.lsn b c e
    · by_cases h1 : r.chain = 1
      · rw [h1]; exact headsL_four rs a r.lsn c e
      · by_cases h2 : r.chain = 2
        · rw [h2]; exact headsL_four rs a b r.lsn e
        · by_cases h3 : r.chain = 3
          · rw [h3]; exact headsL_four rs a b c r.lsn
          · rw [if_neg (by omega), if_neg h0, if_neg h1, if_neg h2, if_neg h3]
            exact headsL_four rs a b c e
theorem headsL_snoc : ∀ (l : List Rec) (r : Rec) (hs : List Int), headsL (l ++ [r]) hs = if 0 ≤ r.chain ∧ r.chain < 4 then (headsL l hs).set r.chain.toNat r.lsn else headsL l hs
  | [], r, hs => rfl
  | x :: l, r, hs => by
    simp only [List.cons_append, headsL]
    rw [headsL_snoc l r]
theorem four {l : List Int} (h : l.length = 4) : ∃ a b c e, l = [a, b, c, e] := by
  match l, h with
  | [a, b, c, e], _ => exact ⟨a, b, c, e, rfl⟩
theorem ints4 {hs : List Int} (h : hs.length = 4) : (ints hs).take 4 = ints hs := List.take_of_length_le (by simp [ints_length, h])

theorem heads_loop (d : Nat) (f : Bool) (h : Heap) (l : List Rec) (hl : l.length ≤ 1000000) (a b c e : Int) (Q : Res → Prop) : ∀ (n i k : Nat) (hs : List Int) (tg : Hid Q), hs.length = 4 → l.length = i + n → n < k →
    Run (P69_0 d k f (recs l) l.length i (ints hs) a b c e h) Q tg = Q ([.agg (ints (headsL (l.drop i) hs))], h) := by
  intro n
  induction n with
  | zero =>
    intro i k hs tg h4 hi hk
    obtain ⟨k, rfl⟩ : ∃ m, k = m + 1 := ⟨k - 1, by omega⟩
    have hd : l.drop i = [] := List.drop_eq_nil_of_le (by omega)
    rw [P69_0_eq, hd]
    have hil := ints_length hs
    simp (disch := (first | assumption | (simp only [Bool.and_eq_true, Bool.and_eq_false_iff, decide_eq_true_eq, decide_eq_false_iff_not, bne_iff_ne, beq_iff_eq, beq_eq_false_iff_ne, bne_eq_false_iff_eq, Bool.not_eq_true', Bool.not_eq_false', bys_length, List.length_append, List.length_cons, List.length_nil, List.length_map, List.length_drop, List.length_take, Int.natCast_add, wrap_i64_eq, wrap_u64, wrap_u8, ne_eq, not_true_eq_false, not_false_eq_true, Nat.zero_add, Nat.mul_one] <;> omega) | omega | (simp; done) | (simp; omega))) only [↓at_runK, ↓at_bind, ↓contQ_mk, ↓at_ret, ↓at_consK, ↓at_nilK, ↓at_optK, ↓at_intK, ↓at_boolK, ↓at_strK, ↓at_slK, ↓at_slOK, ↓at_slK0, ↓at_slOK0, ↓at_aggK, ↓at_cond_t, ↓at_cond_f, ↓at_sameL, ↓at_any1, ↓at_any, and_self, toBytes_bys, List.nil_append, List.append_nil, List.drop_zero, List.take_succ_cons, List.take_zero, List.getElem?_cons_succ, List.getElem?_cons_zero, cells_agg, eqCells_cons, eqCells_nil, eq1_int, eq1_bool, eq1_str, ↓at_ptr_whole, ↓at_ptr_cell, ↓at_ptr_obj, ↓at_ptr_objs, shift_obj, shift_elt, toA_val, toA_own, Int.toNat_natCast, List.cons_append, recs_length, ints_length, ints4 h4, headsL, h4]
  | succ n ih =>
    intro i k hs tg h4 hi hk
    obtain ⟨k, rfl⟩ : ∃ m, k = m + 1 := ⟨k - 1, by omega⟩
    have hi' : i < l.length := by omega
    have e1 := succ_wrap (i := i) (by omega)
    rw [P69_0_eq, List.drop_eq_getElem_cons hi']
    unfold headsL
    by_cases hc : 0 ≤ l[i].chain ∧ l[i].chain < 4
    · rw [if_pos hc]
      have ih' := fun tg => ih (i + 1) k (hs.set l[i].chain.toNat l[i].lsn) tg (by simpa using h4) (by omega) (by omega)
      simp (disch := (first | assumption | (simp only [Bool.and_eq_true, Bool.and_eq_false_iff, decide_eq_true_eq, decide_eq_false_iff_not, bne_iff_ne, beq_iff_eq, beq_eq_false_iff_ne, bne_eq_false_iff_eq, Bool.not_eq_true', Bool.not_eq_false', bys_length, List.length_append, List.length_cons, List.length_nil, List.length_map, List.length_drop, List.length_take, Int.natCast_add, wrap_i64_eq, wrap_u64, wrap_u8, ne_eq, not_true_eq_false, not_false_eq_true, Nat.zero_add, Nat.mul_one] <;> omega) | omega | (simp; done) | (simp; omega))) only [↓at_runK, ↓at_bind, ↓contQ_mk, ↓at_ret, ↓at_consK, ↓at_nilK, ↓at_optK, ↓at_intK, ↓at_boolK, ↓at_strK, ↓at_slK, ↓at_slOK, ↓at_slK0, ↓at_slOK0, ↓at_aggK, ↓at_cond_t, ↓at_cond_f, ↓at_sameL, ↓at_any1, ↓at_any, and_self, toBytes_bys, List.nil_append, List.append_nil, List.drop_zero, List.take_succ_cons, List.take_zero, List.getElem?_cons_succ, List.getElem?_cons_zero, cells_agg, eqCells_cons, eqCells_nil, eq1_int, eq1_bool, eq1_str, ↓at_ptr_whole, ↓at_ptr_cell, ↓at_ptr_obj, ↓at_ptr_objs, shift_obj, shift_elt, toA_val, toA_own, Int.toNat_natCast, List.cons_append, recs_length, recs_getD hi', e1, ints_length, ints_set, h4, Nat.zero_add, Nat.mul_one, ih']
    · rw [if_neg hc]
      have ih' := fun tg => ih (i + 1) k hs tg h4 (by omega) (by omega)
      by_cases h0 : 0 ≤ l[i].chain
      · simp (disch := (first | assumption | (simp only [Bool.and_eq_true, Bool.and_eq_false_iff, decide_eq_true_eq, decide_eq_false_iff_not, bne_iff_ne, beq_iff_eq, beq_eq_false_iff_ne, bne_eq_false_iff_eq, Bool.not_eq_true', Bool.not_eq_false', bys_length, List.length_append, List.length_cons, List.length_nil, List.length_map, List.length_drop, List.length_take, Int.natCast_add, wrap_i64_eq, wrap_u64, wrap_u8, ne_eq, not_true_eq_false, not_false_eq_true, Nat.zero_add, Nat.mul_one] <;> omega) | omega | (simp; done) | (simp; omega))) only [↓at_runK, ↓at_bind, ↓contQ_mk, ↓at_ret, ↓at_consK, ↓at_nilK, ↓at_optK, ↓at_intK, ↓at_boolK, ↓at_strK, ↓at_slK, ↓at_slOK, ↓at_slK0, ↓at_slOK0, ↓at_aggK, ↓at_cond_t, ↓at_cond_f, ↓at_sameL, ↓at_any1, ↓at_any, and_self, toBytes_bys, List.nil_append, List.append_nil, List.drop_zero, List.take_succ_cons, List.take_zero, List.getElem?_cons_succ, List.getElem?_cons_zero, cells_agg, eqCells_cons, eqCells_nil, eq1_int, eq1_bool, eq1_str, ↓at_ptr_whole, ↓at_ptr_cell, ↓at_ptr_obj, ↓at_ptr_objs, shift_obj, shift_elt, toA_val, toA_own, Int.toNat_natCast, List.cons_append, recs_length, recs_getD hi', e1, ih']
      · simp (disch := (first | assumption | (simp only [Bool.and_eq_true, Bool.and_eq_false_iff, decide_eq_true_eq, decide_eq_false_iff_not, bne_iff_ne, beq_iff_eq, beq_eq_false_iff_ne, bne_eq_false_iff_eq, Bool.not_eq_true', Bool.not_eq_false', bys_length, List.length_append, List.length_cons, List.length_nil, List.length_map, List.length_drop, List.length_take, Int.natCast_add, wrap_i64_eq, wrap_u64, wrap_u8, ne_eq, not_true_eq_false, not_false_eq_true, Nat.zero_add, Nat.mul_one] <;> omega) | omega | (simp; done) | (simp; omega))) only [↓at_runK, ↓at_bind, ↓contQ_mk, ↓at_ret, ↓at_consK, ↓at_nilK, ↓at_optK, ↓at_intK, ↓at_boolK, ↓at_strK, ↓at_slK, ↓at_slOK, ↓at_slK0, ↓at_slOK0, ↓at_aggK, ↓at_cond_t, ↓at_cond_f, ↓at_sameL, ↓at_any1, ↓at_any, and_self, toBytes_bys, List.nil_append, List.append_nil, List.drop_zero, List.take_succ_cons, List.take_zero, List.getElem?_cons_succ, List.getElem?_cons_zero, cells_agg, eqCells_cons, eqCells_nil, eq1_int, eq1_bool, eq1_str, ↓at_ptr_whole, ↓at_ptr_cell, ↓at_ptr_obj, ↓at_ptr_objs, shift_obj, shift_elt, toA_val, toA_own, Int.toNat_natCast, List.cons_append, recs_length, recs_getD hi', e1, ih']
theorem heads_run {d : Nat} {f : Bool} {l : List Rec} {a b c e : Int} {h : Heap} {Q : Res → Prop} {tg : Hid Q} (hl : l.length ≤ 1000000) :
    Run (evFn Cw (d + 1) 69 [.sl f 6 (recs l), .agg [.int .i64 a, .int .i64 b, .int .i64 c, .int .i64 e]] h) Q tg = Q ([.agg (ints (headsL l [a, b, c, e]))], h) := by
  rw [F69_eq]
  have := heads_loop d f h l hl 0 0 0 0 Q l.length 0 rounds [a, b, c, e] ⟨⟩ rfl (by omega) (rounds_gt _ (by omega))
  rw [e0] at this
  rw [recs_length]
  exact this

end Go.Proofs.Ytfdkkhmaikgmcaa.Wa
