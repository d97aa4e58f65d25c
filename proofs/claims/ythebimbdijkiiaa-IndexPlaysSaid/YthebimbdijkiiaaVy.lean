/- An index and what is told of it; IndexPlays. -/
import Derived.Test.YthebimbdijkiiaaVx
namespace Go.Proofs.Ythebimbdijkiiaa.Wa
open Go Go.Weave
set_option maxRecDepth 100000
set_option linter.unusedSimpArgs false
set_option linter.unusedVariables false
set_option linter.unusedSectionVars false

/-! ### What is told: a value -/
def rents : Int → List Ent → List AVal
  | _, [] => []
  | n, e :: r => .agg [.int .i64 n, .int .i64 e.1.seq, .int .i64 e.1.at', .int .i64 e.2] :: rents (n + 1) r
theorem rents_length : ∀ (n : Int) (E : List Ent), (rents n E).length = E.length
  | _, [] => rfl
  | n, e :: r => by simp [rents, rents_length (n + 1) r]
theorem rents_getD : ∀ {n : Int} {E : List Ent} {i : Nat} (h : i < E.length), (rents n E).getD i AVal.undef = .agg [.int .i64 (n + i), .int .i64 E[i].1.seq, .int .i64 E[i].1.at', .int .i64 E[i].2]
  | n, e :: r, 0, h => by simp [rents]
  | n, e :: r, i + 1, h => by
    have := rents_getD (n := n + 1) (E := r) (i := i) (by simpa using h)
    simp only [rents, List.getD_cons_succ, this, List.getElem_cons_succ]
    have e1 : n + 1 + (i : Int) = n + ((i + 1 : Nat) : Int) := by omega
    rw [e1]
theorem rents_snoc (p : IPlace) (x : Int) : ∀ (n : Int) (E : List Ent), rents n E ++ [AVal.agg [.int .i64 (n + E.length), .int .i64 p.seq, .int .i64 p.at', .int .i64 x]] = rents n (E ++ [(p, x)])
  | n, [] => by simp [rents]
  | n, e :: r => by
    have := rents_snoc p x (n + 1) r
    have e1 : n + 1 + (r.length : Int) = n + ((r.length + 1 : Nat) : Int) := by omega
    simp only [rents, List.cons_append, List.length_cons]
    rw [← this, e1]

theorem place_ne {p : IPlace} {x y : Int} (h : p ≠ ⟨x, y⟩) : (p.seq == x && (p.at' == y && true)) = false := by
  obtain ⟨s, t⟩ := p
  by_cases h1 : s = x
  · by_cases h2 : t = y
    · exact absurd (by rw [h1, h2]) h
    · simp [h2]
  · simp [h1]
theorem rat_loop (d : Nat) (f : Bool) (h : Heap) (F x1 x2 a b c e x y : Int) (E : List Ent) (hl : E.length ≤ 1000) (Q : Res → Prop) : ∀ (n i k : Nat) (tg : Hid Q), E.length = i + n → n < k →
    Run (P48_0 d k i x1 x2 f (rents F E) a b c e x y h) Q tg = Q ([.int .i64 (match idxP ⟨x, y⟩ (E.drop i) with | some k => F + i + (k : Nat) | none => 0)], h) := by
  intro n
  induction n with
  | zero =>
    intro i k tg hi hk
    obtain ⟨k, rfl⟩ : ∃ m, k = m + 1 := ⟨k - 1, by omega⟩
    have hd : E.drop i = [] := List.drop_eq_nil_of_le (by omega)
    rw [P48_0_eq, hd]
    simp (disch := (first | assumption | (simp only [Bool.and_eq_true, Bool.and_eq_false_iff, decide_eq_true_eq, decide_eq_false_iff_not, bne_iff_ne, beq_iff_eq, beq_eq_false_iff_ne, bne_eq_false_iff_eq, Bool.not_eq_true', Bool.not_eq_false', bys_length, List.length_append, List.length_cons, List.length_nil, List.length_map, List.length_drop, List.length_take, Int.natCast_add, wrap_i64_eq, wrap_u64, wrap_u8, ne_eq, not_true_eq_false, not_false_eq_true, Nat.zero_add, Nat.mul_one] <;> omega) | omega | (simp; done) | (simp; omega))) only [↓at_runK, ↓at_bind, ↓contQ_mk, ↓at_ret, ↓at_consK, ↓at_nilK, ↓at_optK, ↓at_intK, ↓at_boolK, ↓at_strK, ↓at_slK, ↓at_slOK, ↓at_slK0, ↓at_slOK0, ↓at_aggK, ↓at_cond_t, ↓at_cond_f, ↓at_sameL, ↓at_any1, ↓at_any, and_self, toBytes_bys, List.nil_append, List.append_nil, List.drop_zero, List.take_succ_cons, List.take_zero, List.getElem?_cons_succ, List.getElem?_cons_zero, cells_agg, eqCells_cons, eqCells_nil, eq1_int, eq1_bool, eq1_str, ↓at_ptr_whole, ↓at_ptr_cell, ↓at_ptr_obj, ↓at_ptr_objs, shift_obj, shift_elt, toA_val, toA_own, Int.toNat_natCast, List.cons_append, rents_length, idxP]
  | succ n ih =>
    intro i k tg hi hk
    obtain ⟨k, rfl⟩ : ∃ m, k = m + 1 := ⟨k - 1, by omega⟩
    have hi' : i < E.length := by omega
    have e1 := succ_wrap (i := i) (by omega)
    have ih' := fun tg => ih (i + 1) k tg (by omega) (by omega)
    rw [P48_0_eq, List.drop_eq_getElem_cons hi']
    unfold idxP
    by_cases hp : E[i].1 = ⟨x, y⟩
    · rw [if_pos hp]
      have h1 : E[i].1.seq = x := by rw [hp]
      have h2 : E[i].1.at' = y := by rw [hp]
      simp (disch := (first | assumption | (simp only [Bool.and_eq_true, Bool.and_eq_false_iff, decide_eq_true_eq, decide_eq_false_iff_not, bne_iff_ne, beq_iff_eq, beq_eq_false_iff_ne, bne_eq_false_iff_eq, Bool.not_eq_true', Bool.not_eq_false', bys_length, List.length_append, List.length_cons, List.length_nil, List.length_map, List.length_drop, List.length_take, Int.natCast_add, wrap_i64_eq, wrap_u64, wrap_u8, ne_eq, not_true_eq_false, not_false_eq_true, Nat.zero_add, Nat.mul_one] <;> omega) | omega | (simp; done) | (simp; omega))) only [↓at_runK, ↓at_bind, ↓contQ_mk, ↓at_ret, ↓at_consK, ↓at_nilK, ↓at_optK, ↓at_intK, ↓at_boolK, ↓at_strK, ↓at_slK, ↓at_slOK, ↓at_slK0, ↓at_slOK0, ↓at_aggK, ↓at_cond_t, ↓at_cond_f, ↓at_sameL, ↓at_any1, ↓at_any, and_self, toBytes_bys, List.nil_append, List.append_nil, List.drop_zero, List.take_succ_cons, List.take_zero, List.getElem?_cons_succ, List.getElem?_cons_zero, cells_agg, eqCells_cons, eqCells_nil, eq1_int, eq1_bool, eq1_str, ↓at_ptr_whole, ↓at_ptr_cell, ↓at_ptr_obj, ↓at_ptr_objs, shift_obj, shift_elt, toA_val, toA_own, Int.toNat_natCast, List.cons_append, rents_length, rents_getD hi', h1, h2, List.drop_succ_cons]
      simp
    · rw [if_neg hp]
      have hne := place_ne hp
      simp (disch := (first | assumption | (simp only [Bool.and_eq_true, Bool.and_eq_false_iff, decide_eq_true_eq, decide_eq_false_iff_not, bne_iff_ne, beq_iff_eq, beq_eq_false_iff_ne, bne_eq_false_iff_eq, Bool.not_eq_true', Bool.not_eq_false', bys_length, List.length_append, List.length_cons, List.length_nil, List.length_map, List.length_drop, List.length_take, Int.natCast_add, wrap_i64_eq, wrap_u64, wrap_u8, ne_eq, not_true_eq_false, not_false_eq_true, Nat.zero_add, Nat.mul_one] <;> omega) | omega | (simp; done) | (simp; omega))) only [↓at_runK, ↓at_bind, ↓contQ_mk, ↓at_ret, ↓at_consK, ↓at_nilK, ↓at_optK, ↓at_intK, ↓at_boolK, ↓at_strK, ↓at_slK, ↓at_slOK, ↓at_slK0, ↓at_slOK0, ↓at_aggK, ↓at_cond_t, ↓at_cond_f, ↓at_sameL, ↓at_any1, ↓at_any, and_self, toBytes_bys, List.nil_append, List.append_nil, List.drop_zero, List.take_succ_cons, List.take_zero, List.getElem?_cons_succ, List.getElem?_cons_zero, cells_agg, eqCells_cons, eqCells_nil, eq1_int, eq1_bool, eq1_str, ↓at_ptr_whole, ↓at_ptr_cell, ↓at_ptr_obj, ↓at_ptr_objs, shift_obj, shift_elt, toA_val, toA_own, Int.toNat_natCast, List.cons_append, rents_length, rents_getD hi', hne, List.drop_succ_cons, e1, ih']
      cases idxP ⟨x, y⟩ (E.drop (i + 1)) with
      | none => rfl
      | some k =>
        simp only [Option.map_some]
        have : F + ((i + 1 : Nat) : Int) + (k : Int) = F + (i : Int) + ((k + 1 : Nat) : Int) := by omega
        rw [this]
theorem rat_run {d : Nat} {f : Bool} {h : Heap} {F G a b c e x y : Int} {E : List Ent} (hl : E.length ≤ 1000) {Q : Res → Prop} {tg : Hid Q} :
    Run (evFn Cw (d + 1) 48 [.agg [.int .i64 F, .int .i64 G, .sl f 5 (rents F E), .int .i64 a, .int .i64 b, .int .i64 c, .int .i64 e], .agg [.int .i64 x, .int .i64 y]] h) Q tg = Q ([.int .i64 (match idxP ⟨x, y⟩ E with | some k => F + (k : Nat) | none => 0)], h) := by
  have := rat_loop d f h F F G a b c e x y E hl Q E.length 0 rounds ⟨⟩ (by omega) (rounds_gt' _ (by omega))
  rw [e0, Int.add_zero] at this
  rw [F48_eq]
  exact this

theorem rfind_loop (d : Nat) (f : Bool) (h : Heap) (F x1 x2 a b c e x : Int) (E : List Ent) (hl : E.length ≤ 1000) (Q : Res → Prop) : ∀ (n i k : Nat) (tg : Hid Q), E.length = i + n → n < k →
    Run (P68_0 d k x i x1 x2 f (rents F E) a b c e h) Q tg = Q ([.int .i64 (if F + i ≤ x ∧ x < F + E.length then x - F else -1)], h) := by
  intro n
  induction n with
  | zero =>
    intro i k tg hi hk
    obtain ⟨k, rfl⟩ : ∃ m, k = m + 1 := ⟨k - 1, by omega⟩
    rw [P68_0_eq, if_neg (by omega)]
    simp (disch := (first | assumption | (simp only [Bool.and_eq_true, Bool.and_eq_false_iff, decide_eq_true_eq, decide_eq_false_iff_not, bne_iff_ne, beq_iff_eq, beq_eq_false_iff_ne, bne_eq_false_iff_eq, Bool.not_eq_true', Bool.not_eq_false', bys_length, List.length_append, List.length_cons, List.length_nil, List.length_map, List.length_drop, List.length_take, Int.natCast_add, wrap_i64_eq, wrap_u64, wrap_u8, ne_eq, not_true_eq_false, not_false_eq_true, Nat.zero_add, Nat.mul_one] <;> omega) | omega | (simp; done) | (simp; omega))) only [↓at_runK, ↓at_bind, ↓contQ_mk, ↓at_ret, ↓at_consK, ↓at_nilK, ↓at_optK, ↓at_intK, ↓at_boolK, ↓at_strK, ↓at_slK, ↓at_slOK, ↓at_slK0, ↓at_slOK0, ↓at_aggK, ↓at_cond_t, ↓at_cond_f, ↓at_sameL, ↓at_any1, ↓at_any, and_self, toBytes_bys, List.nil_append, List.append_nil, List.drop_zero, List.take_succ_cons, List.take_zero, List.getElem?_cons_succ, List.getElem?_cons_zero, cells_agg, eqCells_cons, eqCells_nil, eq1_int, eq1_bool, eq1_str, ↓at_ptr_whole, ↓at_ptr_cell, ↓at_ptr_obj, ↓at_ptr_objs, shift_obj, shift_elt, toA_val, toA_own, Int.toNat_natCast, List.cons_append, rents_length]
  | succ n ih =>
    intro i k tg hi hk
    obtain ⟨k, rfl⟩ : ∃ m, k = m + 1 := ⟨k - 1, by omega⟩
    have hi' : i < E.length := by omega
    have e1 := succ_wrap (i := i) (by omega)
    have ih' := fun tg => ih (i + 1) k tg (by omega) (by omega)
    rw [P68_0_eq]
    by_cases hx : F + i = x
    · rw [if_pos (by omega)]
      have : x - F = i := by omega
      rw [this]
      simp (disch := (first | assumption | (simp only [Bool.and_eq_true, Bool.and_eq_false_iff, decide_eq_true_eq, decide_eq_false_iff_not, bne_iff_ne, beq_iff_eq, beq_eq_false_iff_ne, bne_eq_false_iff_eq, Bool.not_eq_true', Bool.not_eq_false', bys_length, List.length_append, List.length_cons, List.length_nil, List.length_map, List.length_drop, List.length_take, Int.natCast_add, wrap_i64_eq, wrap_u64, wrap_u8, ne_eq, not_true_eq_false, not_false_eq_true, Nat.zero_add, Nat.mul_one] <;> omega) | omega | (simp; done) | (simp; omega))) only [↓at_runK, ↓at_bind, ↓contQ_mk, ↓at_ret, ↓at_consK, ↓at_nilK, ↓at_optK, ↓at_intK, ↓at_boolK, ↓at_strK, ↓at_slK, ↓at_slOK, ↓at_slK0, ↓at_slOK0, ↓at_aggK, ↓at_cond_t, ↓at_cond_f, ↓at_sameL, ↓at_any1, ↓at_any, and_self, toBytes_bys, List.nil_append, List.append_nil, List.drop_zero, List.take_succ_cons, List.take_zero, List.getElem?_cons_succ, List.getElem?_cons_zero, cells_agg, eqCells_cons, eqCells_nil, eq1_int, eq1_bool, eq1_str, ↓at_ptr_whole, ↓at_ptr_cell, ↓at_ptr_obj, ↓at_ptr_objs, shift_obj, shift_elt, toA_val, toA_own, Int.toNat_natCast, List.cons_append, rents_length, rents_getD hi']
    · have hiff : (F + ((i + 1 : Nat) : Int) ≤ x ∧ x < F + E.length) = (F + (i : Int) ≤ x ∧ x < F + E.length) := propext ⟨fun h => by omega, fun h => by omega⟩
      simp only [hiff] at ih'
      simp (disch := (first | assumption | (simp only [Bool.and_eq_true, Bool.and_eq_false_iff, decide_eq_true_eq, decide_eq_false_iff_not, bne_iff_ne, beq_iff_eq, beq_eq_false_iff_ne, bne_eq_false_iff_eq, Bool.not_eq_true', Bool.not_eq_false', bys_length, List.length_append, List.length_cons, List.length_nil, List.length_map, List.length_drop, List.length_take, Int.natCast_add, wrap_i64_eq, wrap_u64, wrap_u8, ne_eq, not_true_eq_false, not_false_eq_true, Nat.zero_add, Nat.mul_one] <;> omega) | omega | (simp; done) | (simp; omega))) only [↓at_runK, ↓at_bind, ↓contQ_mk, ↓at_ret, ↓at_consK, ↓at_nilK, ↓at_optK, ↓at_intK, ↓at_boolK, ↓at_strK, ↓at_slK, ↓at_slOK, ↓at_slK0, ↓at_slOK0, ↓at_aggK, ↓at_cond_t, ↓at_cond_f, ↓at_sameL, ↓at_any1, ↓at_any, and_self, toBytes_bys, List.nil_append, List.append_nil, List.drop_zero, List.take_succ_cons, List.take_zero, List.getElem?_cons_succ, List.getElem?_cons_zero, cells_agg, eqCells_cons, eqCells_nil, eq1_int, eq1_bool, eq1_str, ↓at_ptr_whole, ↓at_ptr_cell, ↓at_ptr_obj, ↓at_ptr_objs, shift_obj, shift_elt, toA_val, toA_own, Int.toNat_natCast, List.cons_append, rents_length, rents_getD hi', e1, ih']
def findR (F : Int) (E : List Ent) (x : Int) : Int := if F ≤ x ∧ x < F + E.length then x - F else -1
theorem rfind_run {d : Nat} {f : Bool} {h : Heap} {F G a b c e x : Int} {E : List Ent} (hl : E.length ≤ 1000) {Q : Res → Prop} {tg : Hid Q} :
    Run (evFn Cw (d + 1) 68 [.agg [.int .i64 F, .int .i64 G, .sl f 5 (rents F E), .int .i64 a, .int .i64 b, .int .i64 c, .int .i64 e], .int .i64 x] h) Q tg = Q ([.int .i64 (findR F E x)], h) := by
  have := rfind_loop d f h F F G a b c e x E hl Q E.length 0 rounds ⟨⟩ (by omega) (rounds_gt' _ (by omega))
  rw [e0, Int.add_zero] at this
  rw [F68_eq]
  exact this

theorem rchain_loop26 (d : Nat) (fl : Bool) (h : Heap) (s : Ix) (G a b c e : Int) (hl : s.E.length ≤ 1000) (Q : Res → Prop) : ∀ (f : Nat) (n : Int) (acc : List Int) (k : Nat) (tg : Hid Q), (n - s.F).toNat < f → f < k → acc.length + f ≤ 100000 →
    Run (P69_0 (d + 1) k n (ints acc) (findR s.F s.E n) s.F G fl (rents s.F s.E) a b c e h) Q tg = Q ([.sl false 0 (ints (acc ++ chI s f n))], h) := by
  intro f
  induction f with
  | zero => intro n acc k tg h0; omega
  | succ f ih =>
    intro n acc k tg h0 hk hb
    obtain ⟨k, rfl⟩ : ∃ m, k = m + 1 := ⟨k - 1, by omega⟩
    rw [P69_0_eq]
    unfold chI
    by_cases hn : s.F ≤ n ∧ n < s.F + s.E.length
    · have hfr : findR s.F s.E n = (((n - s.F).toNat : Nat) : Int) := by unfold findR; rw [if_pos hn]; omega
      have hlt : (n - s.F).toNat < s.E.length := by omega
      rw [dif_pos hn, hfr]
      by_cases hge : (s.E[(n - s.F).toNat]).2 ≥ n
      · rw [if_pos hge]
        simp (disch := (first | assumption | (simp only [Bool.and_eq_true, Bool.and_eq_false_iff, decide_eq_true_eq, decide_eq_false_iff_not, bne_iff_ne, beq_iff_eq, beq_eq_false_iff_ne, bne_eq_false_iff_eq, Bool.not_eq_true', Bool.not_eq_false', bys_length, List.length_append, List.length_cons, List.length_nil, List.length_map, List.length_drop, List.length_take, Int.natCast_add, wrap_i64_eq, wrap_u64, wrap_u8, ne_eq, not_true_eq_false, not_false_eq_true, Nat.zero_add, Nat.mul_one] <;> omega) | omega | (simp; done) | (simp; omega))) only [↓at_runK, ↓at_bind, ↓contQ_mk, ↓at_ret, ↓at_consK, ↓at_nilK, ↓at_optK, ↓at_intK, ↓at_boolK, ↓at_strK, ↓at_slK, ↓at_slOK, ↓at_slK0, ↓at_slOK0, ↓at_aggK, ↓at_cond_t, ↓at_cond_f, ↓at_sameL, ↓at_any1, ↓at_any, and_self, toBytes_bys, List.nil_append, List.append_nil, List.drop_zero, List.take_succ_cons, List.take_zero, List.getElem?_cons_succ, List.getElem?_cons_zero, cells_agg, eqCells_cons, eqCells_nil, eq1_int, eq1_bool, eq1_str, ↓at_ptr_whole, ↓at_ptr_cell, ↓at_ptr_obj, ↓at_ptr_objs, shift_obj, shift_elt, toA_val, toA_own, Int.toNat_natCast, List.cons_append, ints_length, ints_snoc, rents_length, rents_getD hlt]
      · rw [if_neg hge]
        by_cases hin : s.F ≤ (s.E[(n - s.F).toNat]).2 ∧ (s.E[(n - s.F).toNat]).2 < s.F + s.E.length
        · have ih' := fun tg => ih (s.E[(n - s.F).toNat]).2 (acc ++ [n]) k tg (by omega) (by omega) (by simp; omega)
          rw [List.append_assoc] at ih'
          simp (disch := (first | assumption | (simp only [Bool.and_eq_true, Bool.and_eq_false_iff, decide_eq_true_eq, decide_eq_false_iff_not, bne_iff_ne, beq_iff_eq, beq_eq_false_iff_ne, bne_eq_false_iff_eq, Bool.not_eq_true', Bool.not_eq_false', bys_length, List.length_append, List.length_cons, List.length_nil, List.length_map, List.length_drop, List.length_take, Int.natCast_add, wrap_i64_eq, wrap_u64, wrap_u8, ne_eq, not_true_eq_false, not_false_eq_true, Nat.zero_add, Nat.mul_one] <;> omega) | omega | (simp; done) | (simp; omega))) only [↓at_runK, ↓at_bind, ↓contQ_mk, ↓at_ret, ↓at_consK, ↓at_nilK, ↓at_optK, ↓at_intK, ↓at_boolK, ↓at_strK, ↓at_slK, ↓at_slOK, ↓at_slK0, ↓at_slOK0, ↓at_aggK, ↓at_cond_t, ↓at_cond_f, ↓at_sameL, ↓at_any1, ↓at_any, and_self, toBytes_bys, List.nil_append, List.append_nil, List.drop_zero, List.take_succ_cons, List.take_zero, List.getElem?_cons_succ, List.getElem?_cons_zero, cells_agg, eqCells_cons, eqCells_nil, eq1_int, eq1_bool, eq1_str, ↓at_ptr_whole, ↓at_ptr_cell, ↓at_ptr_obj, ↓at_ptr_objs, shift_obj, shift_elt, toA_val, toA_own, Int.toNat_natCast, List.cons_append, ints_length, ints_snoc, rents_length, rents_getD hlt, rfind_run, ih']
        · obtain ⟨k, rfl⟩ : ∃ m, k = m + 1 := ⟨k - 1, by omega⟩
          have hfo : findR s.F s.E (s.E[(n - s.F).toNat]).2 = -1 := by unfold findR; rw [if_neg hin]
          have e : chI s f (s.E[(n - s.F).toNat]).2 = [] := by
            cases f with
            | zero => rfl
            | succ f => unfold chI; rw [dif_neg hin]
          rw [e]
          simp (disch := (first | assumption | (simp only [Bool.and_eq_true, Bool.and_eq_false_iff, decide_eq_true_eq, decide_eq_false_iff_not, bne_iff_ne, beq_iff_eq, beq_eq_false_iff_ne, bne_eq_false_iff_eq, Bool.not_eq_true', Bool.not_eq_false', bys_length, List.length_append, List.length_cons, List.length_nil, List.length_map, List.length_drop, List.length_take, Int.natCast_add, wrap_i64_eq, wrap_u64, wrap_u8, ne_eq, not_true_eq_false, not_false_eq_true, Nat.zero_add, Nat.mul_one] <;> omega) | omega | (simp; done) | (simp; omega))) only [↓at_runK, ↓at_bind, ↓contQ_mk, ↓at_ret, ↓at_consK, ↓at_nilK, ↓at_optK, ↓at_intK, ↓at_boolK, ↓at_strK, ↓at_slK, ↓at_slOK, ↓at_slK0, ↓at_slOK0, ↓at_aggK, ↓at_cond_t, ↓at_cond_f, ↓at_sameL, ↓at_any1, ↓at_any, and_self, toBytes_bys, List.nil_append, List.append_nil, List.drop_zero, List.take_succ_cons, List.take_zero, List.getElem?_cons_succ, List.getElem?_cons_zero, cells_agg, eqCells_cons, eqCells_nil, eq1_int, eq1_bool, eq1_str, ↓at_ptr_whole, ↓at_ptr_cell, ↓at_ptr_obj, ↓at_ptr_objs, shift_obj, shift_elt, toA_val, toA_own, Int.toNat_natCast, List.cons_append, ints_length, ints_snoc, rents_length, rents_getD hlt, rfind_run, hfo, P69_0_eq]
    · have hfo : findR s.F s.E n = -1 := by unfold findR; rw [if_neg hn]
      rw [dif_neg hn, List.append_nil, hfo]
      simp (disch := (first | assumption | (simp only [Bool.and_eq_true, Bool.and_eq_false_iff, decide_eq_true_eq, decide_eq_false_iff_not, bne_iff_ne, beq_iff_eq, beq_eq_false_iff_ne, bne_eq_false_iff_eq, Bool.not_eq_true', Bool.not_eq_false', bys_length, List.length_append, List.length_cons, List.length_nil, List.length_map, List.length_drop, List.length_take, Int.natCast_add, wrap_i64_eq, wrap_u64, wrap_u8, ne_eq, not_true_eq_false, not_false_eq_true, Nat.zero_add, Nat.mul_one] <;> omega) | omega | (simp; done) | (simp; omega))) only [↓at_runK, ↓at_bind, ↓contQ_mk, ↓at_ret, ↓at_consK, ↓at_nilK, ↓at_optK, ↓at_intK, ↓at_boolK, ↓at_strK, ↓at_slK, ↓at_slOK, ↓at_slK0, ↓at_slOK0, ↓at_aggK, ↓at_cond_t, ↓at_cond_f, ↓at_sameL, ↓at_any1, ↓at_any, and_self, toBytes_bys, List.nil_append, List.append_nil, List.drop_zero, List.take_succ_cons, List.take_zero, List.getElem?_cons_succ, List.getElem?_cons_zero, cells_agg, eqCells_cons, eqCells_nil, eq1_int, eq1_bool, eq1_str, ↓at_ptr_whole, ↓at_ptr_cell, ↓at_ptr_obj, ↓at_ptr_objs, shift_obj, shift_elt, toA_val, toA_own, Int.toNat_natCast, List.cons_append]
theorem rchain26_run {d : Nat} {fl : Bool} {h : Heap} {s : Ix} {G a b c e n : Int} (hl : s.E.length ≤ 1000) (hfar : (n - s.F).toNat ≤ 2000) {Q : Res → Prop} {tg : Hid Q} :
    Run (evFn Cw (d + 2) 69 [.agg [.int .i64 s.F, .int .i64 G, .sl fl 5 (rents s.F s.E), .int .i64 a, .int .i64 b, .int .i64 c, .int .i64 e], .int .i64 n] h) Q tg = Q ([.sl false 0 (ints (chF s n))], h) := by
  have hloop := fun tg => rchain_loop26 d fl h s G a b c e hl Q ((n - s.F).toNat + 1) n [] rounds tg (by omega) (rounds_gt' _ (by omega)) (by simp; omega)
  rw [ints_nil, List.nil_append] at hloop
  rw [F69_eq]
  simp (disch := (first | assumption | (simp only [Bool.and_eq_true, Bool.and_eq_false_iff, decide_eq_true_eq, decide_eq_false_iff_not, bne_iff_ne, beq_iff_eq, beq_eq_false_iff_ne, bne_eq_false_iff_eq, Bool.not_eq_true', Bool.not_eq_false', bys_length, List.length_append, List.length_cons, List.length_nil, List.length_map, List.length_drop, List.length_take, Int.natCast_add, wrap_i64_eq, wrap_u64, wrap_u8, ne_eq, not_true_eq_false, not_false_eq_true, Nat.zero_add, Nat.mul_one] <;> omega) | omega | (simp; done) | (simp; omega))) only [↓at_runK, ↓at_bind, ↓contQ_mk, ↓at_ret, ↓at_consK, ↓at_nilK, ↓at_optK, ↓at_intK, ↓at_boolK, ↓at_strK, ↓at_slK, ↓at_slOK, ↓at_slK0, ↓at_slOK0, ↓at_aggK, ↓at_cond_t, ↓at_cond_f, ↓at_sameL, ↓at_any1, ↓at_any, and_self, toBytes_bys, List.nil_append, List.append_nil, List.drop_zero, List.take_succ_cons, List.take_zero, List.getElem?_cons_succ, List.getElem?_cons_zero, cells_agg, eqCells_cons, eqCells_nil, eq1_int, eq1_bool, eq1_str, ↓at_ptr_whole, ↓at_ptr_cell, ↓at_ptr_obj, ↓at_ptr_objs, shift_obj, shift_elt, toA_val, toA_own, Int.toNat_natCast, List.cons_append, rfind_run, hloop]
  rfl

/-! ### Drop -/
def ndR (F : Int) (len : Nat) (b : Int) : Nat := ((if (if F + len < b then F + len else b) > F then (if F + (len : Int) < b then F + len else b) else F) - F).toNat
theorem ndR_le (F : Int) (len : Nat) (b : Int) : ndR F len b ≤ len := by
  unfold ndR
  repeat' split
  all_goals omega
theorem ndR_eq (F : Int) (len : Nat) (b : Int) : (if (if F + (len : Int) < b then F + (len : Int) else b) > F then (if F + (len : Int) < b then F + (len : Int) else b) else F) = F + (ndR F len b : Nat) := by
  unfold ndR
  repeat' split
  all_goals omega
theorem ndR_cons (F : Int) (len : Nat) (b : Int) : ndR F (len + 1) b = if F < b then ndR (F + 1) len b + 1 else 0 := by
  unfold ndR
  repeat' split
  all_goals omega
def dropS (s : Ix) (b : Int) : Ix := ⟨s.F + (ndR s.F s.E.length b : Nat), s.E.drop (ndR s.F s.E.length b), s.H⟩
theorem dropS_ok {s : Ix} (h : SIx s) (b : Int) : SIx (dropS s b) := by
  have := ndR_le s.F s.E.length b
  have h1 := h.lo
  have h2 := h.hi
  have h3 := h.few
  refine ⟨h.four, by simp only [dropS]; omega, by simp only [dropS, List.length_drop]; omega, by simp only [dropS, List.length_drop]; omega, ?_⟩
  simp only [dropS, List.map_drop]
  exact h.nd.sublist (List.drop_sublist _ _)
theorem idxP_not {p : IPlace} : ∀ {E : List Ent}, p ∉ E.map (·.1) → idxP p E = none
  | [], _ => rfl
  | e :: r, h => by
    simp only [List.map_cons, List.mem_cons, not_or] at h
    unfold idxP
    rw [if_neg (fun h2 => h.1 h2.symm), idxP_not h.2]; rfl
theorem drop_loop {d i m : Nat} {c1 : HCell} {s : Ix} (hs : SIx s) (hne : i ≠ m) (hl : LC c1 s.E) (n : Nat) (hn : n ≤ s.E.length) (hd : SIx ⟨s.F + (n : Nat), s.E.drop n, s.H⟩) : ∀ (r j k : Nat) (h : Heap) (t : List (IPlace × AVal × Nat)) (c : Nat),
    h.objs[i]? = some (.cells (ixC s.F c1 m s.H)) → h.objs[m]? = some (.map 67 (encM placeA t) c) → TOk t c → (∀ p, tget p t = (idxP p (s.E.drop j)).map fun (k : Nat) => .int .i64 (s.F + (j : Nat) + (k : Nat))) → n = j + r → r < k →
    ∃ h', PIx h' i m ⟨s.F + (n : Nat), s.E.drop n, s.H⟩ ∧ ∀ (Q : Res → Prop) (tg : Hid Q), Run (P43_0 d k i n (ents (s.E.take n)) n j h) Q tg = Q ([.int .i64 n], h') := by
  intro r
  have h1 := hs.lo
  have h2 := hs.hi
  have h3 := hs.few
  induction r with
  | zero =>
    intro j k h t c hm hmm hto ht hj hk
    obtain ⟨k, rfl⟩ : ∃ m, k = m + 1 := ⟨k - 1, by omega⟩
    obtain ⟨f, hL⟩ := hl.at
    have hjn : j = n := by omega
    subst hjn
    have w : IntKind.i64.wrap (s.F + (j : Int)) = s.F + (j : Nat) := wrap_i64_id (by omega) (by omega)
    have q1 : (h.put i (.cells (ixC (s.F + (j : Nat)) c1 m s.H))).objs[i]? = some (.cells (ixC (s.F + (j : Nat)) c1 m s.H)) := Heap.put_get hm
    refine ⟨h.put i (.cells (ixC (s.F + (j : Nat)) (.own 4 (ents (s.E.drop j))) m s.H)), ⟨hne, ⟨_, Heap.put_get hm, .inl rfl⟩, ⟨t, c, by rw [Heap.put_ne hne]; exact hmm, hto, ht⟩, hd⟩, fun Q tg => ?_⟩
    rw [P43_0_eq]
    have hp := ents_part s.E j
    have hle : (ents (s.E.drop j)).length = s.E.length - j := by rw [ents_length, List.length_drop]
    have hle2 := ents_length s.E
    rw [hle2] at hp
    simp (disch := (first | assumption | (simp only [Bool.and_eq_true, Bool.and_eq_false_iff, decide_eq_true_eq, decide_eq_false_iff_not, bne_iff_ne, beq_iff_eq, beq_eq_false_iff_ne, bne_eq_false_iff_eq, Bool.not_eq_true', Bool.not_eq_false', bys_length, List.length_append, List.length_cons, List.length_nil, List.length_map, List.length_drop, List.length_take, Int.natCast_add, wrap_i64_eq, wrap_u64, wrap_u8, ne_eq, not_true_eq_false, not_false_eq_true, Nat.zero_add, Nat.mul_one] <;> omega) | omega | (simp; done) | (simp; omega))) only [↓at_runK, ↓at_bind, ↓contQ_mk, ↓at_ret, ↓at_consK, ↓at_nilK, ↓at_optK, ↓at_intK, ↓at_boolK, ↓at_strK, ↓at_slK, ↓at_slOK, ↓at_slK0, ↓at_slOK0, ↓at_aggK, ↓at_cond_t, ↓at_cond_f, ↓at_sameL, ↓at_any1, ↓at_any, and_self, toBytes_bys, List.nil_append, List.append_nil, List.drop_zero, List.take_succ_cons, List.take_zero, List.getElem?_cons_succ, List.getElem?_cons_zero, cells_agg, eqCells_cons, eqCells_nil, eq1_int, eq1_bool, eq1_str, ↓at_ptr_whole, ↓at_ptr_cell, ↓at_ptr_obj, ↓at_ptr_objs, shift_obj, shift_elt, toA_val, toA_own, Int.toNat_natCast, List.cons_append, Heap.cell_at hm, ix0, w, Heap.set_at hm, ixs0, Heap.cell_at q1, ix1, hL, hp, hle, hle2, Heap.set_at q1, ixs1, Heap.put_put]
  | succ r ih =>
    intro j k h t c hm hmm hto ht hj hk
    obtain ⟨k, rfl⟩ : ∃ m, k = m + 1 := ⟨k - 1, by omega⟩
    have hjl : j < s.E.length := by omega
    have hjt : j < (s.E.take n).length := by rw [List.length_take]; omega
    have ej : (s.E.take n)[j] = s.E[j] := by simp
    have e1 := succ_wrap (i := j) (by omega)
    have hnd : ((s.E.drop j).map (·.1)).Nodup := by
      rw [List.map_drop]
      exact hs.nd.sublist (List.drop_sublist _ _)
    rw [List.drop_eq_getElem_cons hjl, List.map_cons, List.nodup_cons] at hnd
    obtain ⟨h', hp', hr'⟩ := ih (j + 1) k (h.put m (.map 67 (encM placeA (tdel s.E[j].1 t)) c)) (tdel s.E[j].1 t) c (by rw [Heap.put_ne (Ne.symm hne)]; exact hm) (Heap.put_get hmm) (hto.del _) (fun p => by
      rw [tget_tdel _ _ _ hto.keys, ht p, List.drop_eq_getElem_cons hjl]
      by_cases hp : p = s.E[j].1
      · rw [if_pos hp, hp, idxP_not hnd.1]; rfl
      · rw [if_neg hp]
        have : idxP p (s.E[j] :: s.E.drop (j + 1)) = (idxP p (s.E.drop (j + 1))).map (· + 1) := by
          conv => lhs; unfold idxP
          rw [if_neg (fun h => hp h.symm)]
        rw [this]
        cases idxP p (s.E.drop (j + 1)) with
        | none => rfl
        | some k =>
          simp only [Option.map_some, Option.some.injEq, AVal.int.injEq, true_and]
          omega) (by omega) (by omega)
    refine ⟨h', hp', fun Q tg => ?_⟩
    have hg := ents_getD (l := s.E.take n) hjt
    rw [ej] at hg
    have hle : (ents (s.E.take n)).length = n := by rw [ents_length, List.length_take]; omega
    have pe := placeA_eq s.E[j].1.seq s.E[j].1.at'
    rw [P43_0_eq]
    simp (disch := (first | assumption | (simp only [Bool.and_eq_true, Bool.and_eq_false_iff, decide_eq_true_eq, decide_eq_false_iff_not, bne_iff_ne, beq_iff_eq, beq_eq_false_iff_ne, bne_eq_false_iff_eq, Bool.not_eq_true', Bool.not_eq_false', bys_length, List.length_append, List.length_cons, List.length_nil, List.length_map, List.length_drop, List.length_take, Int.natCast_add, wrap_i64_eq, wrap_u64, wrap_u8, ne_eq, not_true_eq_false, not_false_eq_true, Nat.zero_add, Nat.mul_one] <;> omega) | omega | (simp; done) | (simp; omega))) only [↓at_runK, ↓at_bind, ↓contQ_mk, ↓at_ret, ↓at_consK, ↓at_nilK, ↓at_optK, ↓at_intK, ↓at_boolK, ↓at_strK, ↓at_slK, ↓at_slOK, ↓at_slK0, ↓at_slOK0, ↓at_aggK, ↓at_cond_t, ↓at_cond_f, ↓at_sameL, ↓at_any1, ↓at_any, and_self, toBytes_bys, List.nil_append, List.append_nil, List.drop_zero, List.take_succ_cons, List.take_zero, List.getElem?_cons_succ, List.getElem?_cons_zero, cells_agg, eqCells_cons, eqCells_nil, eq1_int, eq1_bool, eq1_str, ↓at_ptr_whole, ↓at_ptr_cell, ↓at_ptr_obj, ↓at_ptr_objs, shift_obj, shift_elt, toA_val, toA_own, Int.toNat_natCast, List.cons_append, hle, hg, Heap.cell_at hm, ix2, pe, at_delW encPlace hmm, e1, hr']
theorem drop26_ok {d : Nat} {h : Heap} {i m : Nat} {s : Ix} (hp : PIx h i m s) (b : Int) : ∃ h', PIx h' i m (dropS s b) ∧
    ∀ (Q : Res → Prop) (tg : Hid Q), Run (evFn Cw (d + 2) 43 [.obj i 0, .int .i64 b] h) Q tg = Q ([.int .i64 (ndR s.F s.E.length b : Nat)], h') := by
  obtain ⟨c1, hm, hl⟩ := hp.obj
  obtain ⟨t, ck, hmm, hto, ht⟩ := hp.map
  obtain ⟨f, hL⟩ := hl.at
  have h1 := hp.ok.lo
  have h2 := hp.ok.hi
  have h3 := hp.ok.few
  have hn := ndR_le s.F s.E.length b
  obtain ⟨h', hp', hr'⟩ := drop_loop (d := d + 1) hp.ok hp.ne hl (ndR s.F s.E.length b) hn (dropS_ok hp.ok b) (ndR s.F s.E.length b) 0 rounds h t ck hm hmm hto (fun p => by rw [ht p, List.drop_zero]; congr 1; funext k; rw [e0, Int.add_zero]) (by omega) (rounds_gt' _ (by omega))
  rw [e0] at hr'
  refine ⟨h', hp', fun Q tg => ?_⟩
  have he := ndR_eq s.F s.E.length b
  have w : IntKind.i64.wrap (s.F + (ndR s.F s.E.length b : Nat) - s.F) = (ndR s.F s.E.length b : Nat) := by rw [wrap_i64_id (by omega) (by omega)]; omega
  have hle := ents_length (s.E.take (ndR s.F s.E.length b))
  rw [List.length_take] at hle
  have hle2 : (ents (s.E.take (ndR s.F s.E.length b))).length = ndR s.F s.E.length b := by omega
  rw [F43_eq]
  simp (disch := (first | assumption | (simp only [Bool.and_eq_true, Bool.and_eq_false_iff, decide_eq_true_eq, decide_eq_false_iff_not, bne_iff_ne, beq_iff_eq, beq_eq_false_iff_ne, bne_eq_false_iff_eq, Bool.not_eq_true', Bool.not_eq_false', bys_length, List.length_append, List.length_cons, List.length_nil, List.length_map, List.length_drop, List.length_take, Int.natCast_add, wrap_i64_eq, wrap_u64, wrap_u8, ne_eq, not_true_eq_false, not_false_eq_true, Nat.zero_add, Nat.mul_one] <;> omega) | omega | (simp; done) | (simp; omega))) only [↓at_runK, ↓at_bind, ↓contQ_mk, ↓at_ret, ↓at_consK, ↓at_nilK, ↓at_optK, ↓at_intK, ↓at_boolK, ↓at_strK, ↓at_slK, ↓at_slOK, ↓at_slK0, ↓at_slOK0, ↓at_aggK, ↓at_cond_t, ↓at_cond_f, ↓at_sameL, ↓at_any1, ↓at_any, and_self, toBytes_bys, List.nil_append, List.append_nil, List.drop_zero, List.take_succ_cons, List.take_zero, List.getElem?_cons_succ, List.getElem?_cons_zero, cells_agg, eqCells_cons, eqCells_nil, eq1_int, eq1_bool, eq1_str, ↓at_ptr_whole, ↓at_ptr_cell, ↓at_ptr_obj, ↓at_ptr_objs, shift_obj, shift_elt, toA_val, toA_own, Int.toNat_natCast, List.cons_append, Heap.cell_at hm, ix0, ix1, hL, next_run hp, he, w, ents_length, ents_part0, hle2, hr']

def dropR (b : Int) : Int → List Ent → Nat × List Ent
  | _, [] => (0, [])
  | n, e :: r => if n < b then ((dropR b (n + 1) r).1 + 1, (dropR b (n + 1) r).2) else (0, e :: r)
theorem dropR_eq (b : Int) : ∀ (n : Int) (E : List Ent), dropR b n E = (ndR n E.length b, E.drop (ndR n E.length b))
  | n, [] => by
    have := ndR_le n 0 b
    simp [dropR]; simp at this; omega
  | n, e :: r => by
    unfold dropR
    rw [List.length_cons, ndR_cons, dropR_eq b (n + 1) r]
    split <;> simp
theorem rdrop_loop (d : Nat) (fl : Bool) (h : Heap) (s : Ix) (G a b c e x : Int) (z0 z1 z2 z3 z4 z5 : Int) (zl : List AVal) (hs : SIx s) (Q : Res → Prop) : ∀ (n i k : Nat) (cnt : Nat) (acc : List AVal) (tg : Hid Q), s.E.length = i + n → n < k → cnt ≤ i → acc.length ≤ i → (x ≤ s.F + i ∨ acc = []) → (x ≤ s.F + i → cnt = ndR s.F s.E.length x ∧ acc = ((rents s.F s.E).take i).drop cnt) → (¬ x ≤ s.F + i → cnt = i) →
    Run (P42_0 d k x cnt acc i s.F G fl (rents s.F s.E) a b c e z0 z1 zl z2 z3 z4 z5 h) Q tg =
      Q ([.agg [.int .i64 (s.F + (ndR s.F s.E.length x : Nat)), .int .i64 G, .sl false 5 ((rents s.F s.E).drop (ndR s.F s.E.length x)), .int .i64 a, .int .i64 b, .int .i64 c, .int .i64 e], .int .i64 (ndR s.F s.E.length x : Nat)], h) := by
  intro n
  have h1 := hs.lo
  have h2 := hs.hi
  have h3 := hs.few
  have hle := ndR_le s.F s.E.length x
  have hndx : x < s.F + s.E.length → s.F ≤ x → (ndR s.F s.E.length x : Int) = x - s.F := by
    intro g1 g2
    unfold ndR
    repeat' split
    all_goals omega
  have hndlo : x ≤ s.F → ndR s.F s.E.length x = 0 := by
    intro g1
    unfold ndR
    repeat' split
    all_goals omega
  have hndhi : s.F + s.E.length ≤ x → ndR s.F s.E.length x = s.E.length := by
    intro g1
    unfold ndR
    repeat' split
    all_goals omega
  induction n with
  | zero =>
    intro i k cnt acc tg hi hk hc hal hor hge hlt
    obtain ⟨k, rfl⟩ : ∃ m, k = m + 1 := ⟨k - 1, by omega⟩
    have hcn : cnt = ndR s.F s.E.length x ∧ acc = (rents s.F s.E).drop cnt := by
      by_cases hx : x ≤ s.F + i
      · obtain ⟨g1, g2⟩ := hge hx
        refine ⟨g1, ?_⟩
        rw [g2, List.take_of_length_le (by rw [rents_length]; omega)]
      · have g1 := hlt hx
        have g2 := hndhi (by omega)
        rcases hor with g3 | g3
        · exact absurd g3 hx
        · refine ⟨by omega, ?_⟩
          rw [g3, List.drop_eq_nil_of_le (by rw [rents_length]; omega)]
    obtain ⟨g1, g2⟩ := hcn
    have w : IntKind.i64.wrap (s.F + (cnt : Int)) = s.F + (cnt : Nat) := wrap_i64_id (by omega) (by omega)
    rw [P42_0_eq]
    subst g1
    subst g2
    simp (disch := (first | assumption | (simp only [Bool.and_eq_true, Bool.and_eq_false_iff, decide_eq_true_eq, decide_eq_false_iff_not, bne_iff_ne, beq_iff_eq, beq_eq_false_iff_ne, bne_eq_false_iff_eq, Bool.not_eq_true', Bool.not_eq_false', bys_length, List.length_append, List.length_cons, List.length_nil, List.length_map, List.length_drop, List.length_take, Int.natCast_add, wrap_i64_eq, wrap_u64, wrap_u8, ne_eq, not_true_eq_false, not_false_eq_true, Nat.zero_add, Nat.mul_one] <;> omega) | omega | (simp; done) | (simp; omega))) only [↓at_runK, ↓at_bind, ↓contQ_mk, ↓at_ret, ↓at_consK, ↓at_nilK, ↓at_optK, ↓at_intK, ↓at_boolK, ↓at_strK, ↓at_slK, ↓at_slOK, ↓at_slK0, ↓at_slOK0, ↓at_aggK, ↓at_cond_t, ↓at_cond_f, ↓at_sameL, ↓at_any1, ↓at_any, and_self, toBytes_bys, List.nil_append, List.append_nil, List.drop_zero, List.take_succ_cons, List.take_zero, List.getElem?_cons_succ, List.getElem?_cons_zero, cells_agg, eqCells_cons, eqCells_nil, eq1_int, eq1_bool, eq1_str, ↓at_ptr_whole, ↓at_ptr_cell, ↓at_ptr_obj, ↓at_ptr_objs, shift_obj, shift_elt, toA_val, toA_own, Int.toNat_natCast, List.cons_append, rents_length, w]
  | succ n ih =>
    intro i k cnt acc tg hi hk hc hal hor hge hlt
    obtain ⟨k, rfl⟩ : ∃ m, k = m + 1 := ⟨k - 1, by omega⟩
    have hi' : i < s.E.length := by omega
    have e1 := succ_wrap (i := i) (by omega)
    have e2 := succ_wrap (i := cnt) (by omega)
    rw [P42_0_eq]
    by_cases hx : s.F + i < x
    · have g1 := hlt (by omega)
      have g0 : acc = [] := by rcases hor with g | g; exact absurd g (by omega); exact g
      subst g0
      have ih' := fun tg => ih (i + 1) k (cnt + 1) [] tg (by omega) (by omega) (by omega) (by simp) (.inr rfl) (fun hg => by
        have : x = s.F + ((i + 1 : Nat) : Int) := by omega
        by_cases g5 : x < s.F + s.E.length
        · have := hndx g5 (by omega)
          refine ⟨by omega, ?_⟩
          rw [List.drop_eq_nil_of_le (by simp; omega)]
        · have := hndhi (by omega)
          refine ⟨by omega, ?_⟩
          rw [List.drop_eq_nil_of_le (by simp; omega)]) (fun _ => by omega)
      simp (disch := (first | assumption | (simp only [Bool.and_eq_true, Bool.and_eq_false_iff, decide_eq_true_eq, decide_eq_false_iff_not, bne_iff_ne, beq_iff_eq, beq_eq_false_iff_ne, bne_eq_false_iff_eq, Bool.not_eq_true', Bool.not_eq_false', bys_length, List.length_append, List.length_cons, List.length_nil, List.length_map, List.length_drop, List.length_take, Int.natCast_add, wrap_i64_eq, wrap_u64, wrap_u8, ne_eq, not_true_eq_false, not_false_eq_true, Nat.zero_add, Nat.mul_one] <;> omega) | omega | (simp; done) | (simp; omega))) only [↓at_runK, ↓at_bind, ↓contQ_mk, ↓at_ret, ↓at_consK, ↓at_nilK, ↓at_optK, ↓at_intK, ↓at_boolK, ↓at_strK, ↓at_slK, ↓at_slOK, ↓at_slK0, ↓at_slOK0, ↓at_aggK, ↓at_cond_t, ↓at_cond_f, ↓at_sameL, ↓at_any1, ↓at_any, and_self, toBytes_bys, List.nil_append, List.append_nil, List.drop_zero, List.take_succ_cons, List.take_zero, List.getElem?_cons_succ, List.getElem?_cons_zero, cells_agg, eqCells_cons, eqCells_nil, eq1_int, eq1_bool, eq1_str, ↓at_ptr_whole, ↓at_ptr_cell, ↓at_ptr_obj, ↓at_ptr_objs, shift_obj, shift_elt, toA_val, toA_own, Int.toNat_natCast, List.cons_append, rents_length, rents_getD hi', e1, e2, ih']
    · obtain ⟨g1, g2⟩ := hge (by omega)
      have gi : cnt ≤ i := hc
      have hr : i < (rents s.F s.E).length := by rw [rents_length]; exact hi'
      have gel : (rents s.F s.E)[i] = .agg [.int .i64 (s.F + i), .int .i64 s.E[i].1.seq, .int .i64 s.E[i].1.at', .int .i64 s.E[i].2] := by
        have := rents_getD (n := s.F) hi'
        simpa [hr] using this
      have gacc : acc ++ [.agg [.int .i64 (s.F + i), .int .i64 s.E[i].1.seq, .int .i64 s.E[i].1.at', .int .i64 s.E[i].2]] = ((rents s.F s.E).take (i + 1)).drop cnt := by
        rw [List.take_succ_eq_append_getElem hr, List.drop_append_of_le_length (by rw [List.length_take]; omega), ← g2, gel]
      have ih' := fun tg => ih (i + 1) k cnt (((rents s.F s.E).take (i + 1)).drop cnt) tg (by omega) (by omega) (by omega) (by simp; omega) (.inl (by omega)) (fun _ => ⟨g1, rfl⟩) (fun hg => absurd (by omega) hg)
      simp (disch := (first | assumption | (simp only [Bool.and_eq_true, Bool.and_eq_false_iff, decide_eq_true_eq, decide_eq_false_iff_not, bne_iff_ne, beq_iff_eq, beq_eq_false_iff_ne, bne_eq_false_iff_eq, Bool.not_eq_true', Bool.not_eq_false', bys_length, List.length_append, List.length_cons, List.length_nil, List.length_map, List.length_drop, List.length_take, Int.natCast_add, wrap_i64_eq, wrap_u64, wrap_u8, ne_eq, not_true_eq_false, not_false_eq_true, Nat.zero_add, Nat.mul_one] <;> omega) | omega | (simp; done) | (simp; omega))) only [↓at_runK, ↓at_bind, ↓contQ_mk, ↓at_ret, ↓at_consK, ↓at_nilK, ↓at_optK, ↓at_intK, ↓at_boolK, ↓at_strK, ↓at_slK, ↓at_slOK, ↓at_slK0, ↓at_slOK0, ↓at_aggK, ↓at_cond_t, ↓at_cond_f, ↓at_sameL, ↓at_any1, ↓at_any, and_self, toBytes_bys, List.nil_append, List.append_nil, List.drop_zero, List.take_succ_cons, List.take_zero, List.getElem?_cons_succ, List.getElem?_cons_zero, cells_agg, eqCells_cons, eqCells_nil, eq1_int, eq1_bool, eq1_str, ↓at_ptr_whole, ↓at_ptr_cell, ↓at_ptr_obj, ↓at_ptr_objs, shift_obj, shift_elt, toA_val, toA_own, Int.toNat_natCast, List.cons_append, rents_length, rents_getD hi', e1, gacc, ih']
theorem rents_drop : ∀ (n : Int) (E : List Ent) (k : Nat), k ≤ E.length → (rents n E).drop k = rents (n + k) (E.drop k)
  | n, E, 0, _ => by simp
  | n, e :: r, k + 1, h => by
    simp only [rents, List.drop_succ_cons]
    rw [rents_drop (n + 1) r k (by simpa using h)]
    have : n + 1 + (k : Int) = n + ((k + 1 : Nat) : Int) := by omega
    rw [this]
theorem rdrop_run {d : Nat} {fl : Bool} {h : Heap} {s : Ix} {G a b c e x : Int} (hs : SIx s) {Q : Res → Prop} {tg : Hid Q} :
    Run (evFn Cw (d + 1) 42 [.agg [.int .i64 s.F, .int .i64 G, .sl fl 5 (rents s.F s.E), .int .i64 a, .int .i64 b, .int .i64 c, .int .i64 e], .int .i64 x] h) Q tg =
      Q ([.agg [.int .i64 (dropS s x).F, .int .i64 G, .sl false 5 (rents (dropS s x).F (dropS s x).E), .int .i64 a, .int .i64 b, .int .i64 c, .int .i64 e], .int .i64 (ndR s.F s.E.length x : Nat)], h) := by
  have h3 := hs.few
  have := rdrop_loop d fl h s G a b c e x 0 0 0 0 0 0 [] hs Q s.E.length 0 rounds 0 [] ⟨⟩ (by omega) (rounds_gt' _ (by omega)) (by omega) (by simp) (.inr rfl) (fun hx => ⟨by
    unfold ndR
    repeat' split
    all_goals omega, by simp⟩) (fun _ => rfl)
  rw [rents_drop _ _ _ (ndR_le _ _ _)] at this
  simp only [e0] at this
  rw [F42_eq]
  exact this
end Go.Proofs.Ythebimbdijkiiaa.Wa
