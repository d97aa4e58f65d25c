/- CursorPlays. -/
import Derived.Test.YtdlcjibefbnckaaVth
namespace Go.Proofs.Ytdlcjibefbnckaa.Wa
open Go Go.Weave
set_option maxRecDepth 100000
set_option linter.unusedSimpArgs false
set_option linter.unusedVariables false
set_option linter.unusedSectionVars false

def curW (o : Option KPair) (e : Int) : Int := if o.isSome then 1 else e
theorem curTo_eq (tp : AVal) (o : Option KPair) (e : Int) : curTo tp o e = curO tp (curW o e) (oKey o) := rfl
def nxO (w : Int) (k : List UInt8) (l : List KPair) : Option KPair := if w = 2 then none else lseek (if w = 1 then k ++ [0] else []) l
def bkO (w : Int) (k : List UInt8) (l : List KPair) : Option KPair := if w = 0 then none else if w = 1 then lbelow k l else l.getLast?
def curWf (w : Int) (k : List UInt8) : Prop := (w = 0 ∧ k = []) ∨ (w = 1 ∧ k.length ≤ 140737488351232) ∨ (w = 2 ∧ k = [])
theorem curWf_to {o : Option KPair} {e : Int} (he : e = 0 ∨ e = 2) (ho : ∀ p, o = some p → p.key.length ≤ 140737488351232) : curWf (curW o e) (oKey o) := by
  cases o with
  | none =>
    rcases he with rfl | rfl
    · exact .inl ⟨rfl, rfl⟩
    · exact .inr (.inr ⟨rfl, rfl⟩)
  | some p => exact .inr (.inl ⟨rfl, ho p rfl⟩)
theorem curW_one {o : Option KPair} {e : Int} (he : e = 0 ∨ e = 2) : (curW o e == 1) = o.isSome := by
  cases o with
  | none => rcases he with rfl | rfl <;> rfl
  | some p => rfl
theorem blt_or (a b : List UInt8) : (blt a b || (a == b)) = !(blt b a) := by
  cases h : blt a b
  · cases h2 : blt b a
    · have := blt_tri h h2; simp [this]
    · have := blt_ne h2; simp; exact fun e => this e.symm
  · rw [blt_asym h]; rfl
theorem rnext_loop (d : Nat) (f : Bool) (s : List UInt8) (h : Heap) (l : List KPair) (hl : l.length ≤ 1000000) (Q : Res → Prop) : ∀ (n i k : Nat) (tg : Hid Q), l.length = i + n → n < k →
    Run (P16_0 d k f (prs l) i 1 s 0 [] h) Q tg = Q ([.agg [.int .i64 (curW (lseek (s ++ [0]) (l.drop i)) 2), .str (oKey (lseek (s ++ [0]) (l.drop i)))]], h) := by
  intro n
  induction n with
  | zero =>
    intro i k tg hi hk
    obtain ⟨k, rfl⟩ : ∃ m, k = m + 1 := ⟨k - 1, by omega⟩
    have hd : l.drop i = [] := List.drop_eq_nil_of_le (by omega)
    rw [P16_0_eq, hd]
    simp (disch := (first | assumption | (simp only [Bool.and_eq_true, Bool.and_eq_false_iff, decide_eq_true_eq, decide_eq_false_iff_not, bne_iff_ne, beq_iff_eq, beq_eq_false_iff_ne, bne_eq_false_iff_eq, Bool.not_eq_true', Bool.not_eq_false', bys_length, List.length_append, List.length_cons, List.length_nil, List.length_map, List.length_drop, List.length_take, Int.natCast_add, wrap_i64_eq, wrap_u64, wrap_u8, ne_eq, not_true_eq_false, not_false_eq_true, Nat.zero_add, Nat.mul_one] <;> omega) | omega | (simp; done) | (simp; omega))) only [↓at_runK, ↓at_bind, ↓contQ_mk, ↓at_ret, ↓at_consK, ↓at_nilK, ↓at_optK, ↓at_intK, ↓at_boolK, ↓at_strK, ↓at_slK, ↓at_slOK, ↓at_slK0, ↓at_slOK0, ↓at_aggK, ↓at_cond_t, ↓at_cond_f, ↓at_sameL, ↓at_any1, ↓at_any, and_self, toBytes_bys, List.nil_append, List.append_nil, ↓at_nodeW, List.drop_zero, List.take_succ_cons, List.take_zero, List.getElem?_cons_succ, List.getElem?_cons_zero, cells_agg, eqCells_cons, eqCells_nil, eq1_int, eq1_bool, eq1_str, ↓at_ptr_whole, ↓at_ptr_cell, ↓at_ptr_obj, ↓at_ptr_objs, shift_obj, shift_elt, toA_val, toA_own, Int.toNat_natCast, List.cons_append, prs_length]
    rfl
  | succ n ih =>
    intro i k tg hi hk
    obtain ⟨k, rfl⟩ : ∃ m, k = m + 1 := ⟨k - 1, by omega⟩
    have h1 : i < l.length := by omega
    have e1 := succ_wrap (i := i) (by omega)
    have ih' := fun tg => ih (i + 1) k tg (by omega) (by omega)
    have eo : (Go.Op.bytesLess l[i].key s || (l[i].key == s)) = !(blt s l[i].key) := blt_or _ _
    rw [P16_0_eq, List.drop_eq_getElem_cons h1, lseek_cons, blt_next]
    cases c : blt s l[i].key
    · rw [c] at eo
      simp only [Bool.not_false, if_true] at eo ⊢
      simp (disch := (first | assumption | (simp only [Bool.and_eq_true, Bool.and_eq_false_iff, decide_eq_true_eq, decide_eq_false_iff_not, bne_iff_ne, beq_iff_eq, beq_eq_false_iff_ne, bne_eq_false_iff_eq, Bool.not_eq_true', Bool.not_eq_false', bys_length, List.length_append, List.length_cons, List.length_nil, List.length_map, List.length_drop, List.length_take, Int.natCast_add, wrap_i64_eq, wrap_u64, wrap_u8, ne_eq, not_true_eq_false, not_false_eq_true, Nat.zero_add, Nat.mul_one] <;> omega) | omega | (simp; done) | (simp; omega))) only [↓at_runK, ↓at_bind, ↓contQ_mk, ↓at_ret, ↓at_consK, ↓at_nilK, ↓at_optK, ↓at_intK, ↓at_boolK, ↓at_strK, ↓at_slK, ↓at_slOK, ↓at_slK0, ↓at_slOK0, ↓at_aggK, ↓at_cond_t, ↓at_cond_f, ↓at_sameL, ↓at_any1, ↓at_any, and_self, toBytes_bys, List.nil_append, List.append_nil, ↓at_nodeW, List.drop_zero, List.take_succ_cons, List.take_zero, List.getElem?_cons_succ, List.getElem?_cons_zero, cells_agg, eqCells_cons, eqCells_nil, eq1_int, eq1_bool, eq1_str, ↓at_ptr_whole, ↓at_ptr_cell, ↓at_ptr_obj, ↓at_ptr_objs, shift_obj, shift_elt, toA_val, toA_own, Int.toNat_natCast, List.cons_append, prs_length, prs_getD h1, eo, Bool.not_true, e1, ih']
    · rw [c] at eo
      simp only [Bool.not_true, Bool.false_eq_true, if_false] at eo ⊢
      simp (disch := (first | assumption | (simp only [Bool.and_eq_true, Bool.and_eq_false_iff, decide_eq_true_eq, decide_eq_false_iff_not, bne_iff_ne, beq_iff_eq, beq_eq_false_iff_ne, bne_eq_false_iff_eq, Bool.not_eq_true', Bool.not_eq_false', bys_length, List.length_append, List.length_cons, List.length_nil, List.length_map, List.length_drop, List.length_take, Int.natCast_add, wrap_i64_eq, wrap_u64, wrap_u8, ne_eq, not_true_eq_false, not_false_eq_true, Nat.zero_add, Nat.mul_one] <;> omega) | omega | (simp; done) | (simp; omega))) only [↓at_runK, ↓at_bind, ↓contQ_mk, ↓at_ret, ↓at_consK, ↓at_nilK, ↓at_optK, ↓at_intK, ↓at_boolK, ↓at_strK, ↓at_slK, ↓at_slOK, ↓at_slK0, ↓at_slOK0, ↓at_aggK, ↓at_cond_t, ↓at_cond_f, ↓at_sameL, ↓at_any1, ↓at_any, and_self, toBytes_bys, List.nil_append, List.append_nil, ↓at_nodeW, List.drop_zero, List.take_succ_cons, List.take_zero, List.getElem?_cons_succ, List.getElem?_cons_zero, cells_agg, eqCells_cons, eqCells_nil, eq1_int, eq1_bool, eq1_str, ↓at_ptr_whole, ↓at_ptr_cell, ↓at_ptr_obj, ↓at_ptr_objs, shift_obj, shift_elt, toA_val, toA_own, Int.toNat_natCast, List.cons_append, prs_length, prs_getD h1, eo, Bool.not_false]
      rfl
theorem rnext_run {d : Nat} {f : Bool} {l : List KPair} {w : Int} {s : List UInt8} {h : Heap} {Q : Res → Prop} {tg : Hid Q} (hl : l.length ≤ 1000000) (hw : curWf w s) :
    Run (evFn Cw (d + 1) 16 [.agg [.int .i64 w, .str s], .sl f 3 (prs l)] h) Q tg = Q ([.agg [.int .i64 (curW (nxO w s l) 2), .str (oKey (nxO w s l))]], h) := by
  rw [F16_eq]
  rcases hw with ⟨rfl, rfl⟩ | ⟨rfl, hk⟩ | ⟨rfl, rfl⟩
  · unfold nxO
    rw [if_neg (by decide), if_neg (by decide), lseek_nil]
    obtain ⟨k, hk⟩ : ∃ m, rounds = m + 1 := ⟨rounds - 1, by have := rounds_ge; omega⟩
    rw [hk, P16_0_eq]
    cases l with
    | nil => simp (disch := (first | assumption | (simp only [Bool.and_eq_true, Bool.and_eq_false_iff, decide_eq_true_eq, decide_eq_false_iff_not, bne_iff_ne, beq_iff_eq, beq_eq_false_iff_ne, bne_eq_false_iff_eq, Bool.not_eq_true', Bool.not_eq_false', bys_length, List.length_append, List.length_cons, List.length_nil, List.length_map, List.length_drop, List.length_take, Int.natCast_add, wrap_i64_eq, wrap_u64, wrap_u8, ne_eq, not_true_eq_false, not_false_eq_true, Nat.zero_add, Nat.mul_one] <;> omega) | omega | (simp; done) | (simp; omega))) only [↓at_runK, ↓at_bind, ↓contQ_mk, ↓at_ret, ↓at_consK, ↓at_nilK, ↓at_optK, ↓at_intK, ↓at_boolK, ↓at_strK, ↓at_slK, ↓at_slOK, ↓at_slK0, ↓at_slOK0, ↓at_aggK, ↓at_cond_t, ↓at_cond_f, ↓at_sameL, ↓at_any1, ↓at_any, and_self, toBytes_bys, List.nil_append, List.append_nil, ↓at_nodeW, List.drop_zero, List.take_succ_cons, List.take_zero, List.getElem?_cons_succ, List.getElem?_cons_zero, cells_agg, eqCells_cons, eqCells_nil, eq1_int, eq1_bool, eq1_str, ↓at_ptr_whole, ↓at_ptr_cell, ↓at_ptr_obj, ↓at_ptr_objs, shift_obj, shift_elt, toA_val, toA_own, Int.toNat_natCast, List.cons_append, prs_nil, List.length_nil]; rfl
    | cons p l =>
      have h1 : 0 < (p :: l).length := by simp
      have e2 : (prs (p :: l)).getD (Int.toNat 0) AVal.undef = .agg [.str p.key, .str p.val] := prs_getD h1
      simp (disch := (first | assumption | (simp only [Bool.and_eq_true, Bool.and_eq_false_iff, decide_eq_true_eq, decide_eq_false_iff_not, bne_iff_ne, beq_iff_eq, beq_eq_false_iff_ne, bne_eq_false_iff_eq, Bool.not_eq_true', Bool.not_eq_false', bys_length, List.length_append, List.length_cons, List.length_nil, List.length_map, List.length_drop, List.length_take, Int.natCast_add, wrap_i64_eq, wrap_u64, wrap_u8, ne_eq, not_true_eq_false, not_false_eq_true, Nat.zero_add, Nat.mul_one] <;> omega) | omega | (simp; done) | (simp; omega))) only [↓at_runK, ↓at_bind, ↓contQ_mk, ↓at_ret, ↓at_consK, ↓at_nilK, ↓at_optK, ↓at_intK, ↓at_boolK, ↓at_strK, ↓at_slK, ↓at_slOK, ↓at_slK0, ↓at_slOK0, ↓at_aggK, ↓at_cond_t, ↓at_cond_f, ↓at_sameL, ↓at_any1, ↓at_any, and_self, toBytes_bys, List.nil_append, List.append_nil, ↓at_nodeW, List.drop_zero, List.take_succ_cons, List.take_zero, List.getElem?_cons_succ, List.getElem?_cons_zero, cells_agg, eqCells_cons, eqCells_nil, eq1_int, eq1_bool, eq1_str, ↓at_ptr_whole, ↓at_ptr_cell, ↓at_ptr_obj, ↓at_ptr_objs, shift_obj, shift_elt, toA_val, toA_own, Int.toNat_natCast, List.cons_append, prs_length, e2, List.length_cons]
      rfl
  · have := rnext_loop d f s h l hl Q l.length 0 rounds ⟨⟩ (by omega) (rounds_gt' (by omega))
    unfold nxO
    rw [if_neg (by decide), if_pos rfl]
    rw [e0] at this
    exact this
  · unfold nxO
    rw [if_pos rfl]
    obtain ⟨k, hk⟩ : ∃ m, rounds = m + 1 := ⟨rounds - 1, by have := rounds_ge; omega⟩
    rw [hk, P16_0_eq]
    by_cases h1 : (0 : Int) < ((prs l).length : Int)
    · simp (disch := (first | assumption | (simp only [Bool.and_eq_true, Bool.and_eq_false_iff, decide_eq_true_eq, decide_eq_false_iff_not, bne_iff_ne, beq_iff_eq, beq_eq_false_iff_ne, bne_eq_false_iff_eq, Bool.not_eq_true', Bool.not_eq_false', bys_length, List.length_append, List.length_cons, List.length_nil, List.length_map, List.length_drop, List.length_take, Int.natCast_add, wrap_i64_eq, wrap_u64, wrap_u8, ne_eq, not_true_eq_false, not_false_eq_true, Nat.zero_add, Nat.mul_one] <;> omega) | omega | (simp; done) | (simp; omega))) only [↓at_runK, ↓at_bind, ↓contQ_mk, ↓at_ret, ↓at_consK, ↓at_nilK, ↓at_optK, ↓at_intK, ↓at_boolK, ↓at_strK, ↓at_slK, ↓at_slOK, ↓at_slK0, ↓at_slOK0, ↓at_aggK, ↓at_cond_t, ↓at_cond_f, ↓at_sameL, ↓at_any1, ↓at_any, and_self, toBytes_bys, List.nil_append, List.append_nil, ↓at_nodeW, List.drop_zero, List.take_succ_cons, List.take_zero, List.getElem?_cons_succ, List.getElem?_cons_zero, cells_agg, eqCells_cons, eqCells_nil, eq1_int, eq1_bool, eq1_str, ↓at_ptr_whole, ↓at_ptr_cell, ↓at_ptr_obj, ↓at_ptr_objs, shift_obj, shift_elt, toA_val, toA_own, Int.toNat_natCast, List.cons_append, h1]; rfl
    · simp (disch := (first | assumption | (simp only [Bool.and_eq_true, Bool.and_eq_false_iff, decide_eq_true_eq, decide_eq_false_iff_not, bne_iff_ne, beq_iff_eq, beq_eq_false_iff_ne, bne_eq_false_iff_eq, Bool.not_eq_true', Bool.not_eq_false', bys_length, List.length_append, List.length_cons, List.length_nil, List.length_map, List.length_drop, List.length_take, Int.natCast_add, wrap_i64_eq, wrap_u64, wrap_u8, ne_eq, not_true_eq_false, not_false_eq_true, Nat.zero_add, Nat.mul_one] <;> omega) | omega | (simp; done) | (simp; omega))) only [↓at_runK, ↓at_bind, ↓contQ_mk, ↓at_ret, ↓at_consK, ↓at_nilK, ↓at_optK, ↓at_intK, ↓at_boolK, ↓at_strK, ↓at_slK, ↓at_slOK, ↓at_slK0, ↓at_slOK0, ↓at_aggK, ↓at_cond_t, ↓at_cond_f, ↓at_sameL, ↓at_any1, ↓at_any, and_self, toBytes_bys, List.nil_append, List.append_nil, ↓at_nodeW, List.drop_zero, List.take_succ_cons, List.take_zero, List.getElem?_cons_succ, List.getElem?_cons_zero, cells_agg, eqCells_cons, eqCells_nil, eq1_int, eq1_bool, eq1_str, ↓at_ptr_whole, ↓at_ptr_cell, ↓at_ptr_obj, ↓at_ptr_objs, shift_obj, shift_elt, toA_val, toA_own, Int.toNat_natCast, List.cons_append, h1]; rfl
theorem lbelow_take {s : List UInt8} {l : List KPair} {n : Nat} (h : n < l.length) : lbelow s (l.take (n + 1)) = if blt l[n].key s then some l[n] else lbelow s (l.take n) := by
  rw [List.take_succ_eq_append_getElem h]
  unfold lbelow
  rw [List.filter_append, List.filter_cons, List.filter_nil]
  cases blt l[n].key s
  · simp
  · simp
theorem rprev_loop (d : Nat) (f : Bool) (s : List UInt8) (h : Heap) (l : List KPair) (hl : l.length ≤ 1000000) (Q : Res → Prop) : ∀ (n k : Nat) (i : Int) (tg : Hid Q), i = (n : Int) - 1 → n ≤ l.length → n < k →
    Run (P18_0 d k f (prs l) i 1 s 0 [] h) Q tg = Q ([.agg [.int .i64 (curW (lbelow s (l.take n)) 0), .str (oKey (lbelow s (l.take n)))]], h) := by
  intro n
  induction n with
  | zero =>
    intro k i tg hi hn hk
    obtain ⟨k, rfl⟩ : ∃ m, k = m + 1 := ⟨k - 1, by omega⟩
    rw [P18_0_eq, List.take_zero]
    simp (disch := (first | assumption | (simp only [Bool.and_eq_true, Bool.and_eq_false_iff, decide_eq_true_eq, decide_eq_false_iff_not, bne_iff_ne, beq_iff_eq, beq_eq_false_iff_ne, bne_eq_false_iff_eq, Bool.not_eq_true', Bool.not_eq_false', bys_length, List.length_append, List.length_cons, List.length_nil, List.length_map, List.length_drop, List.length_take, Int.natCast_add, wrap_i64_eq, wrap_u64, wrap_u8, ne_eq, not_true_eq_false, not_false_eq_true, Nat.zero_add, Nat.mul_one] <;> omega) | omega | (simp; done) | (simp; omega))) only [↓at_runK, ↓at_bind, ↓contQ_mk, ↓at_ret, ↓at_consK, ↓at_nilK, ↓at_optK, ↓at_intK, ↓at_boolK, ↓at_strK, ↓at_slK, ↓at_slOK, ↓at_slK0, ↓at_slOK0, ↓at_aggK, ↓at_cond_t, ↓at_cond_f, ↓at_sameL, ↓at_any1, ↓at_any, and_self, toBytes_bys, List.nil_append, List.append_nil, ↓at_nodeW, List.drop_zero, List.take_succ_cons, List.take_zero, List.getElem?_cons_succ, List.getElem?_cons_zero, cells_agg, eqCells_cons, eqCells_nil, eq1_int, eq1_bool, eq1_str, ↓at_ptr_whole, ↓at_ptr_cell, ↓at_ptr_obj, ↓at_ptr_objs, shift_obj, shift_elt, toA_val, toA_own, Int.toNat_natCast, List.cons_append, prs_length]
    rfl
  | succ n ih =>
    intro k i tg hi hn hk
    obtain ⟨k, rfl⟩ : ∃ m, k = m + 1 := ⟨k - 1, by omega⟩
    obtain rfl : i = (n : Int) := by omega
    have h1 : n < l.length := by omega
    have e1 : IntKind.i64.wrap ((n : Int) - 1) = (n : Int) - 1 := wrap_i64_id (by omega) (by omega)
    have ih' := fun tg => ih k ((n : Int) - 1) tg rfl (by omega) (by omega)
    rw [P18_0_eq, lbelow_take h1]
    cases c : blt l[n].key s
    · have c' : Go.Op.bytesLess l[n].key s = false := c
      rw [if_neg (by simp)]
      simp (disch := (first | assumption | (simp only [Bool.and_eq_true, Bool.and_eq_false_iff, decide_eq_true_eq, decide_eq_false_iff_not, bne_iff_ne, beq_iff_eq, beq_eq_false_iff_ne, bne_eq_false_iff_eq, Bool.not_eq_true', Bool.not_eq_false', bys_length, List.length_append, List.length_cons, List.length_nil, List.length_map, List.length_drop, List.length_take, Int.natCast_add, wrap_i64_eq, wrap_u64, wrap_u8, ne_eq, not_true_eq_false, not_false_eq_true, Nat.zero_add, Nat.mul_one] <;> omega) | omega | (simp; done) | (simp; omega))) only [↓at_runK, ↓at_bind, ↓contQ_mk, ↓at_ret, ↓at_consK, ↓at_nilK, ↓at_optK, ↓at_intK, ↓at_boolK, ↓at_strK, ↓at_slK, ↓at_slOK, ↓at_slK0, ↓at_slOK0, ↓at_aggK, ↓at_cond_t, ↓at_cond_f, ↓at_sameL, ↓at_any1, ↓at_any, and_self, toBytes_bys, List.nil_append, List.append_nil, ↓at_nodeW, List.drop_zero, List.take_succ_cons, List.take_zero, List.getElem?_cons_succ, List.getElem?_cons_zero, cells_agg, eqCells_cons, eqCells_nil, eq1_int, eq1_bool, eq1_str, ↓at_ptr_whole, ↓at_ptr_cell, ↓at_ptr_obj, ↓at_ptr_objs, shift_obj, shift_elt, toA_val, toA_own, Int.toNat_natCast, List.cons_append, prs_length, prs_getD h1, c', e1, ih']
    · have c' : Go.Op.bytesLess l[n].key s = true := c
      rw [if_pos rfl]
      simp (disch := (first | assumption | (simp only [Bool.and_eq_true, Bool.and_eq_false_iff, decide_eq_true_eq, decide_eq_false_iff_not, bne_iff_ne, beq_iff_eq, beq_eq_false_iff_ne, bne_eq_false_iff_eq, Bool.not_eq_true', Bool.not_eq_false', bys_length, List.length_append, List.length_cons, List.length_nil, List.length_map, List.length_drop, List.length_take, Int.natCast_add, wrap_i64_eq, wrap_u64, wrap_u8, ne_eq, not_true_eq_false, not_false_eq_true, Nat.zero_add, Nat.mul_one] <;> omega) | omega | (simp; done) | (simp; omega))) only [↓at_runK, ↓at_bind, ↓contQ_mk, ↓at_ret, ↓at_consK, ↓at_nilK, ↓at_optK, ↓at_intK, ↓at_boolK, ↓at_strK, ↓at_slK, ↓at_slOK, ↓at_slK0, ↓at_slOK0, ↓at_aggK, ↓at_cond_t, ↓at_cond_f, ↓at_sameL, ↓at_any1, ↓at_any, and_self, toBytes_bys, List.nil_append, List.append_nil, ↓at_nodeW, List.drop_zero, List.take_succ_cons, List.take_zero, List.getElem?_cons_succ, List.getElem?_cons_zero, cells_agg, eqCells_cons, eqCells_nil, eq1_int, eq1_bool, eq1_str, ↓at_ptr_whole, ↓at_ptr_cell, ↓at_ptr_obj, ↓at_ptr_objs, shift_obj, shift_elt, toA_val, toA_own, Int.toNat_natCast, List.cons_append, prs_length, prs_getD h1, c']
      rfl
theorem rprev_run {d : Nat} {f : Bool} {l : List KPair} {w : Int} {s : List UInt8} {h : Heap} {Q : Res → Prop} {tg : Hid Q} (hl : l.length ≤ 1000000) (hw : curWf w s) :
    Run (evFn Cw (d + 1) 18 [.agg [.int .i64 w, .str s], .sl f 3 (prs l)] h) Q tg = Q ([.agg [.int .i64 (curW (bkO w s l) 0), .str (oKey (bkO w s l))]], h) := by
  rw [F18_eq]
  have ew : IntKind.i64.wrap (((prs l).length : Int) - 1) = (l.length : Int) - 1 := by rw [prs_length]; exact wrap_i64_id (by omega) (by omega)
  rw [ew]
  rcases hw with ⟨rfl, rfl⟩ | ⟨rfl, hk⟩ | ⟨rfl, rfl⟩
  · unfold bkO
    rw [if_pos rfl]
    obtain ⟨k, hk⟩ : ∃ m, rounds = m + 1 := ⟨rounds - 1, by have := rounds_ge; omega⟩
    rw [hk, P18_0_eq]
    by_cases h1 : (0 : Int) ≤ (l.length : Int) - 1
    · simp (disch := (first | assumption | (simp only [Bool.and_eq_true, Bool.and_eq_false_iff, decide_eq_true_eq, decide_eq_false_iff_not, bne_iff_ne, beq_iff_eq, beq_eq_false_iff_ne, bne_eq_false_iff_eq, Bool.not_eq_true', Bool.not_eq_false', bys_length, List.length_append, List.length_cons, List.length_nil, List.length_map, List.length_drop, List.length_take, Int.natCast_add, wrap_i64_eq, wrap_u64, wrap_u8, ne_eq, not_true_eq_false, not_false_eq_true, Nat.zero_add, Nat.mul_one] <;> omega) | omega | (simp; done) | (simp; omega))) only [↓at_runK, ↓at_bind, ↓contQ_mk, ↓at_ret, ↓at_consK, ↓at_nilK, ↓at_optK, ↓at_intK, ↓at_boolK, ↓at_strK, ↓at_slK, ↓at_slOK, ↓at_slK0, ↓at_slOK0, ↓at_aggK, ↓at_cond_t, ↓at_cond_f, ↓at_sameL, ↓at_any1, ↓at_any, and_self, toBytes_bys, List.nil_append, List.append_nil, ↓at_nodeW, List.drop_zero, List.take_succ_cons, List.take_zero, List.getElem?_cons_succ, List.getElem?_cons_zero, cells_agg, eqCells_cons, eqCells_nil, eq1_int, eq1_bool, eq1_str, ↓at_ptr_whole, ↓at_ptr_cell, ↓at_ptr_obj, ↓at_ptr_objs, shift_obj, shift_elt, toA_val, toA_own, Int.toNat_natCast, List.cons_append, h1]; rfl
    · simp (disch := (first | assumption | (simp only [Bool.and_eq_true, Bool.and_eq_false_iff, decide_eq_true_eq, decide_eq_false_iff_not, bne_iff_ne, beq_iff_eq, beq_eq_false_iff_ne, bne_eq_false_iff_eq, Bool.not_eq_true', Bool.not_eq_false', bys_length, List.length_append, List.length_cons, List.length_nil, List.length_map, List.length_drop, List.length_take, Int.natCast_add, wrap_i64_eq, wrap_u64, wrap_u8, ne_eq, not_true_eq_false, not_false_eq_true, Nat.zero_add, Nat.mul_one] <;> omega) | omega | (simp; done) | (simp; omega))) only [↓at_runK, ↓at_bind, ↓contQ_mk, ↓at_ret, ↓at_consK, ↓at_nilK, ↓at_optK, ↓at_intK, ↓at_boolK, ↓at_strK, ↓at_slK, ↓at_slOK, ↓at_slK0, ↓at_slOK0, ↓at_aggK, ↓at_cond_t, ↓at_cond_f, ↓at_sameL, ↓at_any1, ↓at_any, and_self, toBytes_bys, List.nil_append, List.append_nil, ↓at_nodeW, List.drop_zero, List.take_succ_cons, List.take_zero, List.getElem?_cons_succ, List.getElem?_cons_zero, cells_agg, eqCells_cons, eqCells_nil, eq1_int, eq1_bool, eq1_str, ↓at_ptr_whole, ↓at_ptr_cell, ↓at_ptr_obj, ↓at_ptr_objs, shift_obj, shift_elt, toA_val, toA_own, Int.toNat_natCast, List.cons_append, h1]; rfl
  · have := rprev_loop d f s h l hl Q l.length rounds _ ⟨⟩ rfl (Nat.le_refl _) (rounds_gt' (by omega))
    unfold bkO
    rw [if_neg (by decide), if_pos rfl]
    rw [List.take_length] at this
    exact this
  · unfold bkO
    rw [if_neg (by decide), if_neg (by decide)]
    obtain ⟨k, hk⟩ : ∃ m, rounds = m + 1 := ⟨rounds - 1, by have := rounds_ge; omega⟩
    rw [hk, P18_0_eq]
    rcases Nat.eq_zero_or_pos l.length with h1 | h1
    · have : l = [] := List.length_eq_zero_iff.1 h1
      subst this
      simp (disch := (first | assumption | (simp only [Bool.and_eq_true, Bool.and_eq_false_iff, decide_eq_true_eq, decide_eq_false_iff_not, bne_iff_ne, beq_iff_eq, beq_eq_false_iff_ne, bne_eq_false_iff_eq, Bool.not_eq_true', Bool.not_eq_false', bys_length, List.length_append, List.length_cons, List.length_nil, List.length_map, List.length_drop, List.length_take, Int.natCast_add, wrap_i64_eq, wrap_u64, wrap_u8, ne_eq, not_true_eq_false, not_false_eq_true, Nat.zero_add, Nat.mul_one] <;> omega) | omega | (simp; done) | (simp; omega))) only [↓at_runK, ↓at_bind, ↓contQ_mk, ↓at_ret, ↓at_consK, ↓at_nilK, ↓at_optK, ↓at_intK, ↓at_boolK, ↓at_strK, ↓at_slK, ↓at_slOK, ↓at_slK0, ↓at_slOK0, ↓at_aggK, ↓at_cond_t, ↓at_cond_f, ↓at_sameL, ↓at_any1, ↓at_any, and_self, toBytes_bys, List.nil_append, List.append_nil, ↓at_nodeW, List.drop_zero, List.take_succ_cons, List.take_zero, List.getElem?_cons_succ, List.getElem?_cons_zero, cells_agg, eqCells_cons, eqCells_nil, eq1_int, eq1_bool, eq1_str, ↓at_ptr_whole, ↓at_ptr_cell, ↓at_ptr_obj, ↓at_ptr_objs, shift_obj, shift_elt, toA_val, toA_own, Int.toNat_natCast, List.cons_append, prs_length, List.length_nil]; rfl
    · obtain ⟨n, hn⟩ : ∃ n, l.length = n + 1 := ⟨l.length - 1, by omega⟩
      have e1 : (l.length : Int) - 1 = (n : Int) := by omega
      have h2 : n < l.length := by omega
      have e3 : l.getLast? = some l[n] := by rw [List.getLast?_eq_getElem?, hn, Nat.add_sub_cancel, List.getElem?_eq_getElem h2]
      rw [e1, e3]
      simp (disch := (first | assumption | (simp only [Bool.and_eq_true, Bool.and_eq_false_iff, decide_eq_true_eq, decide_eq_false_iff_not, bne_iff_ne, beq_iff_eq, beq_eq_false_iff_ne, bne_eq_false_iff_eq, Bool.not_eq_true', Bool.not_eq_false', bys_length, List.length_append, List.length_cons, List.length_nil, List.length_map, List.length_drop, List.length_take, Int.natCast_add, wrap_i64_eq, wrap_u64, wrap_u8, ne_eq, not_true_eq_false, not_false_eq_true, Nat.zero_add, Nat.mul_one] <;> omega) | omega | (simp; done) | (simp; omega))) only [↓at_runK, ↓at_bind, ↓contQ_mk, ↓at_ret, ↓at_consK, ↓at_nilK, ↓at_optK, ↓at_intK, ↓at_boolK, ↓at_strK, ↓at_slK, ↓at_slOK, ↓at_slK0, ↓at_slOK0, ↓at_aggK, ↓at_cond_t, ↓at_cond_f, ↓at_sameL, ↓at_any1, ↓at_any, and_self, toBytes_bys, List.nil_append, List.append_nil, ↓at_nodeW, List.drop_zero, List.take_succ_cons, List.take_zero, List.getElem?_cons_succ, List.getElem?_cons_zero, cells_agg, eqCells_cons, eqCells_nil, eq1_int, eq1_bool, eq1_str, ↓at_ptr_whole, ↓at_ptr_cell, ↓at_ptr_obj, ↓at_ptr_objs, shift_obj, shift_elt, toA_val, toA_own, Int.toNat_natCast, List.cons_append, prs_length, prs_getD h2]
      rfl
theorem rseek32_run {d : Nat} {f : Bool} {l : List KPair} {w : Int} {s k : List UInt8} {h : Heap} {Q : Res → Prop} {tg : Hid Q} (hl : l.length ≤ 1000000) :
    Run (evFn Cw (d + 2) 20 [.agg [.int .i64 w, .str k], .sl f 3 (prs l), .str s] h) Q tg = Q ([.agg [.int .i64 (curW (lseek s l) 2), .str (oKey (lseek s l))]], h) := by
  have r := fun (Q : Res → Prop) (tg : Hid Q) => rseek31_run (d := d) (f := f) (s := s) (h := h) (Q := Q) (tg := tg) hl
  rw [F20_eq]
  cases c : lseek s l with
  | none => rw [c] at r; simp (disch := (first | assumption | (simp only [Bool.and_eq_true, Bool.and_eq_false_iff, decide_eq_true_eq, decide_eq_false_iff_not, bne_iff_ne, beq_iff_eq, beq_eq_false_iff_ne, bne_eq_false_iff_eq, Bool.not_eq_true', Bool.not_eq_false', bys_length, List.length_append, List.length_cons, List.length_nil, List.length_map, List.length_drop, List.length_take, Int.natCast_add, wrap_i64_eq, wrap_u64, wrap_u8, ne_eq, not_true_eq_false, not_false_eq_true, Nat.zero_add, Nat.mul_one] <;> omega) | omega | (simp; done) | (simp; omega))) only [↓at_runK, ↓at_bind, ↓contQ_mk, ↓at_ret, ↓at_consK, ↓at_nilK, ↓at_optK, ↓at_intK, ↓at_boolK, ↓at_strK, ↓at_slK, ↓at_slOK, ↓at_slK0, ↓at_slOK0, ↓at_aggK, ↓at_cond_t, ↓at_cond_f, ↓at_sameL, ↓at_any1, ↓at_any, and_self, toBytes_bys, List.nil_append, List.append_nil, ↓at_nodeW, List.drop_zero, List.take_succ_cons, List.take_zero, List.getElem?_cons_succ, List.getElem?_cons_zero, cells_agg, eqCells_cons, eqCells_nil, eq1_int, eq1_bool, eq1_str, ↓at_ptr_whole, ↓at_ptr_cell, ↓at_ptr_obj, ↓at_ptr_objs, shift_obj, shift_elt, toA_val, toA_own, Int.toNat_natCast, List.cons_append, r, isSome_none', Bool.not_false]; rfl
  | some p => rw [c] at r; simp (disch := (first | assumption | (simp only [Bool.and_eq_true, Bool.and_eq_false_iff, decide_eq_true_eq, decide_eq_false_iff_not, bne_iff_ne, beq_iff_eq, beq_eq_false_iff_ne, bne_eq_false_iff_eq, Bool.not_eq_true', Bool.not_eq_false', bys_length, List.length_append, List.length_cons, List.length_nil, List.length_map, List.length_drop, List.length_take, Int.natCast_add, wrap_i64_eq, wrap_u64, wrap_u8, ne_eq, not_true_eq_false, not_false_eq_true, Nat.zero_add, Nat.mul_one] <;> omega) | omega | (simp; done) | (simp; omega))) only [↓at_runK, ↓at_bind, ↓contQ_mk, ↓at_ret, ↓at_consK, ↓at_nilK, ↓at_optK, ↓at_intK, ↓at_boolK, ↓at_strK, ↓at_slK, ↓at_slOK, ↓at_slK0, ↓at_slOK0, ↓at_aggK, ↓at_cond_t, ↓at_cond_f, ↓at_sameL, ↓at_any1, ↓at_any, and_self, toBytes_bys, List.nil_append, List.append_nil, ↓at_nodeW, List.drop_zero, List.take_succ_cons, List.take_zero, List.getElem?_cons_succ, List.getElem?_cons_zero, cells_agg, eqCells_cons, eqCells_nil, eq1_int, eq1_bool, eq1_str, ↓at_ptr_whole, ↓at_ptr_cell, ↓at_ptr_obj, ↓at_ptr_objs, shift_obj, shift_elt, toA_val, toA_own, Int.toNat_natCast, List.cons_append, r, isSome_some', Bool.not_true]; rfl

theorem pnext_run {d i ti : Nat} {t : Nd} {w : Int} {k : List UInt8} {h : Heap} {Q : Res → Prop} {tg : Hid Q} (ok : TOk' t) (hm : h.objs[i]? = some (curO (.obj ti 0) w k)) (ht : h.objs[ti]? = some (trT t)) (hw : curWf w k) :
    Run (evFn Cw (d + 3) 15 [.obj i 0] h) Q tg = Q ([.bool (nxO w k t.toL).isSome], h.put i (curO (.obj ti 0) (curW (nxO w k t.toL) 2) (oKey (nxO w k t.toL)))) := by
  by_cases h2 : w = 2
  · have hk : k = [] := by rcases hw with ⟨e, _⟩ | ⟨e, _⟩ | ⟨_, e⟩ <;> first | omega | exact e
    subst hk; subst h2
    unfold nxO
    rw [if_pos rfl]
    have e : h.put i (curO (.obj ti 0) (curW none 2) (oKey none)) = h := Heap.put_self' hm
    rw [e, cnext0_run hm rfl]
    rfl
  · unfold nxO
    rw [if_neg h2]
    have hk : k.length ≤ 140737488351232 := by rcases hw with ⟨_, e⟩ | ⟨_, e⟩ | ⟨_, e⟩ <;> first | exact e | (rw [e]; simp)
    rw [cnext_run ok hm ht h2 hk]
    rfl
theorem pprev_run {d i ti : Nat} {t : Nd} {w : Int} {k : List UInt8} {h : Heap} (ok : TOk' t) (hm : h.objs[i]? = some (curO (.obj ti 0) w k)) (ht : h.objs[ti]? = some (trT t)) (hw : curWf w k) (hd : 1010 ≤ d) :
    ∃ h', Heap.but h h' i ∧ h'.objs[i]? = some (curO (.obj ti 0) (curW (bkO w k t.toL) 0) (oKey (bkO w k t.toL))) ∧ ∀ (Q : Res → Prop) (tg : Hid Q), Run (evFn Cw d 17 [.obj i 0] h) Q tg = Q ([.bool (bkO w k t.toL).isSome], h') := by
  rcases hw with ⟨rfl, rfl⟩ | ⟨rfl, hk⟩ | ⟨rfl, rfl⟩
  · obtain ⟨d, rfl⟩ : ∃ e, d = e + 3 := ⟨d - 3, by omega⟩
    exact ⟨h, ⟨Nat.le_refl _, fun _ _ _ => rfl⟩, hm, fun Q tg => cprev0_run hm⟩
  · obtain ⟨d, rfl⟩ : ∃ e, d = e + 3 := ⟨d - 3, by omega⟩
    exact ⟨_, Heap.but_put h i _, Heap.put_get hm, fun Q tg => cprev1_run ok hm ht⟩
  · exact cprev2_run ok hm ht hd

def acts32 (l : List Act32) : List AVal := l.map Act32.A
theorem acts32_length (l : List Act32) : (acts32 l).length = l.length := by simp [acts32]
theorem acts32_getD {l : List Act32} {i : Nat} (h : i < l.length) : (acts32 l).getD i AVal.undef = .agg [.int .u64 l[i].kind, .str l[i].key] := by simp [acts32, h, Act32.A, Act32.C]
theorem cplays_tail (d ci ti : Nat) (f : Bool) (la : List AVal) (t : Nd) (ok : TOk' t) (j n0 : Nat) (hj : j ≤ 1000) (b : Bool) (m w : Int) (ck : List UInt8) (hb : m < 4 → b = (w == 1)) (h : Heap)
    (hm : h.objs[ci]? = some (curO (.obj ti 0) w ck)) (ht : h.objs[ti]? = some (trT t)) (Q : Res → Prop) (tg : Hid Q) :
    Run (P3_1 (d + 1030) n0 f la (.obj ti 0) (.obj ci 0) (prs t.toL) j b m [.int .i64 w, .str ck] h) Q tg
      = Run (P3_0 (d + 1030) n0 f la (.obj ti 0) (.obj ci 0) (prs t.toL) (j + 1 : Nat) [.int .i64 w, .str ck] h) Q ⟨⟩ := by
  have hlen := ok.len
  have e1 := succ_wrap (i := j) (by omega)
  have bb : ∀ b : Bool, (b == b) = true := fun b => by simp
  have rp := fun (Q : Res → Prop) (tg : Hid Q) => cpair_run (d := d + 1026) (Q := Q) (tg := tg) ok hm ht
  have ro := fun (Q : Res → Prop) (tg : Hid Q) => con_run (d := d + 1029) (Q := Q) (tg := tg) hm
  have rg := fun (Q : Res → Prop) (tg : Hid Q) => rget31_run (d := d + 1029) (f := false) (l := t.toL) (s := ck) (h := h) (Q := Q) (tg := tg) (by omega)
  rw [P3_1_eq]
  by_cases h1 : w = 1
  · subst h1
    have b1 : ((1 : Int) == 1) = true := rfl
    rw [b1] at ro hb
    cases hg : (lget ck t.toL).isSome
    · rw [hg] at rg
      rw [hg, if_neg (by simp)] at rp
      by_cases c : m < 4
      · obtain rfl := hb c
        simp (disch := (first | assumption | (simp only [Bool.and_eq_true, Bool.and_eq_false_iff, decide_eq_true_eq, decide_eq_false_iff_not, bne_iff_ne, beq_iff_eq, beq_eq_false_iff_ne, bne_eq_false_iff_eq, Bool.not_eq_true', Bool.not_eq_false', bys_length, List.length_append, List.length_cons, List.length_nil, List.length_map, List.length_drop, List.length_take, Int.natCast_add, wrap_i64_eq, wrap_u64, wrap_u8, ne_eq, not_true_eq_false, not_false_eq_true, Nat.zero_add, Nat.mul_one] <;> omega) | omega | (simp; done) | (simp; omega))) only [↓at_runK, ↓at_bind, ↓contQ_mk, ↓at_ret, ↓at_consK, ↓at_nilK, ↓at_optK, ↓at_intK, ↓at_boolK, ↓at_strK, ↓at_slK, ↓at_slOK, ↓at_slK0, ↓at_slOK0, ↓at_aggK, ↓at_cond_t, ↓at_cond_f, ↓at_sameL, ↓at_any1, ↓at_any, and_self, toBytes_bys, List.nil_append, List.append_nil, ↓at_nodeW, List.drop_zero, List.take_succ_cons, List.take_zero, List.getElem?_cons_succ, List.getElem?_cons_zero, cells_agg, eqCells_cons, eqCells_nil, eq1_int, eq1_bool, eq1_str, ↓at_ptr_whole, ↓at_ptr_cell, ↓at_ptr_obj, ↓at_ptr_objs, shift_obj, shift_elt, toA_val, toA_own, Int.toNat_natCast, List.cons_append, rp, rg, c, bb, b1, ro, plain43, Bool.and_self, str_beq_self, Bool.not_true, Bool.not_false, e1]
      · simp (disch := (first | assumption | (simp only [Bool.and_eq_true, Bool.and_eq_false_iff, decide_eq_true_eq, decide_eq_false_iff_not, bne_iff_ne, beq_iff_eq, beq_eq_false_iff_ne, bne_eq_false_iff_eq, Bool.not_eq_true', Bool.not_eq_false', bys_length, List.length_append, List.length_cons, List.length_nil, List.length_map, List.length_drop, List.length_take, Int.natCast_add, wrap_i64_eq, wrap_u64, wrap_u8, ne_eq, not_true_eq_false, not_false_eq_true, Nat.zero_add, Nat.mul_one] <;> omega) | omega | (simp; done) | (simp; omega))) only [↓at_runK, ↓at_bind, ↓contQ_mk, ↓at_ret, ↓at_consK, ↓at_nilK, ↓at_optK, ↓at_intK, ↓at_boolK, ↓at_strK, ↓at_slK, ↓at_slOK, ↓at_slK0, ↓at_slOK0, ↓at_aggK, ↓at_cond_t, ↓at_cond_f, ↓at_sameL, ↓at_any1, ↓at_any, and_self, toBytes_bys, List.nil_append, List.append_nil, ↓at_nodeW, List.drop_zero, List.take_succ_cons, List.take_zero, List.getElem?_cons_succ, List.getElem?_cons_zero, cells_agg, eqCells_cons, eqCells_nil, eq1_int, eq1_bool, eq1_str, ↓at_ptr_whole, ↓at_ptr_cell, ↓at_ptr_obj, ↓at_ptr_objs, shift_obj, shift_elt, toA_val, toA_own, Int.toNat_natCast, List.cons_append, rp, rg, c, bb, b1, ro, plain43, Bool.and_self, str_beq_self, Bool.not_true, Bool.not_false, e1]
    · rw [hg] at rg
      rw [hg, if_pos ⟨rfl, rfl⟩] at rp
      by_cases c : m < 4
      · obtain rfl := hb c
        simp (disch := (first | assumption | (simp only [Bool.and_eq_true, Bool.and_eq_false_iff, decide_eq_true_eq, decide_eq_false_iff_not, bne_iff_ne, beq_iff_eq, beq_eq_false_iff_ne, bne_eq_false_iff_eq, Bool.not_eq_true', Bool.not_eq_false', bys_length, List.length_append, List.length_cons, List.length_nil, List.length_map, List.length_drop, List.length_take, Int.natCast_add, wrap_i64_eq, wrap_u64, wrap_u8, ne_eq, not_true_eq_false, not_false_eq_true, Nat.zero_add, Nat.mul_one] <;> omega) | omega | (simp; done) | (simp; omega))) only [↓at_runK, ↓at_bind, ↓contQ_mk, ↓at_ret, ↓at_consK, ↓at_nilK, ↓at_optK, ↓at_intK, ↓at_boolK, ↓at_strK, ↓at_slK, ↓at_slOK, ↓at_slK0, ↓at_slOK0, ↓at_aggK, ↓at_cond_t, ↓at_cond_f, ↓at_sameL, ↓at_any1, ↓at_any, and_self, toBytes_bys, List.nil_append, List.append_nil, ↓at_nodeW, List.drop_zero, List.take_succ_cons, List.take_zero, List.getElem?_cons_succ, List.getElem?_cons_zero, cells_agg, eqCells_cons, eqCells_nil, eq1_int, eq1_bool, eq1_str, ↓at_ptr_whole, ↓at_ptr_cell, ↓at_ptr_obj, ↓at_ptr_objs, shift_obj, shift_elt, toA_val, toA_own, Int.toNat_natCast, List.cons_append, rp, rg, c, bb, b1, ro, plain43, Bool.and_self, str_beq_self, Bool.not_true, Bool.not_false, e1]
      · simp (disch := (first | assumption | (simp only [Bool.and_eq_true, Bool.and_eq_false_iff, decide_eq_true_eq, decide_eq_false_iff_not, bne_iff_ne, beq_iff_eq, beq_eq_false_iff_ne, bne_eq_false_iff_eq, Bool.not_eq_true', Bool.not_eq_false', bys_length, List.length_append, List.length_cons, List.length_nil, List.length_map, List.length_drop, List.length_take, Int.natCast_add, wrap_i64_eq, wrap_u64, wrap_u8, ne_eq, not_true_eq_false, not_false_eq_true, Nat.zero_add, Nat.mul_one] <;> omega) | omega | (simp; done) | (simp; omega))) only [↓at_runK, ↓at_bind, ↓contQ_mk, ↓at_ret, ↓at_consK, ↓at_nilK, ↓at_optK, ↓at_intK, ↓at_boolK, ↓at_strK, ↓at_slK, ↓at_slOK, ↓at_slK0, ↓at_slOK0, ↓at_aggK, ↓at_cond_t, ↓at_cond_f, ↓at_sameL, ↓at_any1, ↓at_any, and_self, toBytes_bys, List.nil_append, List.append_nil, ↓at_nodeW, List.drop_zero, List.take_succ_cons, List.take_zero, List.getElem?_cons_succ, List.getElem?_cons_zero, cells_agg, eqCells_cons, eqCells_nil, eq1_int, eq1_bool, eq1_str, ↓at_ptr_whole, ↓at_ptr_cell, ↓at_ptr_obj, ↓at_ptr_objs, shift_obj, shift_elt, toA_val, toA_own, Int.toNat_natCast, List.cons_append, rp, rg, c, bb, b1, ro, plain43, Bool.and_self, str_beq_self, Bool.not_true, Bool.not_false, e1]
  · have b1 : (w == 1) = false := by simpa using h1
    rw [b1] at ro hb
    rw [if_neg (fun h => h1 h.1)] at rp
    cases hg : (lget ck t.toL).isSome <;> rw [hg] at rg
    · by_cases c : m < 4
      · obtain rfl := hb c
        simp (disch := (first | assumption | (simp only [Bool.and_eq_true, Bool.and_eq_false_iff, decide_eq_true_eq, decide_eq_false_iff_not, bne_iff_ne, beq_iff_eq, beq_eq_false_iff_ne, bne_eq_false_iff_eq, Bool.not_eq_true', Bool.not_eq_false', bys_length, List.length_append, List.length_cons, List.length_nil, List.length_map, List.length_drop, List.length_take, Int.natCast_add, wrap_i64_eq, wrap_u64, wrap_u8, ne_eq, not_true_eq_false, not_false_eq_true, Nat.zero_add, Nat.mul_one] <;> omega) | omega | (simp; done) | (simp; omega))) only [↓at_runK, ↓at_bind, ↓contQ_mk, ↓at_ret, ↓at_consK, ↓at_nilK, ↓at_optK, ↓at_intK, ↓at_boolK, ↓at_strK, ↓at_slK, ↓at_slOK, ↓at_slK0, ↓at_slOK0, ↓at_aggK, ↓at_cond_t, ↓at_cond_f, ↓at_sameL, ↓at_any1, ↓at_any, and_self, toBytes_bys, List.nil_append, List.append_nil, ↓at_nodeW, List.drop_zero, List.take_succ_cons, List.take_zero, List.getElem?_cons_succ, List.getElem?_cons_zero, cells_agg, eqCells_cons, eqCells_nil, eq1_int, eq1_bool, eq1_str, ↓at_ptr_whole, ↓at_ptr_cell, ↓at_ptr_obj, ↓at_ptr_objs, shift_obj, shift_elt, toA_val, toA_own, Int.toNat_natCast, List.cons_append, rp, rg, c, bb, b1, ro, plain43, Bool.and_self, str_beq_self, Bool.not_true, Bool.not_false, e1]
      · simp (disch := (first | assumption | (simp only [Bool.and_eq_true, Bool.and_eq_false_iff, decide_eq_true_eq, decide_eq_false_iff_not, bne_iff_ne, beq_iff_eq, beq_eq_false_iff_ne, bne_eq_false_iff_eq, Bool.not_eq_true', Bool.not_eq_false', bys_length, List.length_append, List.length_cons, List.length_nil, List.length_map, List.length_drop, List.length_take, Int.natCast_add, wrap_i64_eq, wrap_u64, wrap_u8, ne_eq, not_true_eq_false, not_false_eq_true, Nat.zero_add, Nat.mul_one] <;> omega) | omega | (simp; done) | (simp; omega))) only [↓at_runK, ↓at_bind, ↓contQ_mk, ↓at_ret, ↓at_consK, ↓at_nilK, ↓at_optK, ↓at_intK, ↓at_boolK, ↓at_strK, ↓at_slK, ↓at_slOK, ↓at_slK0, ↓at_slOK0, ↓at_aggK, ↓at_cond_t, ↓at_cond_f, ↓at_sameL, ↓at_any1, ↓at_any, and_self, toBytes_bys, List.nil_append, List.append_nil, ↓at_nodeW, List.drop_zero, List.take_succ_cons, List.take_zero, List.getElem?_cons_succ, List.getElem?_cons_zero, cells_agg, eqCells_cons, eqCells_nil, eq1_int, eq1_bool, eq1_str, ↓at_ptr_whole, ↓at_ptr_cell, ↓at_ptr_obj, ↓at_ptr_objs, shift_obj, shift_elt, toA_val, toA_own, Int.toNat_natCast, List.cons_append, rp, rg, c, bb, b1, ro, plain43, Bool.and_self, str_beq_self, Bool.not_true, Bool.not_false, e1]
    · by_cases c : m < 4
      · obtain rfl := hb c
        simp (disch := (first | assumption | (simp only [Bool.and_eq_true, Bool.and_eq_false_iff, decide_eq_true_eq, decide_eq_false_iff_not, bne_iff_ne, beq_iff_eq, beq_eq_false_iff_ne, bne_eq_false_iff_eq, Bool.not_eq_true', Bool.not_eq_false', bys_length, List.length_append, List.length_cons, List.length_nil, List.length_map, List.length_drop, List.length_take, Int.natCast_add, wrap_i64_eq, wrap_u64, wrap_u8, ne_eq, not_true_eq_false, not_false_eq_true, Nat.zero_add, Nat.mul_one] <;> omega) | omega | (simp; done) | (simp; omega))) only [↓at_runK, ↓at_bind, ↓contQ_mk, ↓at_ret, ↓at_consK, ↓at_nilK, ↓at_optK, ↓at_intK, ↓at_boolK, ↓at_strK, ↓at_slK, ↓at_slOK, ↓at_slK0, ↓at_slOK0, ↓at_aggK, ↓at_cond_t, ↓at_cond_f, ↓at_sameL, ↓at_any1, ↓at_any, and_self, toBytes_bys, List.nil_append, List.append_nil, ↓at_nodeW, List.drop_zero, List.take_succ_cons, List.take_zero, List.getElem?_cons_succ, List.getElem?_cons_zero, cells_agg, eqCells_cons, eqCells_nil, eq1_int, eq1_bool, eq1_str, ↓at_ptr_whole, ↓at_ptr_cell, ↓at_ptr_obj, ↓at_ptr_objs, shift_obj, shift_elt, toA_val, toA_own, Int.toNat_natCast, List.cons_append, rp, rg, c, bb, b1, ro, plain43, Bool.and_self, str_beq_self, Bool.not_true, Bool.not_false, e1]
      · simp (disch := (first | assumption | (simp only [Bool.and_eq_true, Bool.and_eq_false_iff, decide_eq_true_eq, decide_eq_false_iff_not, bne_iff_ne, beq_iff_eq, beq_eq_false_iff_ne, bne_eq_false_iff_eq, Bool.not_eq_true', Bool.not_eq_false', bys_length, List.length_append, List.length_cons, List.length_nil, List.length_map, List.length_drop, List.length_take, Int.natCast_add, wrap_i64_eq, wrap_u64, wrap_u8, ne_eq, not_true_eq_false, not_false_eq_true, Nat.zero_add, Nat.mul_one] <;> omega) | omega | (simp; done) | (simp; omega))) only [↓at_runK, ↓at_bind, ↓contQ_mk, ↓at_ret, ↓at_consK, ↓at_nilK, ↓at_optK, ↓at_intK, ↓at_boolK, ↓at_strK, ↓at_slK, ↓at_slOK, ↓at_slK0, ↓at_slOK0, ↓at_aggK, ↓at_cond_t, ↓at_cond_f, ↓at_sameL, ↓at_any1, ↓at_any, and_self, toBytes_bys, List.nil_append, List.append_nil, ↓at_nodeW, List.drop_zero, List.take_succ_cons, List.take_zero, List.getElem?_cons_succ, List.getElem?_cons_zero, cells_agg, eqCells_cons, eqCells_nil, eq1_int, eq1_bool, eq1_str, ↓at_ptr_whole, ↓at_ptr_cell, ↓at_ptr_obj, ↓at_ptr_objs, shift_obj, shift_elt, toA_val, toA_own, Int.toNat_natCast, List.cons_append, rp, rg, c, bb, b1, ro, plain43, Bool.and_self, str_beq_self, Bool.not_true, Bool.not_false, e1]
theorem nxO_mem {w : Int} {k : List UInt8} {l : List KPair} {p : KPair} (h : nxO w k l = some p) : p ∈ l := by
  unfold nxO at h
  split at h
  · cases h
  · exact List.mem_of_find?_eq_some h
theorem bkO_mem {w : Int} {k : List UInt8} {l : List KPair} {p : KPair} (h : bkO w k l = some p) : p ∈ l := by
  unfold bkO at h
  split at h
  · cases h
  · split at h
    · exact (List.mem_filter.1 (List.mem_of_getLast? h)).1
    · exact List.mem_of_getLast? h
theorem lput_keys {B : Nat} {k v : List UInt8} {l : List KPair} (hk : k.length ≤ B) (h : ∀ p ∈ l, p.key.length ≤ B) : ∀ p ∈ lput k v l, p.key.length ≤ B := by
  intro p hp
  unfold lput at hp
  rcases List.mem_append.1 hp with hp | hp
  · exact h p (List.mem_filter.1 hp).1
  · rcases List.mem_cons.1 hp with rfl | hp
    · exact hk
    · exact h p (List.mem_filter.1 hp).1
theorem ldel_keys {B : Nat} {k : List UInt8} {l : List KPair} (h : ∀ p ∈ l, p.key.length ≤ B) : ∀ p ∈ ldel k l, p.key.length ≤ B := fun p hp => h p (List.mem_filter.1 hp).1
theorem cplays_loop (d ci ti : Nat) (hct : ti ≠ ci) (f : Bool) (l : List Act32) (hl : l.length ≤ 100) (hok : ∀ a ∈ l, a.ok) : ∀ (n j k : Nat) (t : Nd) (w : Int) (ck : List UInt8) (h : Heap), TOk' t → t.toL.length ≤ j → (∀ p ∈ t.toL, p.key.length ≤ 140737488351232) →
    curWf w ck → l.length = j + n → n < k → h.objs[ci]? = some (curO (.obj ti 0) w ck) → h.objs[ti]? = some (trT t) →
    ∃ h', ∀ (Q : Res → Prop) (tg : Hid Q), Run (P3_0 (d + 1030) k f (acts32 l) (.obj ti 0) (.obj ci 0) (prs t.toL) j [.int .i64 w, .str ck] h) Q tg = Q ([.bool true], h') := by
  intro n
  induction n with
  | zero =>
    intro j k t w ck h ok hlen hkeys hw hj hk hm ht
    obtain ⟨k, rfl⟩ : ∃ m, k = m + 1 := ⟨k - 1, by omega⟩
    obtain ⟨h', r⟩ := awake32_run (d + 9) h
    refine ⟨h', fun Q tg => ?_⟩
    rw [P3_0_eq]
    simp (disch := (first | assumption | (simp only [Bool.and_eq_true, Bool.and_eq_false_iff, decide_eq_true_eq, decide_eq_false_iff_not, bne_iff_ne, beq_iff_eq, beq_eq_false_iff_ne, bne_eq_false_iff_eq, Bool.not_eq_true', Bool.not_eq_false', bys_length, List.length_append, List.length_cons, List.length_nil, List.length_map, List.length_drop, List.length_take, Int.natCast_add, wrap_i64_eq, wrap_u64, wrap_u8, ne_eq, not_true_eq_false, not_false_eq_true, Nat.zero_add, Nat.mul_one] <;> omega) | omega | (simp; done) | (simp; omega))) only [↓at_runK, ↓at_bind, ↓contQ_mk, ↓at_ret, ↓at_consK, ↓at_nilK, ↓at_optK, ↓at_intK, ↓at_boolK, ↓at_strK, ↓at_slK, ↓at_slOK, ↓at_slK0, ↓at_slOK0, ↓at_aggK, ↓at_cond_t, ↓at_cond_f, ↓at_sameL, ↓at_any1, ↓at_any, and_self, toBytes_bys, List.nil_append, List.append_nil, ↓at_nodeW, List.drop_zero, List.take_succ_cons, List.take_zero, List.getElem?_cons_succ, List.getElem?_cons_zero, cells_agg, eqCells_cons, eqCells_nil, eq1_int, eq1_bool, eq1_str, ↓at_ptr_whole, ↓at_ptr_cell, ↓at_ptr_obj, ↓at_ptr_objs, shift_obj, shift_elt, toA_val, toA_own, Int.toNat_natCast, List.cons_append, acts32_length, r]
  | succ n ih =>
    intro j k t w ck h ok hlen hkeys hw hj hk hm ht
    obtain ⟨k, rfl⟩ : ∃ m, k = m + 1 := ⟨k - 1, by omega⟩
    have h1 : j < l.length := by omega
    have ha : l[j].ok := hok _ (List.getElem_mem h1)
    have hkey := ha.2
    have htl := ok.len
    have hm0 : 0 ≤ Int.tmod l[j].kind 6 := Int.tmod_nonneg 6 ha.1.1
    have e7 : ∀ (a b : AVal), ([a, b].length == 2) = true := fun _ _ => rfl
    have ez : [(33 : UInt8)].length = 1 := rfl
    have wf := fun {o : Option KPair} {e : Int} (he : e = 0 ∨ e = 2) (ho : ∀ p, o = some p → p ∈ t.toL) => curWf_to he (o := o) fun p hp => hkeys p (ho p hp)
    have hne : ∀ {h' : Heap} {o : Weave.Obj}, Heap.but h h' ci → h'.objs[ti]? = some (trT t) := fun E => E.get hct ht
    by_cases c0 : Int.tmod l[j].kind 6 = 0 ∨ Int.tmod l[j].kind 6 = 1
    · have rn := fun (Q : Res → Prop) (tg : Hid Q) => pnext_run (d := d + 1027) (Q := Q) (tg := tg) ok hm ht hw
      have hm' := Heap.put_get (o := curO (.obj ti 0) (curW (nxO w ck t.toL) 2) (oKey (nxO w ck t.toL))) hm
      have ht' : (h.put ci (curO (.obj ti 0) (curW (nxO w ck t.toL) 2) (oKey (nxO w ck t.toL)))).objs[ti]? = some (trT t) := by rw [Heap.put_ne (Ne.symm hct)]; exact ht
      have hw' : curWf (curW (nxO w ck t.toL) 2) (oKey (nxO w ck t.toL)) := wf (.inr rfl) fun p hp => nxO_mem hp
      have rr := fun (h : Heap) (Q : Res → Prop) (tg : Hid Q) => rnext_run (d := d + 1029) (f := false) (l := t.toL) (h := h) (Q := Q) (tg := tg) (by omega) hw
      obtain ⟨h', r⟩ := ih (j + 1) k t _ _ _ ok (by omega) hkeys hw' (by omega) (by omega) hm' ht'
      have rt := cplays_tail d ci ti f (acts32 l) t ok j k (by omega) (nxO w ck t.toL).isSome (Int.tmod l[j].kind 6) _ _ (fun _ => (curW_one (.inr rfl)).symm) _ hm' ht'
      refine ⟨h', fun Q tg => ?_⟩
      rw [P3_0_eq]
      rcases c0 with c | c
      · have c1 : (Int.tmod l[j].kind 6 == 0) = true := by simp [c]
        simp (disch := (first | assumption | (simp only [Bool.and_eq_true, Bool.and_eq_false_iff, decide_eq_true_eq, decide_eq_false_iff_not, bne_iff_ne, beq_iff_eq, beq_eq_false_iff_ne, bne_eq_false_iff_eq, Bool.not_eq_true', Bool.not_eq_false', bys_length, List.length_append, List.length_cons, List.length_nil, List.length_map, List.length_drop, List.length_take, Int.natCast_add, wrap_i64_eq, wrap_u64, wrap_u8, ne_eq, not_true_eq_false, not_false_eq_true, Nat.zero_add, Nat.mul_one] <;> omega) | omega | (simp; done) | (simp; omega))) only [↓at_runK, ↓at_bind, ↓contQ_mk, ↓at_ret, ↓at_consK, ↓at_nilK, ↓at_optK, ↓at_intK, ↓at_boolK, ↓at_strK, ↓at_slK, ↓at_slOK, ↓at_slK0, ↓at_slOK0, ↓at_aggK, ↓at_cond_t, ↓at_cond_f, ↓at_sameL, ↓at_any1, ↓at_any, and_self, toBytes_bys, List.nil_append, List.append_nil, ↓at_nodeW, List.drop_zero, List.take_succ_cons, List.take_zero, List.getElem?_cons_succ, List.getElem?_cons_zero, cells_agg, eqCells_cons, eqCells_nil, eq1_int, eq1_bool, eq1_str, ↓at_ptr_whole, ↓at_ptr_cell, ↓at_ptr_obj, ↓at_ptr_objs, shift_obj, shift_elt, toA_val, toA_own, Int.toNat_natCast, List.cons_append, acts32_length, acts32_getD h1, c1, rn, rr, e7, cond_true, rt, r]
      · have c1 : (Int.tmod l[j].kind 6 == 0) = false := by simp [c]
        have c2 : (Int.tmod l[j].kind 6 == 1) = true := by simp [c]
        simp (disch := (first | assumption | (simp only [Bool.and_eq_true, Bool.and_eq_false_iff, decide_eq_true_eq, decide_eq_false_iff_not, bne_iff_ne, beq_iff_eq, beq_eq_false_iff_ne, bne_eq_false_iff_eq, Bool.not_eq_true', Bool.not_eq_false', bys_length, List.length_append, List.length_cons, List.length_nil, List.length_map, List.length_drop, List.length_take, Int.natCast_add, wrap_i64_eq, wrap_u64, wrap_u8, ne_eq, not_true_eq_false, not_false_eq_true, Nat.zero_add, Nat.mul_one] <;> omega) | omega | (simp; done) | (simp; omega))) only [↓at_runK, ↓at_bind, ↓contQ_mk, ↓at_ret, ↓at_consK, ↓at_nilK, ↓at_optK, ↓at_intK, ↓at_boolK, ↓at_strK, ↓at_slK, ↓at_slOK, ↓at_slK0, ↓at_slOK0, ↓at_aggK, ↓at_cond_t, ↓at_cond_f, ↓at_sameL, ↓at_any1, ↓at_any, and_self, toBytes_bys, List.nil_append, List.append_nil, ↓at_nodeW, List.drop_zero, List.take_succ_cons, List.take_zero, List.getElem?_cons_succ, List.getElem?_cons_zero, cells_agg, eqCells_cons, eqCells_nil, eq1_int, eq1_bool, eq1_str, ↓at_ptr_whole, ↓at_ptr_cell, ↓at_ptr_obj, ↓at_ptr_objs, shift_obj, shift_elt, toA_val, toA_own, Int.toNat_natCast, List.cons_append, acts32_length, acts32_getD h1, c1, c2, rn, rr, e7, cond_true, rt, r]
    · have c1 : (Int.tmod l[j].kind 6 == 0) = false := by simp; omega
      have c2 : (Int.tmod l[j].kind 6 == 1) = false := by simp; omega
      by_cases c : Int.tmod l[j].kind 6 = 2
      · have c3 : (Int.tmod l[j].kind 6 == 2) = true := by simp [c]
        obtain ⟨h1', E, hm', rn⟩ := pprev_run (d := d + 1030) ok hm ht hw (by omega)
        have ht' := E.get hct ht
        have hw' : curWf (curW (bkO w ck t.toL) 0) (oKey (bkO w ck t.toL)) := wf (.inl rfl) fun p hp => bkO_mem hp
        have rr := fun (h : Heap) (Q : Res → Prop) (tg : Hid Q) => rprev_run (d := d + 1029) (f := false) (l := t.toL) (h := h) (Q := Q) (tg := tg) (by omega) hw
        obtain ⟨h', r⟩ := ih (j + 1) k t _ _ _ ok (by omega) hkeys hw' (by omega) (by omega) hm' ht'
        have rt := cplays_tail d ci ti f (acts32 l) t ok j k (by omega) (bkO w ck t.toL).isSome (Int.tmod l[j].kind 6) _ _ (fun _ => (curW_one (.inl rfl)).symm) _ hm' ht'
        refine ⟨h', fun Q tg => ?_⟩
        rw [P3_0_eq]
        simp (disch := (first | assumption | (simp only [Bool.and_eq_true, Bool.and_eq_false_iff, decide_eq_true_eq, decide_eq_false_iff_not, bne_iff_ne, beq_iff_eq, beq_eq_false_iff_ne, bne_eq_false_iff_eq, Bool.not_eq_true', Bool.not_eq_false', bys_length, List.length_append, List.length_cons, List.length_nil, List.length_map, List.length_drop, List.length_take, Int.natCast_add, wrap_i64_eq, wrap_u64, wrap_u8, ne_eq, not_true_eq_false, not_false_eq_true, Nat.zero_add, Nat.mul_one] <;> omega) | omega | (simp; done) | (simp; omega))) only [↓at_runK, ↓at_bind, ↓contQ_mk, ↓at_ret, ↓at_consK, ↓at_nilK, ↓at_optK, ↓at_intK, ↓at_boolK, ↓at_strK, ↓at_slK, ↓at_slOK, ↓at_slK0, ↓at_slOK0, ↓at_aggK, ↓at_cond_t, ↓at_cond_f, ↓at_sameL, ↓at_any1, ↓at_any, and_self, toBytes_bys, List.nil_append, List.append_nil, ↓at_nodeW, List.drop_zero, List.take_succ_cons, List.take_zero, List.getElem?_cons_succ, List.getElem?_cons_zero, cells_agg, eqCells_cons, eqCells_nil, eq1_int, eq1_bool, eq1_str, ↓at_ptr_whole, ↓at_ptr_cell, ↓at_ptr_obj, ↓at_ptr_objs, shift_obj, shift_elt, toA_val, toA_own, Int.toNat_natCast, List.cons_append, acts32_length, acts32_getD h1, c1, c2, c3, rn, rr, e7, cond_true, rt, r]
      · have c3 : (Int.tmod l[j].kind 6 == 2) = false := by simp [c]
        by_cases c : Int.tmod l[j].kind 6 = 3
        · have c4 : (Int.tmod l[j].kind 6 == 3) = true := by simp [c]
          have rn := fun (Q : Res → Prop) (tg : Hid Q) => cseek_run (d := d + 1027) (s := l[j].key) (Q := Q) (tg := tg) ok hm ht
          rw [curTo_eq] at rn
          have hm' := Heap.put_get (o := curO (.obj ti 0) (curW (lseek l[j].key t.toL) 2) (oKey (lseek l[j].key t.toL))) hm
          have ht' : (h.put ci (curO (.obj ti 0) (curW (lseek l[j].key t.toL) 2) (oKey (lseek l[j].key t.toL)))).objs[ti]? = some (trT t) := by rw [Heap.put_ne (Ne.symm hct)]; exact ht
          have hw' : curWf (curW (lseek l[j].key t.toL) 2) (oKey (lseek l[j].key t.toL)) := wf (.inr rfl) fun p hp => List.mem_of_find?_eq_some hp
          have rr := fun (h : Heap) (Q : Res → Prop) (tg : Hid Q) => rseek32_run (d := d + 1028) (f := false) (l := t.toL) (w := w) (k := ck) (s := l[j].key) (h := h) (Q := Q) (tg := tg) (by omega)
          obtain ⟨h', r⟩ := ih (j + 1) k t _ _ _ ok (by omega) hkeys hw' (by omega) (by omega) hm' ht'
          have rt := cplays_tail d ci ti f (acts32 l) t ok j k (by omega) (lseek l[j].key t.toL).isSome (Int.tmod l[j].kind 6) _ _ (fun _ => (curW_one (.inr rfl)).symm) _ hm' ht'
          refine ⟨h', fun Q tg => ?_⟩
          rw [P3_0_eq]
          simp (disch := (first | assumption | (simp only [Bool.and_eq_true, Bool.and_eq_false_iff, decide_eq_true_eq, decide_eq_false_iff_not, bne_iff_ne, beq_iff_eq, beq_eq_false_iff_ne, bne_eq_false_iff_eq, Bool.not_eq_true', Bool.not_eq_false', bys_length, List.length_append, List.length_cons, List.length_nil, List.length_map, List.length_drop, List.length_take, Int.natCast_add, wrap_i64_eq, wrap_u64, wrap_u8, ne_eq, not_true_eq_false, not_false_eq_true, Nat.zero_add, Nat.mul_one] <;> omega) | omega | (simp; done) | (simp; omega))) only [↓at_runK, ↓at_bind, ↓contQ_mk, ↓at_ret, ↓at_consK, ↓at_nilK, ↓at_optK, ↓at_intK, ↓at_boolK, ↓at_strK, ↓at_slK, ↓at_slOK, ↓at_slK0, ↓at_slOK0, ↓at_aggK, ↓at_cond_t, ↓at_cond_f, ↓at_sameL, ↓at_any1, ↓at_any, and_self, toBytes_bys, List.nil_append, List.append_nil, ↓at_nodeW, List.drop_zero, List.take_succ_cons, List.take_zero, List.getElem?_cons_succ, List.getElem?_cons_zero, cells_agg, eqCells_cons, eqCells_nil, eq1_int, eq1_bool, eq1_str, ↓at_ptr_whole, ↓at_ptr_cell, ↓at_ptr_obj, ↓at_ptr_objs, shift_obj, shift_elt, toA_val, toA_own, Int.toNat_natCast, List.cons_append, acts32_length, acts32_getD h1, c1, c2, c3, c4, rn, rr, e7, cond_true, rt, r]
        · have c4 : (Int.tmod l[j].kind 6 == 3) = false := by simp [c]
          have hb : ∀ w : Int, Int.tmod l[j].kind 6 < 4 → false = (w == 1) := fun w h => by omega
          by_cases c : Int.tmod l[j].kind 6 = 4
          · have c5 : (Int.tmod l[j].kind 6 == 4) = true := by simp [c]
            have rd := fun (Q : Res → Prop) (tg : Hid Q) => tput_run (d := d + 1030) (k := l[j].key) (v := l[j].key ++ [33]) (Q := Q) (tg := tg) ok (by omega) ht (by omega)
            obtain ⟨ok', hL⟩ := ok.put l[j].key (l[j].key ++ [33]) (by omega)
            have hlen' : (t.put l[j].key (l[j].key ++ [33])).toL.length ≤ j + 1 := by rw [hL]; have := lput_len_le (k := l[j].key) (v := l[j].key ++ [33]) ok.srt; omega
            have hkeys' : ∀ p ∈ (t.put l[j].key (l[j].key ++ [33])).toL, p.key.length ≤ 140737488351232 := by rw [hL]; exact lput_keys hkey hkeys
            have hm' : (h.put ti (trT (t.put l[j].key (l[j].key ++ [33])))).objs[ci]? = some (curO (.obj ti 0) w ck) := by rw [Heap.put_ne hct]; exact hm
            have ht' := Heap.put_get (o := trT (t.put l[j].key (l[j].key ++ [33]))) ht
            obtain ⟨h', r⟩ := ih (j + 1) k _ _ _ _ ok' hlen' hkeys' hw (by omega) (by omega) hm' ht'
            have rt := cplays_tail d ci ti f (acts32 l) _ ok' j k (by omega) false (Int.tmod l[j].kind 6) w ck (hb w) _ hm' ht'
            rw [hL] at r rt
            have hsr := ok.srt
            have rp := fun (h : Heap) (Q : Res → Prop) (tg : Hid Q) => rput31_run (d := d + 1028) (f := false) (l := t.toL) (s := l[j].key) (v := l[j].key ++ [33]) (h := h) (Q := Q) (tg := tg) hsr (by omega)
            refine ⟨h', fun Q tg => ?_⟩
            rw [P3_0_eq]
            simp (disch := (first | assumption | (simp only [Bool.and_eq_true, Bool.and_eq_false_iff, decide_eq_true_eq, decide_eq_false_iff_not, bne_iff_ne, beq_iff_eq, beq_eq_false_iff_ne, bne_eq_false_iff_eq, Bool.not_eq_true', Bool.not_eq_false', bys_length, List.length_append, List.length_cons, List.length_nil, List.length_map, List.length_drop, List.length_take, Int.natCast_add, wrap_i64_eq, wrap_u64, wrap_u8, ne_eq, not_true_eq_false, not_false_eq_true, Nat.zero_add, Nat.mul_one] <;> omega) | omega | (simp; done) | (simp; omega))) only [↓at_runK, ↓at_bind, ↓contQ_mk, ↓at_ret, ↓at_consK, ↓at_nilK, ↓at_optK, ↓at_intK, ↓at_boolK, ↓at_strK, ↓at_slK, ↓at_slOK, ↓at_slK0, ↓at_slOK0, ↓at_aggK, ↓at_cond_t, ↓at_cond_f, ↓at_sameL, ↓at_any1, ↓at_any, and_self, toBytes_bys, List.nil_append, List.append_nil, ↓at_nodeW, List.drop_zero, List.take_succ_cons, List.take_zero, List.getElem?_cons_succ, List.getElem?_cons_zero, cells_agg, eqCells_cons, eqCells_nil, eq1_int, eq1_bool, eq1_str, ↓at_ptr_whole, ↓at_ptr_cell, ↓at_ptr_obj, ↓at_ptr_objs, shift_obj, shift_elt, toA_val, toA_own, Int.toNat_natCast, List.cons_append, acts32_length, acts32_getD h1, c1, c2, c3, c4, c5, ez, rd, rp, rt, r]
          · have c5 : (Int.tmod l[j].kind 6 == 4) = false := by simp [c]
            have rd := fun (Q : Res → Prop) (tg : Hid Q) => tdel_run (d := d + 1030) (k := l[j].key) (Q := Q) (tg := tg) ok ht (by omega)
            obtain ⟨t', ok', hL, hT⟩ : ∃ t', TOk' t' ∧ t'.toL = ldel l[j].key t.toL ∧ (if (lget l[j].key t.toL).isSome then t.without l[j].key else t) = t' := by
              cases hg : (lget l[j].key t.toL).isSome
              · exact ⟨t, ok, (ldel_none (lget_none hg)).symm, by simp⟩
              · obtain ⟨a, b⟩ := ok.del hg
                exact ⟨_, a, b, by simp⟩
            rw [hT] at rd
            have hlen' : t'.toL.length ≤ j + 1 := by rw [hL]; have := ldel_len_le l[j].key t.toL; omega
            have hkeys' : ∀ p ∈ t'.toL, p.key.length ≤ 140737488351232 := by rw [hL]; exact ldel_keys hkeys
            have hm' : (h.put ti (trT t')).objs[ci]? = some (curO (.obj ti 0) w ck) := by rw [Heap.put_ne hct]; exact hm
            have ht' := Heap.put_get (o := trT t') ht
            obtain ⟨h', r⟩ := ih (j + 1) k _ _ _ _ ok' hlen' hkeys' hw (by omega) (by omega) hm' ht'
            have rt := cplays_tail d ci ti f (acts32 l) _ ok' j k (by omega) false (Int.tmod l[j].kind 6) w ck (hb w) _ hm' ht'
            rw [hL] at r rt
            have rp := fun (h : Heap) (Q : Res → Prop) (tg : Hid Q) => rdel31_run (d := d + 1029) (f := false) (l := t.toL) (s := l[j].key) (h := h) (Q := Q) (tg := tg) (by omega)
            refine ⟨h', fun Q tg => ?_⟩
            rw [P3_0_eq]
            simp (disch := (first | assumption | (simp only [Bool.and_eq_true, Bool.and_eq_false_iff, decide_eq_true_eq, decide_eq_false_iff_not, bne_iff_ne, beq_iff_eq, beq_eq_false_iff_ne, bne_eq_false_iff_eq, Bool.not_eq_true', Bool.not_eq_false', bys_length, List.length_append, List.length_cons, List.length_nil, List.length_map, List.length_drop, List.length_take, Int.natCast_add, wrap_i64_eq, wrap_u64, wrap_u8, ne_eq, not_true_eq_false, not_false_eq_true, Nat.zero_add, Nat.mul_one] <;> omega) | omega | (simp; done) | (simp; omega))) only [↓at_runK, ↓at_bind, ↓contQ_mk, ↓at_ret, ↓at_consK, ↓at_nilK, ↓at_optK, ↓at_intK, ↓at_boolK, ↓at_strK, ↓at_slK, ↓at_slOK, ↓at_slK0, ↓at_slOK0, ↓at_aggK, ↓at_cond_t, ↓at_cond_f, ↓at_sameL, ↓at_any1, ↓at_any, and_self, toBytes_bys, List.nil_append, List.append_nil, ↓at_nodeW, List.drop_zero, List.take_succ_cons, List.take_zero, List.getElem?_cons_succ, List.getElem?_cons_zero, cells_agg, eqCells_cons, eqCells_nil, eq1_int, eq1_bool, eq1_str, ↓at_ptr_whole, ↓at_ptr_cell, ↓at_ptr_obj, ↓at_ptr_objs, shift_obj, shift_elt, toA_val, toA_own, Int.toNat_natCast, List.cons_append, acts32_length, acts32_getD h1, c1, c2, c3, c4, c5, rd, rp, rt, r]
/-- CursorPlays. -/
theorem cplays_true (l : List Act32) (h : Heap) (hok : ∀ a ∈ l, a.ok) : ∃ d h', Ans (evFn Cw d 3 [.sl false 3 (acts32 l)] h) ([.bool true], h') := by
  by_cases hl : l.length ≤ 100
  · have E1 := Heap.ext.push (h.push (trT .nil)) (curO (.obj h.objs.length 0) 0 [])
    have mt := E1.get (Heap.push_new h (trT .nil))
    have mc := Heap.push_new (h.push (trT .nil)) (curO (.obj h.objs.length 0) 0 [])
    have lA : (h.push (trT .nil)).objs.length = h.objs.length + 1 := Heap.push_len _ _
    rw [lA] at mc
    obtain ⟨h', r⟩ := cplays_loop 0 (h.objs.length + 1) h.objs.length (by omega) false l hl hok l.length 0 rounds .nil 0 [] _ ⟨trivial, List.Pairwise.nil, by simp [Nd.toL]⟩ (Nat.le_refl _) (by simp [Nd.toL]) (.inl ⟨rfl, rfl⟩) (by omega) (rounds_gt' (by omega)) mc mt
    have hn : prs Nd.nil.toL = [] := of_eq_true (eq_self _)
    rw [e0, hn] at r
    refine ⟨0 + 1030 + 1, h', Run.ans ?_⟩
    rw [F3_eq]
    simp (disch := (first | assumption | (simp only [Bool.and_eq_true, Bool.and_eq_false_iff, decide_eq_true_eq, decide_eq_false_iff_not, bne_iff_ne, beq_iff_eq, beq_eq_false_iff_ne, bne_eq_false_iff_eq, Bool.not_eq_true', Bool.not_eq_false', bys_length, List.length_append, List.length_cons, List.length_nil, List.length_map, List.length_drop, List.length_take, Int.natCast_add, wrap_i64_eq, wrap_u64, wrap_u8, ne_eq, not_true_eq_false, not_false_eq_true, Nat.zero_add, Nat.mul_one] <;> omega) | omega | (simp; done) | (simp; omega))) only [↓at_runK, ↓at_bind, ↓contQ_mk, ↓at_ret, ↓at_consK, ↓at_nilK, ↓at_optK, ↓at_intK, ↓at_boolK, ↓at_strK, ↓at_slK, ↓at_slOK, ↓at_slK0, ↓at_slOK0, ↓at_aggK, ↓at_cond_t, ↓at_cond_f, ↓at_sameL, ↓at_any1, ↓at_any, and_self, toBytes_bys, List.nil_append, List.append_nil, ↓at_nodeW, List.drop_zero, List.take_succ_cons, List.take_zero, List.getElem?_cons_succ, List.getElem?_cons_zero, cells_agg, eqCells_cons, eqCells_nil, eq1_int, eq1_bool, eq1_str, ↓at_ptr_whole, ↓at_ptr_cell, ↓at_ptr_obj, ↓at_ptr_objs, shift_obj, shift_elt, toA_val, toA_own, Int.toNat_natCast, List.cons_append, acts32_length, tnew_run, cnew_run, lA, r]
  · obtain ⟨h', r⟩ := awake32_run 9 h
    refine ⟨9 + 1021 + 1, h', Run.ans ?_⟩
    rw [F3_eq]
    simp (disch := (first | assumption | (simp only [Bool.and_eq_true, Bool.and_eq_false_iff, decide_eq_true_eq, decide_eq_false_iff_not, bne_iff_ne, beq_iff_eq, beq_eq_false_iff_ne, bne_eq_false_iff_eq, Bool.not_eq_true', Bool.not_eq_false', bys_length, List.length_append, List.length_cons, List.length_nil, List.length_map, List.length_drop, List.length_take, Int.natCast_add, wrap_i64_eq, wrap_u64, wrap_u8, ne_eq, not_true_eq_false, not_false_eq_true, Nat.zero_add, Nat.mul_one] <;> omega) | omega | (simp; done) | (simp; omega))) only [↓at_runK, ↓at_bind, ↓contQ_mk, ↓at_ret, ↓at_consK, ↓at_nilK, ↓at_optK, ↓at_intK, ↓at_boolK, ↓at_strK, ↓at_slK, ↓at_slOK, ↓at_slK0, ↓at_slOK0, ↓at_aggK, ↓at_cond_t, ↓at_cond_f, ↓at_sameL, ↓at_any1, ↓at_any, and_self, toBytes_bys, List.nil_append, List.append_nil, ↓at_nodeW, List.drop_zero, List.take_succ_cons, List.take_zero, List.getElem?_cons_succ, List.getElem?_cons_zero, cells_agg, eqCells_cons, eqCells_nil, eq1_int, eq1_bool, eq1_str, ↓at_ptr_whole, ↓at_ptr_cell, ↓at_ptr_obj, ↓at_ptr_objs, shift_obj, shift_elt, toA_val, toA_own, Int.toNat_natCast, List.cons_append, acts32_length, r]
end Go.Proofs.Ytdlcjibefbnckaa.Wa
