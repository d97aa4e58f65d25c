/- Records that follow one another, and chains; ListFollows. -/
import Derived.Test.YtfdkkhmaikgmcaaVl
namespace Go.Proofs.Ytfdkkhmaikgmcaa.Wa
open Go Go.Weave
set_option maxRecDepth 100000
set_option linter.unusedSimpArgs false
set_option linter.unusedVariables false
set_option linter.unusedSectionVars false

def folL : List Rec → Int → List Int → Bool
  | [], _, _ => true
  | r :: rs, f, hs => if rright r.kind r.chain r.lsn r.prev = false then false else if r.lsn ≠ f then false else if r.prev ≠ hs.getD r.chain.toNat 0 then false else folL rs (f + 1) (hs.set r.chain.toNat r.lsn)

theorem rright_spec {k c l p : Int} (h : rright k c l p = true) : 0 ≤ c ∧ c < 4 ∧ 1 ≤ l ∧ l ≤ 2147483647 := by
  simp only [rright, decide_eq_true_eq] at h
  omega

theorem fol_loop (d : Nat) (f : Bool) (h : Heap) (l : List Rec) (hl : l.length ≤ 1000000) (x0 : Int) (hx0 : -9223372036854775808 ≤ x0 ∧ x0 ≤ 9223372036854775807) (Q : Res → Prop) : ∀ (n i k : Nat) (hs : List Int) (tg : Hid Q), hs.length = 4 → l.length = i + n → n < k →
    Run (P68_0 (d + 1) k x0 f (recs l) l.length i (ints hs) h) Q tg = Q ([.bool (folL (l.drop i) (x0 + i) hs)], h) := by
  intro n
  induction n with
  | zero =>
    intro i k hs tg h4 hi hk
    obtain ⟨k, rfl⟩ : ∃ m, k = m + 1 := ⟨k - 1, by omega⟩
    have hd : l.drop i = [] := List.drop_eq_nil_of_le (by omega)
    rw [P68_0_eq, hd]
    simp (disch := (first | assumption | (simp only [Bool.and_eq_true, Bool.and_eq_false_iff, decide_eq_true_eq, decide_eq_false_iff_not, bne_iff_ne, beq_iff_eq, beq_eq_false_iff_ne, bne_eq_false_iff_eq, Bool.not_eq_true', Bool.not_eq_false', bys_length, List.length_append, List.length_cons, List.length_nil, List.length_map, List.length_drop, List.length_take, Int.natCast_add, wrap_i64_eq, wrap_u64, wrap_u8, ne_eq, not_true_eq_false, not_false_eq_true, Nat.zero_add, Nat.mul_one] <;> omega) | omega | (simp; done) | (simp; omega))) only [↓at_runK, ↓at_bind, ↓contQ_mk, ↓at_ret, ↓at_consK, ↓at_nilK, ↓at_optK, ↓at_intK, ↓at_boolK, ↓at_strK, ↓at_slK, ↓at_slOK, ↓at_slK0, ↓at_slOK0, ↓at_aggK, ↓at_cond_t, ↓at_cond_f, ↓at_sameL, ↓at_any1, ↓at_any, and_self, toBytes_bys, List.nil_append, List.append_nil, List.drop_zero, List.take_succ_cons, List.take_zero, List.getElem?_cons_succ, List.getElem?_cons_zero, cells_agg, eqCells_cons, eqCells_nil, eq1_int, eq1_bool, eq1_str, ↓at_ptr_whole, ↓at_ptr_cell, ↓at_ptr_obj, ↓at_ptr_objs, shift_obj, shift_elt, toA_val, toA_own, Int.toNat_natCast, List.cons_append, recs_length, folL]
  | succ n ih =>
    intro i k hs tg h4 hi hk
    obtain ⟨k, rfl⟩ : ∃ m, k = m + 1 := ⟨k - 1, by omega⟩
    have hi' : i < l.length := by omega
    have e1 := succ_wrap (i := i) (by omega)
    rw [P68_0_eq, List.drop_eq_getElem_cons hi']
    unfold folL
    cases hr : rright l[i].kind l[i].chain l[i].lsn l[i].prev
    · rw [if_pos rfl]
      simp (disch := (first | assumption | (simp only [Bool.and_eq_true, Bool.and_eq_false_iff, decide_eq_true_eq, decide_eq_false_iff_not, bne_iff_ne, beq_iff_eq, beq_eq_false_iff_ne, bne_eq_false_iff_eq, Bool.not_eq_true', Bool.not_eq_false', bys_length, List.length_append, List.length_cons, List.length_nil, List.length_map, List.length_drop, List.length_take, Int.natCast_add, wrap_i64_eq, wrap_u64, wrap_u8, ne_eq, not_true_eq_false, not_false_eq_true, Nat.zero_add, Nat.mul_one] <;> omega) | omega | (simp; done) | (simp; omega))) only [↓at_runK, ↓at_bind, ↓contQ_mk, ↓at_ret, ↓at_consK, ↓at_nilK, ↓at_optK, ↓at_intK, ↓at_boolK, ↓at_strK, ↓at_slK, ↓at_slOK, ↓at_slK0, ↓at_slOK0, ↓at_aggK, ↓at_cond_t, ↓at_cond_f, ↓at_sameL, ↓at_any1, ↓at_any, and_self, toBytes_bys, List.nil_append, List.append_nil, List.drop_zero, List.take_succ_cons, List.take_zero, List.getElem?_cons_succ, List.getElem?_cons_zero, cells_agg, eqCells_cons, eqCells_nil, eq1_int, eq1_bool, eq1_str, ↓at_ptr_whole, ↓at_ptr_cell, ↓at_ptr_obj, ↓at_ptr_objs, shift_obj, shift_elt, toA_val, toA_own, Int.toNat_natCast, List.cons_append, recs_length, recs_getD hi', rright_run, hr]
    · rw [if_neg (by simp)]
      have ⟨c0, c1, l0, l1⟩ := rright_spec hr
      have w : IntKind.i64.wrap (l[i].lsn - (i : Int)) = l[i].lsn - i := wrap_i64_id (by omega) (by omega)
      by_cases he : l[i].lsn = x0 + i
      · rw [if_neg (by simp [he])]
        have hc : l[i].chain.toNat < hs.length := by omega
        have g : hs.getD l[i].chain.toNat 0 = hs[l[i].chain.toNat] := by simp [hc]
        rw [g]
        by_cases hp : l[i].prev = hs[l[i].chain.toNat]
        · rw [if_neg (by simp [hp])]
          have ih' := fun tg => ih (i + 1) k (hs.set l[i].chain.toNat l[i].lsn) tg (by simpa using h4) (by omega) (by omega)
          have e2 : x0 + (i : Int) + 1 = x0 + ((i + 1 : Nat) : Int) := by omega
          rw [e2]
          simp (disch := (first | assumption | (simp only [Bool.and_eq_true, Bool.and_eq_false_iff, decide_eq_true_eq, decide_eq_false_iff_not, bne_iff_ne, beq_iff_eq, beq_eq_false_iff_ne, bne_eq_false_iff_eq, Bool.not_eq_true', Bool.not_eq_false', bys_length, List.length_append, List.length_cons, List.length_nil, List.length_map, List.length_drop, List.length_take, Int.natCast_add, wrap_i64_eq, wrap_u64, wrap_u8, ne_eq, not_true_eq_false, not_false_eq_true, Nat.zero_add, Nat.mul_one] <;> omega) | omega | (simp; done) | (simp; omega))) only [↓at_runK, ↓at_bind, ↓contQ_mk, ↓at_ret, ↓at_consK, ↓at_nilK, ↓at_optK, ↓at_intK, ↓at_boolK, ↓at_strK, ↓at_slK, ↓at_slOK, ↓at_slK0, ↓at_slOK0, ↓at_aggK, ↓at_cond_t, ↓at_cond_f, ↓at_sameL, ↓at_any1, ↓at_any, and_self, toBytes_bys, List.nil_append, List.append_nil, List.drop_zero, List.take_succ_cons, List.take_zero, List.getElem?_cons_succ, List.getElem?_cons_zero, cells_agg, eqCells_cons, eqCells_nil, eq1_int, eq1_bool, eq1_str, ↓at_ptr_whole, ↓at_ptr_cell, ↓at_ptr_obj, ↓at_ptr_objs, shift_obj, shift_elt, toA_val, toA_own, Int.toNat_natCast, List.cons_append, recs_length, recs_getD hi', rright_run, hr, w, Nat.zero_add, Nat.mul_one, ints_get hc, ints_set, ints_length, h4, e1, ih']
        · rw [if_pos hp]
          simp (disch := (first | assumption | (simp only [Bool.and_eq_true, Bool.and_eq_false_iff, decide_eq_true_eq, decide_eq_false_iff_not, bne_iff_ne, beq_iff_eq, beq_eq_false_iff_ne, bne_eq_false_iff_eq, Bool.not_eq_true', Bool.not_eq_false', bys_length, List.length_append, List.length_cons, List.length_nil, List.length_map, List.length_drop, List.length_take, Int.natCast_add, wrap_i64_eq, wrap_u64, wrap_u8, ne_eq, not_true_eq_false, not_false_eq_true, Nat.zero_add, Nat.mul_one] <;> omega) | omega | (simp; done) | (simp; omega))) only [↓at_runK, ↓at_bind, ↓contQ_mk, ↓at_ret, ↓at_consK, ↓at_nilK, ↓at_optK, ↓at_intK, ↓at_boolK, ↓at_strK, ↓at_slK, ↓at_slOK, ↓at_slK0, ↓at_slOK0, ↓at_aggK, ↓at_cond_t, ↓at_cond_f, ↓at_sameL, ↓at_any1, ↓at_any, and_self, toBytes_bys, List.nil_append, List.append_nil, List.drop_zero, List.take_succ_cons, List.take_zero, List.getElem?_cons_succ, List.getElem?_cons_zero, cells_agg, eqCells_cons, eqCells_nil, eq1_int, eq1_bool, eq1_str, ↓at_ptr_whole, ↓at_ptr_cell, ↓at_ptr_obj, ↓at_ptr_objs, shift_obj, shift_elt, toA_val, toA_own, Int.toNat_natCast, List.cons_append, recs_length, recs_getD hi', rright_run, hr, w, Nat.zero_add, Nat.mul_one, ints_get hc]
      · rw [if_pos he]
        simp (disch := (first | assumption | (simp only [Bool.and_eq_true, Bool.and_eq_false_iff, decide_eq_true_eq, decide_eq_false_iff_not, bne_iff_ne, beq_iff_eq, beq_eq_false_iff_ne, bne_eq_false_iff_eq, Bool.not_eq_true', Bool.not_eq_false', bys_length, List.length_append, List.length_cons, List.length_nil, List.length_map, List.length_drop, List.length_take, Int.natCast_add, wrap_i64_eq, wrap_u64, wrap_u8, ne_eq, not_true_eq_false, not_false_eq_true, Nat.zero_add, Nat.mul_one] <;> omega) | omega | (simp; done) | (simp; omega))) only [↓at_runK, ↓at_bind, ↓contQ_mk, ↓at_ret, ↓at_consK, ↓at_nilK, ↓at_optK, ↓at_intK, ↓at_boolK, ↓at_strK, ↓at_slK, ↓at_slOK, ↓at_slK0, ↓at_slOK0, ↓at_aggK, ↓at_cond_t, ↓at_cond_f, ↓at_sameL, ↓at_any1, ↓at_any, and_self, toBytes_bys, List.nil_append, List.append_nil, List.drop_zero, List.take_succ_cons, List.take_zero, List.getElem?_cons_succ, List.getElem?_cons_zero, cells_agg, eqCells_cons, eqCells_nil, eq1_int, eq1_bool, eq1_str, ↓at_ptr_whole, ↓at_ptr_cell, ↓at_ptr_obj, ↓at_ptr_objs, shift_obj, shift_elt, toA_val, toA_own, Int.toNat_natCast, List.cons_append, recs_length, recs_getD hi', rright_run, hr, w]
theorem fol_run {d : Nat} {f : Bool} {l : List Rec} {x a b c e : Int} {h : Heap} {Q : Res → Prop} {tg : Hid Q} (hl : l.length ≤ 1000000) (hx : -9223372036854775808 ≤ x ∧ x ≤ 9223372036854775807) :
    Run (evFn Cw (d + 2) 68 [.sl f 6 (recs l), .int .i64 x, .agg [.int .i64 a, .int .i64 b, .int .i64 c, .int .i64 e]] h) Q tg = Q ([.bool (folL l x [a, b, c, e])], h) := by
  rw [F68_eq, recs_length]
  have := fol_loop d f h l hl x hx Q l.length 0 rounds [a, b, c, e] ⟨⟩ rfl (by omega) (rounds_gt _ (by omega))
  rw [e0, Int.add_zero] at this
  exact this

/-! ### Chains -/
def findP : List Rec → Int → Option Int
  | [], _ => none
  | r :: rs, x => if r.lsn = x then some r.prev else findP rs x
theorem findP_cons (r : Rec) (rs : List Rec) (x : Int) : findP (r :: rs) x = if r.lsn = x then some r.prev else findP rs x := rfl
def chainN (l : List Rec) : Nat → Int → List Int
  | 0, _ => []
  | n + 1, x => match findP l x with
    | none => []
    | some p => if p ≥ x then [x] else x :: chainN l n p
def cntR (l : List Rec) (x : Int) : Nat := (l.filter fun r => decide (r.lsn ≤ x)).length
theorem cntR_le (l : List Rec) (x : Int) : cntR l x ≤ l.length := List.length_filter_le _ _
theorem cntR_mono : ∀ (l : List Rec) (p x : Int), p ≤ x → cntR l p ≤ cntR l x
  | [], _, _, _ => Nat.le_refl _
  | r :: rs, p, x, h => by
    have ih := cntR_mono rs p x h
    unfold cntR at ih ⊢
    simp only [List.filter_cons]
    by_cases h1 : r.lsn ≤ p
    · have h2 : r.lsn ≤ x := by omega
      simp [h1, h2, ih]
    · by_cases h2 : r.lsn ≤ x
      · simp [h1, h2]; omega
      · simp [h1, h2, ih]
theorem cntR_lt : ∀ (l : List Rec) (p x q : Int), findP l x = some q → p < x → cntR l p < cntR l x
  | [], _, _, _, h, _ => by simp [findP] at h
  | r :: rs, p, x, q, h, hp => by
    unfold findP at h
    have hm := cntR_mono rs p x (by omega)
    unfold cntR at hm ⊢
    simp only [List.filter_cons]
    by_cases h1 : r.lsn = x
    · have h2 : ¬ r.lsn ≤ p := by omega
      have h3 : r.lsn ≤ x := by omega
      simp [h2, h3]; omega
    · rw [if_neg h1] at h
      have ih := cntR_lt rs p x q h hp
      unfold cntR at ih
      by_cases h2 : r.lsn ≤ p
      · have h3 : r.lsn ≤ x := by omega
        simp [h2, h3, ih]
      · by_cases h3 : r.lsn ≤ x
        · simp [h2, h3]; omega
        · simp [h2, h3, ih]
theorem chainN_len (l : List Rec) : ∀ (n : Nat) (x : Int), (chainN l n x).length ≤ n
  | 0, _ => by simp [chainN]
  | n + 1, x => by
    unfold chainN
    split
    · simp
    · split
      · simp
      · rename_i p _ _
        have := chainN_len l n p
        simp; omega

theorem chain_loop (d m : Nat) (h : Heap) (l : List Rec) (t : List (Int × AVal × Nat)) (c : Nat) (hm : h.objs[m]? = some (.map 3 (encM (AVal.int .i64) t) c)) (ht : ∀ x, tget x t = (findP l x).map (AVal.int .i64)) (Q : Res → Prop) :
    ∀ (n : Nat) (x : Int) (acc : List Int) (k : Nat) (tg : Hid Q), cntR l x < n → n < k → acc.length + n ≤ 2000000 →
    Run (P70_1 d k x m (ints acc) h) Q tg = Q ([.sl false 0 (ints (acc ++ chainN l n x))], h) := by
  intro n
  induction n with
  | zero => intro x acc k tg hc; omega
  | succ n ih =>
    intro x acc k tg hc hk hb
    obtain ⟨k, rfl⟩ : ∃ m, k = m + 1 := ⟨k - 1, by omega⟩
    have hlook := ht x
    rw [P70_1_eq]
    unfold chainN
    cases hf : findP l x with
    | none =>
      rw [hf] at hlook
      simp (disch := (first | assumption | (simp only [Bool.and_eq_true, Bool.and_eq_false_iff, decide_eq_true_eq, decide_eq_false_iff_not, bne_iff_ne, beq_iff_eq, beq_eq_false_iff_ne, bne_eq_false_iff_eq, Bool.not_eq_true', Bool.not_eq_false', bys_length, List.length_append, List.length_cons, List.length_nil, List.length_map, List.length_drop, List.length_take, Int.natCast_add, wrap_i64_eq, wrap_u64, wrap_u8, ne_eq, not_true_eq_false, not_false_eq_true, Nat.zero_add, Nat.mul_one] <;> omega) | omega | (simp; done) | (simp; omega))) only [↓at_runK, ↓at_bind, ↓contQ_mk, ↓at_ret, ↓at_consK, ↓at_nilK, ↓at_optK, ↓at_intK, ↓at_boolK, ↓at_strK, ↓at_slK, ↓at_slOK, ↓at_slK0, ↓at_slOK0, ↓at_aggK, ↓at_cond_t, ↓at_cond_f, ↓at_sameL, ↓at_any1, ↓at_any, and_self, toBytes_bys, List.nil_append, List.append_nil, List.drop_zero, List.take_succ_cons, List.take_zero, List.getElem?_cons_succ, List.getElem?_cons_zero, cells_agg, eqCells_cons, eqCells_nil, eq1_int, eq1_bool, eq1_str, ↓at_ptr_whole, ↓at_ptr_cell, ↓at_ptr_obj, ↓at_ptr_objs, shift_obj, shift_elt, toA_val, toA_own, Int.toNat_natCast, List.cons_append, at_lookK encInt hm, hlook, Option.map_none, Option.getD_none, Option.isSome_none]
    | some p =>
      rw [hf] at hlook
      by_cases hp : p ≥ x
      · simp only [if_pos hp]
        simp (disch := (first | assumption | (simp only [Bool.and_eq_true, Bool.and_eq_false_iff, decide_eq_true_eq, decide_eq_false_iff_not, bne_iff_ne, beq_iff_eq, beq_eq_false_iff_ne, bne_eq_false_iff_eq, Bool.not_eq_true', Bool.not_eq_false', bys_length, List.length_append, List.length_cons, List.length_nil, List.length_map, List.length_drop, List.length_take, Int.natCast_add, wrap_i64_eq, wrap_u64, wrap_u8, ne_eq, not_true_eq_false, not_false_eq_true, Nat.zero_add, Nat.mul_one] <;> omega) | omega | (simp; done) | (simp; omega))) only [↓at_runK, ↓at_bind, ↓contQ_mk, ↓at_ret, ↓at_consK, ↓at_nilK, ↓at_optK, ↓at_intK, ↓at_boolK, ↓at_strK, ↓at_slK, ↓at_slOK, ↓at_slK0, ↓at_slOK0, ↓at_aggK, ↓at_cond_t, ↓at_cond_f, ↓at_sameL, ↓at_any1, ↓at_any, and_self, toBytes_bys, List.nil_append, List.append_nil, List.drop_zero, List.take_succ_cons, List.take_zero, List.getElem?_cons_succ, List.getElem?_cons_zero, cells_agg, eqCells_cons, eqCells_nil, eq1_int, eq1_bool, eq1_str, ↓at_ptr_whole, ↓at_ptr_cell, ↓at_ptr_obj, ↓at_ptr_objs, shift_obj, shift_elt, toA_val, toA_own, Int.toNat_natCast, List.cons_append, at_lookK encInt hm, hlook, Option.map_some, Option.getD_some, Option.isSome_some, ints_length, ints_snoc]
      · simp only [if_neg hp]
        have hlt := cntR_lt l p x p hf (by omega)
        have ih' := fun tg => ih p (acc ++ [x]) k tg (by omega) (by omega) (by simp; omega)
        rw [List.append_assoc] at ih'
        simp (disch := (first | assumption | (simp only [Bool.and_eq_true, Bool.and_eq_false_iff, decide_eq_true_eq, decide_eq_false_iff_not, bne_iff_ne, beq_iff_eq, beq_eq_false_iff_ne, bne_eq_false_iff_eq, Bool.not_eq_true', Bool.not_eq_false', bys_length, List.length_append, List.length_cons, List.length_nil, List.length_map, List.length_drop, List.length_take, Int.natCast_add, wrap_i64_eq, wrap_u64, wrap_u8, ne_eq, not_true_eq_false, not_false_eq_true, Nat.zero_add, Nat.mul_one] <;> omega) | omega | (simp; done) | (simp; omega))) only [↓at_runK, ↓at_bind, ↓contQ_mk, ↓at_ret, ↓at_consK, ↓at_nilK, ↓at_optK, ↓at_intK, ↓at_boolK, ↓at_strK, ↓at_slK, ↓at_slOK, ↓at_slK0, ↓at_slOK0, ↓at_aggK, ↓at_cond_t, ↓at_cond_f, ↓at_sameL, ↓at_any1, ↓at_any, and_self, toBytes_bys, List.nil_append, List.append_nil, List.drop_zero, List.take_succ_cons, List.take_zero, List.getElem?_cons_succ, List.getElem?_cons_zero, cells_agg, eqCells_cons, eqCells_nil, eq1_int, eq1_bool, eq1_str, ↓at_ptr_whole, ↓at_ptr_cell, ↓at_ptr_obj, ↓at_ptr_objs, shift_obj, shift_elt, toA_val, toA_own, Int.toNat_natCast, List.cons_append, at_lookK encInt hm, hlook, Option.map_some, Option.getD_some, Option.isSome_some, ints_length, ints_snoc, ih']

theorem chain_build (d m : Nat) (f : Bool) (l : List Rec) (hl : l.length ≤ 1000000) (x : Int) : ∀ (n i k : Nat) (h : Heap) (t : List (Int × AVal × Nat)) (c : Nat), h.objs[m]? = some (.map 3 (encM (AVal.int .i64) t) c) →
    (∀ x, tget x t = (findP (l.drop n) x).map (AVal.int .i64)) → l.length = i + n → n < k →
    ∃ h' t' c', h'.objs[m]? = some (.map 3 (encM (AVal.int .i64) t') c') ∧ (∀ x, tget x t' = (findP l x).map (AVal.int .i64)) ∧ (∀ j, j ≠ m → h'.objs[j]? = h.objs[j]?) ∧ h'.objs.length = h.objs.length ∧
      ∀ (Q : Res → Prop) (tg : Hid Q), Run (P70_0 d k f (recs l) x m l.length i h) Q tg = Run (P70_1 d rounds x m [] h') Q ⟨⟩ := by
  intro n
  induction n with
  | zero =>
    intro i k h t c hm ht hi hk
    obtain ⟨k, rfl⟩ : ∃ m, k = m + 1 := ⟨k - 1, by omega⟩
    refine ⟨h, t, c, hm, ht, fun j _ => rfl, rfl, fun Q tg => ?_⟩
    rw [P70_0_eq]
    simp (disch := (first | assumption | (simp only [Bool.and_eq_true, Bool.and_eq_false_iff, decide_eq_true_eq, decide_eq_false_iff_not, bne_iff_ne, beq_iff_eq, beq_eq_false_iff_ne, bne_eq_false_iff_eq, Bool.not_eq_true', Bool.not_eq_false', bys_length, List.length_append, List.length_cons, List.length_nil, List.length_map, List.length_drop, List.length_take, Int.natCast_add, wrap_i64_eq, wrap_u64, wrap_u8, ne_eq, not_true_eq_false, not_false_eq_true, Nat.zero_add, Nat.mul_one] <;> omega) | omega | (simp; done) | (simp; omega))) only [↓at_runK, ↓at_bind, ↓contQ_mk, ↓at_ret, ↓at_consK, ↓at_nilK, ↓at_optK, ↓at_intK, ↓at_boolK, ↓at_strK, ↓at_slK, ↓at_slOK, ↓at_slK0, ↓at_slOK0, ↓at_aggK, ↓at_cond_t, ↓at_cond_f, ↓at_sameL, ↓at_any1, ↓at_any, and_self, toBytes_bys, List.nil_append, List.append_nil, List.drop_zero, List.take_succ_cons, List.take_zero, List.getElem?_cons_succ, List.getElem?_cons_zero, cells_agg, eqCells_cons, eqCells_nil, eq1_int, eq1_bool, eq1_str, ↓at_ptr_whole, ↓at_ptr_cell, ↓at_ptr_obj, ↓at_ptr_objs, shift_obj, shift_elt, toA_val, toA_own, Int.toNat_natCast, List.cons_append, recs_length]
  | succ n ih =>
    intro i k h t c hm ht hi hk
    obtain ⟨k, rfl⟩ : ∃ m, k = m + 1 := ⟨k - 1, by omega⟩
    have hn : n < l.length := by omega
    have e1 := succ_wrap (i := i) (by omega)
    have e2 : IntKind.i64.wrap (IntKind.i64.wrap ((l.length : Int) - 1) - (i : Int)) = ((n : Nat) : Int) := by
      have : (l.length : Int) = i + n + 1 := by omega
      rw [this, wrap_i64_id (n := (i : Int) + n + 1 - 1) (by omega) (by omega), wrap_i64_id (by omega) (by omega)]; omega
    obtain ⟨h', t', c', a1, a2, a3, a4, a5⟩ := ih (i + 1) k (h.put m (.map 3 (encM (AVal.int .i64) (tput l[n].lsn (.int .i64 l[n].prev) t c)) (if (tget l[n].lsn t).isSome then c else c + 1))) (tput l[n].lsn (.int .i64 l[n].prev) t c) _ (Heap.put_get hm) (fun y => by
      rw [tget_tput, ht, List.drop_eq_getElem_cons hn, findP_cons]
      by_cases hy : y = l[n].lsn
      · rw [if_pos hy, if_pos hy.symm]; rfl
      · rw [if_neg hy, if_neg (fun h => hy h.symm)]) (by omega) (by omega)
    refine ⟨h', t', c', a1, a2, fun j hj => by rw [a3 j hj, Heap.put_ne (fun h => hj h.symm)], by rw [a4, Heap.put_len], fun Q tg => ?_⟩
    rw [P70_0_eq]
    simp (disch := (first | assumption | (simp only [Bool.and_eq_true, Bool.and_eq_false_iff, decide_eq_true_eq, decide_eq_false_iff_not, bne_iff_ne, beq_iff_eq, beq_eq_false_iff_ne, bne_eq_false_iff_eq, Bool.not_eq_true', Bool.not_eq_false', bys_length, List.length_append, List.length_cons, List.length_nil, List.length_map, List.length_drop, List.length_take, Int.natCast_add, wrap_i64_eq, wrap_u64, wrap_u8, ne_eq, not_true_eq_false, not_false_eq_true, Nat.zero_add, Nat.mul_one] <;> omega) | omega | (simp; done) | (simp; omega))) only [↓at_runK, ↓at_bind, ↓contQ_mk, ↓at_ret, ↓at_consK, ↓at_nilK, ↓at_optK, ↓at_intK, ↓at_boolK, ↓at_strK, ↓at_slK, ↓at_slOK, ↓at_slK0, ↓at_slOK0, ↓at_aggK, ↓at_cond_t, ↓at_cond_f, ↓at_sameL, ↓at_any1, ↓at_any, and_self, toBytes_bys, List.nil_append, List.append_nil, List.drop_zero, List.take_succ_cons, List.take_zero, List.getElem?_cons_succ, List.getElem?_cons_zero, cells_agg, eqCells_cons, eqCells_nil, eq1_int, eq1_bool, eq1_str, ↓at_ptr_whole, ↓at_ptr_cell, ↓at_ptr_obj, ↓at_ptr_objs, shift_obj, shift_elt, toA_val, toA_own, Int.toNat_natCast, List.cons_append, recs_length, e2, recs_getD hn, at_updK encInt hm, e1, a5]
theorem chain_ok (d : Nat) (f : Bool) (l : List Rec) (x : Int) (h : Heap) (hl : l.length ≤ 1000000) :
    ∃ h', h.ext h' ∧ ∀ (Q : Res → Prop) (tg : Hid Q), Run (evFn Cw (d + 1) 70 [.sl f 6 (recs l), .int .i64 x] h) Q tg = Q ([.sl false 0 (ints (chainN l (l.length + 1) x))], h') := by
  obtain ⟨h', t', c', a1, a2, a3, a4, a5⟩ := chain_build d h.objs.length f l hl x l.length 0 rounds (h.push (.map 3 [] 0)) [] 0 (Heap.push_new h _) (fun y => by rw [List.drop_length]; rfl) (by omega) (rounds_gt _ (by omega))
  rw [e0] at a5
  refine ⟨h', ⟨by rw [a4, Heap.push_len]; omega, fun j hj => by rw [a3 j (by omega), Heap.push_old hj]⟩, fun Q tg => ?_⟩
  rw [F70_eq, recs_length]
  have hc := cntR_le l x
  have := chain_loop d h.objs.length h' l t' c' a1 a2 Q (l.length + 1) x [] rounds ⟨⟩ (by omega) (rounds_gt _ (by omega)) (by simp; omega)
  rw [ints_nil, List.nil_append] at this
  exact (a5 Q tg).trans this

end Go.Proofs.Ytfdkkhmaikgmcaa.Wa
