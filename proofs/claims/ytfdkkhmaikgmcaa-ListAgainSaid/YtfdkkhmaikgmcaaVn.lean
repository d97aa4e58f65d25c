/- Recoveries of records; ListFollows, ListMays. -/
import Derived.Test.YtfdkkhmaikgmcaaVm
namespace Go.Proofs.Ytfdkkhmaikgmcaa.Wa
open Go Go.Weave
set_option maxRecDepth 100000
set_option linter.unusedSimpArgs false
set_option linter.unusedVariables false
set_option linter.unusedSectionVars false

def zipSame : List Rec → List Rec → Bool
  | a :: u, b :: v => rsame a b && zipSame u v
  | _, _ => true
def prefixB (g fr : List Rec) : Bool := if g.length ≤ fr.length then zipSame g fr else false
theorem zip_step {g fr : List Rec} {i : Nat} (hg : i < g.length) (hf : i < fr.length) : zipSame (g.drop i) (fr.drop i) = (rsame g[i] fr[i] && zipSame (g.drop (i + 1)) (fr.drop (i + 1))) := by
  rw [List.drop_eq_getElem_cons hg, List.drop_eq_getElem_cons hf]; rfl
theorem zip_nil (fr : List Rec) : zipSame [] fr = true := by cases fr <;> rfl
theorem zip_snoc_lt : ∀ (g fr : List Rec) (r : Rec) (h : fr.length < g.length), zipSame g (fr ++ [r]) = (zipSame g fr && rsame g[fr.length] r)
  | [], _, _, h => by simp at h
  | a :: u, [], r, _ => by cases u <;> simp [zipSame]
  | a :: u, b :: v, r, h => by
    simp only [List.cons_append, zipSame]
    rw [zip_snoc_lt u v r (by simpa using h), Bool.and_assoc]
    rfl
theorem zip_snoc_ge : ∀ (g fr : List Rec) (r : Rec), g.length ≤ fr.length → zipSame g (fr ++ [r]) = zipSame g fr
  | [], _, _, _ => by rw [zip_nil, zip_nil]
  | a :: u, [], _, h => by simp at h
  | a :: u, b :: v, r, h => by
    simp only [List.cons_append, zipSame]
    rw [zip_snoc_ge u v r (by simpa using h)]

theorem begins_loop (d : Nat) (f f2 : Bool) (h : Heap) (g fr : List Rec) (hg : g.length ≤ 1000000) (hle : g.length ≤ fr.length) (Q : Res → Prop) : ∀ (n i k : Nat) (tg : Hid Q), g.length = i + n → n < k →
    Run (P96_0 (d + 1) k f (recs g) f2 (recs fr) g.length i h) Q tg = Q ([.bool (zipSame (g.drop i) (fr.drop i))], h) := by
  intro n
  induction n with
  | zero =>
    intro i k tg hi hk
    obtain ⟨k, rfl⟩ : ∃ m, k = m + 1 := ⟨k - 1, by omega⟩
    have hd : g.drop i = [] := List.drop_eq_nil_of_le (by omega)
    rw [P96_0_eq, hd, zip_nil]
    simp (disch := (first | assumption | (simp only [Bool.and_eq_true, Bool.and_eq_false_iff, decide_eq_true_eq, decide_eq_false_iff_not, bne_iff_ne, beq_iff_eq, beq_eq_false_iff_ne, bne_eq_false_iff_eq, Bool.not_eq_true', Bool.not_eq_false', bys_length, List.length_append, List.length_cons, List.length_nil, List.length_map, List.length_drop, List.length_take, Int.natCast_add, wrap_i64_eq, wrap_u64, wrap_u8, ne_eq, not_true_eq_false, not_false_eq_true, Nat.zero_add, Nat.mul_one] <;> omega) | omega | (simp; done) | (simp; omega))) only [↓at_runK, ↓at_bind, ↓contQ_mk, ↓at_ret, ↓at_consK, ↓at_nilK, ↓at_optK, ↓at_intK, ↓at_boolK, ↓at_strK, ↓at_slK, ↓at_slOK, ↓at_slK0, ↓at_slOK0, ↓at_aggK, ↓at_cond_t, ↓at_cond_f, ↓at_sameL, ↓at_any1, ↓at_any, and_self, toBytes_bys, List.nil_append, List.append_nil, List.drop_zero, List.take_succ_cons, List.take_zero, List.getElem?_cons_succ, List.getElem?_cons_zero, cells_agg, eqCells_cons, eqCells_nil, eq1_int, eq1_bool, eq1_str, ↓at_ptr_whole, ↓at_ptr_cell, ↓at_ptr_obj, ↓at_ptr_objs, shift_obj, shift_elt, toA_val, toA_own, Int.toNat_natCast, List.cons_append, recs_length]
  | succ n ih =>
    intro i k tg hi hk
    obtain ⟨k, rfl⟩ : ∃ m, k = m + 1 := ⟨k - 1, by omega⟩
    have h1 : i < g.length := by omega
    have h2 : i < fr.length := by omega
    have e1 := succ_wrap (i := i) (by omega)
    have ih' := fun tg => ih (i + 1) k tg (by omega) (by omega)
    rw [P96_0_eq, zip_step h1 h2]
    have er : rsame' g[i].kind g[i].chain g[i].lsn g[i].prev g[i].data fr[i].kind fr[i].chain fr[i].lsn fr[i].prev fr[i].data = rsame g[i] fr[i] := rfl
    cases hs : rsame g[i] fr[i]
    · simp (disch := (first | assumption | (simp only [Bool.and_eq_true, Bool.and_eq_false_iff, decide_eq_true_eq, decide_eq_false_iff_not, bne_iff_ne, beq_iff_eq, beq_eq_false_iff_ne, bne_eq_false_iff_eq, Bool.not_eq_true', Bool.not_eq_false', bys_length, List.length_append, List.length_cons, List.length_nil, List.length_map, List.length_drop, List.length_take, Int.natCast_add, wrap_i64_eq, wrap_u64, wrap_u8, ne_eq, not_true_eq_false, not_false_eq_true, Nat.zero_add, Nat.mul_one] <;> omega) | omega | (simp; done) | (simp; omega))) only [↓at_runK, ↓at_bind, ↓contQ_mk, ↓at_ret, ↓at_consK, ↓at_nilK, ↓at_optK, ↓at_intK, ↓at_boolK, ↓at_strK, ↓at_slK, ↓at_slOK, ↓at_slK0, ↓at_slOK0, ↓at_aggK, ↓at_cond_t, ↓at_cond_f, ↓at_sameL, ↓at_any1, ↓at_any, and_self, toBytes_bys, List.nil_append, List.append_nil, List.drop_zero, List.take_succ_cons, List.take_zero, List.getElem?_cons_succ, List.getElem?_cons_zero, cells_agg, eqCells_cons, eqCells_nil, eq1_int, eq1_bool, eq1_str, ↓at_ptr_whole, ↓at_ptr_cell, ↓at_ptr_obj, ↓at_ptr_objs, shift_obj, shift_elt, toA_val, toA_own, Int.toNat_natCast, List.cons_append, recs_length, recs_getD h1, recs_getD h2, same_run, er, hs, Bool.false_and]
    · simp (disch := (first | assumption | (simp only [Bool.and_eq_true, Bool.and_eq_false_iff, decide_eq_true_eq, decide_eq_false_iff_not, bne_iff_ne, beq_iff_eq, beq_eq_false_iff_ne, bne_eq_false_iff_eq, Bool.not_eq_true', Bool.not_eq_false', bys_length, List.length_append, List.length_cons, List.length_nil, List.length_map, List.length_drop, List.length_take, Int.natCast_add, wrap_i64_eq, wrap_u64, wrap_u8, ne_eq, not_true_eq_false, not_false_eq_true, Nat.zero_add, Nat.mul_one] <;> omega) | omega | (simp; done) | (simp; omega))) only [↓at_runK, ↓at_bind, ↓contQ_mk, ↓at_ret, ↓at_consK, ↓at_nilK, ↓at_optK, ↓at_intK, ↓at_boolK, ↓at_strK, ↓at_slK, ↓at_slOK, ↓at_slK0, ↓at_slOK0, ↓at_aggK, ↓at_cond_t, ↓at_cond_f, ↓at_sameL, ↓at_any1, ↓at_any, and_self, toBytes_bys, List.nil_append, List.append_nil, List.drop_zero, List.take_succ_cons, List.take_zero, List.getElem?_cons_succ, List.getElem?_cons_zero, cells_agg, eqCells_cons, eqCells_nil, eq1_int, eq1_bool, eq1_str, ↓at_ptr_whole, ↓at_ptr_cell, ↓at_ptr_obj, ↓at_ptr_objs, shift_obj, shift_elt, toA_val, toA_own, Int.toNat_natCast, List.cons_append, recs_length, recs_getD h1, recs_getD h2, same_run, er, hs, Bool.true_and, e1, ih']
theorem prefix_run {d : Nat} {f f2 : Bool} {g fr : List Rec} {h : Heap} {Q : Res → Prop} {tg : Hid Q} (hg : g.length ≤ 1000000) :
    Run (evFn Cw (d + 3) 67 [.sl f 6 (recs g), .sl f2 6 (recs fr)] h) Q tg = Q ([.bool (prefixB g fr)], h) := by
  have hb : ∀ (Q : Res → Prop) (tg : Hid Q), Run (evFn Cw (d + 2) 96 [.sl f 6 (recs g), .sl f2 6 (recs fr), .fn 23 [] []] h) Q tg = Q ([.bool (prefixB g fr)], h) := fun Q tg => by
    rw [F96_eq]
    unfold prefixB
    by_cases hle : g.length ≤ fr.length
    · rw [if_pos hle]
      have := begins_loop d f f2 h g fr hg hle Q g.length 0 rounds ⟨⟩ (by omega) (rounds_gt _ (by omega))
      rw [e0] at this
      simp (disch := (first | assumption | (simp only [Bool.and_eq_true, Bool.and_eq_false_iff, decide_eq_true_eq, decide_eq_false_iff_not, bne_iff_ne, beq_iff_eq, beq_eq_false_iff_ne, bne_eq_false_iff_eq, Bool.not_eq_true', Bool.not_eq_false', bys_length, List.length_append, List.length_cons, List.length_nil, List.length_map, List.length_drop, List.length_take, Int.natCast_add, wrap_i64_eq, wrap_u64, wrap_u8, ne_eq, not_true_eq_false, not_false_eq_true, Nat.zero_add, Nat.mul_one] <;> omega) | omega | (simp; done) | (simp; omega))) only [↓at_runK, ↓at_bind, ↓contQ_mk, ↓at_ret, ↓at_consK, ↓at_nilK, ↓at_optK, ↓at_intK, ↓at_boolK, ↓at_strK, ↓at_slK, ↓at_slOK, ↓at_slK0, ↓at_slOK0, ↓at_aggK, ↓at_cond_t, ↓at_cond_f, ↓at_sameL, ↓at_any1, ↓at_any, and_self, toBytes_bys, List.nil_append, List.append_nil, List.drop_zero, List.take_succ_cons, List.take_zero, List.getElem?_cons_succ, List.getElem?_cons_zero, cells_agg, eqCells_cons, eqCells_nil, eq1_int, eq1_bool, eq1_str, ↓at_ptr_whole, ↓at_ptr_cell, ↓at_ptr_obj, ↓at_ptr_objs, shift_obj, shift_elt, toA_val, toA_own, Int.toNat_natCast, List.cons_append, recs_length, this]
    · rw [if_neg hle]
      simp (disch := (first | assumption | (simp only [Bool.and_eq_true, Bool.and_eq_false_iff, decide_eq_true_eq, decide_eq_false_iff_not, bne_iff_ne, beq_iff_eq, beq_eq_false_iff_ne, bne_eq_false_iff_eq, Bool.not_eq_true', Bool.not_eq_false', bys_length, List.length_append, List.length_cons, List.length_nil, List.length_map, List.length_drop, List.length_take, Int.natCast_add, wrap_i64_eq, wrap_u64, wrap_u8, ne_eq, not_true_eq_false, not_false_eq_true, Nat.zero_add, Nat.mul_one] <;> omega) | omega | (simp; done) | (simp; omega))) only [↓at_runK, ↓at_bind, ↓contQ_mk, ↓at_ret, ↓at_consK, ↓at_nilK, ↓at_optK, ↓at_intK, ↓at_boolK, ↓at_strK, ↓at_slK, ↓at_slOK, ↓at_slK0, ↓at_slOK0, ↓at_aggK, ↓at_cond_t, ↓at_cond_f, ↓at_sameL, ↓at_any1, ↓at_any, and_self, toBytes_bys, List.nil_append, List.append_nil, List.drop_zero, List.take_succ_cons, List.take_zero, List.getElem?_cons_succ, List.getElem?_cons_zero, cells_agg, eqCells_cons, eqCells_nil, eq1_int, eq1_bool, eq1_str, ↓at_ptr_whole, ↓at_ptr_cell, ↓at_ptr_obj, ↓at_ptr_objs, shift_obj, shift_elt, toA_val, toA_own, Int.toNat_natCast, List.cons_append, recs_length]
  rw [F67_eq]
  simp (disch := (first | assumption | (simp only [Bool.and_eq_true, Bool.and_eq_false_iff, decide_eq_true_eq, decide_eq_false_iff_not, bne_iff_ne, beq_iff_eq, beq_eq_false_iff_ne, bne_eq_false_iff_eq, Bool.not_eq_true', Bool.not_eq_false', bys_length, List.length_append, List.length_cons, List.length_nil, List.length_map, List.length_drop, List.length_take, Int.natCast_add, wrap_i64_eq, wrap_u64, wrap_u8, ne_eq, not_true_eq_false, not_false_eq_true, Nat.zero_add, Nat.mul_one] <;> omega) | omega | (simp; done) | (simp; omega))) only [↓at_runK, ↓at_bind, ↓contQ_mk, ↓at_ret, ↓at_consK, ↓at_nilK, ↓at_optK, ↓at_intK, ↓at_boolK, ↓at_strK, ↓at_slK, ↓at_slOK, ↓at_slK0, ↓at_slOK0, ↓at_aggK, ↓at_cond_t, ↓at_cond_f, ↓at_sameL, ↓at_any1, ↓at_any, and_self, toBytes_bys, List.nil_append, List.append_nil, List.drop_zero, List.take_succ_cons, List.take_zero, List.getElem?_cons_succ, List.getElem?_cons_zero, cells_agg, eqCells_cons, eqCells_nil, eq1_int, eq1_bool, eq1_str, ↓at_ptr_whole, ↓at_ptr_cell, ↓at_ptr_obj, ↓at_ptr_objs, shift_obj, shift_elt, toA_val, toA_own, Int.toNat_natCast, List.cons_append, hb]
theorem zip_take : ∀ (g fr : List Rec), zipSame g (fr.take g.length) = zipSame g fr
  | [], fr => by rw [zip_nil, zip_nil]
  | a :: u, [] => rfl
  | a :: u, b :: v => by
    simp only [List.length_cons, List.take_succ_cons, zipSame]
    rw [zip_take u v]
/-! ### Recoveries -/
def pvBad : Option Int → Int → Bool
  | none, _ => false
  | some p, x => decide (x ≤ p)
def pmay (g : List Rec) (sy fi : Int) : List Rec → Option Int → List Rec → Nat → Bool
  | [], _, fr, must => if must ≤ g.length then prefixB g fr else false
  | r :: rs, pv, fr, must => if pvBad pv r.lsn = true then false else if r.lsn < fi then pmay g sy fi rs (some r.lsn) fr must else
      pmay g sy fi rs (some r.lsn) (fr ++ [r]) (if r.lsn ≤ sy then fr.length + 1 else must)
def rmay (g : List Rec) (sy fi : Int) : List Rec → Option Int → Nat → Bool
  | [], _, k => decide (g.length ≤ k)
  | r :: rs, pv, k => if pvBad pv r.lsn = true then false else if r.lsn < fi then rmay g sy fi rs (some r.lsn) k else
      if h : k < g.length then (if rsame g[k] r then rmay g sy fi rs (some r.lsn) (k + 1) else false) else if r.lsn ≤ sy then false else rmay g sy fi rs (some r.lsn) (k + 1)
theorem may_eq (g : List Rec) (sy fi : Int) : ∀ (rs : List Rec) (pv : Option Int) (fr : List Rec) (must : Nat), must ≤ fr.length → pmay g sy fi rs pv fr must = (decide (must ≤ g.length) && zipSame g fr && rmay g sy fi rs pv fr.length)
  | [], pv, fr, must, hm => by
    unfold pmay rmay prefixB
    by_cases h1 : must ≤ g.length
    · by_cases h2 : g.length ≤ fr.length
      · simp [h1, h2]
      · simp [h1, h2]
    · simp [h1]
  | r :: rs, pv, fr, must, hm => by
    unfold pmay rmay
    by_cases h0 : pvBad pv r.lsn = true
    · rw [if_pos h0, if_pos h0]; simp
    · rw [if_neg h0, if_neg h0]
      by_cases h1 : r.lsn < fi
      · rw [if_pos h1, if_pos h1]
        exact may_eq g sy fi rs _ fr must hm
      · rw [if_neg h1, if_neg h1]
        rw [may_eq g sy fi rs _ (fr ++ [r]) _ (by split <;> simp; omega)]
        simp only [List.length_append, List.length_cons, List.length_nil, Nat.zero_add]
        by_cases hk : fr.length < g.length
        · rw [dif_pos hk, zip_snoc_lt g fr r hk]
          have e1 : decide ((if r.lsn ≤ sy then fr.length + 1 else must) ≤ g.length) = true := by
            rw [decide_eq_true_eq]; split <;> omega
          have e2 : decide (must ≤ g.length) = true := by rw [decide_eq_true_eq]; omega
          rw [e1, e2]
          cases rsame g[fr.length] r <;> simp
        · rw [dif_neg hk, zip_snoc_ge g fr r (by omega)]
          by_cases hs : r.lsn ≤ sy
          · rw [if_pos hs, if_pos hs]
            have e1 : decide (fr.length + 1 ≤ g.length) = false := by rw [decide_eq_false_iff_not]; omega
            rw [e1]; simp
          · rw [if_neg hs, if_neg hs]
def pvAt (l : List Rec) (i : Nat) : Option Int := if i = 0 then none else (l[i - 1]?).map (·.lsn)
theorem pvAt_succ {l : List Rec} {i : Nat} (h : i < l.length) : pvAt l (i + 1) = some l[i].lsn := by simp [pvAt, h]

theorem may_loop (d : Nat) (f f2 f3 : Bool) (h : Heap) (l g : List Rec) (hl : l.length ≤ 1000000) (hg : g.length ≤ 1000000) (sy fi : Int) (Q : Res → Prop) : ∀ (n i k : Nat) (fr : List Rec) (must : Nat) (tg : Hid Q), fr.length ≤ i → l.length = i + n → n < k →
    Run (P13_0 (d + 3) k f (recs l) sy fi f2 (recs g) (recs fr) must f3 (recs l) l.length i h) Q tg = Q ([.bool (pmay g sy fi (l.drop i) (pvAt l i) fr must)], h) := by
  intro n
  induction n with
  | zero =>
    intro i k fr must tg hfr hi hk
    obtain ⟨k, rfl⟩ : ∃ m, k = m + 1 := ⟨k - 1, by omega⟩
    have hd : l.drop i = [] := List.drop_eq_nil_of_le (by omega)
    rw [P13_0_eq, hd]
    unfold pmay
    by_cases hm : must ≤ g.length
    · rw [if_pos hm]
      simp (disch := (first | assumption | (simp only [Bool.and_eq_true, Bool.and_eq_false_iff, decide_eq_true_eq, decide_eq_false_iff_not, bne_iff_ne, beq_iff_eq, beq_eq_false_iff_ne, bne_eq_false_iff_eq, Bool.not_eq_true', Bool.not_eq_false', bys_length, List.length_append, List.length_cons, List.length_nil, List.length_map, List.length_drop, List.length_take, Int.natCast_add, wrap_i64_eq, wrap_u64, wrap_u8, ne_eq, not_true_eq_false, not_false_eq_true, Nat.zero_add, Nat.mul_one] <;> omega) | omega | (simp; done) | (simp; omega))) only [↓at_runK, ↓at_bind, ↓contQ_mk, ↓at_ret, ↓at_consK, ↓at_nilK, ↓at_optK, ↓at_intK, ↓at_boolK, ↓at_strK, ↓at_slK, ↓at_slOK, ↓at_slK0, ↓at_slOK0, ↓at_aggK, ↓at_cond_t, ↓at_cond_f, ↓at_sameL, ↓at_any1, ↓at_any, and_self, toBytes_bys, List.nil_append, List.append_nil, List.drop_zero, List.take_succ_cons, List.take_zero, List.getElem?_cons_succ, List.getElem?_cons_zero, cells_agg, eqCells_cons, eqCells_nil, eq1_int, eq1_bool, eq1_str, ↓at_ptr_whole, ↓at_ptr_cell, ↓at_ptr_obj, ↓at_ptr_objs, shift_obj, shift_elt, toA_val, toA_own, Int.toNat_natCast, List.cons_append, recs_length, prefix_run]
    · rw [if_neg hm]
      simp (disch := (first | assumption | (simp only [Bool.and_eq_true, Bool.and_eq_false_iff, decide_eq_true_eq, decide_eq_false_iff_not, bne_iff_ne, beq_iff_eq, beq_eq_false_iff_ne, bne_eq_false_iff_eq, Bool.not_eq_true', Bool.not_eq_false', bys_length, List.length_append, List.length_cons, List.length_nil, List.length_map, List.length_drop, List.length_take, Int.natCast_add, wrap_i64_eq, wrap_u64, wrap_u8, ne_eq, not_true_eq_false, not_false_eq_true, Nat.zero_add, Nat.mul_one] <;> omega) | omega | (simp; done) | (simp; omega))) only [↓at_runK, ↓at_bind, ↓contQ_mk, ↓at_ret, ↓at_consK, ↓at_nilK, ↓at_optK, ↓at_intK, ↓at_boolK, ↓at_strK, ↓at_slK, ↓at_slOK, ↓at_slK0, ↓at_slOK0, ↓at_aggK, ↓at_cond_t, ↓at_cond_f, ↓at_sameL, ↓at_any1, ↓at_any, and_self, toBytes_bys, List.nil_append, List.append_nil, List.drop_zero, List.take_succ_cons, List.take_zero, List.getElem?_cons_succ, List.getElem?_cons_zero, cells_agg, eqCells_cons, eqCells_nil, eq1_int, eq1_bool, eq1_str, ↓at_ptr_whole, ↓at_ptr_cell, ↓at_ptr_obj, ↓at_ptr_objs, shift_obj, shift_elt, toA_val, toA_own, Int.toNat_natCast, List.cons_append, recs_length]
  | succ n ih =>
    intro i k fr must tg hfr hi hk
    obtain ⟨k, rfl⟩ : ∃ m, k = m + 1 := ⟨k - 1, by omega⟩
    have h1 : i < l.length := by omega
    have e1 := succ_wrap (i := i) (by omega)
    have ih1 := fun tg => ih (i + 1) k fr must tg (by omega) (by omega) (by omega)
    have ih2 := fun tg => ih (i + 1) k (fr ++ [l[i]]) (fr.length + 1) tg (by simp; omega) (by omega) (by omega)
    have ih3 := fun tg => ih (i + 1) k (fr ++ [l[i]]) must tg (by simp; omega) (by omega) (by omega)
    rw [pvAt_succ h1] at ih1 ih2 ih3
    have el : (recs (fr ++ [l[i]])).length = fr.length + 1 := by simp [recs_length]
    rw [P13_0_eq, List.drop_eq_getElem_cons h1]
    unfold pmay
    rcases Nat.eq_zero_or_pos i with h0 | h0
    · have ep : pvAt l i = none := by rw [h0]; rfl
      rw [ep, if_neg (by simp [pvBad])]
      by_cases hf : l[i].lsn < fi
      · rw [if_pos hf]
        simp (disch := (first | assumption | (simp only [Bool.and_eq_true, Bool.and_eq_false_iff, decide_eq_true_eq, decide_eq_false_iff_not, bne_iff_ne, beq_iff_eq, beq_eq_false_iff_ne, bne_eq_false_iff_eq, Bool.not_eq_true', Bool.not_eq_false', bys_length, List.length_append, List.length_cons, List.length_nil, List.length_map, List.length_drop, List.length_take, Int.natCast_add, wrap_i64_eq, wrap_u64, wrap_u8, ne_eq, not_true_eq_false, not_false_eq_true, Nat.zero_add, Nat.mul_one] <;> omega) | omega | (simp; done) | (simp; omega))) only [↓at_runK, ↓at_bind, ↓contQ_mk, ↓at_ret, ↓at_consK, ↓at_nilK, ↓at_optK, ↓at_intK, ↓at_boolK, ↓at_strK, ↓at_slK, ↓at_slOK, ↓at_slK0, ↓at_slOK0, ↓at_aggK, ↓at_cond_t, ↓at_cond_f, ↓at_sameL, ↓at_any1, ↓at_any, and_self, toBytes_bys, List.nil_append, List.append_nil, List.drop_zero, List.take_succ_cons, List.take_zero, List.getElem?_cons_succ, List.getElem?_cons_zero, cells_agg, eqCells_cons, eqCells_nil, eq1_int, eq1_bool, eq1_str, ↓at_ptr_whole, ↓at_ptr_cell, ↓at_ptr_obj, ↓at_ptr_objs, shift_obj, shift_elt, toA_val, toA_own, Int.toNat_natCast, List.cons_append, recs_length, recs_getD h1, e1, ih1]
      · rw [if_neg hf]
        by_cases hs : l[i].lsn ≤ sy
        · rw [if_pos hs]
          simp (disch := (first | assumption | (simp only [Bool.and_eq_true, Bool.and_eq_false_iff, decide_eq_true_eq, decide_eq_false_iff_not, bne_iff_ne, beq_iff_eq, beq_eq_false_iff_ne, bne_eq_false_iff_eq, Bool.not_eq_true', Bool.not_eq_false', bys_length, List.length_append, List.length_cons, List.length_nil, List.length_map, List.length_drop, List.length_take, Int.natCast_add, wrap_i64_eq, wrap_u64, wrap_u8, ne_eq, not_true_eq_false, not_false_eq_true, Nat.zero_add, Nat.mul_one] <;> omega) | omega | (simp; done) | (simp; omega))) only [↓at_runK, ↓at_bind, ↓contQ_mk, ↓at_ret, ↓at_consK, ↓at_nilK, ↓at_optK, ↓at_intK, ↓at_boolK, ↓at_strK, ↓at_slK, ↓at_slOK, ↓at_slK0, ↓at_slOK0, ↓at_aggK, ↓at_cond_t, ↓at_cond_f, ↓at_sameL, ↓at_any1, ↓at_any, and_self, toBytes_bys, List.nil_append, List.append_nil, List.drop_zero, List.take_succ_cons, List.take_zero, List.getElem?_cons_succ, List.getElem?_cons_zero, cells_agg, eqCells_cons, eqCells_nil, eq1_int, eq1_bool, eq1_str, ↓at_ptr_whole, ↓at_ptr_cell, ↓at_ptr_obj, ↓at_ptr_objs, shift_obj, shift_elt, toA_val, toA_own, Int.toNat_natCast, List.cons_append, recs_length, recs_getD h1, e1, recs_snoc, el, ih2]
        · rw [if_neg hs]
          simp (disch := (first | assumption | (simp only [Bool.and_eq_true, Bool.and_eq_false_iff, decide_eq_true_eq, decide_eq_false_iff_not, bne_iff_ne, beq_iff_eq, beq_eq_false_iff_ne, bne_eq_false_iff_eq, Bool.not_eq_true', Bool.not_eq_false', bys_length, List.length_append, List.length_cons, List.length_nil, List.length_map, List.length_drop, List.length_take, Int.natCast_add, wrap_i64_eq, wrap_u64, wrap_u8, ne_eq, not_true_eq_false, not_false_eq_true, Nat.zero_add, Nat.mul_one] <;> omega) | omega | (simp; done) | (simp; omega))) only [↓at_runK, ↓at_bind, ↓contQ_mk, ↓at_ret, ↓at_consK, ↓at_nilK, ↓at_optK, ↓at_intK, ↓at_boolK, ↓at_strK, ↓at_slK, ↓at_slOK, ↓at_slK0, ↓at_slOK0, ↓at_aggK, ↓at_cond_t, ↓at_cond_f, ↓at_sameL, ↓at_any1, ↓at_any, and_self, toBytes_bys, List.nil_append, List.append_nil, List.drop_zero, List.take_succ_cons, List.take_zero, List.getElem?_cons_succ, List.getElem?_cons_zero, cells_agg, eqCells_cons, eqCells_nil, eq1_int, eq1_bool, eq1_str, ↓at_ptr_whole, ↓at_ptr_cell, ↓at_ptr_obj, ↓at_ptr_objs, shift_obj, shift_elt, toA_val, toA_own, Int.toNat_natCast, List.cons_append, recs_length, recs_getD h1, e1, recs_snoc, el, ih3]
    · have h2 : i - 1 < l.length := by omega
      have ep : pvAt l i = some l[i - 1].lsn := by unfold pvAt; rw [if_neg (by omega)]; simp [h2]
      have e2 : IntKind.i64.wrap ((i : Int) - 1) = ((i - 1 : Nat) : Int) := by rw [wrap_i64_id (by omega) (by omega)]; omega
      rw [ep]
      by_cases hb : l[i].lsn ≤ l[i - 1].lsn
      · rw [if_pos (by simp [pvBad, hb])]
        simp (disch := (first | assumption | (simp only [Bool.and_eq_true, Bool.and_eq_false_iff, decide_eq_true_eq, decide_eq_false_iff_not, bne_iff_ne, beq_iff_eq, beq_eq_false_iff_ne, bne_eq_false_iff_eq, Bool.not_eq_true', Bool.not_eq_false', bys_length, List.length_append, List.length_cons, List.length_nil, List.length_map, List.length_drop, List.length_take, Int.natCast_add, wrap_i64_eq, wrap_u64, wrap_u8, ne_eq, not_true_eq_false, not_false_eq_true, Nat.zero_add, Nat.mul_one] <;> omega) | omega | (simp; done) | (simp; omega))) only [↓at_runK, ↓at_bind, ↓contQ_mk, ↓at_ret, ↓at_consK, ↓at_nilK, ↓at_optK, ↓at_intK, ↓at_boolK, ↓at_strK, ↓at_slK, ↓at_slOK, ↓at_slK0, ↓at_slOK0, ↓at_aggK, ↓at_cond_t, ↓at_cond_f, ↓at_sameL, ↓at_any1, ↓at_any, and_self, toBytes_bys, List.nil_append, List.append_nil, List.drop_zero, List.take_succ_cons, List.take_zero, List.getElem?_cons_succ, List.getElem?_cons_zero, cells_agg, eqCells_cons, eqCells_nil, eq1_int, eq1_bool, eq1_str, ↓at_ptr_whole, ↓at_ptr_cell, ↓at_ptr_obj, ↓at_ptr_objs, shift_obj, shift_elt, toA_val, toA_own, Int.toNat_natCast, List.cons_append, recs_length, recs_getD h1, recs_getD h2, e2]
      · rw [if_neg (by simp [pvBad]; omega)]
        by_cases hf : l[i].lsn < fi
        · rw [if_pos hf]
          simp (disch := (first | assumption | (simp only [Bool.and_eq_true, Bool.and_eq_false_iff, decide_eq_true_eq, decide_eq_false_iff_not, bne_iff_ne, beq_iff_eq, beq_eq_false_iff_ne, bne_eq_false_iff_eq, Bool.not_eq_true', Bool.not_eq_false', bys_length, List.length_append, List.length_cons, List.length_nil, List.length_map, List.length_drop, List.length_take, Int.natCast_add, wrap_i64_eq, wrap_u64, wrap_u8, ne_eq, not_true_eq_false, not_false_eq_true, Nat.zero_add, Nat.mul_one] <;> omega) | omega | (simp; done) | (simp; omega))) only [↓at_runK, ↓at_bind, ↓contQ_mk, ↓at_ret, ↓at_consK, ↓at_nilK, ↓at_optK, ↓at_intK, ↓at_boolK, ↓at_strK, ↓at_slK, ↓at_slOK, ↓at_slK0, ↓at_slOK0, ↓at_aggK, ↓at_cond_t, ↓at_cond_f, ↓at_sameL, ↓at_any1, ↓at_any, and_self, toBytes_bys, List.nil_append, List.append_nil, List.drop_zero, List.take_succ_cons, List.take_zero, List.getElem?_cons_succ, List.getElem?_cons_zero, cells_agg, eqCells_cons, eqCells_nil, eq1_int, eq1_bool, eq1_str, ↓at_ptr_whole, ↓at_ptr_cell, ↓at_ptr_obj, ↓at_ptr_objs, shift_obj, shift_elt, toA_val, toA_own, Int.toNat_natCast, List.cons_append, recs_length, recs_getD h1, recs_getD h2, e2, e1, ih1]
        · rw [if_neg hf]
          by_cases hs : l[i].lsn ≤ sy
          · rw [if_pos hs]
            simp (disch := (first | assumption | (simp only [Bool.and_eq_true, Bool.and_eq_false_iff, decide_eq_true_eq, decide_eq_false_iff_not, bne_iff_ne, beq_iff_eq, beq_eq_false_iff_ne, bne_eq_false_iff_eq, Bool.not_eq_true', Bool.not_eq_false', bys_length, List.length_append, List.length_cons, List.length_nil, List.length_map, List.length_drop, List.length_take, Int.natCast_add, wrap_i64_eq, wrap_u64, wrap_u8, ne_eq, not_true_eq_false, not_false_eq_true, Nat.zero_add, Nat.mul_one] <;> omega) | omega | (simp; done) | (simp; omega))) only [↓at_runK, ↓at_bind, ↓contQ_mk, ↓at_ret, ↓at_consK, ↓at_nilK, ↓at_optK, ↓at_intK, ↓at_boolK, ↓at_strK, ↓at_slK, ↓at_slOK, ↓at_slK0, ↓at_slOK0, ↓at_aggK, ↓at_cond_t, ↓at_cond_f, ↓at_sameL, ↓at_any1, ↓at_any, and_self, toBytes_bys, List.nil_append, List.append_nil, List.drop_zero, List.take_succ_cons, List.take_zero, List.getElem?_cons_succ, List.getElem?_cons_zero, cells_agg, eqCells_cons, eqCells_nil, eq1_int, eq1_bool, eq1_str, ↓at_ptr_whole, ↓at_ptr_cell, ↓at_ptr_obj, ↓at_ptr_objs, shift_obj, shift_elt, toA_val, toA_own, Int.toNat_natCast, List.cons_append, recs_length, recs_getD h1, recs_getD h2, e2, e1, recs_snoc, el, ih2]
          · rw [if_neg hs]
            simp (disch := (first | assumption | (simp only [Bool.and_eq_true, Bool.and_eq_false_iff, decide_eq_true_eq, decide_eq_false_iff_not, bne_iff_ne, beq_iff_eq, beq_eq_false_iff_ne, bne_eq_false_iff_eq, Bool.not_eq_true', Bool.not_eq_false', bys_length, List.length_append, List.length_cons, List.length_nil, List.length_map, List.length_drop, List.length_take, Int.natCast_add, wrap_i64_eq, wrap_u64, wrap_u8, ne_eq, not_true_eq_false, not_false_eq_true, Nat.zero_add, Nat.mul_one] <;> omega) | omega | (simp; done) | (simp; omega))) only [↓at_runK, ↓at_bind, ↓contQ_mk, ↓at_ret, ↓at_consK, ↓at_nilK, ↓at_optK, ↓at_intK, ↓at_boolK, ↓at_strK, ↓at_slK, ↓at_slOK, ↓at_slK0, ↓at_slOK0, ↓at_aggK, ↓at_cond_t, ↓at_cond_f, ↓at_sameL, ↓at_any1, ↓at_any, and_self, toBytes_bys, List.nil_append, List.append_nil, List.drop_zero, List.take_succ_cons, List.take_zero, List.getElem?_cons_succ, List.getElem?_cons_zero, cells_agg, eqCells_cons, eqCells_nil, eq1_int, eq1_bool, eq1_str, ↓at_ptr_whole, ↓at_ptr_cell, ↓at_ptr_obj, ↓at_ptr_objs, shift_obj, shift_elt, toA_val, toA_own, Int.toNat_natCast, List.cons_append, recs_length, recs_getD h1, recs_getD h2, e2, e1, recs_snoc, el, ih3]
def mayB (l : List Rec) (sy fi : Int) (g : List Rec) : Bool := pmay g sy fi l none [] 0
theorem may_run {d : Nat} {f f2 : Bool} {l g : List Rec} {sy fi : Int} {h : Heap} {Q : Res → Prop} {tg : Hid Q} (hl : l.length ≤ 1000000) (hg : g.length ≤ 1000000) :
    Run (evFn Cw (d + 4) 13 [.sl f 6 (recs l), .int .i64 sy, .int .i64 fi, .sl f2 6 (recs g)] h) Q tg = Q ([.bool (mayB l sy fi g)], h) := by
  rw [F13_eq, recs_length]
  have := may_loop d f f2 f h l g hl hg sy fi Q l.length 0 rounds [] 0 ⟨⟩ (by simp) (by omega) (rounds_gt _ (by omega))
  rw [e0, recs_nil] at this
  exact this

/-! ### The statements -/
def ra (c l p : Int) : Rec := ⟨1, c, l, p, true, []⟩
theorem awake30_ok (d : Nat) (h : Heap) : ∃ h', ∀ (Q : Res → Prop) (tg : Hid Q), Run (evFn Cw (d + 6) 14 [] h) Q tg = Q ([.bool true], h') := by
  obtain ⟨h1, _, hc⟩ := chain_ok (d + 4) true [ra 0 4 0, ra 0 5 4] 5 h (by simp)
  refine ⟨h1, fun Q tg => ?_⟩
  have el : [AVal.agg [.int .i64 1, .int .i64 0, .int .i64 4, .int .i64 0, .sl true 0 []], AVal.agg [.int .i64 1, .int .i64 0, .int .i64 5, .int .i64 4, .sl true 0 []]] = recs [ra 0 4 0, ra 0 5 4] := of_eq_true (eq_self _)
  have el1 : [AVal.agg [.int .i64 1, .int .i64 0, .int .i64 4, .int .i64 0, .sl true 0 []]] = recs [ra 0 4 0] := of_eq_true (eq_self _)
  have c1 : folL [ra 0 4 0, ra 0 5 4] 4 [0, 0, 0, 0] = true := by decide
  have c2 : headsL [ra 0 4 0, ra 0 5 4] [0, 0, 0, 0] = [5, 0, 0, 0] := by decide
  have c3 : chainN [ra 0 4 0, ra 0 5 4] ([ra 0 4 0, ra 0 5 4].length + 1) 5 = [5, 4] := by decide
  have c4 : mayB [ra 0 4 0, ra 0 5 4] 4 4 [ra 0 4 0] = true := by decide
  have c5 : mayB [ra 0 4 0, ra 0 5 4] 5 4 [ra 0 4 0] = false := by decide
  have c6 : ints [5, 0, 0, 0] = [.int .i64 5, .int .i64 0, .int .i64 0, .int .i64 0] := of_eq_true (eq_self _)
  rw [c3] at hc
  rw [F14_eq]
  simp (disch := (first | assumption | (simp only [Bool.and_eq_true, Bool.and_eq_false_iff, decide_eq_true_eq, decide_eq_false_iff_not, bne_iff_ne, beq_iff_eq, beq_eq_false_iff_ne, bne_eq_false_iff_eq, Bool.not_eq_true', Bool.not_eq_false', bys_length, List.length_append, List.length_cons, List.length_nil, List.length_map, List.length_drop, List.length_take, Int.natCast_add, wrap_i64_eq, wrap_u64, wrap_u8, ne_eq, not_true_eq_false, not_false_eq_true, Nat.zero_add, Nat.mul_one] <;> omega) | omega | (simp; done) | (simp; omega))) only [↓at_runK, ↓at_bind, ↓contQ_mk, ↓at_ret, ↓at_consK, ↓at_nilK, ↓at_optK, ↓at_intK, ↓at_boolK, ↓at_strK, ↓at_slK, ↓at_slOK, ↓at_slK0, ↓at_slOK0, ↓at_aggK, ↓at_cond_t, ↓at_cond_f, ↓at_sameL, ↓at_any1, ↓at_any, and_self, toBytes_bys, List.nil_append, List.append_nil, List.drop_zero, List.take_succ_cons, List.take_zero, List.getElem?_cons_succ, List.getElem?_cons_zero, cells_agg, eqCells_cons, eqCells_nil, eq1_int, eq1_bool, eq1_str, ↓at_ptr_whole, ↓at_ptr_cell, ↓at_ptr_obj, ↓at_ptr_objs, shift_obj, shift_elt, toA_val, toA_own, Int.toNat_natCast, List.cons_append, el, el1, fol_run, c1, heads_run, c2, c6, hc, may_run, c4, c5, ints_length]
  simp
theorem heads4_run {d : Nat} {f : Bool} {l : List Rec} {a b c e : Int} {h : Heap} {Q : Res → Prop} {tg : Hid Q} (hl : l.length ≤ 1000000) :
    Run (evFn Cw (d + 1) 69 [.sl f 6 (recs l), .agg [.int .i64 a, .int .i64 b, .int .i64 c, .int .i64 e]] h) Q tg = Q ([.agg [.int .i64 (headAt l 0 a), .int .i64 (headAt l 1 b), .int .i64 (headAt l 2 c), .int .i64 (headAt l 3 e)]], h) := by
  rw [heads_run hl, headsL_four]; rfl
end Go.Proofs.Ytfdkkhmaikgmcaa.Wa
