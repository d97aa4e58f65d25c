/- TableDiffs: the program, and the statement. -/
import Derived.Test.YtdlcjibefbnckaaVtq
namespace Go.Proofs.Ytdlcjibefbnckaa.Wa
open Go Go.Weave
set_option maxRecDepth 100000
set_option linter.unusedSimpArgs false
set_option linter.unusedVariables false
set_option linter.unusedSectionVars false

theorem rof_loop (d : Nat) (f : Bool) (l : List KPair) (hl : l.length ≤ 900) (h : Heap) (Q : Res → Prop) : ∀ (n j k : Nat) (acc : List KPair) (tg : Hid Q), Srt acc → acc.length ≤ j → l.length = j + n → n < k →
    Run (P50_0 (d + 2) k f (prs l) (prs acc) j h) Q tg = Q ([.sl false 3 (prs ((l.drop j).foldl (fun acc p => lput p.key p.val acc) acc))], h) := by
  intro n
  induction n with
  | zero =>
    intro j k acc tg hs ha hj hk
    obtain ⟨k, rfl⟩ : ∃ m, k = m + 1 := ⟨k - 1, by omega⟩
    have hd : l.drop j = [] := List.drop_eq_nil_of_le (by omega)
    rw [P50_0_eq, hd]
    simp (disch := (first | assumption | (simp only [Bool.and_eq_true, Bool.and_eq_false_iff, decide_eq_true_eq, decide_eq_false_iff_not, bne_iff_ne, beq_iff_eq, beq_eq_false_iff_ne, bne_eq_false_iff_eq, Bool.not_eq_true', Bool.not_eq_false', bys_length, List.length_append, List.length_cons, List.length_nil, List.length_map, List.length_drop, List.length_take, Int.natCast_add, wrap_i64_eq, wrap_u64, wrap_u8, ne_eq, not_true_eq_false, not_false_eq_true, Nat.zero_add, Nat.mul_one] <;> omega) | omega | (simp; done) | (simp; omega))) only [↓at_runK, ↓at_bind, ↓contQ_mk, ↓at_ret, ↓at_consK, ↓at_nilK, ↓at_optK, ↓at_intK, ↓at_boolK, ↓at_strK, ↓at_slK, ↓at_slOK, ↓at_slK0, ↓at_slOK0, ↓at_aggK, ↓at_cond_t, ↓at_cond_f, ↓at_sameL, ↓at_any1, ↓at_any, and_self, toBytes_bys, List.nil_append, List.append_nil, ↓at_nodeW, List.drop_zero, List.take_succ_cons, List.take_zero, List.getElem?_cons_succ, List.getElem?_cons_zero, cells_agg, eqCells_cons, eqCells_nil, eq1_int, eq1_bool, eq1_str, ↓at_ptr_whole, ↓at_ptr_cell, ↓at_ptr_obj, ↓at_ptr_objs, shift_obj, shift_elt, toA_val, toA_own, Int.toNat_natCast, List.cons_append, prs_length]
    rfl
  | succ n ih =>
    intro j k acc tg hs ha hj hk
    obtain ⟨k, rfl⟩ : ∃ m, k = m + 1 := ⟨k - 1, by omega⟩
    have h1 : j < l.length := by omega
    have e1 := succ_wrap (i := j) (by omega)
    have hl' := lput_len_le (k := l[j].key) (v := l[j].val) hs
    have rp := fun (Q : Res → Prop) (tg : Hid Q) => rput31_run (d := d) (f := false) (l := acc) (s := l[j].key) (v := l[j].val) (h := h) (Q := Q) (tg := tg) hs (by omega)
    have ih' := fun tg => ih (j + 1) k (lput l[j].key l[j].val acc) tg hs.put (by omega) (by omega) (by omega)
    rw [P50_0_eq, List.drop_eq_getElem_cons h1, List.foldl_cons]
    simp (disch := (first | assumption | (simp only [Bool.and_eq_true, Bool.and_eq_false_iff, decide_eq_true_eq, decide_eq_false_iff_not, bne_iff_ne, beq_iff_eq, beq_eq_false_iff_ne, bne_eq_false_iff_eq, Bool.not_eq_true', Bool.not_eq_false', bys_length, List.length_append, List.length_cons, List.length_nil, List.length_map, List.length_drop, List.length_take, Int.natCast_add, wrap_i64_eq, wrap_u64, wrap_u8, ne_eq, not_true_eq_false, not_false_eq_true, Nat.zero_add, Nat.mul_one] <;> omega) | omega | (simp; done) | (simp; omega))) only [↓at_runK, ↓at_bind, ↓contQ_mk, ↓at_ret, ↓at_consK, ↓at_nilK, ↓at_optK, ↓at_intK, ↓at_boolK, ↓at_strK, ↓at_slK, ↓at_slOK, ↓at_slK0, ↓at_slOK0, ↓at_aggK, ↓at_cond_t, ↓at_cond_f, ↓at_sameL, ↓at_any1, ↓at_any, and_self, toBytes_bys, List.nil_append, List.append_nil, ↓at_nodeW, List.drop_zero, List.take_succ_cons, List.take_zero, List.getElem?_cons_succ, List.getElem?_cons_zero, cells_agg, eqCells_cons, eqCells_nil, eq1_int, eq1_bool, eq1_str, ↓at_ptr_whole, ↓at_ptr_cell, ↓at_ptr_obj, ↓at_ptr_objs, shift_obj, shift_elt, toA_val, toA_own, Int.toNat_natCast, List.cons_append, prs_length, prs_getD h1, rp, e1, ih']
theorem rof_run {d : Nat} {f : Bool} {l : List KPair} {h : Heap} {Q : Res → Prop} {tg : Hid Q} (hl : l.length ≤ 900) : Run (evFn Cw (d + 3) 50 [.sl f 3 (prs l)] h) Q tg = Q ([.sl false 3 (prs (ofL l))], h) := by
  have := rof_loop d f l hl h Q l.length 0 rounds [] ⟨⟩ List.Pairwise.nil (by simp) (by omega) (rounds_gt' (by omega))
  rw [List.drop_zero, e0, prs_nil] at this
  rw [F50_eq]
  exact this
theorem tabof_loop (d i ti : Nat) (f : Bool) (l : List KPair) (hl : l.length ≤ 900) (hkv : ∀ p ∈ l, p.key.length ≤ 140737488351232 ∧ p.val.length ≤ 140737488351232) : ∀ (n j k : Nat) (t : Nd) (h : Heap), IsTab h i ti t → t.toL.length ≤ j → l.length = j + n → n < k →
    ∃ t', IsTab (tabH h i ti t') i ti t' ∧ t'.toL = (l.drop j).foldl (fun acc p => lput p.key p.val acc) t.toL ∧ ∀ (Q : Res → Prop) (tg : Hid Q),
      Run (P51_0 (d + 1020) k (.obj i 0) f (prs l) (l.length : Int) j h) Q tg = Q ([.obj i 0], tabH h i ti t') := by
  intro n
  induction n with
  | zero =>
    intro j k t h T ha hj hk
    obtain ⟨k, rfl⟩ : ∃ m, k = m + 1 := ⟨k - 1, by omega⟩
    have hd : l.drop j = [] := List.drop_eq_nil_of_le (by omega)
    refine ⟨t, by rw [tabH_self T]; exact T, by rw [hd]; rfl, fun Q tg => ?_⟩
    rw [tabH_self T, P51_0_eq]
    simp (disch := (first | assumption | (simp only [Bool.and_eq_true, Bool.and_eq_false_iff, decide_eq_true_eq, decide_eq_false_iff_not, bne_iff_ne, beq_iff_eq, beq_eq_false_iff_ne, bne_eq_false_iff_eq, Bool.not_eq_true', Bool.not_eq_false', bys_length, List.length_append, List.length_cons, List.length_nil, List.length_map, List.length_drop, List.length_take, Int.natCast_add, wrap_i64_eq, wrap_u64, wrap_u8, ne_eq, not_true_eq_false, not_false_eq_true, Nat.zero_add, Nat.mul_one] <;> omega) | omega | (simp; done) | (simp; omega))) only [↓at_runK, ↓at_bind, ↓contQ_mk, ↓at_ret, ↓at_consK, ↓at_nilK, ↓at_optK, ↓at_intK, ↓at_boolK, ↓at_strK, ↓at_slK, ↓at_slOK, ↓at_slK0, ↓at_slOK0, ↓at_aggK, ↓at_cond_t, ↓at_cond_f, ↓at_sameL, ↓at_any1, ↓at_any, and_self, toBytes_bys, List.nil_append, List.append_nil, ↓at_nodeW, List.drop_zero, List.take_succ_cons, List.take_zero, List.getElem?_cons_succ, List.getElem?_cons_zero, cells_agg, eqCells_cons, eqCells_nil, eq1_int, eq1_bool, eq1_str, ↓at_ptr_whole, ↓at_ptr_cell, ↓at_ptr_obj, ↓at_ptr_objs, shift_obj, shift_elt, toA_val, toA_own, Int.toNat_natCast, List.cons_append]
  | succ n ih =>
    intro j k t h T ha hj hk
    obtain ⟨k, rfl⟩ : ∃ m, k = m + 1 := ⟨k - 1, by omega⟩
    have h1 : j < l.length := by omega
    have e1 := succ_wrap (i := j) (by omega)
    have hok := hkv _ (List.getElem_mem h1)
    have rp := fun (Q : Res → Prop) (tg : Hid Q) => tabput_run (d := d + 1019) (k := l[j].key) (v := l[j].val) (Q := Q) (tg := tg) T (by omega) hok.1 hok.2 (by omega)
    obtain ⟨ok', hP⟩ := T.ok.put l[j].key l[j].val (by omega)
    have T1 := T.step ok' (by rw [hP]; exact lput_kv hok.1 hok.2 T.kv)
    have hlen' : (t.put l[j].key l[j].val).toL.length ≤ j + 1 := by rw [hP]; have := lput_len_le (k := l[j].key) (v := l[j].val) T.ok.srt; omega
    obtain ⟨t', T', hL, r⟩ := ih (j + 1) k _ _ T1 hlen' (by omega) (by omega)
    rw [tabH_tabH T.ne] at T' r
    refine ⟨t', T', by rw [List.drop_eq_getElem_cons h1, List.foldl_cons, hL, hP], fun Q tg => ?_⟩
    rw [P51_0_eq]
    simp (disch := (first | assumption | (simp only [Bool.and_eq_true, Bool.and_eq_false_iff, decide_eq_true_eq, decide_eq_false_iff_not, bne_iff_ne, beq_iff_eq, beq_eq_false_iff_ne, bne_eq_false_iff_eq, Bool.not_eq_true', Bool.not_eq_false', bys_length, List.length_append, List.length_cons, List.length_nil, List.length_map, List.length_drop, List.length_take, Int.natCast_add, wrap_i64_eq, wrap_u64, wrap_u8, ne_eq, not_true_eq_false, not_false_eq_true, Nat.zero_add, Nat.mul_one] <;> omega) | omega | (simp; done) | (simp; omega))) only [↓at_runK, ↓at_bind, ↓contQ_mk, ↓at_ret, ↓at_consK, ↓at_nilK, ↓at_optK, ↓at_intK, ↓at_boolK, ↓at_strK, ↓at_slK, ↓at_slOK, ↓at_slK0, ↓at_slOK0, ↓at_aggK, ↓at_cond_t, ↓at_cond_f, ↓at_sameL, ↓at_any1, ↓at_any, and_self, toBytes_bys, List.nil_append, List.append_nil, ↓at_nodeW, List.drop_zero, List.take_succ_cons, List.take_zero, List.getElem?_cons_succ, List.getElem?_cons_zero, cells_agg, eqCells_cons, eqCells_nil, eq1_int, eq1_bool, eq1_str, ↓at_ptr_whole, ↓at_ptr_cell, ↓at_ptr_obj, ↓at_ptr_objs, shift_obj, shift_elt, toA_val, toA_own, Int.toNat_natCast, List.cons_append, prs_length, prs_getD h1, rp, e1, r]
theorem tabof_run (d : Nat) (f : Bool) (l : List KPair) (hl : l.length ≤ 900) (hkv : ∀ p ∈ l, p.key.length ≤ 140737488351232 ∧ p.val.length ≤ 140737488351232) (h : Heap) :
    ∃ t h', h.ext h' ∧ IsTab h' (h.objs.length + 1) h.objs.length t ∧ t.toL = ofL l ∧ ∀ (Q : Res → Prop) (tg : Hid Q), Run (evFn Cw (d + 1021) 51 [.sl f 3 (prs l)] h) Q tg = Q ([.obj (h.objs.length + 1) 0], h') := by
  obtain ⟨E, T⟩ := tabnew_is h
  obtain ⟨t, T', hL, r⟩ := tabof_loop d (h.objs.length + 1) h.objs.length f l hl hkv l.length 0 rounds .nil _ T (Nat.le_refl _) (by omega) (rounds_gt' (by omega))
  rw [List.drop_zero] at hL
  rw [e0] at r
  refine ⟨t, _, tabH_ext E (by omega) (Nat.le_refl _), T', hL, fun Q tg => ?_⟩
  rw [F51_eq]
  simp (disch := (first | assumption | (simp only [Bool.and_eq_true, Bool.and_eq_false_iff, decide_eq_true_eq, decide_eq_false_iff_not, bne_iff_ne, beq_iff_eq, beq_eq_false_iff_ne, bne_eq_false_iff_eq, Bool.not_eq_true', Bool.not_eq_false', bys_length, List.length_append, List.length_cons, List.length_nil, List.length_map, List.length_drop, List.length_take, Int.natCast_add, wrap_i64_eq, wrap_u64, wrap_u8, ne_eq, not_true_eq_false, not_false_eq_true, Nat.zero_add, Nat.mul_one] <;> omega) | omega | (simp; done) | (simp; omega))) only [↓at_runK, ↓at_bind, ↓contQ_mk, ↓at_ret, ↓at_consK, ↓at_nilK, ↓at_optK, ↓at_intK, ↓at_boolK, ↓at_strK, ↓at_slK, ↓at_slOK, ↓at_slK0, ↓at_slOK0, ↓at_aggK, ↓at_cond_t, ↓at_cond_f, ↓at_sameL, ↓at_any1, ↓at_any, and_self, toBytes_bys, List.nil_append, List.append_nil, ↓at_nodeW, List.drop_zero, List.take_succ_cons, List.take_zero, List.getElem?_cons_succ, List.getElem?_cons_zero, cells_agg, eqCells_cons, eqCells_nil, eq1_int, eq1_bool, eq1_str, ↓at_ptr_whole, ↓at_ptr_cell, ↓at_ptr_obj, ↓at_ptr_objs, shift_obj, shift_elt, toA_val, toA_own, Int.toNat_natCast, List.cons_append, tabnew_run, prs_length, r]
theorem prs_append (a b : List KPair) : prs a ++ prs b = prs (a ++ b) := by simp [prs]
theorem str_beq_ff {a b : List UInt8} (h : ¬ a = b) : (a == b) = false := by simpa using h
theorem rdiff_loop (d : Nat) (f g : Bool) (x y keys : List KPair) (hx : x.length ≤ 900) (hy : y.length ≤ 900) (hk0 : keys.length ≤ 2000) (h : Heap) (Q : Res → Prop) : ∀ (n j k : Nat) (out : List KOp) (tg : Hid Q), out.length ≤ j → keys.length = j + n → n < k →
    Run (P53_0 (d + 1) k f (prs x) g (prs y) (prs keys) (kops out) j h) Q tg = Q ([.sl false 4 (kops (out ++ rdiffL x y (keys.drop j)))], h) := by
  intro n
  induction n with
  | zero =>
    intro j k out tg ho hj hk
    obtain ⟨k, rfl⟩ : ∃ m, k = m + 1 := ⟨k - 1, by omega⟩
    have hd : keys.drop j = [] := List.drop_eq_nil_of_le (by omega)
    have e : out ++ rdiffL x y [] = out := by simp [rdiffL]
    rw [P53_0_eq, hd, e]
    simp (disch := (first | assumption | (simp only [Bool.and_eq_true, Bool.and_eq_false_iff, decide_eq_true_eq, decide_eq_false_iff_not, bne_iff_ne, beq_iff_eq, beq_eq_false_iff_ne, bne_eq_false_iff_eq, Bool.not_eq_true', Bool.not_eq_false', bys_length, List.length_append, List.length_cons, List.length_nil, List.length_map, List.length_drop, List.length_take, Int.natCast_add, wrap_i64_eq, wrap_u64, wrap_u8, ne_eq, not_true_eq_false, not_false_eq_true, Nat.zero_add, Nat.mul_one] <;> omega) | omega | (simp; done) | (simp; omega))) only [↓at_runK, ↓at_bind, ↓contQ_mk, ↓at_ret, ↓at_consK, ↓at_nilK, ↓at_optK, ↓at_intK, ↓at_boolK, ↓at_strK, ↓at_slK, ↓at_slOK, ↓at_slK0, ↓at_slOK0, ↓at_aggK, ↓at_cond_t, ↓at_cond_f, ↓at_sameL, ↓at_any1, ↓at_any, and_self, toBytes_bys, List.nil_append, List.append_nil, ↓at_nodeW, List.drop_zero, List.take_succ_cons, List.take_zero, List.getElem?_cons_succ, List.getElem?_cons_zero, cells_agg, eqCells_cons, eqCells_nil, eq1_int, eq1_bool, eq1_str, ↓at_ptr_whole, ↓at_ptr_cell, ↓at_ptr_obj, ↓at_ptr_objs, shift_obj, shift_elt, toA_val, toA_own, Int.toNat_natCast, List.cons_append, prs_length]
  | succ n ih =>
    intro j k out tg ho hj hk
    obtain ⟨k, rfl⟩ : ∃ m, k = m + 1 := ⟨k - 1, by omega⟩
    have h1 : j < keys.length := by omega
    have e1 := succ_wrap (i := j) (by omega)
    have rx := fun (Q : Res → Prop) (tg : Hid Q) => rget31_run (d := d) (f := f) (l := x) (s := keys[j].key) (h := h) (Q := Q) (tg := tg) (by omega)
    have ry := fun (Q : Res → Prop) (tg : Hid Q) => rget31_run (d := d) (f := g) (l := y) (s := keys[j].key) (h := h) (Q := Q) (tg := tg) (by omega)
    rw [List.drop_eq_getElem_cons h1, rdiff_cons, ← List.append_assoc]
    have ih1 := fun (o : KOp) tg => ih (j + 1) k (out ++ [o]) tg (by simp; omega) (by omega) (by omega)
    have ih0 := fun tg => ih (j + 1) k out tg (by omega) (by omega) (by omega)
    have e2 : kops out ++ [.agg [.int .i64 2, .str keys[j].key, .str []]] = kops (out ++ [delO keys[j].key]) := kops_snoc out (delO keys[j].key)
    have e3 : ∀ v, kops out ++ [.agg [.int .i64 1, .str keys[j].key, .str v]] = kops (out ++ [⟨1, keys[j].key, v⟩]) := fun v => kops_snoc out ⟨1, keys[j].key, v⟩
    rw [P53_0_eq]
    cases hax : (lget keys[j].key x).isSome <;> cases hay : (lget keys[j].key y).isSome <;> rw [hax] at rx <;> rw [hay] at ry
    · have e : dst x y keys[j].key = [⟨1, keys[j].key, oVal (lget keys[j].key y)⟩] := by unfold dst; rw [hax, hay]; rfl
      rw [e]
      simp (disch := (first | assumption | (simp only [Bool.and_eq_true, Bool.and_eq_false_iff, decide_eq_true_eq, decide_eq_false_iff_not, bne_iff_ne, beq_iff_eq, beq_eq_false_iff_ne, bne_eq_false_iff_eq, Bool.not_eq_true', Bool.not_eq_false', bys_length, List.length_append, List.length_cons, List.length_nil, List.length_map, List.length_drop, List.length_take, Int.natCast_add, wrap_i64_eq, wrap_u64, wrap_u8, ne_eq, not_true_eq_false, not_false_eq_true, Nat.zero_add, Nat.mul_one] <;> omega) | omega | (simp; done) | (simp; omega))) only [↓at_runK, ↓at_bind, ↓contQ_mk, ↓at_ret, ↓at_consK, ↓at_nilK, ↓at_optK, ↓at_intK, ↓at_boolK, ↓at_strK, ↓at_slK, ↓at_slOK, ↓at_slK0, ↓at_slOK0, ↓at_aggK, ↓at_cond_t, ↓at_cond_f, ↓at_sameL, ↓at_any1, ↓at_any, and_self, toBytes_bys, List.nil_append, List.append_nil, ↓at_nodeW, List.drop_zero, List.take_succ_cons, List.take_zero, List.getElem?_cons_succ, List.getElem?_cons_zero, cells_agg, eqCells_cons, eqCells_nil, eq1_int, eq1_bool, eq1_str, ↓at_ptr_whole, ↓at_ptr_cell, ↓at_ptr_obj, ↓at_ptr_objs, shift_obj, shift_elt, toA_val, toA_own, Int.toNat_natCast, List.cons_append, prs_length, prs_getD h1, rx, ry, Bool.not_false, Bool.not_true, kops_length, e3, e1, ih1]
    · have e : dst x y keys[j].key = [⟨1, keys[j].key, oVal (lget keys[j].key y)⟩] := by unfold dst; rw [hax, hay]; rfl
      rw [e]
      simp (disch := (first | assumption | (simp only [Bool.and_eq_true, Bool.and_eq_false_iff, decide_eq_true_eq, decide_eq_false_iff_not, bne_iff_ne, beq_iff_eq, beq_eq_false_iff_ne, bne_eq_false_iff_eq, Bool.not_eq_true', Bool.not_eq_false', bys_length, List.length_append, List.length_cons, List.length_nil, List.length_map, List.length_drop, List.length_take, Int.natCast_add, wrap_i64_eq, wrap_u64, wrap_u8, ne_eq, not_true_eq_false, not_false_eq_true, Nat.zero_add, Nat.mul_one] <;> omega) | omega | (simp; done) | (simp; omega))) only [↓at_runK, ↓at_bind, ↓contQ_mk, ↓at_ret, ↓at_consK, ↓at_nilK, ↓at_optK, ↓at_intK, ↓at_boolK, ↓at_strK, ↓at_slK, ↓at_slOK, ↓at_slK0, ↓at_slOK0, ↓at_aggK, ↓at_cond_t, ↓at_cond_f, ↓at_sameL, ↓at_any1, ↓at_any, and_self, toBytes_bys, List.nil_append, List.append_nil, ↓at_nodeW, List.drop_zero, List.take_succ_cons, List.take_zero, List.getElem?_cons_succ, List.getElem?_cons_zero, cells_agg, eqCells_cons, eqCells_nil, eq1_int, eq1_bool, eq1_str, ↓at_ptr_whole, ↓at_ptr_cell, ↓at_ptr_obj, ↓at_ptr_objs, shift_obj, shift_elt, toA_val, toA_own, Int.toNat_natCast, List.cons_append, prs_length, prs_getD h1, rx, ry, Bool.not_false, Bool.not_true, kops_length, e3, e1, ih1]
    · have e : dst x y keys[j].key = [delO keys[j].key] := by unfold dst; rw [hax, hay]; rfl
      rw [e]
      simp (disch := (first | assumption | (simp only [Bool.and_eq_true, Bool.and_eq_false_iff, decide_eq_true_eq, decide_eq_false_iff_not, bne_iff_ne, beq_iff_eq, beq_eq_false_iff_ne, bne_eq_false_iff_eq, Bool.not_eq_true', Bool.not_eq_false', bys_length, List.length_append, List.length_cons, List.length_nil, List.length_map, List.length_drop, List.length_take, Int.natCast_add, wrap_i64_eq, wrap_u64, wrap_u8, ne_eq, not_true_eq_false, not_false_eq_true, Nat.zero_add, Nat.mul_one] <;> omega) | omega | (simp; done) | (simp; omega))) only [↓at_runK, ↓at_bind, ↓contQ_mk, ↓at_ret, ↓at_consK, ↓at_nilK, ↓at_optK, ↓at_intK, ↓at_boolK, ↓at_strK, ↓at_slK, ↓at_slOK, ↓at_slK0, ↓at_slOK0, ↓at_aggK, ↓at_cond_t, ↓at_cond_f, ↓at_sameL, ↓at_any1, ↓at_any, and_self, toBytes_bys, List.nil_append, List.append_nil, ↓at_nodeW, List.drop_zero, List.take_succ_cons, List.take_zero, List.getElem?_cons_succ, List.getElem?_cons_zero, cells_agg, eqCells_cons, eqCells_nil, eq1_int, eq1_bool, eq1_str, ↓at_ptr_whole, ↓at_ptr_cell, ↓at_ptr_obj, ↓at_ptr_objs, shift_obj, shift_elt, toA_val, toA_own, Int.toNat_natCast, List.cons_append, prs_length, prs_getD h1, rx, ry, Bool.not_false, Bool.not_true, kops_length, e2, e1, ih1]
    · by_cases c : oVal (lget keys[j].key x) = oVal (lget keys[j].key y)
      · have c' : (oVal (lget keys[j].key x) == oVal (lget keys[j].key y)) = true := by simp [c]
        have e : dst x y keys[j].key = [] := by unfold dst; rw [hax, hay, c']; rfl
        rw [e, List.append_nil]
        simp (disch := (first | assumption | (simp only [Bool.and_eq_true, Bool.and_eq_false_iff, decide_eq_true_eq, decide_eq_false_iff_not, bne_iff_ne, beq_iff_eq, beq_eq_false_iff_ne, bne_eq_false_iff_eq, Bool.not_eq_true', Bool.not_eq_false', bys_length, List.length_append, List.length_cons, List.length_nil, List.length_map, List.length_drop, List.length_take, Int.natCast_add, wrap_i64_eq, wrap_u64, wrap_u8, ne_eq, not_true_eq_false, not_false_eq_true, Nat.zero_add, Nat.mul_one] <;> omega) | omega | (simp; done) | (simp; omega))) only [↓at_runK, ↓at_bind, ↓contQ_mk, ↓at_ret, ↓at_consK, ↓at_nilK, ↓at_optK, ↓at_intK, ↓at_boolK, ↓at_strK, ↓at_slK, ↓at_slOK, ↓at_slK0, ↓at_slOK0, ↓at_aggK, ↓at_cond_t, ↓at_cond_f, ↓at_sameL, ↓at_any1, ↓at_any, and_self, toBytes_bys, List.nil_append, List.append_nil, ↓at_nodeW, List.drop_zero, List.take_succ_cons, List.take_zero, List.getElem?_cons_succ, List.getElem?_cons_zero, cells_agg, eqCells_cons, eqCells_nil, eq1_int, eq1_bool, eq1_str, ↓at_ptr_whole, ↓at_ptr_cell, ↓at_ptr_obj, ↓at_ptr_objs, shift_obj, shift_elt, toA_val, toA_own, Int.toNat_natCast, List.cons_append, prs_length, prs_getD h1, rx, ry, Bool.not_true, c', kops_length, e1, ih0]
      · have c' := str_beq_ff c
        have e : dst x y keys[j].key = [⟨1, keys[j].key, oVal (lget keys[j].key y)⟩] := by unfold dst; rw [hax, hay, c']; rfl
        rw [e]
        simp (disch := (first | assumption | (simp only [Bool.and_eq_true, Bool.and_eq_false_iff, decide_eq_true_eq, decide_eq_false_iff_not, bne_iff_ne, beq_iff_eq, beq_eq_false_iff_ne, bne_eq_false_iff_eq, Bool.not_eq_true', Bool.not_eq_false', bys_length, List.length_append, List.length_cons, List.length_nil, List.length_map, List.length_drop, List.length_take, Int.natCast_add, wrap_i64_eq, wrap_u64, wrap_u8, ne_eq, not_true_eq_false, not_false_eq_true, Nat.zero_add, Nat.mul_one] <;> omega) | omega | (simp; done) | (simp; omega))) only [↓at_runK, ↓at_bind, ↓contQ_mk, ↓at_ret, ↓at_consK, ↓at_nilK, ↓at_optK, ↓at_intK, ↓at_boolK, ↓at_strK, ↓at_slK, ↓at_slOK, ↓at_slK0, ↓at_slOK0, ↓at_aggK, ↓at_cond_t, ↓at_cond_f, ↓at_sameL, ↓at_any1, ↓at_any, and_self, toBytes_bys, List.nil_append, List.append_nil, ↓at_nodeW, List.drop_zero, List.take_succ_cons, List.take_zero, List.getElem?_cons_succ, List.getElem?_cons_zero, cells_agg, eqCells_cons, eqCells_nil, eq1_int, eq1_bool, eq1_str, ↓at_ptr_whole, ↓at_ptr_cell, ↓at_ptr_obj, ↓at_ptr_objs, shift_obj, shift_elt, toA_val, toA_own, Int.toNat_natCast, List.cons_append, prs_length, prs_getD h1, rx, ry, Bool.not_false, Bool.not_true, c', kops_length, e3, e1, ih1]
theorem rdiff_run {d : Nat} {f g : Bool} {x y : List KPair} {h : Heap} {Q : Res → Prop} {tg : Hid Q} (hx : Srt x) (hy : Srt y) (lx : x.length ≤ 400) (ly : y.length ≤ 400) :
    Run (evFn Cw (d + 4) 53 [.sl f 3 (prs x), .sl g 3 (prs y)] h) Q tg = Q ([.sl false 4 (kops (diffL x y))], h) := by
  have hl : (ofL (x ++ y)).length ≤ 900 := by have := ofs_len (x ++ y) [] List.Pairwise.nil; rw [List.length_append] at this; unfold ofL; simp only [List.length_nil] at this; omega
  have ro := fun (Q : Res → Prop) (tg : Hid Q) => rof_run (d := d) (f := false) (l := x ++ y) (h := h) (Q := Q) (tg := tg) (by rw [List.length_append]; omega)
  have r := rdiff_loop (d + 2) f g x y (ofL (x ++ y)) (by omega) (by omega) (by omega) h Q (ofL (x ++ y)).length 0 rounds [] ⟨⟩ (by simp) (by omega) (rounds_gt' (by omega))
  rw [List.drop_zero, e0, kops_nil, List.nil_append, rdiff_diff hx hy] at r
  rw [F53_eq]
  simp (disch := (first | assumption | (simp only [Bool.and_eq_true, Bool.and_eq_false_iff, decide_eq_true_eq, decide_eq_false_iff_not, bne_iff_ne, beq_iff_eq, beq_eq_false_iff_ne, bne_eq_false_iff_eq, Bool.not_eq_true', Bool.not_eq_false', bys_length, List.length_append, List.length_cons, List.length_nil, List.length_map, List.length_drop, List.length_take, Int.natCast_add, wrap_i64_eq, wrap_u64, wrap_u8, ne_eq, not_true_eq_false, not_false_eq_true, Nat.zero_add, Nat.mul_one] <;> omega) | omega | (simp; done) | (simp; omega))) only [↓at_runK, ↓at_bind, ↓contQ_mk, ↓at_ret, ↓at_consK, ↓at_nilK, ↓at_optK, ↓at_intK, ↓at_boolK, ↓at_strK, ↓at_slK, ↓at_slOK, ↓at_slK0, ↓at_slOK0, ↓at_aggK, ↓at_cond_t, ↓at_cond_f, ↓at_sameL, ↓at_any1, ↓at_any, and_self, toBytes_bys, List.nil_append, List.append_nil, ↓at_nodeW, List.drop_zero, List.take_succ_cons, List.take_zero, List.getElem?_cons_succ, List.getElem?_cons_zero, cells_agg, eqCells_cons, eqCells_nil, eq1_int, eq1_bool, eq1_str, ↓at_ptr_whole, ↓at_ptr_cell, ↓at_ptr_obj, ↓at_ptr_objs, shift_obj, shift_elt, toA_val, toA_own, Int.toNat_natCast, List.cons_append, prs_length, prs_append, ro, r]
theorem r10same_loop (d : Nat) (f g : Bool) (l : List KOp) (hl : l.length ≤ 1000) (h : Heap) (Q : Res → Prop) : ∀ (n j k : Nat) (tg : Hid Q), l.length = j + n → n < k →
    Run (P52_0 d k f (kops l) g (kops l) j h) Q tg = Q ([.bool true], h) := by
  intro n
  induction n with
  | zero =>
    intro j k tg hj hk
    obtain ⟨k, rfl⟩ : ∃ m, k = m + 1 := ⟨k - 1, by omega⟩
    rw [P52_0_eq]
    simp (disch := (first | assumption | (simp only [Bool.and_eq_true, Bool.and_eq_false_iff, decide_eq_true_eq, decide_eq_false_iff_not, bne_iff_ne, beq_iff_eq, beq_eq_false_iff_ne, bne_eq_false_iff_eq, Bool.not_eq_true', Bool.not_eq_false', bys_length, List.length_append, List.length_cons, List.length_nil, List.length_map, List.length_drop, List.length_take, Int.natCast_add, wrap_i64_eq, wrap_u64, wrap_u8, ne_eq, not_true_eq_false, not_false_eq_true, Nat.zero_add, Nat.mul_one] <;> omega) | omega | (simp; done) | (simp; omega))) only [↓at_runK, ↓at_bind, ↓contQ_mk, ↓at_ret, ↓at_consK, ↓at_nilK, ↓at_optK, ↓at_intK, ↓at_boolK, ↓at_strK, ↓at_slK, ↓at_slOK, ↓at_slK0, ↓at_slOK0, ↓at_aggK, ↓at_cond_t, ↓at_cond_f, ↓at_sameL, ↓at_any1, ↓at_any, and_self, toBytes_bys, List.nil_append, List.append_nil, ↓at_nodeW, List.drop_zero, List.take_succ_cons, List.take_zero, List.getElem?_cons_succ, List.getElem?_cons_zero, cells_agg, eqCells_cons, eqCells_nil, eq1_int, eq1_bool, eq1_str, ↓at_ptr_whole, ↓at_ptr_cell, ↓at_ptr_obj, ↓at_ptr_objs, shift_obj, shift_elt, toA_val, toA_own, Int.toNat_natCast, List.cons_append, kops_length]
  | succ n ih =>
    intro j k tg hj hk
    obtain ⟨k, rfl⟩ : ∃ m, k = m + 1 := ⟨k - 1, by omega⟩
    have h1 : j < l.length := by omega
    have e1 := succ_wrap (i := j) (by omega)
    have bi : ∀ x : Int, (x == x) = true := fun b => by simp
    have ih' := fun tg => ih (j + 1) k tg (by omega) (by omega)
    rw [P52_0_eq]
    simp (disch := (first | assumption | (simp only [Bool.and_eq_true, Bool.and_eq_false_iff, decide_eq_true_eq, decide_eq_false_iff_not, bne_iff_ne, beq_iff_eq, beq_eq_false_iff_ne, bne_eq_false_iff_eq, Bool.not_eq_true', Bool.not_eq_false', bys_length, List.length_append, List.length_cons, List.length_nil, List.length_map, List.length_drop, List.length_take, Int.natCast_add, wrap_i64_eq, wrap_u64, wrap_u8, ne_eq, not_true_eq_false, not_false_eq_true, Nat.zero_add, Nat.mul_one] <;> omega) | omega | (simp; done) | (simp; omega))) only [↓at_runK, ↓at_bind, ↓contQ_mk, ↓at_ret, ↓at_consK, ↓at_nilK, ↓at_optK, ↓at_intK, ↓at_boolK, ↓at_strK, ↓at_slK, ↓at_slOK, ↓at_slK0, ↓at_slOK0, ↓at_aggK, ↓at_cond_t, ↓at_cond_f, ↓at_sameL, ↓at_any1, ↓at_any, and_self, toBytes_bys, List.nil_append, List.append_nil, ↓at_nodeW, List.drop_zero, List.take_succ_cons, List.take_zero, List.getElem?_cons_succ, List.getElem?_cons_zero, cells_agg, eqCells_cons, eqCells_nil, eq1_int, eq1_bool, eq1_str, ↓at_ptr_whole, ↓at_ptr_cell, ↓at_ptr_obj, ↓at_ptr_objs, shift_obj, shift_elt, toA_val, toA_own, Int.toNat_natCast, List.cons_append, kops_length, kops_getD h1, plain63, Bool.and_self, str_beq_self, bi, Bool.not_true, e1, ih']
theorem r10same_run {d : Nat} {f g : Bool} {l : List KOp} {h : Heap} {Q : Res → Prop} {tg : Hid Q} (hl : l.length ≤ 1000) : Run (evFn Cw (d + 1) 52 [.sl f 4 (kops l), .sl g 4 (kops l)] h) Q tg = Q ([.bool true], h) := by
  have := r10same_loop d f g l hl h Q l.length 0 rounds ⟨⟩ (by omega) (rounds_gt' (by omega))
  rw [e0] at this
  have bi : ∀ x : Int, (x != x) = false := fun b => by simp
  rw [F52_eq]
  simp (disch := (first | assumption | (simp only [Bool.and_eq_true, Bool.and_eq_false_iff, decide_eq_true_eq, decide_eq_false_iff_not, bne_iff_ne, beq_iff_eq, beq_eq_false_iff_ne, bne_eq_false_iff_eq, Bool.not_eq_true', Bool.not_eq_false', bys_length, List.length_append, List.length_cons, List.length_nil, List.length_map, List.length_drop, List.length_take, Int.natCast_add, wrap_i64_eq, wrap_u64, wrap_u8, ne_eq, not_true_eq_false, not_false_eq_true, Nat.zero_add, Nat.mul_one] <;> omega) | omega | (simp; done) | (simp; omega))) only [↓at_runK, ↓at_bind, ↓contQ_mk, ↓at_ret, ↓at_consK, ↓at_nilK, ↓at_optK, ↓at_intK, ↓at_boolK, ↓at_strK, ↓at_slK, ↓at_slOK, ↓at_slK0, ↓at_slOK0, ↓at_aggK, ↓at_cond_t, ↓at_cond_f, ↓at_sameL, ↓at_any1, ↓at_any, and_self, toBytes_bys, List.nil_append, List.append_nil, ↓at_nodeW, List.drop_zero, List.take_succ_cons, List.take_zero, List.getElem?_cons_succ, List.getElem?_cons_zero, cells_agg, eqCells_cons, eqCells_nil, eq1_int, eq1_bool, eq1_str, ↓at_ptr_whole, ↓at_ptr_cell, ↓at_ptr_obj, ↓at_ptr_objs, shift_obj, shift_elt, toA_val, toA_own, Int.toNat_natCast, List.cons_append, kops_length, bi, this]
theorem same31g_loop (d : Nat) (f g : Bool) (a b : List KPair) (hl : a.length ≤ 1000) (he : a.length = b.length) (h : Heap) (Q : Res → Prop) : ∀ (n j k : Nat) (tg : Hid Q), a.length = j + n → n < k →
    Run (P36_0 d k f (prs a) g (prs b) j h) Q tg = Q ([.bool (eqLB (a.drop j) (b.drop j))], h) := by
  intro n
  induction n with
  | zero =>
    intro j k tg hj hk
    obtain ⟨k, rfl⟩ : ∃ m, k = m + 1 := ⟨k - 1, by omega⟩
    have hd : a.drop j = [] := List.drop_eq_nil_of_le (by omega)
    have hd' : b.drop j = [] := List.drop_eq_nil_of_le (by omega)
    rw [P36_0_eq, hd, hd']
    simp (disch := (first | assumption | (simp only [Bool.and_eq_true, Bool.and_eq_false_iff, decide_eq_true_eq, decide_eq_false_iff_not, bne_iff_ne, beq_iff_eq, beq_eq_false_iff_ne, bne_eq_false_iff_eq, Bool.not_eq_true', Bool.not_eq_false', bys_length, List.length_append, List.length_cons, List.length_nil, List.length_map, List.length_drop, List.length_take, Int.natCast_add, wrap_i64_eq, wrap_u64, wrap_u8, ne_eq, not_true_eq_false, not_false_eq_true, Nat.zero_add, Nat.mul_one] <;> omega) | omega | (simp; done) | (simp; omega))) only [↓at_runK, ↓at_bind, ↓contQ_mk, ↓at_ret, ↓at_consK, ↓at_nilK, ↓at_optK, ↓at_intK, ↓at_boolK, ↓at_strK, ↓at_slK, ↓at_slOK, ↓at_slK0, ↓at_slOK0, ↓at_aggK, ↓at_cond_t, ↓at_cond_f, ↓at_sameL, ↓at_any1, ↓at_any, and_self, toBytes_bys, List.nil_append, List.append_nil, ↓at_nodeW, List.drop_zero, List.take_succ_cons, List.take_zero, List.getElem?_cons_succ, List.getElem?_cons_zero, cells_agg, eqCells_cons, eqCells_nil, eq1_int, eq1_bool, eq1_str, ↓at_ptr_whole, ↓at_ptr_cell, ↓at_ptr_obj, ↓at_ptr_objs, shift_obj, shift_elt, toA_val, toA_own, Int.toNat_natCast, List.cons_append, prs_length]
    rfl
  | succ n ih =>
    intro j k tg hj hk
    obtain ⟨k, rfl⟩ : ∃ m, k = m + 1 := ⟨k - 1, by omega⟩
    have h1 : j < a.length := by omega
    have h2 : j < b.length := by omega
    have e1 := succ_wrap (i := j) (by omega)
    have ih' := fun tg => ih (j + 1) k tg (by omega) (by omega)
    rw [P36_0_eq, List.drop_eq_getElem_cons h1, List.drop_eq_getElem_cons h2]
    unfold eqLB
    cases c1 : a[j].key == b[j].key
    · simp (disch := (first | assumption | (simp only [Bool.and_eq_true, Bool.and_eq_false_iff, decide_eq_true_eq, decide_eq_false_iff_not, bne_iff_ne, beq_iff_eq, beq_eq_false_iff_ne, bne_eq_false_iff_eq, Bool.not_eq_true', Bool.not_eq_false', bys_length, List.length_append, List.length_cons, List.length_nil, List.length_map, List.length_drop, List.length_take, Int.natCast_add, wrap_i64_eq, wrap_u64, wrap_u8, ne_eq, not_true_eq_false, not_false_eq_true, Nat.zero_add, Nat.mul_one] <;> omega) | omega | (simp; done) | (simp; omega))) only [↓at_runK, ↓at_bind, ↓contQ_mk, ↓at_ret, ↓at_consK, ↓at_nilK, ↓at_optK, ↓at_intK, ↓at_boolK, ↓at_strK, ↓at_slK, ↓at_slOK, ↓at_slK0, ↓at_slOK0, ↓at_aggK, ↓at_cond_t, ↓at_cond_f, ↓at_sameL, ↓at_any1, ↓at_any, and_self, toBytes_bys, List.nil_append, List.append_nil, ↓at_nodeW, List.drop_zero, List.take_succ_cons, List.take_zero, List.getElem?_cons_succ, List.getElem?_cons_zero, cells_agg, eqCells_cons, eqCells_nil, eq1_int, eq1_bool, eq1_str, ↓at_ptr_whole, ↓at_ptr_cell, ↓at_ptr_obj, ↓at_ptr_objs, shift_obj, shift_elt, toA_val, toA_own, Int.toNat_natCast, List.cons_append, prs_length, prs_getD h1, prs_getD h2, plain43, Bool.and_self, c1, Bool.false_and, Bool.not_false]
    · cases c2 : a[j].val == b[j].val
      · simp (disch := (first | assumption | (simp only [Bool.and_eq_true, Bool.and_eq_false_iff, decide_eq_true_eq, decide_eq_false_iff_not, bne_iff_ne, beq_iff_eq, beq_eq_false_iff_ne, bne_eq_false_iff_eq, Bool.not_eq_true', Bool.not_eq_false', bys_length, List.length_append, List.length_cons, List.length_nil, List.length_map, List.length_drop, List.length_take, Int.natCast_add, wrap_i64_eq, wrap_u64, wrap_u8, ne_eq, not_true_eq_false, not_false_eq_true, Nat.zero_add, Nat.mul_one] <;> omega) | omega | (simp; done) | (simp; omega))) only [↓at_runK, ↓at_bind, ↓contQ_mk, ↓at_ret, ↓at_consK, ↓at_nilK, ↓at_optK, ↓at_intK, ↓at_boolK, ↓at_strK, ↓at_slK, ↓at_slOK, ↓at_slK0, ↓at_slOK0, ↓at_aggK, ↓at_cond_t, ↓at_cond_f, ↓at_sameL, ↓at_any1, ↓at_any, and_self, toBytes_bys, List.nil_append, List.append_nil, ↓at_nodeW, List.drop_zero, List.take_succ_cons, List.take_zero, List.getElem?_cons_succ, List.getElem?_cons_zero, cells_agg, eqCells_cons, eqCells_nil, eq1_int, eq1_bool, eq1_str, ↓at_ptr_whole, ↓at_ptr_cell, ↓at_ptr_obj, ↓at_ptr_objs, shift_obj, shift_elt, toA_val, toA_own, Int.toNat_natCast, List.cons_append, prs_length, prs_getD h1, prs_getD h2, plain43, Bool.and_self, c1, c2, Bool.and_false, Bool.false_and, Bool.not_false]
      · simp (disch := (first | assumption | (simp only [Bool.and_eq_true, Bool.and_eq_false_iff, decide_eq_true_eq, decide_eq_false_iff_not, bne_iff_ne, beq_iff_eq, beq_eq_false_iff_ne, bne_eq_false_iff_eq, Bool.not_eq_true', Bool.not_eq_false', bys_length, List.length_append, List.length_cons, List.length_nil, List.length_map, List.length_drop, List.length_take, Int.natCast_add, wrap_i64_eq, wrap_u64, wrap_u8, ne_eq, not_true_eq_false, not_false_eq_true, Nat.zero_add, Nat.mul_one] <;> omega) | omega | (simp; done) | (simp; omega))) only [↓at_runK, ↓at_bind, ↓contQ_mk, ↓at_ret, ↓at_consK, ↓at_nilK, ↓at_optK, ↓at_intK, ↓at_boolK, ↓at_strK, ↓at_slK, ↓at_slOK, ↓at_slK0, ↓at_slOK0, ↓at_aggK, ↓at_cond_t, ↓at_cond_f, ↓at_sameL, ↓at_any1, ↓at_any, and_self, toBytes_bys, List.nil_append, List.append_nil, ↓at_nodeW, List.drop_zero, List.take_succ_cons, List.take_zero, List.getElem?_cons_succ, List.getElem?_cons_zero, cells_agg, eqCells_cons, eqCells_nil, eq1_int, eq1_bool, eq1_str, ↓at_ptr_whole, ↓at_ptr_cell, ↓at_ptr_obj, ↓at_ptr_objs, shift_obj, shift_elt, toA_val, toA_own, Int.toNat_natCast, List.cons_append, prs_length, prs_getD h1, prs_getD h2, plain43, Bool.and_self, c1, c2, Bool.true_and, Bool.not_true, e1, ih']
theorem eqLB_ne {a b : List KPair} (h : ¬ a.length = b.length) : eqLB a b = false := by
  cases hq : eqLB a b
  · rfl
  · exact absurd (by rw [eqLB_iff.1 hq]) h
theorem same31g_run {d : Nat} {f g : Bool} {a b : List KPair} {h : Heap} {Q : Res → Prop} {tg : Hid Q} (hl : a.length ≤ 1000) : Run (evFn Cw (d + 1) 36 [.sl f 3 (prs a), .sl g 3 (prs b)] h) Q tg = Q ([.bool (eqLB a b)], h) := by
  rw [F36_eq]
  by_cases c : a.length = b.length
  · have := same31g_loop d f g a b hl c h Q a.length 0 rounds ⟨⟩ (by omega) (rounds_gt' (by omega))
    rw [List.drop_zero, List.drop_zero, e0] at this
    have c' : ((a.length : Int) != (b.length : Int)) = false := by simp [c]
    simp (disch := (first | assumption | (simp only [Bool.and_eq_true, Bool.and_eq_false_iff, decide_eq_true_eq, decide_eq_false_iff_not, bne_iff_ne, beq_iff_eq, beq_eq_false_iff_ne, bne_eq_false_iff_eq, Bool.not_eq_true', Bool.not_eq_false', bys_length, List.length_append, List.length_cons, List.length_nil, List.length_map, List.length_drop, List.length_take, Int.natCast_add, wrap_i64_eq, wrap_u64, wrap_u8, ne_eq, not_true_eq_false, not_false_eq_true, Nat.zero_add, Nat.mul_one] <;> omega) | omega | (simp; done) | (simp; omega))) only [↓at_runK, ↓at_bind, ↓contQ_mk, ↓at_ret, ↓at_consK, ↓at_nilK, ↓at_optK, ↓at_intK, ↓at_boolK, ↓at_strK, ↓at_slK, ↓at_slOK, ↓at_slK0, ↓at_slOK0, ↓at_aggK, ↓at_cond_t, ↓at_cond_f, ↓at_sameL, ↓at_any1, ↓at_any, and_self, toBytes_bys, List.nil_append, List.append_nil, ↓at_nodeW, List.drop_zero, List.take_succ_cons, List.take_zero, List.getElem?_cons_succ, List.getElem?_cons_zero, cells_agg, eqCells_cons, eqCells_nil, eq1_int, eq1_bool, eq1_str, ↓at_ptr_whole, ↓at_ptr_cell, ↓at_ptr_obj, ↓at_ptr_objs, shift_obj, shift_elt, toA_val, toA_own, Int.toNat_natCast, List.cons_append, prs_length, c', this]
  · have c' : ((a.length : Int) != (b.length : Int)) = true := by simp; omega
    rw [eqLB_ne c]
    simp (disch := (first | assumption | (simp only [Bool.and_eq_true, Bool.and_eq_false_iff, decide_eq_true_eq, decide_eq_false_iff_not, bne_iff_ne, beq_iff_eq, beq_eq_false_iff_ne, bne_eq_false_iff_eq, Bool.not_eq_true', Bool.not_eq_false', bys_length, List.length_append, List.length_cons, List.length_nil, List.length_map, List.length_drop, List.length_take, Int.natCast_add, wrap_i64_eq, wrap_u64, wrap_u8, ne_eq, not_true_eq_false, not_false_eq_true, Nat.zero_add, Nat.mul_one] <;> omega) | omega | (simp; done) | (simp; omega))) only [↓at_runK, ↓at_bind, ↓contQ_mk, ↓at_ret, ↓at_consK, ↓at_nilK, ↓at_optK, ↓at_intK, ↓at_boolK, ↓at_strK, ↓at_slK, ↓at_slOK, ↓at_slK0, ↓at_slOK0, ↓at_aggK, ↓at_cond_t, ↓at_cond_f, ↓at_sameL, ↓at_any1, ↓at_any, and_self, toBytes_bys, List.nil_append, List.append_nil, ↓at_nodeW, List.drop_zero, List.take_succ_cons, List.take_zero, List.getElem?_cons_succ, List.getElem?_cons_zero, cells_agg, eqCells_cons, eqCells_nil, eq1_int, eq1_bool, eq1_str, ↓at_ptr_whole, ↓at_ptr_cell, ↓at_ptr_obj, ↓at_ptr_objs, shift_obj, shift_elt, toA_val, toA_own, Int.toNat_natCast, List.cons_append, prs_length, c']
theorem tabclone_run {d i ti : Nat} {t : Nd} {h : Heap} {Q : Res → Prop} {tg : Hid Q} (T : IsTab h i ti t) : Run (evFn Cw (d + 2) 43 [.obj i 0] h) Q tg = Q ([.obj (h.objs.length + 1) 0], (h.push (trT t)).push (tabO h.objs.length (btot t.toL))) := by
  have r := fun (Q : Res → Prop) (tg : Hid Q) => tclone_run (d := d) (Q := Q) (tg := tg) T.tr
  have e1 : (h.push (trT t)).objs.length = h.objs.length + 1 := Heap.push_len _ _
  have e2 : AVal.isAgg (.obj h.objs.length 0) = false := rfl
  have e3 : Weave.Obj.cells ([AVal.obj h.objs.length 0, AVal.int .i64 (btot t.toL : Nat)].map HCell.val) = tabO h.objs.length (btot t.toL) := of_eq_true (eq_self _)
  have c2 := tab_b ((Heap.ext.push h (trT t)).get T.tb)
  rw [F43_eq]
  simp (disch := (first | assumption | (simp only [Bool.and_eq_true, Bool.and_eq_false_iff, decide_eq_true_eq, decide_eq_false_iff_not, bne_iff_ne, beq_iff_eq, beq_eq_false_iff_ne, bne_eq_false_iff_eq, Bool.not_eq_true', Bool.not_eq_false', bys_length, List.length_append, List.length_cons, List.length_nil, List.length_map, List.length_drop, List.length_take, Int.natCast_add, wrap_i64_eq, wrap_u64, wrap_u8, ne_eq, not_true_eq_false, not_false_eq_true, Nat.zero_add, Nat.mul_one] <;> omega) | omega | (simp; done) | (simp; omega))) only [↓at_runK, ↓at_bind, ↓contQ_mk, ↓at_ret, ↓at_consK, ↓at_nilK, ↓at_optK, ↓at_intK, ↓at_boolK, ↓at_strK, ↓at_slK, ↓at_slOK, ↓at_slK0, ↓at_slOK0, ↓at_aggK, ↓at_cond_t, ↓at_cond_f, ↓at_sameL, ↓at_any1, ↓at_any, and_self, toBytes_bys, List.nil_append, List.append_nil, ↓at_nodeW, List.drop_zero, List.take_succ_cons, List.take_zero, List.getElem?_cons_succ, List.getElem?_cons_zero, cells_agg, eqCells_cons, eqCells_nil, eq1_int, eq1_bool, eq1_str, ↓at_ptr_whole, ↓at_ptr_cell, ↓at_ptr_obj, ↓at_ptr_objs, shift_obj, shift_elt, toA_val, toA_own, Int.toNat_natCast, List.cons_append, tab_t T.tb, tab_b T.tb, r, c2, e1, e2, e3, Bool.not_false]
theorem tabclone_is {h : Heap} {i ti : Nat} {t : Nd} (T : IsTab h i ti t) : h.ext ((h.push (trT t)).push (tabO h.objs.length (btot t.toL))) ∧ IsTab ((h.push (trT t)).push (tabO h.objs.length (btot t.toL))) (h.objs.length + 1) h.objs.length t := by
  have E1 := Heap.ext.push h (trT t)
  have E2 := Heap.ext.push (h.push (trT t)) (tabO h.objs.length (btot t.toL))
  have e1 : (h.push (trT t)).objs.length = h.objs.length + 1 := Heap.push_len _ _
  have m := Heap.push_new (h.push (trT t)) (tabO h.objs.length (btot t.toL))
  rw [e1] at m
  exact ⟨E1.trans E2, m, E2.get (Heap.push_new _ _), by omega, T.ok, T.kv⟩
theorem cntO_all {l : List KOp} (h : ∀ o ∈ l, rightO o = true) : cntO l = l.length := by
  unfold cntO
  rw [List.filter_eq_self.2 h]
theorem tdiffs_loop (d i ti j tj : Nat) (t u : Nd) (fl : Bool) (hxl : t.toL.length ≤ 60) (hyl : u.toL.length ≤ 60) : ∀ (n m k : Nat) (h : Heap), IsTab h i ti t → IsTab h j tj u → (∀ o ∈ (diffL t.toL u.toL).take m, rightO o = true) → (diffL t.toL u.toL).length = m + n → n < k →
    ∃ h', ∀ (Q : Res → Prop) (tg : Hid Q), Run (P7_0 (d + 1030) k (prs t.toL) (.obj i 0) (.obj j 0) fl (kops (diffL t.toL u.toL)) m h) Q tg = Q ([.bool true], h') := by
  have hdl := diffL_len _ t.toL u.toL (Nat.le_refl _)
  intro n
  induction n with
  | zero =>
    intro m k h T U hr hm hk
    obtain ⟨k, rfl⟩ : ∃ m, k = m + 1 := ⟨k - 1, by omega⟩
    rw [List.take_of_length_le (by omega)] at hr
    obtain ⟨E1, C⟩ := tabclone_is T
    have li := Heap.lt_of T.tb
    have lt := Heap.lt_of T.tr
    have lj := Heap.lt_of U.tb
    have lu := Heap.lt_of U.tr
    obtain ⟨c, C', hC, rc⟩ := tabapply_run (d + 9) (h.objs.length + 1) h.objs.length fl (diffL t.toL u.toL) t _ C (by omega)
    rw [aps_diff T.ok.srt U.ok.srt hr] at hC
    rw [cntO_all hr] at rc
    have T2 := (T.ext E1).far (u := c) (j := h.objs.length + 1) (tj := h.objs.length) (by omega) (by omega) (by omega) (by omega)
    have U2 := (U.ext E1).far (u := c) (j := h.objs.length + 1) (tj := h.objs.length) (by omega) (by omega) (by omega) (by omega)
    obtain ⟨h3, E3, r3⟩ := tabsame_run (d + 1021) (h.objs.length + 1) h.objs.length j tj c u _ C' U2
    have eq : eqLB c.toL u.toL = true := by rw [eqLB_iff, hC]
    rw [eq] at r3
    obtain ⟨h4, E4, r4⟩ := tabpairs_run (d + 1023) i ti t h3 (T2.ext E3)
    obtain ⟨h5, E5, r5⟩ := awake33_run (d + 8) h4
    have rs := fun (Q : Res → Prop) (tg : Hid Q) => same31_run (d := d + 1029) (f := false) (g := false) (l := t.toL) (h := h4) (Q := Q) (tg := tg) (by omega)
    have bi : ∀ x : Int, (x == x) = true := fun b => by simp
    refine ⟨h5, fun Q tg => ?_⟩
    rw [P7_0_eq]
    simp (disch := (first | assumption | (simp only [Bool.and_eq_true, Bool.and_eq_false_iff, decide_eq_true_eq, decide_eq_false_iff_not, bne_iff_ne, beq_iff_eq, beq_eq_false_iff_ne, bne_eq_false_iff_eq, Bool.not_eq_true', Bool.not_eq_false', bys_length, List.length_append, List.length_cons, List.length_nil, List.length_map, List.length_drop, List.length_take, Int.natCast_add, wrap_i64_eq, wrap_u64, wrap_u8, ne_eq, not_true_eq_false, not_false_eq_true, Nat.zero_add, Nat.mul_one] <;> omega) | omega | (simp; done) | (simp; omega))) only [↓at_runK, ↓at_bind, ↓contQ_mk, ↓at_ret, ↓at_consK, ↓at_nilK, ↓at_optK, ↓at_intK, ↓at_boolK, ↓at_strK, ↓at_slK, ↓at_slOK, ↓at_slK0, ↓at_slOK0, ↓at_aggK, ↓at_cond_t, ↓at_cond_f, ↓at_sameL, ↓at_any1, ↓at_any, and_self, toBytes_bys, List.nil_append, List.append_nil, ↓at_nodeW, List.drop_zero, List.take_succ_cons, List.take_zero, List.getElem?_cons_succ, List.getElem?_cons_zero, cells_agg, eqCells_cons, eqCells_nil, eq1_int, eq1_bool, eq1_str, ↓at_ptr_whole, ↓at_ptr_cell, ↓at_ptr_obj, ↓at_ptr_objs, shift_obj, shift_elt, toA_val, toA_own, Int.toNat_natCast, List.cons_append, kops_length, tabclone_run T, rc, bi, r3, r4, rs, r5]
  | succ n ih =>
    intro m k h T U hr hm hk
    obtain ⟨k, rfl⟩ : ∃ m, k = m + 1 := ⟨k - 1, by omega⟩
    have h1 : m < (diffL t.toL u.toL).length := by omega
    have e1 := succ_wrap (i := m) (by omega)
    cases hq : rightO (diffL t.toL u.toL)[m]
    · obtain ⟨h5, E5, r5⟩ := awake33_run (d + 8) h
      refine ⟨h5, fun Q tg => ?_⟩
      rw [P7_0_eq]
      simp (disch := (first | assumption | (simp only [Bool.and_eq_true, Bool.and_eq_false_iff, decide_eq_true_eq, decide_eq_false_iff_not, bne_iff_ne, beq_iff_eq, beq_eq_false_iff_ne, bne_eq_false_iff_eq, Bool.not_eq_true', Bool.not_eq_false', bys_length, List.length_append, List.length_cons, List.length_nil, List.length_map, List.length_drop, List.length_take, Int.natCast_add, wrap_i64_eq, wrap_u64, wrap_u8, ne_eq, not_true_eq_false, not_false_eq_true, Nat.zero_add, Nat.mul_one] <;> omega) | omega | (simp; done) | (simp; omega))) only [↓at_runK, ↓at_bind, ↓contQ_mk, ↓at_ret, ↓at_consK, ↓at_nilK, ↓at_optK, ↓at_intK, ↓at_boolK, ↓at_strK, ↓at_slK, ↓at_slOK, ↓at_slK0, ↓at_slOK0, ↓at_aggK, ↓at_cond_t, ↓at_cond_f, ↓at_sameL, ↓at_any1, ↓at_any, and_self, toBytes_bys, List.nil_append, List.append_nil, ↓at_nodeW, List.drop_zero, List.take_succ_cons, List.take_zero, List.getElem?_cons_succ, List.getElem?_cons_zero, cells_agg, eqCells_cons, eqCells_nil, eq1_int, eq1_bool, eq1_str, ↓at_ptr_whole, ↓at_ptr_cell, ↓at_ptr_obj, ↓at_ptr_objs, shift_obj, shift_elt, toA_val, toA_own, Int.toNat_natCast, List.cons_append, kops_length, kops_getD h1, r10right_run, hq, Bool.not_false, r5]
    · obtain ⟨h', r⟩ := ih (m + 1) k h T U (by
        intro o ho
        rw [List.take_succ_eq_append_getElem h1] at ho
        rcases List.mem_append.1 ho with ho | ho
        · exact hr o ho
        · rw [List.mem_singleton.1 ho]; exact hq) (by omega) (by omega)
      refine ⟨h', fun Q tg => ?_⟩
      rw [P7_0_eq]
      simp (disch := (first | assumption | (simp only [Bool.and_eq_true, Bool.and_eq_false_iff, decide_eq_true_eq, decide_eq_false_iff_not, bne_iff_ne, beq_iff_eq, beq_eq_false_iff_ne, bne_eq_false_iff_eq, Bool.not_eq_true', Bool.not_eq_false', bys_length, List.length_append, List.length_cons, List.length_nil, List.length_map, List.length_drop, List.length_take, Int.natCast_add, wrap_i64_eq, wrap_u64, wrap_u8, ne_eq, not_true_eq_false, not_false_eq_true, Nat.zero_add, Nat.mul_one] <;> omega) | omega | (simp; done) | (simp; omega))) only [↓at_runK, ↓at_bind, ↓contQ_mk, ↓at_ret, ↓at_consK, ↓at_nilK, ↓at_optK, ↓at_intK, ↓at_boolK, ↓at_strK, ↓at_slK, ↓at_slOK, ↓at_slK0, ↓at_slOK0, ↓at_aggK, ↓at_cond_t, ↓at_cond_f, ↓at_sameL, ↓at_any1, ↓at_any, and_self, toBytes_bys, List.nil_append, List.append_nil, ↓at_nodeW, List.drop_zero, List.take_succ_cons, List.take_zero, List.getElem?_cons_succ, List.getElem?_cons_zero, cells_agg, eqCells_cons, eqCells_nil, eq1_int, eq1_bool, eq1_str, ↓at_ptr_whole, ↓at_ptr_cell, ↓at_ptr_obj, ↓at_ptr_objs, shift_obj, shift_elt, toA_val, toA_own, Int.toNat_natCast, List.cons_append, kops_length, kops_getD h1, r10right_run, hq, Bool.not_true, e1, r]
/-- TableDiffs. -/
theorem tdiffs_true (a b : List KPair) (h : Heap) (ha : ∀ p ∈ a, p.key.length ≤ 140737488351232 ∧ p.val.length ≤ 140737488351232) (hb : ∀ p ∈ b, p.key.length ≤ 140737488351232 ∧ p.val.length ≤ 140737488351232) :
    ∃ d h', Ans (evFn Cw d 7 [.sl false 3 (prs a), .sl false 3 (prs b)] h) ([.bool true], h') := by
  by_cases la : a.length ≤ 60
  · by_cases lb : b.length ≤ 60
    · have hsa := ofL_srt a
      have hsb := ofL_srt b
      have hla : (ofL a).length ≤ 60 := by have := ofs_len a [] List.Pairwise.nil; unfold ofL; simp only [List.length_nil] at this; omega
      have hlb : (ofL b).length ≤ 60 := by have := ofs_len b [] List.Pairwise.nil; unfold ofL; simp only [List.length_nil] at this; omega
      have roa := fun (Q : Res → Prop) (tg : Hid Q) => rof_run (d := 1027) (f := false) (l := a) (h := h) (Q := Q) (tg := tg) (by omega)
      have rob := fun (Q : Res → Prop) (tg : Hid Q) => rof_run (d := 1027) (f := false) (l := b) (h := h) (Q := Q) (tg := tg) (by omega)
      obtain ⟨t, h1, E1, T, hT, r1⟩ := tabof_run 9 false a (by omega) ha h
      obtain ⟨u, h2, E2, U, hU, r2⟩ := tabof_run 9 false b (by omega) hb h1
      have T2 := T.ext E2
      obtain ⟨h3, E3, r3⟩ := tabdiff_run 1022 _ _ _ _ t u h2 T2 U
      have T3 := T2.ext E3
      have U3 := U.ext E3
      obtain ⟨h4, E4, r4⟩ := tabpairs_run 1023 _ _ t h3 T3
      have T4 := T3.ext E4
      have U4 := U3.ext E4
      have hdl := diffL_len _ (ofL a) (ofL b) (Nat.le_refl _)
      rw [← hT] at hsa hla roa hdl
      rw [← hU] at hsb hlb rob hdl
      have rs := fun (h : Heap) (Q : Res → Prop) (tg : Hid Q) => same31g_run (d := 1029) (f := false) (g := false) (a := t.toL) (b := t.toL) (h := h) (Q := Q) (tg := tg) (by omega)
      have rs2 := fun (h : Heap) (Q : Res → Prop) (tg : Hid Q) => same31g_run (d := 1029) (f := false) (g := false) (a := t.toL) (b := u.toL) (h := h) (Q := Q) (tg := tg) (by omega)
      rw [eqLB_self] at rs
      have rd := fun (h : Heap) (Q : Res → Prop) (tg : Hid Q) => rdiff_run (d := 1026) (f := false) (g := false) (h := h) (Q := Q) (tg := tg) hsa hsb (by omega) (by omega)
      have r10 := fun (h : Heap) (Q : Res → Prop) (tg : Hid Q) => r10same_run (d := 1029) (f := false) (g := false) (l := diffL t.toL u.toL) (h := h) (Q := Q) (tg := tg) (by omega)
      obtain ⟨h5, E5, r5⟩ := tabsame_run 1021 _ _ _ _ t u h4 T4 U4
      have T5 := T4.ext E5
      have U5 := U4.ext E5
      obtain ⟨h6, E6, r6⟩ := tabsame_run 1021 _ _ _ _ t t h5 T5 T5
      rw [eqLB_self] at r6
      obtain ⟨h7, r7⟩ := tdiffs_loop 0 _ _ _ _ t u false hla hlb (diffL t.toL u.toL).length 0 rounds h6 (T5.ext E6) (U5.ext E6) (by simp) (by omega) (rounds_gt' (by omega))
      rw [e0] at r7
      have bb : ∀ b : Bool, (b == b) = true := fun b => by simp
      refine ⟨0 + 1030 + 1, h7, Run.ans ?_⟩
      rw [F7_eq]
      simp (disch := (first | assumption | (simp only [Bool.and_eq_true, Bool.and_eq_false_iff, decide_eq_true_eq, decide_eq_false_iff_not, bne_iff_ne, beq_iff_eq, beq_eq_false_iff_ne, bne_eq_false_iff_eq, Bool.not_eq_true', Bool.not_eq_false', bys_length, List.length_append, List.length_cons, List.length_nil, List.length_map, List.length_drop, List.length_take, Int.natCast_add, wrap_i64_eq, wrap_u64, wrap_u8, ne_eq, not_true_eq_false, not_false_eq_true, Nat.zero_add, Nat.mul_one] <;> omega) | omega | (simp; done) | (simp; omega))) only [↓at_runK, ↓at_bind, ↓contQ_mk, ↓at_ret, ↓at_consK, ↓at_nilK, ↓at_optK, ↓at_intK, ↓at_boolK, ↓at_strK, ↓at_slK, ↓at_slOK, ↓at_slK0, ↓at_slOK0, ↓at_aggK, ↓at_cond_t, ↓at_cond_f, ↓at_sameL, ↓at_any1, ↓at_any, and_self, toBytes_bys, List.nil_append, List.append_nil, ↓at_nodeW, List.drop_zero, List.take_succ_cons, List.take_zero, List.getElem?_cons_succ, List.getElem?_cons_zero, cells_agg, eqCells_cons, eqCells_nil, eq1_int, eq1_bool, eq1_str, ↓at_ptr_whole, ↓at_ptr_cell, ↓at_ptr_obj, ↓at_ptr_objs, shift_obj, shift_elt, toA_val, toA_own, Int.toNat_natCast, List.cons_append, prs_length, roa, rob, r1, r2, r3, r4, rs, Bool.not_true, rd, r10, r5, rs2, bb, r6, r7]
    · obtain ⟨h', _, r⟩ := awake33_run 9 h
      refine ⟨9 + 1022 + 1, h', Run.ans ?_⟩
      rw [F7_eq]
      simp (disch := (first | assumption | (simp only [Bool.and_eq_true, Bool.and_eq_false_iff, decide_eq_true_eq, decide_eq_false_iff_not, bne_iff_ne, beq_iff_eq, beq_eq_false_iff_ne, bne_eq_false_iff_eq, Bool.not_eq_true', Bool.not_eq_false', bys_length, List.length_append, List.length_cons, List.length_nil, List.length_map, List.length_drop, List.length_take, Int.natCast_add, wrap_i64_eq, wrap_u64, wrap_u8, ne_eq, not_true_eq_false, not_false_eq_true, Nat.zero_add, Nat.mul_one] <;> omega) | omega | (simp; done) | (simp; omega))) only [↓at_runK, ↓at_bind, ↓contQ_mk, ↓at_ret, ↓at_consK, ↓at_nilK, ↓at_optK, ↓at_intK, ↓at_boolK, ↓at_strK, ↓at_slK, ↓at_slOK, ↓at_slK0, ↓at_slOK0, ↓at_aggK, ↓at_cond_t, ↓at_cond_f, ↓at_sameL, ↓at_any1, ↓at_any, and_self, toBytes_bys, List.nil_append, List.append_nil, ↓at_nodeW, List.drop_zero, List.take_succ_cons, List.take_zero, List.getElem?_cons_succ, List.getElem?_cons_zero, cells_agg, eqCells_cons, eqCells_nil, eq1_int, eq1_bool, eq1_str, ↓at_ptr_whole, ↓at_ptr_cell, ↓at_ptr_obj, ↓at_ptr_objs, shift_obj, shift_elt, toA_val, toA_own, Int.toNat_natCast, List.cons_append, prs_length, r]
  · obtain ⟨h', _, r⟩ := awake33_run 9 h
    refine ⟨9 + 1022 + 1, h', Run.ans ?_⟩
    rw [F7_eq]
    simp (disch := (first | assumption | (simp only [Bool.and_eq_true, Bool.and_eq_false_iff, decide_eq_true_eq, decide_eq_false_iff_not, bne_iff_ne, beq_iff_eq, beq_eq_false_iff_ne, bne_eq_false_iff_eq, Bool.not_eq_true', Bool.not_eq_false', bys_length, List.length_append, List.length_cons, List.length_nil, List.length_map, List.length_drop, List.length_take, Int.natCast_add, wrap_i64_eq, wrap_u64, wrap_u8, ne_eq, not_true_eq_false, not_false_eq_true, Nat.zero_add, Nat.mul_one] <;> omega) | omega | (simp; done) | (simp; omega))) only [↓at_runK, ↓at_bind, ↓contQ_mk, ↓at_ret, ↓at_consK, ↓at_nilK, ↓at_optK, ↓at_intK, ↓at_boolK, ↓at_strK, ↓at_slK, ↓at_slOK, ↓at_slK0, ↓at_slOK0, ↓at_aggK, ↓at_cond_t, ↓at_cond_f, ↓at_sameL, ↓at_any1, ↓at_any, and_self, toBytes_bys, List.nil_append, List.append_nil, ↓at_nodeW, List.drop_zero, List.take_succ_cons, List.take_zero, List.getElem?_cons_succ, List.getElem?_cons_zero, cells_agg, eqCells_cons, eqCells_nil, eq1_int, eq1_bool, eq1_str, ↓at_ptr_whole, ↓at_ptr_cell, ↓at_ptr_obj, ↓at_ptr_objs, shift_obj, shift_elt, toA_val, toA_own, Int.toNat_natCast, List.cons_append, prs_length, r]
end Go.Proofs.Ytdlcjibefbnckaa.Wa
