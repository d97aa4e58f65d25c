/- CursorRanges. -/
import Derived.Test.YtfdkkhmaikgmcaaVtg
namespace Go.Proofs.Ytfdkkhmaikgmcaa.Wa
open Go Go.Weave
set_option maxRecDepth 100000
set_option linter.unusedSimpArgs false
set_option linter.unusedVariables false
set_option linter.unusedSectionVars false

def tA : Nd := Nd.nil.put [97] [120]
theorem tA_L : tA.toL = [⟨[97], [120]⟩] := rfl
theorem tA_ok : TOk' tA := ((⟨trivial, List.Pairwise.nil, by simp [Nd.toL]⟩ : TOk' Nd.nil).put [97] [120] (by simp [Nd.toL])).1
theorem awake32_run (d : Nat) (h : Heap) : ∃ h', ∀ (Q : Res → Prop) (tg : Hid Q), Run (evFn Cw (d + 1021) 47 [] h) Q tg = Q ([.bool true], h') := by
  have ok0 : TOk' Nd.nil := ⟨trivial, List.Pairwise.nil, by simp [Nd.toL]⟩
  have m0 := Heap.push_new h (trT .nil)
  have rp := fun (Q : Res → Prop) (tg : Hid Q) => tput_run (d := d + 1020) (k := [97]) (v := [120]) (Q := Q) (tg := tg) ok0 (by simp [Nd.toL]) m0 (by omega)
  have et : Nd.nil.put [97] [120] = tA := rfl
  rw [et] at rp
  have m1 : ((h.push (trT .nil)).put h.objs.length (trT tA)).objs[h.objs.length]? = some (trT tA) := Heap.put_get m0
  have lA : ((h.push (trT .nil)).put h.objs.length (trT tA)).objs.length = h.objs.length + 1 := by rw [Heap.put_len, Heap.push_len]
  have E := Heap.ext.push ((h.push (trT .nil)).put h.objs.length (trT tA)) (curO (.obj h.objs.length 0) 0 [])
  have mc : (((h.push (trT .nil)).put h.objs.length (trT tA)).push (curO (.obj h.objs.length 0) 0 [])).objs[h.objs.length + 1]? = some (curO (.obj h.objs.length 0) 0 []) := by rw [← lA]; exact Heap.push_new _ _
  have mt := E.get m1
  have hL := tA_L
  have n1 := fun (Q : Res → Prop) (tg : Hid Q) => cnext_run (d := d + 1017) (Q := Q) (tg := tg) tA_ok mc mt (by decide) (by simp)
  have l1 : lseek (if (0 : Int) = 1 then ([] : List UInt8) ++ [0] else []) tA.toL = some ⟨[97], [120]⟩ := by rw [if_neg (by decide), lseek_nil, hL]; rfl
  rw [l1, curTo_some] at n1
  have mc2 : ((((h.push (trT .nil)).put h.objs.length (trT tA)).push (curO (.obj h.objs.length 0) 0 [])).put (h.objs.length + 1) (curO (.obj h.objs.length 0) 1 [97])).objs[h.objs.length + 1]? = some (curO (.obj h.objs.length 0) 1 [97]) := Heap.put_get mc
  have mt2 : ((((h.push (trT .nil)).put h.objs.length (trT tA)).push (curO (.obj h.objs.length 0) 0 [])).put (h.objs.length + 1) (curO (.obj h.objs.length 0) 1 [97])).objs[h.objs.length]? = some (trT tA) := by rw [Heap.put_ne (by omega)]; exact mt
  have p1 := fun (Q : Res → Prop) (tg : Hid Q) => cpair_run (d := d + 1016) (Q := Q) (tg := tg) tA_ok mc2 mt2
  have lg : lget [97] tA.toL = some ⟨[97], [120]⟩ := by rw [hL]; rfl
  rw [lg] at p1
  simp only [isSome_some', and_self, if_true] at p1
  have ov : oVal (some ⟨[97], [120]⟩) = [120] := rfl
  rw [ov] at p1
  have n2 := fun (Q : Res → Prop) (tg : Hid Q) => cnext_run (d := d + 1017) (Q := Q) (tg := tg) tA_ok mc2 mt2 (by decide) (by simp)
  have l2 : lseek (if (1 : Int) = 1 then [97] ++ [0] else []) tA.toL = none := by rw [if_pos rfl, hL]; rfl
  rw [l2] at n2
  refine ⟨((((h.push (trT .nil)).put h.objs.length (trT tA)).push (curO (.obj h.objs.length 0) 0 [])).put (h.objs.length + 1) (curO (.obj h.objs.length 0) 1 [97])).put (h.objs.length + 1) (curTo (.obj h.objs.length 0) none 2), fun Q tg => ?_⟩
  rw [F47_eq]
  simp (disch := (first | assumption | (simp only [Bool.and_eq_true, Bool.and_eq_false_iff, decide_eq_true_eq, decide_eq_false_iff_not, bne_iff_ne, beq_iff_eq, beq_eq_false_iff_ne, bne_eq_false_iff_eq, Bool.not_eq_true', Bool.not_eq_false', bys_length, List.length_append, List.length_cons, List.length_nil, List.length_map, List.length_drop, List.length_take, Int.natCast_add, wrap_i64_eq, wrap_u64, wrap_u8, ne_eq, not_true_eq_false, not_false_eq_true, Nat.zero_add, Nat.mul_one] <;> omega) | omega | (simp; done) | (simp; omega))) only [↓at_runK, ↓at_bind, ↓contQ_mk, ↓at_ret, ↓at_consK, ↓at_nilK, ↓at_optK, ↓at_intK, ↓at_boolK, ↓at_strK, ↓at_slK, ↓at_slOK, ↓at_slK0, ↓at_slOK0, ↓at_aggK, ↓at_cond_t, ↓at_cond_f, ↓at_sameL, ↓at_any1, ↓at_any, and_self, toBytes_bys, List.nil_append, List.append_nil, ↓at_nodeW, List.drop_zero, List.take_succ_cons, List.take_zero, List.getElem?_cons_succ, List.getElem?_cons_zero, cells_agg, eqCells_cons, eqCells_nil, eq1_int, eq1_bool, eq1_str, ↓at_ptr_whole, ↓at_ptr_cell, ↓at_ptr_obj, ↓at_ptr_objs, shift_obj, shift_elt, toA_val, toA_own, Int.toNat_natCast, List.cons_append, tnew_run, rp, cnew_run, lA, n1, isSome_some', p1, P47_0_eq, str_beq_self, n2, isSome_none', Bool.not_false]

def curB (tp : AVal) (l : List KPair) (n : Nat) : Weave.Obj := curTo tp l[n]? 2
theorem bprev (d ci ti : Nat) (t : Nd) (ok : TOk' t) (hct : ti ≠ ci) (n : Nat) (hn : n ≤ t.toL.length) (h : Heap) (hm : h.objs[ci]? = some (curB (.obj ti 0) t.toL n)) (ht : h.objs[ti]? = some (trT t)) :
    ∃ h', Heap.but h h' ci ∧ (0 < n → h'.objs[ci]? = some (curB (.obj ti 0) t.toL (n - 1))) ∧ ∀ (Q : Res → Prop) (tg : Hid Q), Run (evFn Cw (d + 1020) 54 [.obj ci 0] h) Q tg = Q ([.bool (decide (0 < n))], h') := by
  unfold curB at hm ⊢
  rcases Nat.lt_or_ge n t.toL.length with h1 | h1
  · rw [List.getElem?_eq_getElem h1, curTo_some] at hm
    have r := fun (Q : Res → Prop) (tg : Hid Q) => cprev1_run (d := d + 1017) (Q := Q) (tg := tg) ok hm ht
    rw [pred_at ok.srt h1] at r
    refine ⟨_, Heap.but_put h ci (curTo (.obj ti 0) (if n = 0 then none else t.toL[n - 1]?) 0), fun h0 => ?_, fun Q tg => ?_⟩
    · rw [Heap.put_get hm, if_neg (by omega), List.getElem?_eq_getElem (by omega)]; rfl
    · refine (r Q tg).trans ?_
      have e : (if n = 0 then none else t.toL[n - 1]?).isSome = decide (0 < n) := by
        by_cases h0 : n = 0
        · simp [h0]
        · rw [if_neg h0, List.getElem?_eq_getElem (by omega)]; simp; omega
      rw [e]
  · obtain rfl : n = t.toL.length := by omega
    rw [List.getElem?_eq_none (Nat.le_refl _), curTo_none] at hm
    obtain ⟨h', E, hm', r⟩ := cprev2_run (d := d + 1020) ok hm ht (by omega)
    refine ⟨h', E, fun h0 => ?_, fun Q tg => ?_⟩
    · rw [hm', List.getLast?_eq_getElem?, List.getElem?_eq_getElem (by omega)]; rfl
    · refine (r Q tg).trans ?_
      have e : t.toL.getLast?.isSome = decide (0 < t.toL.length) := by
        rw [List.getLast?_eq_getElem?]
        by_cases h0 : t.toL.length = 0
        · rw [h0, List.getElem?_eq_none (by omega)]; simp
        · rw [List.getElem?_eq_getElem (by omega)]; simp; omega
      rw [e]
theorem bpair (d ci ti : Nat) (t : Nd) (ok : TOk' t) (n : Nat) (hn : n < t.toL.length) (h : Heap) (hm : h.objs[ci]? = some (curO (.obj ti 0) 1 t.toL[n].key)) (ht : h.objs[ti]? = some (trT t)) (Q : Res → Prop) (tg : Hid Q) :
    Run (evFn Cw (d + 4) 53 [.obj ci 0] h) Q tg = Q ([.agg [.str t.toL[n].key, .str t.toL[n].val], .bool true], h) := by
  have rp := cpair_run (d := d) (Q := Q) (tg := tg) ok hm ht
  rw [get_at ok.srt hn] at rp
  simp only [isSome_some', and_self, if_true] at rp
  exact rp
theorem cranges2_loop (d ci ti : Nat) (t : Nd) (ok : TOk' t) (hct : ti ≠ ci) : ∀ (n k : Nat) (h : Heap), n ≤ t.toL.length → n < k → h.objs[ci]? = some (curB (.obj ti 0) t.toL n) → h.objs[ti]? = some (trT t) →
    ∃ h', ∀ (Q : Res → Prop) (tg : Hid Q), Run (P11_2 (d + 1030) k (prs t.toL) (.obj ci 0) n h) Q tg = Q ([.bool true], h') := by
  intro n
  induction n with
  | zero =>
    intro k h hn hk hm ht
    obtain ⟨k, rfl⟩ : ∃ m, k = m + 1 := ⟨k - 1, by omega⟩
    obtain ⟨h1, E, _, r⟩ := bprev (d + 10) ci ti t ok hct 0 hn h hm ht
    have m1 := Heap.push_new h1 (curO .nilp 0 [])
    have n1 := fun (Q : Res → Prop) (tg : Hid Q) => cnextn_run (d := d + 1027) (Q := Q) (tg := tg) m1
    have m2 : ((h1.push (curO .nilp 0 [])).put h1.objs.length (curO .nilp 2 [])).objs[h1.objs.length]? = some (curO .nilp 2 []) := Heap.put_get m1
    obtain ⟨h2, p2⟩ := cprevn_run (d := d + 1027) m2
    obtain ⟨h3, ra⟩ := awake32_run (d + 9) ((h2.push (curO .nilp 0 [])).put h2.objs.length (curO .nilp 2 []))
    have ed : decide (0 < 0) = false := by decide
    rw [ed] at r
    refine ⟨h3, fun Q tg => ?_⟩
    rw [P11_2_eq]
    simp (disch := (first | assumption | (simp only [Bool.and_eq_true, Bool.and_eq_false_iff, decide_eq_true_eq, decide_eq_false_iff_not, bne_iff_ne, beq_iff_eq, beq_eq_false_iff_ne, bne_eq_false_iff_eq, Bool.not_eq_true', Bool.not_eq_false', bys_length, List.length_append, List.length_cons, List.length_nil, List.length_map, List.length_drop, List.length_take, Int.natCast_add, wrap_i64_eq, wrap_u64, wrap_u8, ne_eq, not_true_eq_false, not_false_eq_true, Nat.zero_add, Nat.mul_one] <;> omega) | omega | (simp; done) | (simp; omega))) only [↓at_runK, ↓at_bind, ↓contQ_mk, ↓at_ret, ↓at_consK, ↓at_nilK, ↓at_optK, ↓at_intK, ↓at_boolK, ↓at_strK, ↓at_slK, ↓at_slOK, ↓at_slK0, ↓at_slOK0, ↓at_aggK, ↓at_cond_t, ↓at_cond_f, ↓at_sameL, ↓at_any1, ↓at_any, and_self, toBytes_bys, List.nil_append, List.append_nil, ↓at_nodeW, List.drop_zero, List.take_succ_cons, List.take_zero, List.getElem?_cons_succ, List.getElem?_cons_zero, cells_agg, eqCells_cons, eqCells_nil, eq1_int, eq1_bool, eq1_str, ↓at_ptr_whole, ↓at_ptr_cell, ↓at_ptr_obj, ↓at_ptr_objs, shift_obj, shift_elt, toA_val, toA_own, Int.toNat_natCast, List.cons_append, r, npair_run, cnewn_run, e0, Bool.not_false, nnext_run, nprev_run, ncseek_run, non_run, n1, p2, crangen_run, ra]
  | succ n ih =>
    intro k h hn hk hm ht
    obtain ⟨k, rfl⟩ : ∃ m, k = m + 1 := ⟨k - 1, by omega⟩
    have hlen := ok.len
    have hlt : n < t.toL.length := by omega
    obtain ⟨h1, E, hs, r⟩ := bprev (d + 10) ci ti t ok hct (n + 1) hn h hm ht
    have hm1 := hs (by omega)
    have e1 : n + 1 - 1 = n := by omega
    rw [e1] at hm1
    have hm1' := hm1
    unfold curB at hm1'
    rw [List.getElem?_eq_getElem hlt, curTo_some] at hm1'
    have ht1 := E.get hct ht
    obtain ⟨h', r2⟩ := ih k h1 (by omega) (by omega) hm1 ht1
    have rp := bpair (d + 1026) ci ti t ok n hlt h1 hm1' ht1
    have ed : decide (0 < n + 1) = true := by simp
    rw [ed] at r
    have ew : IntKind.i64.wrap (((n + 1 : Nat) : Int) - 1) = (n : Int) := by rw [wrap_i64_id (by omega) (by omega)]; omega
    refine ⟨h', fun Q tg => ?_⟩
    rw [P11_2_eq]
    simp (disch := (first | assumption | (simp only [Bool.and_eq_true, Bool.and_eq_false_iff, decide_eq_true_eq, decide_eq_false_iff_not, bne_iff_ne, beq_iff_eq, beq_eq_false_iff_ne, bne_eq_false_iff_eq, Bool.not_eq_true', Bool.not_eq_false', bys_length, List.length_append, List.length_cons, List.length_nil, List.length_map, List.length_drop, List.length_take, Int.natCast_add, wrap_i64_eq, wrap_u64, wrap_u8, ne_eq, not_true_eq_false, not_false_eq_true, Nat.zero_add, Nat.mul_one] <;> omega) | omega | (simp; done) | (simp; omega))) only [↓at_runK, ↓at_bind, ↓contQ_mk, ↓at_ret, ↓at_consK, ↓at_nilK, ↓at_optK, ↓at_intK, ↓at_boolK, ↓at_strK, ↓at_slK, ↓at_slOK, ↓at_slK0, ↓at_slOK0, ↓at_aggK, ↓at_cond_t, ↓at_cond_f, ↓at_sameL, ↓at_any1, ↓at_any, and_self, toBytes_bys, List.nil_append, List.append_nil, ↓at_nodeW, List.drop_zero, List.take_succ_cons, List.take_zero, List.getElem?_cons_succ, List.getElem?_cons_zero, cells_agg, eqCells_cons, eqCells_nil, eq1_int, eq1_bool, eq1_str, ↓at_ptr_whole, ↓at_ptr_cell, ↓at_ptr_obj, ↓at_ptr_objs, shift_obj, shift_elt, toA_val, toA_own, Int.toNat_natCast, List.cons_append, r, rp, ew, prs_length, prs_getD hlt, plain76, Bool.and_self, str_beq_self, Bool.not_true, r2]
theorem cranges1_loop (d ci ti : Nat) (t : Nd) (ok : TOk' t) (hlk : ∀ p ∈ t.toL, p.key.length ≤ 140737488351232) (hct : ti ≠ ci) : ∀ (n j k : Nat) (h : Heap), t.toL.length = j + n → n < k → h.objs[ci]? = some (curO (.obj ti 0) (posW t.toL j) (posK t.toL j)) → h.objs[ti]? = some (trT t) →
    ∃ h', ∀ (Q : Res → Prop) (tg : Hid Q), Run (P11_1 (d + 1030) k (prs t.toL) (.obj ci 0) j h) Q tg = Q ([.bool true], h') := by
  intro n
  induction n with
  | zero =>
    intro j k h hj hk hm ht
    obtain ⟨k, rfl⟩ : ∃ m, k = m + 1 := ⟨k - 1, by omega⟩
    have hlen := ok.len
    have hW : posW t.toL j ≠ 2 := by unfold posW; split <;> decide
    have hK : (posK t.toL j).length ≤ 140737488351232 := by
      unfold posK
      split
      · simp
      · rw [List.getElem?_eq_getElem (by omega)]; exact hlk _ (List.getElem_mem _)
    have rn := fun (Q : Res → Prop) (tg : Hid Q) => cnext_run (d := d + 1027) (Q := Q) (tg := tg) ok hm ht hW hK
    rw [next_at ok.srt (by omega)] at rn
    have hm' : (h.put ci (curTo (.obj ti 0) t.toL[j]? 2)).objs[ci]? = some (curB (.obj ti 0) t.toL j) := Heap.put_get hm
    obtain ⟨h', r⟩ := cranges2_loop d ci ti t ok hct j rounds (h.put ci (curTo (.obj ti 0) t.toL[j]? 2)) (by omega) (rounds_gt' (by omega)) hm' (by rw [Heap.put_ne (Ne.symm hct)]; exact ht)
    have hn : t.toL[j]? = none := List.getElem?_eq_none (by omega)
    rw [hn] at rn r
    refine ⟨h', fun Q tg => ?_⟩
    rw [P11_1_eq]
    simp (disch := (first | assumption | (simp only [Bool.and_eq_true, Bool.and_eq_false_iff, decide_eq_true_eq, decide_eq_false_iff_not, bne_iff_ne, beq_iff_eq, beq_eq_false_iff_ne, bne_eq_false_iff_eq, Bool.not_eq_true', Bool.not_eq_false', bys_length, List.length_append, List.length_cons, List.length_nil, List.length_map, List.length_drop, List.length_take, Int.natCast_add, wrap_i64_eq, wrap_u64, wrap_u8, ne_eq, not_true_eq_false, not_false_eq_true, Nat.zero_add, Nat.mul_one] <;> omega) | omega | (simp; done) | (simp; omega))) only [↓at_runK, ↓at_bind, ↓contQ_mk, ↓at_ret, ↓at_consK, ↓at_nilK, ↓at_optK, ↓at_intK, ↓at_boolK, ↓at_strK, ↓at_slK, ↓at_slOK, ↓at_slK0, ↓at_slOK0, ↓at_aggK, ↓at_cond_t, ↓at_cond_f, ↓at_sameL, ↓at_any1, ↓at_any, and_self, toBytes_bys, List.nil_append, List.append_nil, ↓at_nodeW, List.drop_zero, List.take_succ_cons, List.take_zero, List.getElem?_cons_succ, List.getElem?_cons_zero, cells_agg, eqCells_cons, eqCells_nil, eq1_int, eq1_bool, eq1_str, ↓at_ptr_whole, ↓at_ptr_cell, ↓at_ptr_obj, ↓at_ptr_objs, shift_obj, shift_elt, toA_val, toA_own, Int.toNat_natCast, List.cons_append, rn, isSome_none', r]
  | succ n ih =>
    intro j k h hj hk hm ht
    obtain ⟨k, rfl⟩ : ∃ m, k = m + 1 := ⟨k - 1, by omega⟩
    have hlen := ok.len
    have hlt : j < t.toL.length := by omega
    have e1 := succ_wrap (i := j) (by omega)
    have hW : posW t.toL j ≠ 2 := by unfold posW; split <;> decide
    have hK : (posK t.toL j).length ≤ 140737488351232 := by
      unfold posK
      split
      · simp
      · rw [List.getElem?_eq_getElem (by omega)]; exact hlk _ (List.getElem_mem _)
    have rn := fun (Q : Res → Prop) (tg : Hid Q) => cnext_run (d := d + 1027) (Q := Q) (tg := tg) ok hm ht hW hK
    rw [next_at ok.srt (by omega)] at rn
    have hn : t.toL[j]? = some t.toL[j] := List.getElem?_eq_getElem hlt
    rw [hn, curTo_some] at rn
    have hm' : (h.put ci (curO (.obj ti 0) 1 t.toL[j].key)).objs[ci]? = some (curO (.obj ti 0) 1 t.toL[j].key) := Heap.put_get hm
    have ht' : (h.put ci (curO (.obj ti 0) 1 t.toL[j].key)).objs[ti]? = some (trT t) := by rw [Heap.put_ne (Ne.symm hct)]; exact ht
    have ep : curO (.obj ti 0) 1 t.toL[j].key = curO (.obj ti 0) (posW t.toL (j + 1)) (posK t.toL (j + 1)) := by
      unfold posW posK
      rw [if_neg (by omega), if_neg (by omega)]
      have : j + 1 - 1 = j := by omega
      rw [this, hn]; rfl
    obtain ⟨h', r⟩ := ih (j + 1) k (h.put ci (curO (.obj ti 0) 1 t.toL[j].key)) (by omega) (by omega) (by rw [← ep]; exact hm') ht'
    have rp := bpair (d + 1026) ci ti t ok j hlt _ hm' ht'
    refine ⟨h', fun Q tg => ?_⟩
    rw [P11_1_eq]
    simp (disch := (first | assumption | (simp only [Bool.and_eq_true, Bool.and_eq_false_iff, decide_eq_true_eq, decide_eq_false_iff_not, bne_iff_ne, beq_iff_eq, beq_eq_false_iff_ne, bne_eq_false_iff_eq, Bool.not_eq_true', Bool.not_eq_false', bys_length, List.length_append, List.length_cons, List.length_nil, List.length_map, List.length_drop, List.length_take, Int.natCast_add, wrap_i64_eq, wrap_u64, wrap_u8, ne_eq, not_true_eq_false, not_false_eq_true, Nat.zero_add, Nat.mul_one] <;> omega) | omega | (simp; done) | (simp; omega))) only [↓at_runK, ↓at_bind, ↓contQ_mk, ↓at_ret, ↓at_consK, ↓at_nilK, ↓at_optK, ↓at_intK, ↓at_boolK, ↓at_strK, ↓at_slK, ↓at_slOK, ↓at_slK0, ↓at_slOK0, ↓at_aggK, ↓at_cond_t, ↓at_cond_f, ↓at_sameL, ↓at_any1, ↓at_any, and_self, toBytes_bys, List.nil_append, List.append_nil, ↓at_nodeW, List.drop_zero, List.take_succ_cons, List.take_zero, List.getElem?_cons_succ, List.getElem?_cons_zero, cells_agg, eqCells_cons, eqCells_nil, eq1_int, eq1_bool, eq1_str, ↓at_ptr_whole, ↓at_ptr_cell, ↓at_ptr_obj, ↓at_ptr_objs, shift_obj, shift_elt, toA_val, toA_own, Int.toNat_natCast, List.cons_append, rn, isSome_some', rp, prs_length, prs_getD hlt, plain76, Bool.and_self, str_beq_self, Bool.not_true, e1, r]
theorem cranges_loop (d ti : Nat) (fr to : List UInt8) (most : Int) (f : Bool) (l : List KPair) (hl : l.length ≤ 100) (hlk : ∀ p ∈ l, p.key.length ≤ 140737488351232) : ∀ (n j k : Nat) (t : Nd) (h : Heap), TOk' t → t.toL.length ≤ j → (∀ p ∈ t.toL, p.key.length ≤ 140737488351232) → l.length = j + n → n < k → h.objs[ti]? = some (trT t) →
    ∃ h', ∀ (Q : Res → Prop) (tg : Hid Q), Run (P11_0 (d + 1030) k f (prs l) most (.obj ti 0) (prs t.toL) j fr to h) Q tg = Q ([.bool true], h') := by
  intro n
  induction n with
  | zero =>
    intro j k t h ok hlen hkeys hj hk ht
    obtain ⟨k, rfl⟩ : ∃ m, k = m + 1 := ⟨k - 1, by omega⟩
    have hlen' := ok.len
    obtain ⟨h1, E1, r1⟩ := crange_run (d + 1025) ti fr to most t ok hkeys h ht
    have ht1 := E1.get ht
    have hlt := Heap.lt_of ht1
    have mc := Heap.push_new h1 (curO (.obj ti 0) 0 [])
    obtain ⟨h', r⟩ := cranges1_loop d h1.objs.length ti t ok hkeys (by omega) t.toL.length 0 rounds (h1.push (curO (.obj ti 0) 0 [])) (by omega) (rounds_gt' (by omega)) mc ((Heap.ext.push h1 _).get ht1)
    rw [e0] at r
    have hR : (rngR fr to most t.toL []).length ≤ 1000 := by
      have : ∀ (l acc : List KPair), (rngR fr to most l acc).length ≤ acc.length + l.length := by
        intro l
        induction l with
        | nil => intro acc; exact Nat.le_refl _
        | cons p l ih =>
          intro acc
          unfold rngR
          have h1 := ih (acc ++ [p])
          have h2 := ih acc
          simp only [List.length_append, List.length_cons, List.length_nil] at h1 ⊢
          split
          · split <;> omega
          · omega
      have := this t.toL []
      simp only [List.length_nil] at this
      omega
    refine ⟨h', fun Q tg => ?_⟩
    rw [P11_0_eq]
    simp (disch := (first | assumption | (simp only [Bool.and_eq_true, Bool.and_eq_false_iff, decide_eq_true_eq, decide_eq_false_iff_not, bne_iff_ne, beq_iff_eq, beq_eq_false_iff_ne, bne_eq_false_iff_eq, Bool.not_eq_true', Bool.not_eq_false', bys_length, List.length_append, List.length_cons, List.length_nil, List.length_map, List.length_drop, List.length_take, Int.natCast_add, wrap_i64_eq, wrap_u64, wrap_u8, ne_eq, not_true_eq_false, not_false_eq_true, Nat.zero_add, Nat.mul_one] <;> omega) | omega | (simp; done) | (simp; omega))) only [↓at_runK, ↓at_bind, ↓contQ_mk, ↓at_ret, ↓at_consK, ↓at_nilK, ↓at_optK, ↓at_intK, ↓at_boolK, ↓at_strK, ↓at_slK, ↓at_slOK, ↓at_slK0, ↓at_slOK0, ↓at_aggK, ↓at_cond_t, ↓at_cond_f, ↓at_sameL, ↓at_any1, ↓at_any, and_self, toBytes_bys, List.nil_append, List.append_nil, ↓at_nodeW, List.drop_zero, List.take_succ_cons, List.take_zero, List.getElem?_cons_succ, List.getElem?_cons_zero, cells_agg, eqCells_cons, eqCells_nil, eq1_int, eq1_bool, eq1_str, ↓at_ptr_whole, ↓at_ptr_cell, ↓at_ptr_obj, ↓at_ptr_objs, shift_obj, shift_elt, toA_val, toA_own, Int.toNat_natCast, List.cons_append, prs_length, r1, rrange_run, same31_run, Bool.not_true, cnew_run, r]
  | succ n ih =>
    intro j k t h ok hlen hkeys hj hk ht
    obtain ⟨k, rfl⟩ : ∃ m, k = m + 1 := ⟨k - 1, by omega⟩
    have h1 : j < l.length := by omega
    have e1 := succ_wrap (i := j) (by omega)
    have rd := fun (Q : Res → Prop) (tg : Hid Q) => tput_run (d := d + 1030) (k := l[j].key) (v := l[j].val) (Q := Q) (tg := tg) ok (by omega) ht (by omega)
    obtain ⟨ok', hL⟩ := ok.put l[j].key l[j].val (by omega)
    have hlen' : (t.put l[j].key l[j].val).toL.length ≤ j + 1 := by rw [hL]; have := lput_len_le (k := l[j].key) (v := l[j].val) ok.srt; omega
    have hkeys' : ∀ p ∈ (t.put l[j].key l[j].val).toL, p.key.length ≤ 140737488351232 := by
      rw [hL]
      intro p hp
      unfold lput at hp
      rcases List.mem_append.1 hp with hp | hp
      · exact hkeys p (List.mem_filter.1 hp).1
      · rcases List.mem_cons.1 hp with rfl | hp
        · exact hlk _ (List.getElem_mem h1)
        · exact hkeys p (List.mem_filter.1 hp).1
    obtain ⟨h', r⟩ := ih (j + 1) k _ (h.put ti (trT (t.put l[j].key l[j].val))) ok' hlen' hkeys' (by omega) (by omega) (Heap.put_get ht)
    rw [hL] at r
    have hsr := ok.srt
    refine ⟨h', fun Q tg => ?_⟩
    rw [P11_0_eq]
    simp (disch := (first | assumption | (simp only [Bool.and_eq_true, Bool.and_eq_false_iff, decide_eq_true_eq, decide_eq_false_iff_not, bne_iff_ne, beq_iff_eq, beq_eq_false_iff_ne, bne_eq_false_iff_eq, Bool.not_eq_true', Bool.not_eq_false', bys_length, List.length_append, List.length_cons, List.length_nil, List.length_map, List.length_drop, List.length_take, Int.natCast_add, wrap_i64_eq, wrap_u64, wrap_u8, ne_eq, not_true_eq_false, not_false_eq_true, Nat.zero_add, Nat.mul_one] <;> omega) | omega | (simp; done) | (simp; omega))) only [↓at_runK, ↓at_bind, ↓contQ_mk, ↓at_ret, ↓at_consK, ↓at_nilK, ↓at_optK, ↓at_intK, ↓at_boolK, ↓at_strK, ↓at_slK, ↓at_slOK, ↓at_slK0, ↓at_slOK0, ↓at_aggK, ↓at_cond_t, ↓at_cond_f, ↓at_sameL, ↓at_any1, ↓at_any, and_self, toBytes_bys, List.nil_append, List.append_nil, ↓at_nodeW, List.drop_zero, List.take_succ_cons, List.take_zero, List.getElem?_cons_succ, List.getElem?_cons_zero, cells_agg, eqCells_cons, eqCells_nil, eq1_int, eq1_bool, eq1_str, ↓at_ptr_whole, ↓at_ptr_cell, ↓at_ptr_obj, ↓at_ptr_objs, shift_obj, shift_elt, toA_val, toA_own, Int.toNat_natCast, List.cons_append, prs_length, prs_getD h1, rd, rput31_run, e1, r]
/-- CursorRanges. -/
theorem cranges_true (l : List KPair) (fr to : List UInt8) (most : Int) (h : Heap) (hlk : ∀ p ∈ l, p.key.length ≤ 140737488351232) : ∃ d h', Ans (evFn Cw d 11 [.sl false 3 (prs l), .agg [.str fr, .str to], .int .i64 most] h) ([.bool true], h') := by
  by_cases hl : l.length ≤ 100
  · obtain ⟨h', r⟩ := cranges_loop 0 h.objs.length fr to most false l hl hlk l.length 0 rounds .nil (h.push (trT .nil)) ⟨trivial, List.Pairwise.nil, by simp [Nd.toL]⟩ (Nat.le_refl _) (by simp [Nd.toL]) (by omega) (rounds_gt' (by omega)) (Heap.push_new h _)
    have hn : prs Nd.nil.toL = [] := of_eq_true (eq_self _)
    rw [e0, hn] at r
    refine ⟨0 + 1030 + 1, h', Run.ans ?_⟩
    rw [F11_eq]
    simp (disch := (first | assumption | (simp only [Bool.and_eq_true, Bool.and_eq_false_iff, decide_eq_true_eq, decide_eq_false_iff_not, bne_iff_ne, beq_iff_eq, beq_eq_false_iff_ne, bne_eq_false_iff_eq, Bool.not_eq_true', Bool.not_eq_false', bys_length, List.length_append, List.length_cons, List.length_nil, List.length_map, List.length_drop, List.length_take, Int.natCast_add, wrap_i64_eq, wrap_u64, wrap_u8, ne_eq, not_true_eq_false, not_false_eq_true, Nat.zero_add, Nat.mul_one] <;> omega) | omega | (simp; done) | (simp; omega))) only [↓at_runK, ↓at_bind, ↓contQ_mk, ↓at_ret, ↓at_consK, ↓at_nilK, ↓at_optK, ↓at_intK, ↓at_boolK, ↓at_strK, ↓at_slK, ↓at_slOK, ↓at_slK0, ↓at_slOK0, ↓at_aggK, ↓at_cond_t, ↓at_cond_f, ↓at_sameL, ↓at_any1, ↓at_any, and_self, toBytes_bys, List.nil_append, List.append_nil, ↓at_nodeW, List.drop_zero, List.take_succ_cons, List.take_zero, List.getElem?_cons_succ, List.getElem?_cons_zero, cells_agg, eqCells_cons, eqCells_nil, eq1_int, eq1_bool, eq1_str, ↓at_ptr_whole, ↓at_ptr_cell, ↓at_ptr_obj, ↓at_ptr_objs, shift_obj, shift_elt, toA_val, toA_own, Int.toNat_natCast, List.cons_append, prs_length, tnew_run, r]
  · obtain ⟨h', r⟩ := awake32_run 9 h
    refine ⟨9 + 1021 + 1, h', Run.ans ?_⟩
    rw [F11_eq]
    simp (disch := (first | assumption | (simp only [Bool.and_eq_true, Bool.and_eq_false_iff, decide_eq_true_eq, decide_eq_false_iff_not, bne_iff_ne, beq_iff_eq, beq_eq_false_iff_ne, bne_eq_false_iff_eq, Bool.not_eq_true', Bool.not_eq_false', bys_length, List.length_append, List.length_cons, List.length_nil, List.length_map, List.length_drop, List.length_take, Int.natCast_add, wrap_i64_eq, wrap_u64, wrap_u8, ne_eq, not_true_eq_false, not_false_eq_true, Nat.zero_add, Nat.mul_one] <;> omega) | omega | (simp; done) | (simp; omega))) only [↓at_runK, ↓at_bind, ↓contQ_mk, ↓at_ret, ↓at_consK, ↓at_nilK, ↓at_optK, ↓at_intK, ↓at_boolK, ↓at_strK, ↓at_slK, ↓at_slOK, ↓at_slK0, ↓at_slOK0, ↓at_aggK, ↓at_cond_t, ↓at_cond_f, ↓at_sameL, ↓at_any1, ↓at_any, and_self, toBytes_bys, List.nil_append, List.append_nil, ↓at_nodeW, List.drop_zero, List.take_succ_cons, List.take_zero, List.getElem?_cons_succ, List.getElem?_cons_zero, cells_agg, eqCells_cons, eqCells_nil, eq1_int, eq1_bool, eq1_str, ↓at_ptr_whole, ↓at_ptr_cell, ↓at_ptr_obj, ↓at_ptr_objs, shift_obj, shift_elt, toA_val, toA_own, Int.toNat_natCast, List.cons_append, prs_length, r]
end Go.Proofs.Ytfdkkhmaikgmcaa.Wa
