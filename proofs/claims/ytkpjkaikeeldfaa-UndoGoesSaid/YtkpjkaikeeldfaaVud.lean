/- Undoing: the way back, and the plan; UndoPlans. -/
import Derived.Test.YtkpjkaikeeldfaaVtx
import Derived.Test.YtkpjkaikeeldfaaVl
import Derived.Test.YtkpjkaikeeldfaaWh
namespace Go.Proofs.Ytkpjkaikeeldfaa.Wa
open Go Go.Weave
set_option maxRecDepth 100000
set_option linter.unusedSimpArgs false
set_option linter.unusedVariables false
set_option linter.unusedSectionVars false

def chs (l : List Change) : List AVal := l.map Change.A
theorem chs_length (l : List Change) : (chs l).length = l.length := by simp [chs]
theorem chs_nil : chs [] = [] := of_eq_true (eq_self _)
theorem chs_snoc (l : List Change) (c : Change) : chs l ++ [AVal.agg [.str c.key, .bool c.was, .bool c.is, .str c.old, .str c.new, .int .i64 c.next]] = chs (l ++ [c]) := by simp [chs, Change.A, Change.C]
theorem chs_cons (l : List Change) (c : Change) : AVal.agg [.str c.key, .bool c.was, .bool c.is, .str c.old, .str c.new, .int .i64 c.next] :: chs l = chs (c :: l) := by simp [chs, Change.A, Change.C]
theorem chs_getD {l : List Change} {i : Nat} (h : i < l.length) : (chs l).getD i AVal.undef = .agg [.str l[i].key, .bool l[i].was, .bool l[i].is, .str l[i].old, .str l[i].new, .int .i64 l[i].next] := by simp [chs, h, Change.A, Change.C]
def turnC (c : Change) (x : Int) : Change := ⟨c.key, c.is, c.was, c.new, c.old, x⟩

/-- The first record of an LSN, from a place on. -/
def firstR (l : List Rec) (x : Int) : Nat → Nat → Option Nat
  | 0, _ => none
  | n + 1, i => if (l.getD i ⟨0, 0, 0, 0, false, []⟩).lsn = x then some i else firstR l x n (i + 1)
theorem firstR_succ (l : List Rec) (x : Int) (n i : Nat) : firstR l x (n + 1) i = if (l.getD i ⟨0, 0, 0, 0, false, []⟩).lsn = x then some i else firstR l x n (i + 1) := rfl
theorem firstR_spec (l : List Rec) (x : Int) : ∀ (n i j : Nat), firstR l x n i = some j → i ≤ j ∧ j < i + n ∧ (l.getD j ⟨0, 0, 0, 0, false, []⟩).lsn = x
  | 0, i, j, h => by simp [firstR] at h
  | n + 1, i, j, h => by
    unfold firstR at h
    split at h
    · rename_i e
      simp at h; subst h
      exact ⟨Nat.le_refl _, by omega, e⟩
    · have := firstR_spec l x n (i + 1) j h
      exact ⟨by omega, by omega, this.2.2⟩
theorem getDr {l : List Rec} {i : Nat} (h : i < l.length) : l.getD i ⟨0, 0, 0, 0, false, []⟩ = l[i] := by simp [h]

theorem find_loop (d : Nat) (f : Bool) (l : List Rec) (hl : l.length ≤ 2000000) (x : Int) (h : Heap) (Q : Res → Prop) : ∀ (n i k : Nat) (tg : Hid Q), l.length = i + n → n < k →
    Run (P25_0 d k f (recs l) x i h) Q tg = Q ([.int .i64 (match firstR l x n i with | some j => (j : Int) | none => -1)], h) := by
  intro n
  induction n with
  | zero =>
    intro i k tg hi hk
    obtain ⟨k, rfl⟩ : ∃ m, k = m + 1 := ⟨k - 1, by omega⟩
    rw [P25_0_eq]
    simp (disch := (first | assumption | (simp only [Bool.and_eq_true, Bool.and_eq_false_iff, decide_eq_true_eq, decide_eq_false_iff_not, bne_iff_ne, beq_iff_eq, beq_eq_false_iff_ne, bne_eq_false_iff_eq, Bool.not_eq_true', Bool.not_eq_false', bys_length, List.length_append, List.length_cons, List.length_nil, List.length_map, List.length_drop, List.length_take, Int.natCast_add, wrap_i64_eq, wrap_u64, wrap_u8, ne_eq, not_true_eq_false, not_false_eq_true, Nat.zero_add, Nat.mul_one] <;> omega) | omega | (simp; done) | (simp; omega))) only [↓at_runK, ↓at_bind, ↓contQ_mk, ↓at_ret, ↓at_consK, ↓at_nilK, ↓at_optK, ↓at_intK, ↓at_boolK, ↓at_strK, ↓at_slK, ↓at_slOK, ↓at_slK0, ↓at_slOK0, ↓at_aggK, ↓at_cond_t, ↓at_cond_f, ↓at_sameL, ↓at_any1, ↓at_any, and_self, toBytes_bys, List.nil_append, List.append_nil, ↓at_nodeW, List.drop_zero, List.take_succ_cons, List.take_zero, List.getElem?_cons_succ, List.getElem?_cons_zero, cells_agg, eqCells_cons, eqCells_nil, eq1_int, eq1_bool, eq1_str, ↓at_ptr_whole, ↓at_ptr_cell, ↓at_ptr_obj, ↓at_ptr_objs, shift_obj, shift_elt, toA_val, toA_own, Int.toNat_natCast, List.cons_append, recs_length]
    rfl
  | succ n ih =>
    intro i k tg hi hk
    obtain ⟨k, rfl⟩ : ∃ m, k = m + 1 := ⟨k - 1, by omega⟩
    have h1 : i < l.length := by omega
    have e1 := succ_wrap (i := i) (by omega)
    have ih' := fun tg => ih (i + 1) k tg (by omega) (by omega)
    rw [P25_0_eq]
    unfold firstR
    rw [getDr h1]
    by_cases c : l[i].lsn = x
    · have c' : (l[i].lsn == x) = true := by simp [c]
      rw [if_pos c]
      simp (disch := (first | assumption | (simp only [Bool.and_eq_true, Bool.and_eq_false_iff, decide_eq_true_eq, decide_eq_false_iff_not, bne_iff_ne, beq_iff_eq, beq_eq_false_iff_ne, bne_eq_false_iff_eq, Bool.not_eq_true', Bool.not_eq_false', bys_length, List.length_append, List.length_cons, List.length_nil, List.length_map, List.length_drop, List.length_take, Int.natCast_add, wrap_i64_eq, wrap_u64, wrap_u8, ne_eq, not_true_eq_false, not_false_eq_true, Nat.zero_add, Nat.mul_one] <;> omega) | omega | (simp; done) | (simp; omega))) only [↓at_runK, ↓at_bind, ↓contQ_mk, ↓at_ret, ↓at_consK, ↓at_nilK, ↓at_optK, ↓at_intK, ↓at_boolK, ↓at_strK, ↓at_slK, ↓at_slOK, ↓at_slK0, ↓at_slOK0, ↓at_aggK, ↓at_cond_t, ↓at_cond_f, ↓at_sameL, ↓at_any1, ↓at_any, and_self, toBytes_bys, List.nil_append, List.append_nil, ↓at_nodeW, List.drop_zero, List.take_succ_cons, List.take_zero, List.getElem?_cons_succ, List.getElem?_cons_zero, cells_agg, eqCells_cons, eqCells_nil, eq1_int, eq1_bool, eq1_str, ↓at_ptr_whole, ↓at_ptr_cell, ↓at_ptr_obj, ↓at_ptr_objs, shift_obj, shift_elt, toA_val, toA_own, Int.toNat_natCast, List.cons_append, recs_length, recs_getD h1, c']
    · have c' : (l[i].lsn == x) = false := by simp [c]
      rw [if_neg c]
      simp (disch := (first | assumption | (simp only [Bool.and_eq_true, Bool.and_eq_false_iff, decide_eq_true_eq, decide_eq_false_iff_not, bne_iff_ne, beq_iff_eq, beq_eq_false_iff_ne, bne_eq_false_iff_eq, Bool.not_eq_true', Bool.not_eq_false', bys_length, List.length_append, List.length_cons, List.length_nil, List.length_map, List.length_drop, List.length_take, Int.natCast_add, wrap_i64_eq, wrap_u64, wrap_u8, ne_eq, not_true_eq_false, not_false_eq_true, Nat.zero_add, Nat.mul_one] <;> omega) | omega | (simp; done) | (simp; omega))) only [↓at_runK, ↓at_bind, ↓contQ_mk, ↓at_ret, ↓at_consK, ↓at_nilK, ↓at_optK, ↓at_intK, ↓at_boolK, ↓at_strK, ↓at_slK, ↓at_slOK, ↓at_slK0, ↓at_slOK0, ↓at_aggK, ↓at_cond_t, ↓at_cond_f, ↓at_sameL, ↓at_any1, ↓at_any, and_self, toBytes_bys, List.nil_append, List.append_nil, ↓at_nodeW, List.drop_zero, List.take_succ_cons, List.take_zero, List.getElem?_cons_succ, List.getElem?_cons_zero, cells_agg, eqCells_cons, eqCells_nil, eq1_int, eq1_bool, eq1_str, ↓at_ptr_whole, ↓at_ptr_cell, ↓at_ptr_obj, ↓at_ptr_objs, shift_obj, shift_elt, toA_val, toA_own, Int.toNat_natCast, List.cons_append, recs_length, recs_getD h1, c', e1, ih']
theorem find_run {d : Nat} {f : Bool} {l : List Rec} (hl : l.length ≤ 2000000) {x : Int} {h : Heap} {Q : Res → Prop} {tg : Hid Q} :
    Run (evFn Cw (d + 1) 25 [.sl f 6 (recs l), .int .i64 x] h) Q tg = Q ([.int .i64 (match firstR l x l.length 0 with | some j => (j : Int) | none => -1)], h) := by
  have := find_loop d f l hl x h Q l.length 0 rounds ⟨⟩ (by omega) (Nat.lt_of_lt_of_le (by omega) rounds_ge)
  rw [e0] at this
  rw [F25_eq]
  exact this

/-! ### One step back -/
inductive UStep where
  | bad
  | begins
  | back (next : Int)
  | undo (c : Change) (next : Int)
noncomputable def ustep (l : List Rec) (x : Int) : UStep :=
  match firstR l x l.length 0 with
  | none => .bad
  | some j =>
    if (l.getD j ⟨0, 0, 0, 0, false, []⟩).kind = 5 then .begins else
    if (cdec (l.getD j ⟨0, 0, 0, 0, false, []⟩).data).2 ≠ 0 then .bad else
    if (l.getD j ⟨0, 0, 0, 0, false, []⟩).kind = 6 then
      (if (l.getD j ⟨0, 0, 0, 0, false, []⟩).prev ≥ x then .bad else .undo (turnC (cdec (l.getD j ⟨0, 0, 0, 0, false, []⟩).data).1 (l.getD j ⟨0, 0, 0, 0, false, []⟩).prev) (l.getD j ⟨0, 0, 0, 0, false, []⟩).prev)
    else if (l.getD j ⟨0, 0, 0, 0, false, []⟩).kind = 7 then
      (if (cdec (l.getD j ⟨0, 0, 0, 0, false, []⟩).data).1.next ≥ x then .bad else .back (cdec (l.getD j ⟨0, 0, 0, 0, false, []⟩).data).1.next)
    else .bad
noncomputable def upl (l : List Rec) : Nat → Int → Option (List Change × List Int × Int)
  | 0, _ => none
  | n + 1, x =>
    match ustep l x with
    | .bad => none
    | .begins => some ([], [], x)
    | .back y => upl l n y
    | .undo c y => match upl l n y with | none => none | some (a, b, g) => some (c :: a, x :: b, g)
/-- How many records there are up to an LSN. -/
def upto (l : List Rec) (x : Int) : Nat := (l.filter fun r => decide (r.lsn ≤ x)).length
theorem upto_le (l : List Rec) (x : Int) : upto l x ≤ l.length := List.length_filter_le _ _
theorem upto_cons (r : Rec) (l : List Rec) (x : Int) : upto (r :: l) x = if r.lsn ≤ x then upto l x + 1 else upto l x := by
  unfold upto
  by_cases h : r.lsn ≤ x
  · rw [List.filter_cons_of_pos (by simpa using h), if_pos h]; rfl
  · rw [List.filter_cons_of_neg (by simpa using h), if_neg h]
theorem upto_mono {x y : Int} (h : y ≤ x) : ∀ l : List Rec, upto l y ≤ upto l x
  | [] => by simp [upto]
  | r :: l => by
    have := upto_mono h l
    rw [upto_cons, upto_cons]
    split
    · rw [if_pos (by omega)]; omega
    · split <;> omega
theorem upto_lt {l : List Rec} {x y : Int} {j : Nat} (h : firstR l x l.length 0 = some j) (hy : y < x) : upto l y < upto l x := by
  obtain ⟨h1, h2, h3⟩ := firstR_spec l x _ _ _ h
  have hj : j < l.length := by omega
  rw [getDr hj] at h3
  clear h h2 h1
  induction l generalizing j with
  | nil => simp at hj
  | cons r l ih =>
    rw [upto_cons, upto_cons]
    cases j with
    | zero =>
      simp only [List.getElem_cons_zero] at h3
      have := upto_mono (l := l) (x := x) (y := y) (by omega)
      rw [if_neg (by omega), if_pos (by omega)]
      omega
    | succ j =>
      simp only [List.getElem_cons_succ] at h3
      have := ih (by simpa using hj) h3
      split
      · rw [if_pos (by omega)]; omega
      · split <;> omega
theorem ustep_back {l : List Rec} {x y : Int} (h : ustep l x = .back y) : upto l y < upto l x := by
  unfold ustep at h
  split at h
  · cases h
  · rename_i j hj
    repeat' (split at h)
    all_goals (first | cases h | skip)
    all_goals exact upto_lt hj (by omega)
theorem ustep_undo {l : List Rec} {x y : Int} {c : Change} (h : ustep l x = .undo c y) : upto l y < upto l x := by
  unfold ustep at h
  split at h
  · cases h
  · rename_i j hj
    repeat' (split at h)
    all_goals (first | cases h | skip)
    all_goals exact upto_lt hj (by omega)

/-! ### The way back -/
def placesOK (l : List Rec) (tb : List (Int × AVal × Nat)) (i : Nat) : Prop := ∀ x, tget x tb = (firstR l x (l.length - i) i).map fun (j : Nat) => AVal.int .i64 (j : Int)
theorem places_step {l : List Rec} {tb : List (Int × AVal × Nat)} {i c : Nat} (hi : i < l.length) (h : placesOK l tb (i + 1)) : placesOK l (tput l[i].lsn (.int .i64 (i : Int)) tb c) i := fun x => by
  have e : l.length - i = (l.length - (i + 1)) + 1 := by omega
  rw [tget_tput, h x, e, firstR_succ, getDr hi]
  by_cases hx : x = l[i].lsn
  · rw [if_pos hx, if_pos hx.symm]; rfl
  · rw [if_neg hx, if_neg (fun e => hx e.symm)]
theorem places_loop (d : Nat) (f : Bool) (l : List Rec) (hl : l.length ≤ 2000000) (x : Int) (m : Nat) (l6 : List AVal) (x7 : Int) : ∀ (n i k : Nat) (h : Heap) (tb : List (Int × AVal × Nat)) (c : Nat), l.length = i + n → n < k → h.objs[m]? = some (.map 3 (encM (AVal.int .i64) tb) c) → placesOK l tb n →
    ∃ tb' c', placesOK l tb' 0 ∧ ∀ (Q : Res → Prop) (tg : Hid Q), Run (P24_0 d k f (recs l) x m (l.length : Nat) i l6 x7 h) Q tg = Run (P24_1 d rounds f (recs l) m x l6 x7 [] [] 0 (h.put m (.map 3 (encM (AVal.int .i64) tb') c'))) Q ⟨⟩ := by
  intro n
  induction n with
  | zero =>
    intro i k h tb c hi hk hm hp
    obtain ⟨k, rfl⟩ : ∃ m, k = m + 1 := ⟨k - 1, by omega⟩
    refine ⟨tb, c, hp, fun Q tg => ?_⟩
    have e : h.put m (.map 3 (encM (AVal.int .i64) tb) c) = h := by
      obtain ⟨o⟩ := h
      simp only [Heap.put]
      congr 1
      apply List.ext_getElem?
      intro j
      rw [List.getElem?_set]
      split
      · rename_i e
        subst e
        split
        · exact hm.symm
        · rename_i hl
          rw [List.getElem?_eq_none (by omega)]
      · rfl
    rw [P24_0_eq, e]
    simp (disch := (first | assumption | (simp only [Bool.and_eq_true, Bool.and_eq_false_iff, decide_eq_true_eq, decide_eq_false_iff_not, bne_iff_ne, beq_iff_eq, beq_eq_false_iff_ne, bne_eq_false_iff_eq, Bool.not_eq_true', Bool.not_eq_false', bys_length, List.length_append, List.length_cons, List.length_nil, List.length_map, List.length_drop, List.length_take, Int.natCast_add, wrap_i64_eq, wrap_u64, wrap_u8, ne_eq, not_true_eq_false, not_false_eq_true, Nat.zero_add, Nat.mul_one] <;> omega) | omega | (simp; done) | (simp; omega))) only [↓at_runK, ↓at_bind, ↓contQ_mk, ↓at_ret, ↓at_consK, ↓at_nilK, ↓at_optK, ↓at_intK, ↓at_boolK, ↓at_strK, ↓at_slK, ↓at_slOK, ↓at_slK0, ↓at_slOK0, ↓at_aggK, ↓at_cond_t, ↓at_cond_f, ↓at_sameL, ↓at_any1, ↓at_any, and_self, toBytes_bys, List.nil_append, List.append_nil, ↓at_nodeW, List.drop_zero, List.take_succ_cons, List.take_zero, List.getElem?_cons_succ, List.getElem?_cons_zero, cells_agg, eqCells_cons, eqCells_nil, eq1_int, eq1_bool, eq1_str, ↓at_ptr_whole, ↓at_ptr_cell, ↓at_ptr_obj, ↓at_ptr_objs, shift_obj, shift_elt, toA_val, toA_own, Int.toNat_natCast, List.cons_append]
  | succ n ih =>
    intro i k h tb c hi hk hm hp
    obtain ⟨k, rfl⟩ : ∃ m, k = m + 1 := ⟨k - 1, by omega⟩
    have h1 : n < l.length := by omega
    have e1 := succ_wrap (i := i) (by omega)
    have e2 : IntKind.i64.wrap (IntKind.i64.wrap (((l.length : Nat) : Int) - 1) - (i : Int)) = ((n : Nat) : Int) := by
      rw [wrap_i64_id (n := ((l.length : Nat) : Int) - 1) (by omega) (by omega), wrap_i64_id (by omega) (by omega)]; omega
    obtain ⟨tb', c', h2, h3⟩ := ih (i + 1) k (h.put m (.map 3 (encM (AVal.int .i64) (tput l[n].lsn (.int .i64 (n : Int)) tb c)) (if (tget l[n].lsn tb).isSome then c else c + 1))) _ _ (by omega) (by omega) (Heap.put_get hm) (places_step h1 hp)
    rw [Heap.put_put] at h3
    refine ⟨tb', c', h2, fun Q tg => ?_⟩
    rw [P24_0_eq]
    simp (disch := (first | assumption | (simp only [Bool.and_eq_true, Bool.and_eq_false_iff, decide_eq_true_eq, decide_eq_false_iff_not, bne_iff_ne, beq_iff_eq, beq_eq_false_iff_ne, bne_eq_false_iff_eq, Bool.not_eq_true', Bool.not_eq_false', bys_length, List.length_append, List.length_cons, List.length_nil, List.length_map, List.length_drop, List.length_take, Int.natCast_add, wrap_i64_eq, wrap_u64, wrap_u8, ne_eq, not_true_eq_false, not_false_eq_true, Nat.zero_add, Nat.mul_one] <;> omega) | omega | (simp; done) | (simp; omega))) only [↓at_runK, ↓at_bind, ↓contQ_mk, ↓at_ret, ↓at_consK, ↓at_nilK, ↓at_optK, ↓at_intK, ↓at_boolK, ↓at_strK, ↓at_slK, ↓at_slOK, ↓at_slK0, ↓at_slOK0, ↓at_aggK, ↓at_cond_t, ↓at_cond_f, ↓at_sameL, ↓at_any1, ↓at_any, and_self, toBytes_bys, List.nil_append, List.append_nil, ↓at_nodeW, List.drop_zero, List.take_succ_cons, List.take_zero, List.getElem?_cons_succ, List.getElem?_cons_zero, cells_agg, eqCells_cons, eqCells_nil, eq1_int, eq1_bool, eq1_str, ↓at_ptr_whole, ↓at_ptr_cell, ↓at_ptr_obj, ↓at_ptr_objs, shift_obj, shift_elt, toA_val, toA_own, Int.toNat_natCast, List.cons_append, recs_length, e2, recs_getD h1, at_updK encInt hm, e1, h3]

def resB (o : Option (List Change × List Int × Int)) (cs : List Change) (ls : List Int) : List AVal :=
  match o with
  | none => [.agg [.sl true 7 [], .sl true 0 [], .int .i64 0], .bool false]
  | some (a, b, g) => [.agg [.sl false 7 (chs (cs ++ a)), .sl false 0 (ints (ls ++ b)), .int .i64 g], .bool true]
theorem upl_succ (l : List Rec) (n : Nat) (x : Int) : upl l (n + 1) x = match ustep l x with
    | .bad => none
    | .begins => some ([], [], x)
    | .back y => upl l n y
    | .undo c y => match upl l n y with | none => none | some (a, b, g) => some (c :: a, x :: b, g) := rfl
theorem ustep_at {l : List Rec} {x : Int} {j : Nat} (h : firstR l x l.length 0 = some j) (hj : j < l.length) : ustep l x =
    if l[j].kind = 5 then .begins else if (cdec l[j].data).2 ≠ 0 then .bad else
    if l[j].kind = 6 then (if l[j].prev ≥ x then .bad else .undo (turnC (cdec l[j].data).1 l[j].prev) l[j].prev)
    else if l[j].kind = 7 then (if (cdec l[j].data).1.next ≥ x then .bad else .back (cdec l[j].data).1.next) else .bad := by
  unfold ustep
  rw [h]
  simp only [getDr hj]
theorem ustep_none {l : List Rec} {x : Int} (h : firstR l x l.length 0 = none) : ustep l x = .bad := by
  unfold ustep
  rw [h]
theorem resB_undo (o : Option (List Change × List Int × Int)) (c : Change) (x : Int) (cs : List Change) (ls : List Int) :
    resB (match o with | none => none | some (a, b, g) => some (c :: a, x :: b, g)) cs ls = resB o (cs ++ [c]) (ls ++ [x]) := by
  cases o with
  | none => rfl
  | some p => obtain ⟨a, b, g⟩ := p; simp [resB]
theorem back_loop (d : Nat) (f : Bool) (l : List Rec) (hl : l.length ≤ 2000000) (hd : ∀ r ∈ l, r.data.length ≤ 140737488351232) (m : Nat) (l4 : List AVal) (x5 : Int) : ∀ (n k : Nat) (x : Int) (cs : List Change) (ls : List Int) (h : Heap) (tb : List (Int × AVal × Nat)) (c : Nat),
    upto l x < n → n ≤ k → cs.length + n ≤ 10000000 → ls.length + n ≤ 10000000 → h.objs[m]? = some (.map 3 (encM (AVal.int .i64) tb) c) → placesOK l tb 0 →
    ∃ h', h.ext h' ∧ ∀ (Q : Res → Prop) (tg : Hid Q), Run (P24_1 (d + 4) k f (recs l) m x l4 x5 (chs cs) (ints ls) 0 h) Q tg = Q (resB (upl l n x) cs ls, h') := by
  intro n
  induction n with
  | zero => intro k x cs ls h tb c hu; omega
  | succ n ih =>
    intro k x cs ls h tb c hu hk hcs hls hm hp
    obtain ⟨k, rfl⟩ : ∃ m, k = m + 1 := ⟨k - 1, by omega⟩
    have hpx := hp x
    rw [Nat.sub_zero] at hpx
    rw [upl_succ]
    cases hf : firstR l x l.length 0 with
    | none =>
      rw [hf] at hpx
      refine ⟨h, Heap.ext.refl h, fun Q tg => ?_⟩
      rw [ustep_none hf, P24_1_eq]
      simp (disch := (first | assumption | (simp only [Bool.and_eq_true, Bool.and_eq_false_iff, decide_eq_true_eq, decide_eq_false_iff_not, bne_iff_ne, beq_iff_eq, beq_eq_false_iff_ne, bne_eq_false_iff_eq, Bool.not_eq_true', Bool.not_eq_false', bys_length, List.length_append, List.length_cons, List.length_nil, List.length_map, List.length_drop, List.length_take, Int.natCast_add, wrap_i64_eq, wrap_u64, wrap_u8, ne_eq, not_true_eq_false, not_false_eq_true, Nat.zero_add, Nat.mul_one] <;> omega) | omega | (simp; done) | (simp; omega))) only [↓at_runK, ↓at_bind, ↓contQ_mk, ↓at_ret, ↓at_consK, ↓at_nilK, ↓at_optK, ↓at_intK, ↓at_boolK, ↓at_strK, ↓at_slK, ↓at_slOK, ↓at_slK0, ↓at_slOK0, ↓at_aggK, ↓at_cond_t, ↓at_cond_f, ↓at_sameL, ↓at_any1, ↓at_any, and_self, toBytes_bys, List.nil_append, List.append_nil, ↓at_nodeW, List.drop_zero, List.take_succ_cons, List.take_zero, List.getElem?_cons_succ, List.getElem?_cons_zero, cells_agg, eqCells_cons, eqCells_nil, eq1_int, eq1_bool, eq1_str, ↓at_ptr_whole, ↓at_ptr_cell, ↓at_ptr_obj, ↓at_ptr_objs, shift_obj, shift_elt, toA_val, toA_own, Int.toNat_natCast, List.cons_append, at_lookK encInt hm, hpx, Option.map_none, Option.getD_none, Option.isSome_none, Bool.not_false]
      rfl
    | some j =>
      rw [hf] at hpx
      have hj : j < l.length := by have := firstR_spec l x _ _ _ hf; omega
      have hlt := fun y (hy : y < x) => upto_lt hf hy
      have hdl := hd _ (List.getElem_mem hj)
      have hst := ustep_at hf hj
      have hs := hst
      by_cases k5 : l[j].kind = 5
      · rw [if_pos k5] at hs
        have b5 : (l[j].kind == 5) = true := by simp [k5]
        refine ⟨h, Heap.ext.refl h, fun Q tg => ?_⟩
        rw [hs, P24_1_eq]
        simp (disch := (first | assumption | (simp only [Bool.and_eq_true, Bool.and_eq_false_iff, decide_eq_true_eq, decide_eq_false_iff_not, bne_iff_ne, beq_iff_eq, beq_eq_false_iff_ne, bne_eq_false_iff_eq, Bool.not_eq_true', Bool.not_eq_false', bys_length, List.length_append, List.length_cons, List.length_nil, List.length_map, List.length_drop, List.length_take, Int.natCast_add, wrap_i64_eq, wrap_u64, wrap_u8, ne_eq, not_true_eq_false, not_false_eq_true, Nat.zero_add, Nat.mul_one] <;> omega) | omega | (simp; done) | (simp; omega))) only [↓at_runK, ↓at_bind, ↓contQ_mk, ↓at_ret, ↓at_consK, ↓at_nilK, ↓at_optK, ↓at_intK, ↓at_boolK, ↓at_strK, ↓at_slK, ↓at_slOK, ↓at_slK0, ↓at_slOK0, ↓at_aggK, ↓at_cond_t, ↓at_cond_f, ↓at_sameL, ↓at_any1, ↓at_any, and_self, toBytes_bys, List.nil_append, List.append_nil, ↓at_nodeW, List.drop_zero, List.take_succ_cons, List.take_zero, List.getElem?_cons_succ, List.getElem?_cons_zero, cells_agg, eqCells_cons, eqCells_nil, eq1_int, eq1_bool, eq1_str, ↓at_ptr_whole, ↓at_ptr_cell, ↓at_ptr_obj, ↓at_ptr_objs, shift_obj, shift_elt, toA_val, toA_own, Int.toNat_natCast, List.cons_append, at_lookK encInt hm, hpx, Option.map_some, Option.getD_some, Option.isSome_some, Bool.not_true, recs_length, recs_getD hj, b5]
        simp [resB]
      · rw [if_neg k5] at hs
        have b5 : (l[j].kind == 5) = false := by simp [k5]
        obtain ⟨h1, E1, r1⟩ := cdecode_run (d := d) (f := l[j].full) (b := l[j].data) (h := h) hdl
        have hm1 := E1.get hm
        by_cases k6 : l[j].kind = 6
        · have b6 : (l[j].kind == 6) = true := by simp [k6]
          by_cases he : (cdec l[j].data).2 = 0
          · rw [if_neg (by simp [he]), if_pos k6] at hs
            have be : ((((cdec l[j].data).2 : Nat) : Int) != 0) = false := by simp [he]
            by_cases hx : l[j].prev ≥ x
            · rw [if_pos hx] at hs
              refine ⟨h1, E1, fun Q tg => ?_⟩
              rw [hs, P24_1_eq]
              generalize cdec l[j].data = C at *
              obtain ⟨⟨ck, cw, ci, co, cn, cx⟩, e⟩ := C
              simp only [Change.A, Change.C] at r1 be
              simp (disch := (first | assumption | (simp only [Bool.and_eq_true, Bool.and_eq_false_iff, decide_eq_true_eq, decide_eq_false_iff_not, bne_iff_ne, beq_iff_eq, beq_eq_false_iff_ne, bne_eq_false_iff_eq, Bool.not_eq_true', Bool.not_eq_false', bys_length, List.length_append, List.length_cons, List.length_nil, List.length_map, List.length_drop, List.length_take, Int.natCast_add, wrap_i64_eq, wrap_u64, wrap_u8, ne_eq, not_true_eq_false, not_false_eq_true, Nat.zero_add, Nat.mul_one] <;> omega) | omega | (simp; done) | (simp; omega))) only [↓at_runK, ↓at_bind, ↓contQ_mk, ↓at_ret, ↓at_consK, ↓at_nilK, ↓at_optK, ↓at_intK, ↓at_boolK, ↓at_strK, ↓at_slK, ↓at_slOK, ↓at_slK0, ↓at_slOK0, ↓at_aggK, ↓at_cond_t, ↓at_cond_f, ↓at_sameL, ↓at_any1, ↓at_any, and_self, toBytes_bys, List.nil_append, List.append_nil, ↓at_nodeW, List.drop_zero, List.take_succ_cons, List.take_zero, List.getElem?_cons_succ, List.getElem?_cons_zero, cells_agg, eqCells_cons, eqCells_nil, eq1_int, eq1_bool, eq1_str, ↓at_ptr_whole, ↓at_ptr_cell, ↓at_ptr_obj, ↓at_ptr_objs, shift_obj, shift_elt, toA_val, toA_own, Int.toNat_natCast, List.cons_append, at_lookK encInt hm, hpx, Option.map_some, Option.getD_some, Option.isSome_some, Bool.not_true, recs_length, recs_getD hj, b5, b6, r1, be, turn_run, chs_length, ints_length]
              rfl
            · rw [if_neg hx] at hs
              obtain ⟨h2, E2, r2⟩ := ih k l[j].prev (cs ++ [turnC (cdec l[j].data).1 l[j].prev]) (ls ++ [x]) h1 tb c (by have := hlt _ (show l[j].prev < x by omega); omega) (by omega) (by simp; omega) (by simp; omega) hm1 hp
              refine ⟨h2, E1.trans E2, fun Q tg => ?_⟩
              rw [hs, resB_undo, P24_1_eq]
              generalize cdec l[j].data = C at *
              obtain ⟨⟨ck, cw, ci, co, cn, cx⟩, e⟩ := C
              simp only [Change.A, Change.C] at r1 be
              simp only [turnC] at r2
              have ec : chs cs ++ [AVal.agg [.str ck, .bool ci, .bool cw, .str cn, .str co, .int .i64 l[j].prev]] = chs (cs ++ [⟨ck, ci, cw, cn, co, l[j].prev⟩]) := chs_snoc cs ⟨ck, ci, cw, cn, co, l[j].prev⟩
              simp (disch := (first | assumption | (simp only [Bool.and_eq_true, Bool.and_eq_false_iff, decide_eq_true_eq, decide_eq_false_iff_not, bne_iff_ne, beq_iff_eq, beq_eq_false_iff_ne, bne_eq_false_iff_eq, Bool.not_eq_true', Bool.not_eq_false', bys_length, List.length_append, List.length_cons, List.length_nil, List.length_map, List.length_drop, List.length_take, Int.natCast_add, wrap_i64_eq, wrap_u64, wrap_u8, ne_eq, not_true_eq_false, not_false_eq_true, Nat.zero_add, Nat.mul_one] <;> omega) | omega | (simp; done) | (simp; omega))) only [↓at_runK, ↓at_bind, ↓contQ_mk, ↓at_ret, ↓at_consK, ↓at_nilK, ↓at_optK, ↓at_intK, ↓at_boolK, ↓at_strK, ↓at_slK, ↓at_slOK, ↓at_slK0, ↓at_slOK0, ↓at_aggK, ↓at_cond_t, ↓at_cond_f, ↓at_sameL, ↓at_any1, ↓at_any, and_self, toBytes_bys, List.nil_append, List.append_nil, ↓at_nodeW, List.drop_zero, List.take_succ_cons, List.take_zero, List.getElem?_cons_succ, List.getElem?_cons_zero, cells_agg, eqCells_cons, eqCells_nil, eq1_int, eq1_bool, eq1_str, ↓at_ptr_whole, ↓at_ptr_cell, ↓at_ptr_obj, ↓at_ptr_objs, shift_obj, shift_elt, toA_val, toA_own, Int.toNat_natCast, List.cons_append, at_lookK encInt hm, hpx, Option.map_some, Option.getD_some, Option.isSome_some, Bool.not_true, recs_length, recs_getD hj, b5, b6, r1, be, turn_run, chs_length, ints_length, ec, ints_snoc, r2]
              rfl
          · rw [if_pos he] at hs
            have be : ((((cdec l[j].data).2 : Nat) : Int) != 0) = true := by simp; exact he
            refine ⟨h1, E1, fun Q tg => ?_⟩
            rw [hs, P24_1_eq]
            generalize cdec l[j].data = C at *
            obtain ⟨⟨ck, cw, ci, co, cn, cx⟩, e⟩ := C
            simp only [Change.A, Change.C] at r1 be
            simp (disch := (first | assumption | (simp only [Bool.and_eq_true, Bool.and_eq_false_iff, decide_eq_true_eq, decide_eq_false_iff_not, bne_iff_ne, beq_iff_eq, beq_eq_false_iff_ne, bne_eq_false_iff_eq, Bool.not_eq_true', Bool.not_eq_false', bys_length, List.length_append, List.length_cons, List.length_nil, List.length_map, List.length_drop, List.length_take, Int.natCast_add, wrap_i64_eq, wrap_u64, wrap_u8, ne_eq, not_true_eq_false, not_false_eq_true, Nat.zero_add, Nat.mul_one] <;> omega) | omega | (simp; done) | (simp; omega))) only [↓at_runK, ↓at_bind, ↓contQ_mk, ↓at_ret, ↓at_consK, ↓at_nilK, ↓at_optK, ↓at_intK, ↓at_boolK, ↓at_strK, ↓at_slK, ↓at_slOK, ↓at_slK0, ↓at_slOK0, ↓at_aggK, ↓at_cond_t, ↓at_cond_f, ↓at_sameL, ↓at_any1, ↓at_any, and_self, toBytes_bys, List.nil_append, List.append_nil, ↓at_nodeW, List.drop_zero, List.take_succ_cons, List.take_zero, List.getElem?_cons_succ, List.getElem?_cons_zero, cells_agg, eqCells_cons, eqCells_nil, eq1_int, eq1_bool, eq1_str, ↓at_ptr_whole, ↓at_ptr_cell, ↓at_ptr_obj, ↓at_ptr_objs, shift_obj, shift_elt, toA_val, toA_own, Int.toNat_natCast, List.cons_append, at_lookK encInt hm, hpx, Option.map_some, Option.getD_some, Option.isSome_some, Bool.not_true, recs_length, recs_getD hj, b5, b6, r1, be]
            rfl
        · have b6 : (l[j].kind == 6) = false := by simp [k6]
          by_cases k7 : l[j].kind = 7
          · have b7 : (l[j].kind == 7) = true := by simp [k7]
            by_cases he : (cdec l[j].data).2 = 0
            · rw [if_neg (by simp [he]), if_neg k6, if_pos k7] at hs
              have be : ((((cdec l[j].data).2 : Nat) : Int) != 0) = false := by simp [he]
              by_cases hx : (cdec l[j].data).1.next ≥ x
              · rw [if_pos hx] at hs
                refine ⟨h1, E1, fun Q tg => ?_⟩
                rw [hs, P24_1_eq]
                generalize cdec l[j].data = C at *
                obtain ⟨⟨ck, cw, ci, co, cn, cx⟩, e⟩ := C
                simp only [Change.A, Change.C] at r1 be
                simp only at hx
                simp (disch := (first | assumption | (simp only [Bool.and_eq_true, Bool.and_eq_false_iff, decide_eq_true_eq, decide_eq_false_iff_not, bne_iff_ne, beq_iff_eq, beq_eq_false_iff_ne, bne_eq_false_iff_eq, Bool.not_eq_true', Bool.not_eq_false', bys_length, List.length_append, List.length_cons, List.length_nil, List.length_map, List.length_drop, List.length_take, Int.natCast_add, wrap_i64_eq, wrap_u64, wrap_u8, ne_eq, not_true_eq_false, not_false_eq_true, Nat.zero_add, Nat.mul_one] <;> omega) | omega | (simp; done) | (simp; omega))) only [↓at_runK, ↓at_bind, ↓contQ_mk, ↓at_ret, ↓at_consK, ↓at_nilK, ↓at_optK, ↓at_intK, ↓at_boolK, ↓at_strK, ↓at_slK, ↓at_slOK, ↓at_slK0, ↓at_slOK0, ↓at_aggK, ↓at_cond_t, ↓at_cond_f, ↓at_sameL, ↓at_any1, ↓at_any, and_self, toBytes_bys, List.nil_append, List.append_nil, ↓at_nodeW, List.drop_zero, List.take_succ_cons, List.take_zero, List.getElem?_cons_succ, List.getElem?_cons_zero, cells_agg, eqCells_cons, eqCells_nil, eq1_int, eq1_bool, eq1_str, ↓at_ptr_whole, ↓at_ptr_cell, ↓at_ptr_obj, ↓at_ptr_objs, shift_obj, shift_elt, toA_val, toA_own, Int.toNat_natCast, List.cons_append, at_lookK encInt hm, hpx, Option.map_some, Option.getD_some, Option.isSome_some, Bool.not_true, recs_length, recs_getD hj, b5, b6, b7, r1, be]
                rfl
              · rw [if_neg hx] at hs
                obtain ⟨h2, E2, r2⟩ := ih k (cdec l[j].data).1.next cs ls h1 tb c (by have := hlt _ (show (cdec l[j].data).1.next < x by omega); omega) (by omega) (by omega) (by omega) hm1 hp
                refine ⟨h2, E1.trans E2, fun Q tg => ?_⟩
                rw [hs, P24_1_eq]
                generalize cdec l[j].data = C at *
                obtain ⟨⟨ck, cw, ci, co, cn, cx⟩, e⟩ := C
                simp only [Change.A, Change.C] at r1 be
                simp only at hx r2
                simp (disch := (first | assumption | (simp only [Bool.and_eq_true, Bool.and_eq_false_iff, decide_eq_true_eq, decide_eq_false_iff_not, bne_iff_ne, beq_iff_eq, beq_eq_false_iff_ne, bne_eq_false_iff_eq, Bool.not_eq_true', Bool.not_eq_false', bys_length, List.length_append, List.length_cons, List.length_nil, List.length_map, List.length_drop, List.length_take, Int.natCast_add, wrap_i64_eq, wrap_u64, wrap_u8, ne_eq, not_true_eq_false, not_false_eq_true, Nat.zero_add, Nat.mul_one] <;> omega) | omega | (simp; done) | (simp; omega))) only [↓at_runK, ↓at_bind, ↓contQ_mk, ↓at_ret, ↓at_consK, ↓at_nilK, ↓at_optK, ↓at_intK, ↓at_boolK, ↓at_strK, ↓at_slK, ↓at_slOK, ↓at_slK0, ↓at_slOK0, ↓at_aggK, ↓at_cond_t, ↓at_cond_f, ↓at_sameL, ↓at_any1, ↓at_any, and_self, toBytes_bys, List.nil_append, List.append_nil, ↓at_nodeW, List.drop_zero, List.take_succ_cons, List.take_zero, List.getElem?_cons_succ, List.getElem?_cons_zero, cells_agg, eqCells_cons, eqCells_nil, eq1_int, eq1_bool, eq1_str, ↓at_ptr_whole, ↓at_ptr_cell, ↓at_ptr_obj, ↓at_ptr_objs, shift_obj, shift_elt, toA_val, toA_own, Int.toNat_natCast, List.cons_append, at_lookK encInt hm, hpx, Option.map_some, Option.getD_some, Option.isSome_some, Bool.not_true, recs_length, recs_getD hj, b5, b6, b7, r1, be, r2]
            · rw [if_pos he] at hs
              have be : ((((cdec l[j].data).2 : Nat) : Int) != 0) = true := by simp; exact he
              refine ⟨h1, E1, fun Q tg => ?_⟩
              rw [hs, P24_1_eq]
              generalize cdec l[j].data = C at *
              obtain ⟨⟨ck, cw, ci, co, cn, cx⟩, e⟩ := C
              simp only [Change.A, Change.C] at r1 be
              simp (disch := (first | assumption | (simp only [Bool.and_eq_true, Bool.and_eq_false_iff, decide_eq_true_eq, decide_eq_false_iff_not, bne_iff_ne, beq_iff_eq, beq_eq_false_iff_ne, bne_eq_false_iff_eq, Bool.not_eq_true', Bool.not_eq_false', bys_length, List.length_append, List.length_cons, List.length_nil, List.length_map, List.length_drop, List.length_take, Int.natCast_add, wrap_i64_eq, wrap_u64, wrap_u8, ne_eq, not_true_eq_false, not_false_eq_true, Nat.zero_add, Nat.mul_one] <;> omega) | omega | (simp; done) | (simp; omega))) only [↓at_runK, ↓at_bind, ↓contQ_mk, ↓at_ret, ↓at_consK, ↓at_nilK, ↓at_optK, ↓at_intK, ↓at_boolK, ↓at_strK, ↓at_slK, ↓at_slOK, ↓at_slK0, ↓at_slOK0, ↓at_aggK, ↓at_cond_t, ↓at_cond_f, ↓at_sameL, ↓at_any1, ↓at_any, and_self, toBytes_bys, List.nil_append, List.append_nil, ↓at_nodeW, List.drop_zero, List.take_succ_cons, List.take_zero, List.getElem?_cons_succ, List.getElem?_cons_zero, cells_agg, eqCells_cons, eqCells_nil, eq1_int, eq1_bool, eq1_str, ↓at_ptr_whole, ↓at_ptr_cell, ↓at_ptr_obj, ↓at_ptr_objs, shift_obj, shift_elt, toA_val, toA_own, Int.toNat_natCast, List.cons_append, at_lookK encInt hm, hpx, Option.map_some, Option.getD_some, Option.isSome_some, Bool.not_true, recs_length, recs_getD hj, b5, b6, b7, r1, be]
              rfl
          · have b7 : (l[j].kind == 7) = false := by simp [k7]
            have hs' : ustep l x = .bad := by
              rw [hst, if_neg k5, if_neg k6, if_neg k7]; split <;> rfl
            refine ⟨h, Heap.ext.refl h, fun Q tg => ?_⟩
            rw [hs', P24_1_eq]
            simp (disch := (first | assumption | (simp only [Bool.and_eq_true, Bool.and_eq_false_iff, decide_eq_true_eq, decide_eq_false_iff_not, bne_iff_ne, beq_iff_eq, beq_eq_false_iff_ne, bne_eq_false_iff_eq, Bool.not_eq_true', Bool.not_eq_false', bys_length, List.length_append, List.length_cons, List.length_nil, List.length_map, List.length_drop, List.length_take, Int.natCast_add, wrap_i64_eq, wrap_u64, wrap_u8, ne_eq, not_true_eq_false, not_false_eq_true, Nat.zero_add, Nat.mul_one] <;> omega) | omega | (simp; done) | (simp; omega))) only [↓at_runK, ↓at_bind, ↓contQ_mk, ↓at_ret, ↓at_consK, ↓at_nilK, ↓at_optK, ↓at_intK, ↓at_boolK, ↓at_strK, ↓at_slK, ↓at_slOK, ↓at_slK0, ↓at_slOK0, ↓at_aggK, ↓at_cond_t, ↓at_cond_f, ↓at_sameL, ↓at_any1, ↓at_any, and_self, toBytes_bys, List.nil_append, List.append_nil, ↓at_nodeW, List.drop_zero, List.take_succ_cons, List.take_zero, List.getElem?_cons_succ, List.getElem?_cons_zero, cells_agg, eqCells_cons, eqCells_nil, eq1_int, eq1_bool, eq1_str, ↓at_ptr_whole, ↓at_ptr_cell, ↓at_ptr_obj, ↓at_ptr_objs, shift_obj, shift_elt, toA_val, toA_own, Int.toNat_natCast, List.cons_append, at_lookK encInt hm, hpx, Option.map_some, Option.getD_some, Option.isSome_some, Bool.not_true, recs_length, recs_getD hj, b5, b6, b7]
            rfl
theorem ints_nil' : ([] : List AVal) = ints [] := rfl
theorem chs_nil' : ([] : List AVal) = chs [] := rfl
theorem back_run (d : Nat) (f : Bool) (l : List Rec) (hl : l.length ≤ 2000000) (hd : ∀ r ∈ l, r.data.length ≤ 140737488351232) (x : Int) (h : Heap) :
    ∃ h', h.ext h' ∧ ∀ (Q : Res → Prop) (tg : Hid Q), Run (evFn Cw (d + 5) 24 [.sl f 6 (recs l), .int .i64 x] h) Q tg = Q (resB (upl l (l.length + 1) x) [] [], h') := by
  have hm : (h.push (.map 3 (encM (AVal.int .i64) []) 0)).objs[h.objs.length]? = some (.map 3 (encM (AVal.int .i64) []) 0) := Heap.push_new h _
  obtain ⟨tb, c, hp, r1⟩ := places_loop (d + 4) f l hl x h.objs.length [] 0 l.length 0 rounds (h.push (.map 3 (encM (AVal.int .i64) []) 0)) [] 0 (by omega) (Nat.lt_of_lt_of_le (by omega) rounds_ge) hm (fun y => by rw [Nat.sub_self]; rfl)
  obtain ⟨h', E, r2⟩ := back_loop d f l hl hd h.objs.length [] 0 (l.length + 1) rounds x [] [] _ tb c (by have := upto_le l x; omega) (Nat.le_trans (by omega) rounds_ge) (by simp; omega) (by simp; omega) (Heap.put_get hm) hp
  refine ⟨h', ((Heap.ext.push h _).put (Nat.le_refl _)).trans E, fun Q tg => ?_⟩
  rw [chs_nil, ints_nil] at r2
  have em : encM (AVal.int .i64) [] = [] := rfl
  rw [em] at r1 r2
  rw [e0] at r1
  rw [F24_eq, recs_length, r1, r2]

/-! ### What is told of the way back -/
def uA (o : Option (List Change × List Int × Int)) : List Change := match o with | none => [] | some p => p.1
def uB (o : Option (List Change × List Int × Int)) : List Int := match o with | none => [] | some p => p.2.1
def uG (o : Option (List Change × List Int × Int)) : Int := match o with | none => 0 | some p => p.2.2
theorem uplan_run (d : Nat) (f : Bool) (l : List Rec) (hl : l.length ≤ 2000000) (hd : ∀ r ∈ l, r.data.length ≤ 140737488351232) (x : Int) (h : Heap) :
    ∃ h' fl, h.ext h' ∧ ∀ (Q : Res → Prop) (tg : Hid Q), Run (evFn Cw (d + 6) 13 [.sl f 6 (recs l), .int .i64 x] h) Q tg = Q ([.sl fl (if (upl l (l.length + 1) x).isSome then 7 else 0) (chs (uA (upl l (l.length + 1) x))), .int .i64 (if (upl l (l.length + 1) x).isSome then 0 else 12)], h') := by
  obtain ⟨h', E, r⟩ := back_run d f l hl hd x h
  cases ho : upl l (l.length + 1) x with
  | none =>
    rw [ho] at r
    unfold resB at r
    refine ⟨h', true, E, fun Q tg => ?_⟩
    rw [F13_eq]
    simp (disch := (first | assumption | (simp only [Bool.and_eq_true, Bool.and_eq_false_iff, decide_eq_true_eq, decide_eq_false_iff_not, bne_iff_ne, beq_iff_eq, beq_eq_false_iff_ne, bne_eq_false_iff_eq, Bool.not_eq_true', Bool.not_eq_false', bys_length, List.length_append, List.length_cons, List.length_nil, List.length_map, List.length_drop, List.length_take, Int.natCast_add, wrap_i64_eq, wrap_u64, wrap_u8, ne_eq, not_true_eq_false, not_false_eq_true, Nat.zero_add, Nat.mul_one] <;> omega) | omega | (simp; done) | (simp; omega))) only [↓at_runK, ↓at_bind, ↓contQ_mk, ↓at_ret, ↓at_consK, ↓at_nilK, ↓at_optK, ↓at_intK, ↓at_boolK, ↓at_strK, ↓at_slK, ↓at_slOK, ↓at_slK0, ↓at_slOK0, ↓at_aggK, ↓at_cond_t, ↓at_cond_f, ↓at_sameL, ↓at_any1, ↓at_any, and_self, toBytes_bys, List.nil_append, List.append_nil, ↓at_nodeW, List.drop_zero, List.take_succ_cons, List.take_zero, List.getElem?_cons_succ, List.getElem?_cons_zero, cells_agg, eqCells_cons, eqCells_nil, eq1_int, eq1_bool, eq1_str, ↓at_ptr_whole, ↓at_ptr_cell, ↓at_ptr_obj, ↓at_ptr_objs, shift_obj, shift_elt, toA_val, toA_own, Int.toNat_natCast, List.cons_append, r, Bool.not_false]
    rfl
  | some p =>
    obtain ⟨a, b, g⟩ := p
    rw [ho] at r
    unfold resB at r
    refine ⟨h', false, E, fun Q tg => ?_⟩
    rw [F13_eq]
    simp (disch := (first | assumption | (simp only [Bool.and_eq_true, Bool.and_eq_false_iff, decide_eq_true_eq, decide_eq_false_iff_not, bne_iff_ne, beq_iff_eq, beq_eq_false_iff_ne, bne_eq_false_iff_eq, Bool.not_eq_true', Bool.not_eq_false', bys_length, List.length_append, List.length_cons, List.length_nil, List.length_map, List.length_drop, List.length_take, Int.natCast_add, wrap_i64_eq, wrap_u64, wrap_u8, ne_eq, not_true_eq_false, not_false_eq_true, Nat.zero_add, Nat.mul_one] <;> omega) | omega | (simp; done) | (simp; omega))) only [↓at_runK, ↓at_bind, ↓contQ_mk, ↓at_ret, ↓at_consK, ↓at_nilK, ↓at_optK, ↓at_intK, ↓at_boolK, ↓at_strK, ↓at_slK, ↓at_slOK, ↓at_slK0, ↓at_slOK0, ↓at_aggK, ↓at_cond_t, ↓at_cond_f, ↓at_sameL, ↓at_any1, ↓at_any, and_self, toBytes_bys, List.nil_append, List.append_nil, ↓at_nodeW, List.drop_zero, List.take_succ_cons, List.take_zero, List.getElem?_cons_succ, List.getElem?_cons_zero, cells_agg, eqCells_cons, eqCells_nil, eq1_int, eq1_bool, eq1_str, ↓at_ptr_whole, ↓at_ptr_cell, ↓at_ptr_obj, ↓at_ptr_objs, shift_obj, shift_elt, toA_val, toA_own, Int.toNat_natCast, List.cons_append, r, Bool.not_true]
    rfl
theorem uleft_run (d : Nat) (f : Bool) (l : List Rec) (hl : l.length ≤ 2000000) (hd : ∀ r ∈ l, r.data.length ≤ 140737488351232) (x : Int) (h : Heap) :
    ∃ h' fl, h.ext h' ∧ ∀ (Q : Res → Prop) (tg : Hid Q), Run (evFn Cw (d + 6) 16 [.sl f 6 (recs l), .int .i64 x] h) Q tg = Q ([.sl fl 0 (ints (uB (upl l (l.length + 1) x)))], h') := by
  obtain ⟨h', E, r⟩ := back_run d f l hl hd x h
  cases ho : upl l (l.length + 1) x with
  | none =>
    rw [ho] at r
    unfold resB at r
    refine ⟨h', true, E, fun Q tg => ?_⟩
    rw [F16_eq]
    simp (disch := (first | assumption | (simp only [Bool.and_eq_true, Bool.and_eq_false_iff, decide_eq_true_eq, decide_eq_false_iff_not, bne_iff_ne, beq_iff_eq, beq_eq_false_iff_ne, bne_eq_false_iff_eq, Bool.not_eq_true', Bool.not_eq_false', bys_length, List.length_append, List.length_cons, List.length_nil, List.length_map, List.length_drop, List.length_take, Int.natCast_add, wrap_i64_eq, wrap_u64, wrap_u8, ne_eq, not_true_eq_false, not_false_eq_true, Nat.zero_add, Nat.mul_one] <;> omega) | omega | (simp; done) | (simp; omega))) only [↓at_runK, ↓at_bind, ↓contQ_mk, ↓at_ret, ↓at_consK, ↓at_nilK, ↓at_optK, ↓at_intK, ↓at_boolK, ↓at_strK, ↓at_slK, ↓at_slOK, ↓at_slK0, ↓at_slOK0, ↓at_aggK, ↓at_cond_t, ↓at_cond_f, ↓at_sameL, ↓at_any1, ↓at_any, and_self, toBytes_bys, List.nil_append, List.append_nil, ↓at_nodeW, List.drop_zero, List.take_succ_cons, List.take_zero, List.getElem?_cons_succ, List.getElem?_cons_zero, cells_agg, eqCells_cons, eqCells_nil, eq1_int, eq1_bool, eq1_str, ↓at_ptr_whole, ↓at_ptr_cell, ↓at_ptr_obj, ↓at_ptr_objs, shift_obj, shift_elt, toA_val, toA_own, Int.toNat_natCast, List.cons_append, r]
    rfl
  | some p =>
    obtain ⟨a, b, g⟩ := p
    rw [ho] at r
    unfold resB at r
    refine ⟨h', false, E, fun Q tg => ?_⟩
    rw [F16_eq]
    simp (disch := (first | assumption | (simp only [Bool.and_eq_true, Bool.and_eq_false_iff, decide_eq_true_eq, decide_eq_false_iff_not, bne_iff_ne, beq_iff_eq, beq_eq_false_iff_ne, bne_eq_false_iff_eq, Bool.not_eq_true', Bool.not_eq_false', bys_length, List.length_append, List.length_cons, List.length_nil, List.length_map, List.length_drop, List.length_take, Int.natCast_add, wrap_i64_eq, wrap_u64, wrap_u8, ne_eq, not_true_eq_false, not_false_eq_true, Nat.zero_add, Nat.mul_one] <;> omega) | omega | (simp; done) | (simp; omega))) only [↓at_runK, ↓at_bind, ↓contQ_mk, ↓at_ret, ↓at_consK, ↓at_nilK, ↓at_optK, ↓at_intK, ↓at_boolK, ↓at_strK, ↓at_slK, ↓at_slOK, ↓at_slK0, ↓at_slOK0, ↓at_aggK, ↓at_cond_t, ↓at_cond_f, ↓at_sameL, ↓at_any1, ↓at_any, and_self, toBytes_bys, List.nil_append, List.append_nil, ↓at_nodeW, List.drop_zero, List.take_succ_cons, List.take_zero, List.getElem?_cons_succ, List.getElem?_cons_zero, cells_agg, eqCells_cons, eqCells_nil, eq1_int, eq1_bool, eq1_str, ↓at_ptr_whole, ↓at_ptr_cell, ↓at_ptr_obj, ↓at_ptr_objs, shift_obj, shift_elt, toA_val, toA_own, Int.toNat_natCast, List.cons_append, r]
    rfl
theorem ubegins_run (d : Nat) (f : Bool) (l : List Rec) (hl : l.length ≤ 2000000) (hd : ∀ r ∈ l, r.data.length ≤ 140737488351232) (x : Int) (h : Heap) :
    ∃ h', h.ext h' ∧ ∀ (Q : Res → Prop) (tg : Hid Q), Run (evFn Cw (d + 6) 15 [.sl f 6 (recs l), .int .i64 x] h) Q tg = Q ([.int .i64 (uG (upl l (l.length + 1) x))], h') := by
  obtain ⟨h', E, r⟩ := back_run d f l hl hd x h
  cases ho : upl l (l.length + 1) x with
  | none =>
    rw [ho] at r
    unfold resB at r
    refine ⟨h', E, fun Q tg => ?_⟩
    rw [F15_eq]
    simp (disch := (first | assumption | (simp only [Bool.and_eq_true, Bool.and_eq_false_iff, decide_eq_true_eq, decide_eq_false_iff_not, bne_iff_ne, beq_iff_eq, beq_eq_false_iff_ne, bne_eq_false_iff_eq, Bool.not_eq_true', Bool.not_eq_false', bys_length, List.length_append, List.length_cons, List.length_nil, List.length_map, List.length_drop, List.length_take, Int.natCast_add, wrap_i64_eq, wrap_u64, wrap_u8, ne_eq, not_true_eq_false, not_false_eq_true, Nat.zero_add, Nat.mul_one] <;> omega) | omega | (simp; done) | (simp; omega))) only [↓at_runK, ↓at_bind, ↓contQ_mk, ↓at_ret, ↓at_consK, ↓at_nilK, ↓at_optK, ↓at_intK, ↓at_boolK, ↓at_strK, ↓at_slK, ↓at_slOK, ↓at_slK0, ↓at_slOK0, ↓at_aggK, ↓at_cond_t, ↓at_cond_f, ↓at_sameL, ↓at_any1, ↓at_any, and_self, toBytes_bys, List.nil_append, List.append_nil, ↓at_nodeW, List.drop_zero, List.take_succ_cons, List.take_zero, List.getElem?_cons_succ, List.getElem?_cons_zero, cells_agg, eqCells_cons, eqCells_nil, eq1_int, eq1_bool, eq1_str, ↓at_ptr_whole, ↓at_ptr_cell, ↓at_ptr_obj, ↓at_ptr_objs, shift_obj, shift_elt, toA_val, toA_own, Int.toNat_natCast, List.cons_append, r]
    rfl
  | some p =>
    obtain ⟨a, b, g⟩ := p
    rw [ho] at r
    unfold resB at r
    refine ⟨h', E, fun Q tg => ?_⟩
    rw [F15_eq]
    simp (disch := (first | assumption | (simp only [Bool.and_eq_true, Bool.and_eq_false_iff, decide_eq_true_eq, decide_eq_false_iff_not, bne_iff_ne, beq_iff_eq, beq_eq_false_iff_ne, bne_eq_false_iff_eq, Bool.not_eq_true', Bool.not_eq_false', bys_length, List.length_append, List.length_cons, List.length_nil, List.length_map, List.length_drop, List.length_take, Int.natCast_add, wrap_i64_eq, wrap_u64, wrap_u8, ne_eq, not_true_eq_false, not_false_eq_true, Nat.zero_add, Nat.mul_one] <;> omega) | omega | (simp; done) | (simp; omega))) only [↓at_runK, ↓at_bind, ↓contQ_mk, ↓at_ret, ↓at_consK, ↓at_nilK, ↓at_optK, ↓at_intK, ↓at_boolK, ↓at_strK, ↓at_slK, ↓at_slOK, ↓at_slK0, ↓at_slOK0, ↓at_aggK, ↓at_cond_t, ↓at_cond_f, ↓at_sameL, ↓at_any1, ↓at_any, and_self, toBytes_bys, List.nil_append, List.append_nil, ↓at_nodeW, List.drop_zero, List.take_succ_cons, List.take_zero, List.getElem?_cons_succ, List.getElem?_cons_zero, cells_agg, eqCells_cons, eqCells_nil, eq1_int, eq1_bool, eq1_str, ↓at_ptr_whole, ↓at_ptr_cell, ↓at_ptr_obj, ↓at_ptr_objs, shift_obj, shift_elt, toA_val, toA_own, Int.toNat_natCast, List.cons_append, r]
    rfl

/-! ### The reference's plan -/
def slIs (n : Nat) (es : List AVal) (v : AVal) : Prop := v = .sl false n es ∨ (es = [] ∧ v = .sl true 0 [])
theorem slIs.ok {n : Nat} {es : List AVal} {v : AVal} (h : slIs n es v) {A : Type} (K : List AVal → Tr A) : slOK n v K = K es := by
  rcases h with rfl | ⟨rfl, rfl⟩
  · simp [slOK, AVal.isSlO, AVal.toEs]
  · simp [slOK, AVal.isSlO, AVal.toEs]
theorem upl_len (l : List Rec) : ∀ (n : Nat) (x : Int), (uA (upl l n x)).length ≤ n ∧ (uB (upl l n x)).length ≤ n
  | 0, x => ⟨Nat.le_refl _, Nat.le_refl _⟩
  | n + 1, x => by
    rw [upl_succ]
    split
    · exact ⟨Nat.zero_le _, Nat.zero_le _⟩
    · exact ⟨Nat.zero_le _, Nat.zero_le _⟩
    · rename_i y _
      have := upl_len l n y
      omega
    · rename_i c y _
      have := upl_len l n y
      split
      · exact ⟨Nat.zero_le _, Nat.zero_le _⟩
      · rename_i a b g e
        rw [e] at this
        simp only [uA, uB] at this ⊢
        simp only [List.length_cons]
        omega
theorem rplan_run (f : Bool) (l : List Rec) (hl : l.length ≤ 2000000) (hd : ∀ r ∈ l, r.data.length ≤ 140737488351232) (h : Heap) : ∀ (n : Nat) (x : Int), upto l x < n → n ≤ 10000000 →
    ∀ d, ∃ v1 v2, slIs 7 (chs (uA (upl l n x))) v1 ∧ slIs 0 (ints (uB (upl l n x))) v2 ∧
    ∀ (Q : Res → Prop) (tg : Hid Q), Run (evFn Cw (d + n + 4) 17 [.sl f 6 (recs l), .int .i64 x] h) Q tg = Q ([v1, v2, .int .i64 (uG (upl l n x)), .bool (upl l n x).isSome], h) := by
  intro n
  induction n with
  | zero => intro x hu; omega
  | succ n ih =>
    intro x hu hn d
    have e : d + (n + 1) + 4 = (d + n + 4) + 1 := by omega
    rw [e, upl_succ]
    have fr := fun (Q : Res → Prop) (tg : Hid Q) => find_run (d := d + n + 3) (f := f) hl (x := x) (h := h) (Q := Q) (tg := tg)
    cases hf : firstR l x l.length 0 with
    | none =>
      rw [hf] at fr
      refine ⟨.sl true 0 [], .sl true 0 [], ?_, ?_, fun Q tg => ?_⟩
      · rw [ustep_none hf]; exact .inr ⟨rfl, rfl⟩
      · rw [ustep_none hf]; exact .inr ⟨rfl, rfl⟩
      · rw [ustep_none hf, F17_eq]
        simp (disch := (first | assumption | (simp only [Bool.and_eq_true, Bool.and_eq_false_iff, decide_eq_true_eq, decide_eq_false_iff_not, bne_iff_ne, beq_iff_eq, beq_eq_false_iff_ne, bne_eq_false_iff_eq, Bool.not_eq_true', Bool.not_eq_false', bys_length, List.length_append, List.length_cons, List.length_nil, List.length_map, List.length_drop, List.length_take, Int.natCast_add, wrap_i64_eq, wrap_u64, wrap_u8, ne_eq, not_true_eq_false, not_false_eq_true, Nat.zero_add, Nat.mul_one] <;> omega) | omega | (simp; done) | (simp; omega))) only [↓at_runK, ↓at_bind, ↓contQ_mk, ↓at_ret, ↓at_consK, ↓at_nilK, ↓at_optK, ↓at_intK, ↓at_boolK, ↓at_strK, ↓at_slK, ↓at_slOK, ↓at_slK0, ↓at_slOK0, ↓at_aggK, ↓at_cond_t, ↓at_cond_f, ↓at_sameL, ↓at_any1, ↓at_any, and_self, toBytes_bys, List.nil_append, List.append_nil, ↓at_nodeW, List.drop_zero, List.take_succ_cons, List.take_zero, List.getElem?_cons_succ, List.getElem?_cons_zero, cells_agg, eqCells_cons, eqCells_nil, eq1_int, eq1_bool, eq1_str, ↓at_ptr_whole, ↓at_ptr_cell, ↓at_ptr_obj, ↓at_ptr_objs, shift_obj, shift_elt, toA_val, toA_own, Int.toNat_natCast, List.cons_append, fr]
        rfl
    | some j =>
      rw [hf] at fr
      simp only at fr
      have hj : j < l.length := by have := firstR_spec l x _ _ _ hf; omega
      have hlt := fun y (hy : y < x) => upto_lt hf hy
      have hdl := hd _ (List.getElem_mem hj)
      have hst := ustep_at hf hj
      have hs := hst
      by_cases k5 : l[j].kind = 5
      · rw [if_pos k5] at hs
        have b5 : (l[j].kind == 5) = true := by simp [k5]
        rw [hs]
        refine ⟨.sl true 0 [], .sl true 0 [], .inr ⟨rfl, rfl⟩, .inr ⟨rfl, rfl⟩, fun Q tg => ?_⟩
        rw [F17_eq]
        simp (disch := (first | assumption | (simp only [Bool.and_eq_true, Bool.and_eq_false_iff, decide_eq_true_eq, decide_eq_false_iff_not, bne_iff_ne, beq_iff_eq, beq_eq_false_iff_ne, bne_eq_false_iff_eq, Bool.not_eq_true', Bool.not_eq_false', bys_length, List.length_append, List.length_cons, List.length_nil, List.length_map, List.length_drop, List.length_take, Int.natCast_add, wrap_i64_eq, wrap_u64, wrap_u8, ne_eq, not_true_eq_false, not_false_eq_true, Nat.zero_add, Nat.mul_one] <;> omega) | omega | (simp; done) | (simp; omega))) only [↓at_runK, ↓at_bind, ↓contQ_mk, ↓at_ret, ↓at_consK, ↓at_nilK, ↓at_optK, ↓at_intK, ↓at_boolK, ↓at_strK, ↓at_slK, ↓at_slOK, ↓at_slK0, ↓at_slOK0, ↓at_aggK, ↓at_cond_t, ↓at_cond_f, ↓at_sameL, ↓at_any1, ↓at_any, and_self, toBytes_bys, List.nil_append, List.append_nil, ↓at_nodeW, List.drop_zero, List.take_succ_cons, List.take_zero, List.getElem?_cons_succ, List.getElem?_cons_zero, cells_agg, eqCells_cons, eqCells_nil, eq1_int, eq1_bool, eq1_str, ↓at_ptr_whole, ↓at_ptr_cell, ↓at_ptr_obj, ↓at_ptr_objs, shift_obj, shift_elt, toA_val, toA_own, Int.toNat_natCast, List.cons_append, fr, recs_length, recs_getD hj, cells_agg, b5]
        rfl
      · rw [if_neg k5] at hs
        have b5 : (l[j].kind == 5) = false := by simp [k5]
        have rd := fun (Q : Res → Prop) (tg : Hid Q) => rcdecode_run (d := d + n + 1) (f := l[j].full) (b := l[j].data) (h := h) hdl Q tg
        by_cases he : (cdec l[j].data).2 = 0
        · rw [if_neg (by simp [he])] at hs
          have be : ((((cdec l[j].data).2 : Nat) : Int) != 0) = false := by simp [he]
          by_cases k6 : l[j].kind = 6
          · have b6 : (l[j].kind == 6) = true := by simp [k6]
            have c6 : (l[j].kind != 6) = false := by simp [k6]
            rw [if_pos k6] at hs
            by_cases hx : l[j].prev ≥ x
            · rw [if_pos hx] at hs
              rw [hs]
              refine ⟨.sl true 0 [], .sl true 0 [], .inr ⟨rfl, rfl⟩, .inr ⟨rfl, rfl⟩, fun Q tg => ?_⟩
              rw [F17_eq]
              generalize cdec l[j].data = C at *
              obtain ⟨⟨ck, cw, ci, co, cn, cx⟩, e⟩ := C
              simp only [Change.A, Change.C] at rd be
              simp (disch := (first | assumption | (simp only [Bool.and_eq_true, Bool.and_eq_false_iff, decide_eq_true_eq, decide_eq_false_iff_not, bne_iff_ne, beq_iff_eq, beq_eq_false_iff_ne, bne_eq_false_iff_eq, Bool.not_eq_true', Bool.not_eq_false', bys_length, List.length_append, List.length_cons, List.length_nil, List.length_map, List.length_drop, List.length_take, Int.natCast_add, wrap_i64_eq, wrap_u64, wrap_u8, ne_eq, not_true_eq_false, not_false_eq_true, Nat.zero_add, Nat.mul_one] <;> omega) | omega | (simp; done) | (simp; omega))) only [↓at_runK, ↓at_bind, ↓contQ_mk, ↓at_ret, ↓at_consK, ↓at_nilK, ↓at_optK, ↓at_intK, ↓at_boolK, ↓at_strK, ↓at_slK, ↓at_slOK, ↓at_slK0, ↓at_slOK0, ↓at_aggK, ↓at_cond_t, ↓at_cond_f, ↓at_sameL, ↓at_any1, ↓at_any, and_self, toBytes_bys, List.nil_append, List.append_nil, ↓at_nodeW, List.drop_zero, List.take_succ_cons, List.take_zero, List.getElem?_cons_succ, List.getElem?_cons_zero, cells_agg, eqCells_cons, eqCells_nil, eq1_int, eq1_bool, eq1_str, ↓at_ptr_whole, ↓at_ptr_cell, ↓at_ptr_obj, ↓at_ptr_objs, shift_obj, shift_elt, toA_val, toA_own, Int.toNat_natCast, List.cons_append, fr, recs_length, recs_getD hj, cells_agg, b5, rd, be, c6, b6, P17_0_eq]
              rfl
            · rw [if_neg hx] at hs
              obtain ⟨v1, v2, s1, s2, rp⟩ := ih l[j].prev (by have := hlt _ (show l[j].prev < x by omega); omega) (by omega) d
              have hlen := upl_len l n l[j].prev
              rw [hs]
              generalize cdec l[j].data = C at *
              obtain ⟨⟨ck, cw, ci, co, cn, cx⟩, e⟩ := C
              simp only [Change.A, Change.C] at rd be
              simp only [turnC]
              cases ho : upl l n l[j].prev with
              | none =>
                rw [ho] at rp s1 s2
                refine ⟨.sl true 0 [], .sl true 0 [], .inr ⟨rfl, rfl⟩, .inr ⟨rfl, rfl⟩, fun Q tg => ?_⟩
                rw [F17_eq]
                simp (disch := (first | assumption | (simp only [Bool.and_eq_true, Bool.and_eq_false_iff, decide_eq_true_eq, decide_eq_false_iff_not, bne_iff_ne, beq_iff_eq, beq_eq_false_iff_ne, bne_eq_false_iff_eq, Bool.not_eq_true', Bool.not_eq_false', bys_length, List.length_append, List.length_cons, List.length_nil, List.length_map, List.length_drop, List.length_take, Int.natCast_add, wrap_i64_eq, wrap_u64, wrap_u8, ne_eq, not_true_eq_false, not_false_eq_true, Nat.zero_add, Nat.mul_one] <;> omega) | omega | (simp; done) | (simp; omega))) only [↓at_runK, ↓at_bind, ↓contQ_mk, ↓at_ret, ↓at_consK, ↓at_nilK, ↓at_optK, ↓at_intK, ↓at_boolK, ↓at_strK, ↓at_slK, ↓at_slOK, ↓at_slK0, ↓at_slOK0, ↓at_aggK, ↓at_cond_t, ↓at_cond_f, ↓at_sameL, ↓at_any1, ↓at_any, and_self, toBytes_bys, List.nil_append, List.append_nil, ↓at_nodeW, List.drop_zero, List.take_succ_cons, List.take_zero, List.getElem?_cons_succ, List.getElem?_cons_zero, cells_agg, eqCells_cons, eqCells_nil, eq1_int, eq1_bool, eq1_str, ↓at_ptr_whole, ↓at_ptr_cell, ↓at_ptr_obj, ↓at_ptr_objs, shift_obj, shift_elt, toA_val, toA_own, Int.toNat_natCast, List.cons_append, fr, recs_length, recs_getD hj, cells_agg, b5, rd, be, c6, b6, P17_0_eq, rp, s1.ok, s2.ok, Option.isSome_none, Bool.not_false]
                rfl
              | some p =>
                obtain ⟨a, b, g⟩ := p
                rw [ho] at rp s1 s2 hlen
                simp only [uA, uB, uG] at rp s1 s2 hlen
                refine ⟨_, _, .inl rfl, .inl rfl, fun Q tg => ?_⟩
                rw [F17_eq]
                have ec : AVal.agg [.str ck, .bool ci, .bool cw, .str cn, .str co, .int .i64 l[j].prev] :: chs a = chs (⟨ck, ci, cw, cn, co, l[j].prev⟩ :: a) := chs_cons a ⟨ck, ci, cw, cn, co, l[j].prev⟩
                have ei : AVal.int .i64 x :: ints b = ints (x :: b) := of_eq_true (eq_self _)
                simp (disch := (first | assumption | (simp only [Bool.and_eq_true, Bool.and_eq_false_iff, decide_eq_true_eq, decide_eq_false_iff_not, bne_iff_ne, beq_iff_eq, beq_eq_false_iff_ne, bne_eq_false_iff_eq, Bool.not_eq_true', Bool.not_eq_false', bys_length, List.length_append, List.length_cons, List.length_nil, List.length_map, List.length_drop, List.length_take, Int.natCast_add, wrap_i64_eq, wrap_u64, wrap_u8, ne_eq, not_true_eq_false, not_false_eq_true, Nat.zero_add, Nat.mul_one] <;> omega) | omega | (simp; done) | (simp; omega))) only [↓at_runK, ↓at_bind, ↓contQ_mk, ↓at_ret, ↓at_consK, ↓at_nilK, ↓at_optK, ↓at_intK, ↓at_boolK, ↓at_strK, ↓at_slK, ↓at_slOK, ↓at_slK0, ↓at_slOK0, ↓at_aggK, ↓at_cond_t, ↓at_cond_f, ↓at_sameL, ↓at_any1, ↓at_any, and_self, toBytes_bys, List.nil_append, List.append_nil, ↓at_nodeW, List.drop_zero, List.take_succ_cons, List.take_zero, List.getElem?_cons_succ, List.getElem?_cons_zero, cells_agg, eqCells_cons, eqCells_nil, eq1_int, eq1_bool, eq1_str, ↓at_ptr_whole, ↓at_ptr_cell, ↓at_ptr_obj, ↓at_ptr_objs, shift_obj, shift_elt, toA_val, toA_own, Int.toNat_natCast, List.cons_append, fr, recs_length, recs_getD hj, cells_agg, b5, rd, be, c6, b6, P17_0_eq, rp, s1.ok, s2.ok, Option.isSome_some, Bool.not_true, chs_length, ints_length, ec, ei]
                rfl
          · have b6 : (l[j].kind == 6) = false := by simp [k6]
            have c6 : (l[j].kind != 6) = true := by simp [k6]
            rw [if_neg k6] at hs
            by_cases k7 : l[j].kind = 7
            · have c7 : (l[j].kind != 7) = false := by simp [k7]
              rw [if_pos k7] at hs
              by_cases hx : (cdec l[j].data).1.next ≥ x
              · rw [if_pos hx] at hs
                rw [hs]
                refine ⟨.sl true 0 [], .sl true 0 [], .inr ⟨rfl, rfl⟩, .inr ⟨rfl, rfl⟩, fun Q tg => ?_⟩
                rw [F17_eq]
                generalize cdec l[j].data = C at *
                obtain ⟨⟨ck, cw, ci, co, cn, cx⟩, e⟩ := C
                simp only [Change.A, Change.C] at rd be
                simp only at hx
                simp (disch := (first | assumption | (simp only [Bool.and_eq_true, Bool.and_eq_false_iff, decide_eq_true_eq, decide_eq_false_iff_not, bne_iff_ne, beq_iff_eq, beq_eq_false_iff_ne, bne_eq_false_iff_eq, Bool.not_eq_true', Bool.not_eq_false', bys_length, List.length_append, List.length_cons, List.length_nil, List.length_map, List.length_drop, List.length_take, Int.natCast_add, wrap_i64_eq, wrap_u64, wrap_u8, ne_eq, not_true_eq_false, not_false_eq_true, Nat.zero_add, Nat.mul_one] <;> omega) | omega | (simp; done) | (simp; omega))) only [↓at_runK, ↓at_bind, ↓contQ_mk, ↓at_ret, ↓at_consK, ↓at_nilK, ↓at_optK, ↓at_intK, ↓at_boolK, ↓at_strK, ↓at_slK, ↓at_slOK, ↓at_slK0, ↓at_slOK0, ↓at_aggK, ↓at_cond_t, ↓at_cond_f, ↓at_sameL, ↓at_any1, ↓at_any, and_self, toBytes_bys, List.nil_append, List.append_nil, ↓at_nodeW, List.drop_zero, List.take_succ_cons, List.take_zero, List.getElem?_cons_succ, List.getElem?_cons_zero, cells_agg, eqCells_cons, eqCells_nil, eq1_int, eq1_bool, eq1_str, ↓at_ptr_whole, ↓at_ptr_cell, ↓at_ptr_obj, ↓at_ptr_objs, shift_obj, shift_elt, toA_val, toA_own, Int.toNat_natCast, List.cons_append, fr, recs_length, recs_getD hj, cells_agg, b5, rd, be, c6, c7, b6, P17_0_eq]
                rfl
              · rw [if_neg hx] at hs
                obtain ⟨v1, v2, s1, s2, rp⟩ := ih (cdec l[j].data).1.next (by have := hlt _ (show (cdec l[j].data).1.next < x by omega); omega) (by omega) d
                have hlen := upl_len l n (cdec l[j].data).1.next
                rw [hs]
                generalize cdec l[j].data = C at *
                obtain ⟨⟨ck, cw, ci, co, cn, cx⟩, e⟩ := C
                simp only [Change.A, Change.C] at rd be
                simp only at hx rp s1 s2 hlen ⊢
                cases ho : upl l n cx with
                | none =>
                  rw [ho] at rp s1 s2
                  refine ⟨.sl true 0 [], .sl true 0 [], .inr ⟨rfl, rfl⟩, .inr ⟨rfl, rfl⟩, fun Q tg => ?_⟩
                  rw [F17_eq]
                  simp (disch := (first | assumption | (simp only [Bool.and_eq_true, Bool.and_eq_false_iff, decide_eq_true_eq, decide_eq_false_iff_not, bne_iff_ne, beq_iff_eq, beq_eq_false_iff_ne, bne_eq_false_iff_eq, Bool.not_eq_true', Bool.not_eq_false', bys_length, List.length_append, List.length_cons, List.length_nil, List.length_map, List.length_drop, List.length_take, Int.natCast_add, wrap_i64_eq, wrap_u64, wrap_u8, ne_eq, not_true_eq_false, not_false_eq_true, Nat.zero_add, Nat.mul_one] <;> omega) | omega | (simp; done) | (simp; omega))) only [↓at_runK, ↓at_bind, ↓contQ_mk, ↓at_ret, ↓at_consK, ↓at_nilK, ↓at_optK, ↓at_intK, ↓at_boolK, ↓at_strK, ↓at_slK, ↓at_slOK, ↓at_slK0, ↓at_slOK0, ↓at_aggK, ↓at_cond_t, ↓at_cond_f, ↓at_sameL, ↓at_any1, ↓at_any, and_self, toBytes_bys, List.nil_append, List.append_nil, ↓at_nodeW, List.drop_zero, List.take_succ_cons, List.take_zero, List.getElem?_cons_succ, List.getElem?_cons_zero, cells_agg, eqCells_cons, eqCells_nil, eq1_int, eq1_bool, eq1_str, ↓at_ptr_whole, ↓at_ptr_cell, ↓at_ptr_obj, ↓at_ptr_objs, shift_obj, shift_elt, toA_val, toA_own, Int.toNat_natCast, List.cons_append, fr, recs_length, recs_getD hj, cells_agg, b5, rd, be, c6, c7, b6, P17_0_eq, rp, s1.ok, s2.ok, Option.isSome_none, Bool.not_false]
                  rfl
                | some p =>
                  obtain ⟨a, b, g⟩ := p
                  rw [ho] at rp s1 s2 hlen
                  simp only [uA, uB, uG] at rp s1 s2 hlen
                  refine ⟨_, _, .inl rfl, .inl rfl, fun Q tg => ?_⟩
                  rw [F17_eq]
                  simp (disch := (first | assumption | (simp only [Bool.and_eq_true, Bool.and_eq_false_iff, decide_eq_true_eq, decide_eq_false_iff_not, bne_iff_ne, beq_iff_eq, beq_eq_false_iff_ne, bne_eq_false_iff_eq, Bool.not_eq_true', Bool.not_eq_false', bys_length, List.length_append, List.length_cons, List.length_nil, List.length_map, List.length_drop, List.length_take, Int.natCast_add, wrap_i64_eq, wrap_u64, wrap_u8, ne_eq, not_true_eq_false, not_false_eq_true, Nat.zero_add, Nat.mul_one] <;> omega) | omega | (simp; done) | (simp; omega))) only [↓at_runK, ↓at_bind, ↓contQ_mk, ↓at_ret, ↓at_consK, ↓at_nilK, ↓at_optK, ↓at_intK, ↓at_boolK, ↓at_strK, ↓at_slK, ↓at_slOK, ↓at_slK0, ↓at_slOK0, ↓at_aggK, ↓at_cond_t, ↓at_cond_f, ↓at_sameL, ↓at_any1, ↓at_any, and_self, toBytes_bys, List.nil_append, List.append_nil, ↓at_nodeW, List.drop_zero, List.take_succ_cons, List.take_zero, List.getElem?_cons_succ, List.getElem?_cons_zero, cells_agg, eqCells_cons, eqCells_nil, eq1_int, eq1_bool, eq1_str, ↓at_ptr_whole, ↓at_ptr_cell, ↓at_ptr_obj, ↓at_ptr_objs, shift_obj, shift_elt, toA_val, toA_own, Int.toNat_natCast, List.cons_append, fr, recs_length, recs_getD hj, cells_agg, b5, rd, be, c6, c7, b6, P17_0_eq, rp, s1.ok, s2.ok, Option.isSome_some, Bool.not_true]
                  rfl
            · have c7 : (l[j].kind != 7) = true := by simp [k7]
              rw [if_neg k7] at hs
              rw [hs]
              refine ⟨.sl true 0 [], .sl true 0 [], .inr ⟨rfl, rfl⟩, .inr ⟨rfl, rfl⟩, fun Q tg => ?_⟩
              rw [F17_eq]
              generalize cdec l[j].data = C at *
              obtain ⟨⟨ck, cw, ci, co, cn, cx⟩, e⟩ := C
              simp only [Change.A, Change.C] at rd be
              simp (disch := (first | assumption | (simp only [Bool.and_eq_true, Bool.and_eq_false_iff, decide_eq_true_eq, decide_eq_false_iff_not, bne_iff_ne, beq_iff_eq, beq_eq_false_iff_ne, bne_eq_false_iff_eq, Bool.not_eq_true', Bool.not_eq_false', bys_length, List.length_append, List.length_cons, List.length_nil, List.length_map, List.length_drop, List.length_take, Int.natCast_add, wrap_i64_eq, wrap_u64, wrap_u8, ne_eq, not_true_eq_false, not_false_eq_true, Nat.zero_add, Nat.mul_one] <;> omega) | omega | (simp; done) | (simp; omega))) only [↓at_runK, ↓at_bind, ↓contQ_mk, ↓at_ret, ↓at_consK, ↓at_nilK, ↓at_optK, ↓at_intK, ↓at_boolK, ↓at_strK, ↓at_slK, ↓at_slOK, ↓at_slK0, ↓at_slOK0, ↓at_aggK, ↓at_cond_t, ↓at_cond_f, ↓at_sameL, ↓at_any1, ↓at_any, and_self, toBytes_bys, List.nil_append, List.append_nil, ↓at_nodeW, List.drop_zero, List.take_succ_cons, List.take_zero, List.getElem?_cons_succ, List.getElem?_cons_zero, cells_agg, eqCells_cons, eqCells_nil, eq1_int, eq1_bool, eq1_str, ↓at_ptr_whole, ↓at_ptr_cell, ↓at_ptr_obj, ↓at_ptr_objs, shift_obj, shift_elt, toA_val, toA_own, Int.toNat_natCast, List.cons_append, fr, recs_length, recs_getD hj, cells_agg, b5, rd, be, c6, c7]
              rfl
        · rw [if_pos he] at hs
          have be : ((((cdec l[j].data).2 : Nat) : Int) != 0) = true := by simp; exact he
          rw [hs]
          refine ⟨.sl true 0 [], .sl true 0 [], .inr ⟨rfl, rfl⟩, .inr ⟨rfl, rfl⟩, fun Q tg => ?_⟩
          rw [F17_eq]
          generalize cdec l[j].data = C at *
          obtain ⟨⟨ck, cw, ci, co, cn, cx⟩, e⟩ := C
          simp only [Change.A, Change.C] at rd be
          simp (disch := (first | assumption | (simp only [Bool.and_eq_true, Bool.and_eq_false_iff, decide_eq_true_eq, decide_eq_false_iff_not, bne_iff_ne, beq_iff_eq, beq_eq_false_iff_ne, bne_eq_false_iff_eq, Bool.not_eq_true', Bool.not_eq_false', bys_length, List.length_append, List.length_cons, List.length_nil, List.length_map, List.length_drop, List.length_take, Int.natCast_add, wrap_i64_eq, wrap_u64, wrap_u8, ne_eq, not_true_eq_false, not_false_eq_true, Nat.zero_add, Nat.mul_one] <;> omega) | omega | (simp; done) | (simp; omega))) only [↓at_runK, ↓at_bind, ↓contQ_mk, ↓at_ret, ↓at_consK, ↓at_nilK, ↓at_optK, ↓at_intK, ↓at_boolK, ↓at_strK, ↓at_slK, ↓at_slOK, ↓at_slK0, ↓at_slOK0, ↓at_aggK, ↓at_cond_t, ↓at_cond_f, ↓at_sameL, ↓at_any1, ↓at_any, and_self, toBytes_bys, List.nil_append, List.append_nil, ↓at_nodeW, List.drop_zero, List.take_succ_cons, List.take_zero, List.getElem?_cons_succ, List.getElem?_cons_zero, cells_agg, eqCells_cons, eqCells_nil, eq1_int, eq1_bool, eq1_str, ↓at_ptr_whole, ↓at_ptr_cell, ↓at_ptr_obj, ↓at_ptr_objs, shift_obj, shift_elt, toA_val, toA_own, Int.toNat_natCast, List.cons_append, fr, recs_length, recs_getD hj, cells_agg, b5, rd, be]
          rfl
end Go.Proofs.Ytkpjkaikeeldfaa.Wa
