/- How tables differ. -/
import Derived.Test.YtdlcjibefbnckaaVtl
namespace Go.Proofs.Ytdlcjibefbnckaa.Wa
open Go Go.Weave
set_option maxRecDepth 100000
set_option linter.unusedSimpArgs false
set_option linter.unusedVariables false
set_option linter.unusedSectionVars false

def delO (k : List UInt8) : KOp := ⟨2, k, []⟩
def putO (p : KPair) : KOp := ⟨1, p.key, p.val⟩
def diffL : List KPair → List KPair → List KOp
  | [], [] => []
  | p :: x, [] => delO p.key :: diffL x []
  | [], q :: y => putO q :: diffL [] y
  | p :: x, q :: y => if blt p.key q.key then delO p.key :: diffL x (q :: y) else if blt q.key p.key then putO q :: diffL (p :: x) y else if p.val = q.val then diffL x y else putO q :: diffL x y
termination_by x y => x.length + y.length
decreasing_by all_goals simp only [List.length_cons, List.length_nil]; omega
theorem diffL_nn : diffL [] [] = [] := by unfold diffL; rfl
theorem diffL_cn (p : KPair) (x : List KPair) : diffL (p :: x) [] = delO p.key :: diffL x [] := by rw [diffL]
theorem diffL_nc (q : KPair) (y : List KPair) : diffL [] (q :: y) = putO q :: diffL [] y := by rw [diffL]
theorem diffL_cc (p q : KPair) (x y : List KPair) : diffL (p :: x) (q :: y) = if blt p.key q.key then delO p.key :: diffL x (q :: y) else if blt q.key p.key then putO q :: diffL (p :: x) y else if p.val = q.val then diffL x y else putO q :: diffL x y := by rw [diffL]
theorem diffL_self : ∀ x : List KPair, diffL x x = []
  | [] => diffL_nn
  | p :: x => by rw [diffL_cc, if_neg (by rw [blt_irr]; simp), if_neg (by rw [blt_irr]; simp), if_pos rfl]; exact diffL_self x
def xvO (o : Weave.Obj) (l : List KPair) : Prop := ∃ c, o = .cells [c] ∧ ∃ f, c.toA = .sl f 3 (prs l)
def ovO (o : Weave.Obj) (l : List KOp) : Prop := (o = .cells [HCell.val (.sl true 4 [])] ∧ l = []) ∨ o = .cells [HCell.own 4 (kops l)]
theorem kops_snoc (l : List KOp) (o : KOp) : kops l ++ [.agg [.int .i64 o.kind, .str o.key, .str o.val]] = kops (l ++ [o]) := by simp [kops, KOp.A, KOp.C]
theorem kops_nil : kops [] = [] := of_eq_true (eq_self _)
theorem part_prs (p : KPair) (x : List KPair) : Weave.part 1 ((x.length + 1 : Nat) : Int) (prs (p :: x)) = prs x := by
  have : Weave.part ((1 : Nat) : Int) ((x.length + 1 : Nat) : Int) (prs (p :: x)) = prs x := by
    unfold Weave.part
    simp only [prs, List.map_cons, Int.toNat_natCast, List.drop_succ_cons, List.drop_zero]
    exact List.take_of_length_le (by simp)
  exact this
theorem prs_len1 (p : KPair) (x : List KPair) : (prs (p :: x)).length = x.length + 1 := by simp [prs]
theorem prs_get0 (p : KPair) (x : List KPair) : (prs (p :: x)).getD 0 AVal.undef = .agg [.str p.key, .str p.val] := by simp [prs, KPair.A, KPair.C]
theorem bb1 (p : Int) : decide (0 < p + 1) = decide (0 < p + 1) := rfl

theorem gone_run {d iO ix : Nat} {p : KPair} {x : List KPair} {out : List KOp} {oo ox : Weave.Obj} {h : Heap} (hO : ovO oo out) (hX : xvO ox (p :: x)) (mO : h.objs[iO]? = some oo) (mX : h.objs[ix]? = some ox) (hne : iO ≠ ix) (hl : out.length ≤ 100000) (Q : Res → Prop) (tg : Hid Q) :
    Run (evFn Cw (d + 1) 90 [.obj iO 0, .obj ix 0] h) Q tg = Q ([], (h.put iO (.cells [HCell.own 4 (kops (out ++ [delO p.key]))])).put ix (.cells [HCell.val (.sl false 3 (prs x))])) := by
  obtain ⟨cX, rfl, f, fx⟩ := hX
  have cx : h.cell? ix 0 = some cX := by rw [Heap.cell_at mX]; rfl
  have mX2 : (h.put iO (.cells [HCell.own 4 (kops (out ++ [delO p.key]))])).objs[ix]? = some (.cells [cX]) := by rw [Heap.put_ne hne]; exact mX
  have cx2 : (h.put iO (.cells [HCell.own 4 (kops (out ++ [delO p.key]))])).cell? ix 0 = some cX := by rw [Heap.cell_at mX2]; rfl
  have sx : ∀ v, (h.put iO (.cells [HCell.own 4 (kops (out ++ [delO p.key]))])).setCell ix 0 v = (h.put iO (.cells [HCell.own 4 (kops (out ++ [delO p.key]))])).put ix (.cells [v]) := fun v => by rw [Heap.set_at mX2]; rfl
  have hp := part_prs p x
  rw [F90_eq]
  rcases hO with ⟨rfl, rfl⟩ | rfl
  · rw [List.nil_append] at cx2
    simp only [List.nil_append] at sx
    have c1 : h.cell? iO 0 = some (HCell.val (.sl true 4 [])) := by rw [Heap.cell_at mO]; rfl
    have s1 : h.setCell iO 0 (HCell.own 4 [.agg [.int .i64 2, .str p.key, .str []]]) = h.put iO (.cells [HCell.own 4 (kops ([] ++ [delO p.key]))]) := by rw [Heap.set_at mO]; rfl
    simp (disch := (first | assumption | (simp only [Bool.and_eq_true, Bool.and_eq_false_iff, decide_eq_true_eq, decide_eq_false_iff_not, bne_iff_ne, beq_iff_eq, beq_eq_false_iff_ne, bne_eq_false_iff_eq, Bool.not_eq_true', Bool.not_eq_false', bys_length, List.length_append, List.length_cons, List.length_nil, List.length_map, List.length_drop, List.length_take, Int.natCast_add, wrap_i64_eq, wrap_u64, wrap_u8, ne_eq, not_true_eq_false, not_false_eq_true, Nat.zero_add, Nat.mul_one] <;> omega) | omega | (simp; done) | (simp; omega))) only [↓at_runK, ↓at_bind, ↓contQ_mk, ↓at_ret, ↓at_consK, ↓at_nilK, ↓at_optK, ↓at_intK, ↓at_boolK, ↓at_strK, ↓at_slK, ↓at_slOK, ↓at_slK0, ↓at_slOK0, ↓at_aggK, ↓at_cond_t, ↓at_cond_f, ↓at_sameL, ↓at_any1, ↓at_any, and_self, toBytes_bys, List.nil_append, List.append_nil, ↓at_nodeW, List.drop_zero, List.take_succ_cons, List.take_zero, List.getElem?_cons_succ, List.getElem?_cons_zero, cells_agg, eqCells_cons, eqCells_nil, eq1_int, eq1_bool, eq1_str, ↓at_ptr_whole, ↓at_ptr_cell, ↓at_ptr_obj, ↓at_ptr_objs, shift_obj, shift_elt, toA_val, toA_own, Int.toNat_natCast, List.cons_append, c1, at_lentK_full c1, cx, fx, prs_get0, prs_len1, s1, cx2, sx, hp]
  · have c1 : h.cell? iO 0 = some (HCell.own 4 (kops out)) := by rw [Heap.cell_at mO]; rfl
    have s1 : h.setCell iO 0 (HCell.val (.sl false 4 (kops out))) = h.put iO (.cells [HCell.val (.sl false 4 (kops out))]) := by rw [Heap.set_at mO]; rfl
    have m2 : (h.put iO (.cells [HCell.val (.sl false 4 (kops out))])).objs[iO]? = some (.cells [HCell.val (.sl false 4 (kops out))]) := Heap.put_get mO
    have c2 : (h.put iO (.cells [HCell.val (.sl false 4 (kops out))])).cell? iO 0 = some (HCell.val (.sl false 4 (kops out))) := by rw [Heap.cell_at m2]; rfl
    have s2 : (h.put iO (.cells [HCell.val (.sl false 4 (kops out))])).setCell iO 0 (HCell.own 4 (kops out ++ [.agg [.int .i64 2, .str p.key, .str []]])) = h.put iO (.cells [HCell.own 4 (kops (out ++ [delO p.key]))]) := by
      rw [Heap.set_at m2, Heap.put_put, ← kops_snoc]; rfl
    simp (disch := (first | assumption | (simp only [Bool.and_eq_true, Bool.and_eq_false_iff, decide_eq_true_eq, decide_eq_false_iff_not, bne_iff_ne, beq_iff_eq, beq_eq_false_iff_ne, bne_eq_false_iff_eq, Bool.not_eq_true', Bool.not_eq_false', bys_length, List.length_append, List.length_cons, List.length_nil, List.length_map, List.length_drop, List.length_take, Int.natCast_add, wrap_i64_eq, wrap_u64, wrap_u8, ne_eq, not_true_eq_false, not_false_eq_true, Nat.zero_add, Nat.mul_one] <;> omega) | omega | (simp; done) | (simp; omega))) only [↓at_runK, ↓at_bind, ↓contQ_mk, ↓at_ret, ↓at_consK, ↓at_nilK, ↓at_optK, ↓at_intK, ↓at_boolK, ↓at_strK, ↓at_slK, ↓at_slOK, ↓at_slK0, ↓at_slOK0, ↓at_aggK, ↓at_cond_t, ↓at_cond_f, ↓at_sameL, ↓at_any1, ↓at_any, and_self, toBytes_bys, List.nil_append, List.append_nil, ↓at_nodeW, List.drop_zero, List.take_succ_cons, List.take_zero, List.getElem?_cons_succ, List.getElem?_cons_zero, cells_agg, eqCells_cons, eqCells_nil, eq1_int, eq1_bool, eq1_str, ↓at_ptr_whole, ↓at_ptr_cell, ↓at_ptr_obj, ↓at_ptr_objs, shift_obj, shift_elt, toA_val, toA_own, Int.toNat_natCast, List.cons_append, c1, at_lentK_own c1, cx, fx, prs_get0, prs_len1, kops_length, s1, c2, s2, cx2, sx, hp]
theorem comes_run {d iO iy : Nat} {q : KPair} {y : List KPair} {out : List KOp} {oo oy : Weave.Obj} {h : Heap} (hO : ovO oo out) (hY : xvO oy (q :: y)) (mO : h.objs[iO]? = some oo) (mY : h.objs[iy]? = some oy) (hne : iO ≠ iy) (hl : out.length ≤ 100000) (Q : Res → Prop) (tg : Hid Q) :
    Run (evFn Cw (d + 1) 91 [.obj iO 0, .obj iy 0] h) Q tg = Q ([], (h.put iO (.cells [HCell.own 4 (kops (out ++ [putO q]))])).put iy (.cells [HCell.val (.sl false 3 (prs y))])) := by
  obtain ⟨cX, rfl, f, fx⟩ := hY
  have cx : h.cell? iy 0 = some cX := by rw [Heap.cell_at mY]; rfl
  have mX2 : (h.put iO (.cells [HCell.own 4 (kops (out ++ [putO q]))])).objs[iy]? = some (.cells [cX]) := by rw [Heap.put_ne hne]; exact mY
  have cx2 : (h.put iO (.cells [HCell.own 4 (kops (out ++ [putO q]))])).cell? iy 0 = some cX := by rw [Heap.cell_at mX2]; rfl
  have sx : ∀ v, (h.put iO (.cells [HCell.own 4 (kops (out ++ [putO q]))])).setCell iy 0 v = (h.put iO (.cells [HCell.own 4 (kops (out ++ [putO q]))])).put iy (.cells [v]) := fun v => by rw [Heap.set_at mX2]; rfl
  have hp := part_prs q y
  rw [F91_eq]
  rcases hO with ⟨rfl, rfl⟩ | rfl
  · rw [List.nil_append] at cx2
    simp only [List.nil_append] at sx
    have c1 : h.cell? iO 0 = some (HCell.val (.sl true 4 [])) := by rw [Heap.cell_at mO]; rfl
    have s1 : h.setCell iO 0 (HCell.own 4 [.agg [.int .i64 1, .str q.key, .str q.val]]) = h.put iO (.cells [HCell.own 4 (kops ([] ++ [putO q]))]) := by rw [Heap.set_at mO]; rfl
    simp (disch := (first | assumption | (simp only [Bool.and_eq_true, Bool.and_eq_false_iff, decide_eq_true_eq, decide_eq_false_iff_not, bne_iff_ne, beq_iff_eq, beq_eq_false_iff_ne, bne_eq_false_iff_eq, Bool.not_eq_true', Bool.not_eq_false', bys_length, List.length_append, List.length_cons, List.length_nil, List.length_map, List.length_drop, List.length_take, Int.natCast_add, wrap_i64_eq, wrap_u64, wrap_u8, ne_eq, not_true_eq_false, not_false_eq_true, Nat.zero_add, Nat.mul_one] <;> omega) | omega | (simp; done) | (simp; omega))) only [↓at_runK, ↓at_bind, ↓contQ_mk, ↓at_ret, ↓at_consK, ↓at_nilK, ↓at_optK, ↓at_intK, ↓at_boolK, ↓at_strK, ↓at_slK, ↓at_slOK, ↓at_slK0, ↓at_slOK0, ↓at_aggK, ↓at_cond_t, ↓at_cond_f, ↓at_sameL, ↓at_any1, ↓at_any, and_self, toBytes_bys, List.nil_append, List.append_nil, ↓at_nodeW, List.drop_zero, List.take_succ_cons, List.take_zero, List.getElem?_cons_succ, List.getElem?_cons_zero, cells_agg, eqCells_cons, eqCells_nil, eq1_int, eq1_bool, eq1_str, ↓at_ptr_whole, ↓at_ptr_cell, ↓at_ptr_obj, ↓at_ptr_objs, shift_obj, shift_elt, toA_val, toA_own, Int.toNat_natCast, List.cons_append, c1, at_lentK_full c1, cx, fx, prs_get0, prs_len1, s1, cx2, sx, hp]
  · have c1 : h.cell? iO 0 = some (HCell.own 4 (kops out)) := by rw [Heap.cell_at mO]; rfl
    have s1 : h.setCell iO 0 (HCell.val (.sl false 4 (kops out))) = h.put iO (.cells [HCell.val (.sl false 4 (kops out))]) := by rw [Heap.set_at mO]; rfl
    have m2 : (h.put iO (.cells [HCell.val (.sl false 4 (kops out))])).objs[iO]? = some (.cells [HCell.val (.sl false 4 (kops out))]) := Heap.put_get mO
    have c2 : (h.put iO (.cells [HCell.val (.sl false 4 (kops out))])).cell? iO 0 = some (HCell.val (.sl false 4 (kops out))) := by rw [Heap.cell_at m2]; rfl
    have s2 : (h.put iO (.cells [HCell.val (.sl false 4 (kops out))])).setCell iO 0 (HCell.own 4 (kops out ++ [.agg [.int .i64 1, .str q.key, .str q.val]])) = h.put iO (.cells [HCell.own 4 (kops (out ++ [putO q]))]) := by
      rw [Heap.set_at m2, Heap.put_put, ← kops_snoc]; rfl
    simp (disch := (first | assumption | (simp only [Bool.and_eq_true, Bool.and_eq_false_iff, decide_eq_true_eq, decide_eq_false_iff_not, bne_iff_ne, beq_iff_eq, beq_eq_false_iff_ne, bne_eq_false_iff_eq, Bool.not_eq_true', Bool.not_eq_false', bys_length, List.length_append, List.length_cons, List.length_nil, List.length_map, List.length_drop, List.length_take, Int.natCast_add, wrap_i64_eq, wrap_u64, wrap_u8, ne_eq, not_true_eq_false, not_false_eq_true, Nat.zero_add, Nat.mul_one] <;> omega) | omega | (simp; done) | (simp; omega))) only [↓at_runK, ↓at_bind, ↓contQ_mk, ↓at_ret, ↓at_consK, ↓at_nilK, ↓at_optK, ↓at_intK, ↓at_boolK, ↓at_strK, ↓at_slK, ↓at_slOK, ↓at_slK0, ↓at_slOK0, ↓at_aggK, ↓at_cond_t, ↓at_cond_f, ↓at_sameL, ↓at_any1, ↓at_any, and_self, toBytes_bys, List.nil_append, List.append_nil, ↓at_nodeW, List.drop_zero, List.take_succ_cons, List.take_zero, List.getElem?_cons_succ, List.getElem?_cons_zero, cells_agg, eqCells_cons, eqCells_nil, eq1_int, eq1_bool, eq1_str, ↓at_ptr_whole, ↓at_ptr_cell, ↓at_ptr_obj, ↓at_ptr_objs, shift_obj, shift_elt, toA_val, toA_own, Int.toNat_natCast, List.cons_append, c1, at_lentK_own c1, cx, fx, prs_get0, prs_len1, kops_length, s1, c2, s2, cx2, sx, hp]

theorem ovO.cell {o : Weave.Obj} {l : List KOp} (ho : ovO o l) {h : Heap} {i : Nat} (hm : h.objs[i]? = some o) : ∃ c, h.cell? i 0 = some c ∧ ∃ f, c.toA = .sl f 4 (kops l) := by
  rcases ho with ⟨rfl, rfl⟩ | rfl
  · exact ⟨_, by rw [Heap.cell_at hm]; rfl, true, rfl⟩
  · exact ⟨_, by rw [Heap.cell_at hm]; rfl, false, rfl⟩
theorem xvO_val (l : List KPair) : xvO (.cells [HCell.val (.sl false 3 (prs l))]) l := ⟨_, rfl, false, rfl⟩
theorem diff_loop (d ix iy iO : Nat) (nxy : ix ≠ iy) (nxO : iO ≠ ix) (nyO : iO ≠ iy) (h0 : Heap) (lx : h0.objs.length ≤ ix) (ly : h0.objs.length ≤ iy) (lO : h0.objs.length ≤ iO) :
    ∀ (n k : Nat) (x y : List KPair) (out : List KOp) (ox oy oo : Weave.Obj) (h : Heap), x.length + y.length ≤ n → n < k → out.length + n ≤ 100000 → xvO ox x → xvO oy y → ovO oo out → h.objs[ix]? = some ox → h.objs[iy]? = some oy → h.objs[iO]? = some oo → h0.ext h →
    ∃ h', h0.ext h' ∧ ∀ (Q : Res → Prop) (tg : Hid Q), Run (P44_0 (d + 1) k ix iy iO iO ix iO iy h) Q tg = Q ([.sl false 4 (kops (out ++ diffL x y))], h') := by
  intro n
  induction n with
  | zero =>
    intro k x y out ox oy oo h hn hk hl hX hY hO mX mY mO E
    obtain ⟨k, rfl⟩ : ∃ m, k = m + 1 := ⟨k - 1, by omega⟩
    have e1 : x = [] := List.length_eq_zero_iff.1 (by omega)
    have e2 : y = [] := List.length_eq_zero_iff.1 (by omega)
    subst e1; subst e2
    obtain ⟨cO, cO', f, fO⟩ := hO.cell mO
    obtain ⟨cX, rfl, f1, fx⟩ := hX
    obtain ⟨cY, rfl, f2, fy⟩ := hY
    have cx : h.cell? ix 0 = some cX := by rw [Heap.cell_at mX]; rfl
    have cy : h.cell? iy 0 = some cY := by rw [Heap.cell_at mY]; rfl
    rw [prs_nil] at fx fy
    refine ⟨h, E, fun Q tg => ?_⟩
    rw [P44_0_eq, diffL_nn]
    simp (disch := (first | assumption | (simp only [Bool.and_eq_true, Bool.and_eq_false_iff, decide_eq_true_eq, decide_eq_false_iff_not, bne_iff_ne, beq_iff_eq, beq_eq_false_iff_ne, bne_eq_false_iff_eq, Bool.not_eq_true', Bool.not_eq_false', bys_length, List.length_append, List.length_cons, List.length_nil, List.length_map, List.length_drop, List.length_take, Int.natCast_add, wrap_i64_eq, wrap_u64, wrap_u8, ne_eq, not_true_eq_false, not_false_eq_true, Nat.zero_add, Nat.mul_one] <;> omega) | omega | (simp; done) | (simp; omega))) only [↓at_runK, ↓at_bind, ↓contQ_mk, ↓at_ret, ↓at_consK, ↓at_nilK, ↓at_optK, ↓at_intK, ↓at_boolK, ↓at_strK, ↓at_slK, ↓at_slOK, ↓at_slK0, ↓at_slOK0, ↓at_aggK, ↓at_cond_t, ↓at_cond_f, ↓at_sameL, ↓at_any1, ↓at_any, and_self, toBytes_bys, List.nil_append, List.append_nil, ↓at_nodeW, List.drop_zero, List.take_succ_cons, List.take_zero, List.getElem?_cons_succ, List.getElem?_cons_zero, cells_agg, eqCells_cons, eqCells_nil, eq1_int, eq1_bool, eq1_str, ↓at_ptr_whole, ↓at_ptr_cell, ↓at_ptr_obj, ↓at_ptr_objs, shift_obj, shift_elt, toA_val, toA_own, Int.toNat_natCast, List.cons_append, cx, fx, cy, fy, cO', fO, List.length_nil]
  | succ n ih =>
    intro k x y out ox oy oo h hn hk hl hX hY hO mX mY mO E
    obtain ⟨k, rfl⟩ : ∃ m, k = m + 1 := ⟨k - 1, by omega⟩
    have hX0 := hX
    have hY0 := hY
    obtain ⟨cX, rfl, f1, fx⟩ := hX
    obtain ⟨cY, rfl, f2, fy⟩ := hY
    have cx : h.cell? ix 0 = some cX := by rw [Heap.cell_at mX]; rfl
    have cy : h.cell? iy 0 = some cY := by rw [Heap.cell_at mY]; rfl
    have b0 : ∀ m : Nat, (((m + 1 : Nat) : Int) == 0) = false := fun m => by simp; omega
    have b1 : (((0 : Nat) : Int) == 0) = true := rfl
    -- one goes
    have gone : ∀ (p : KPair) (x' : List KPair), x = p :: x' → ∃ h', h0.ext h' ∧ ∀ (Q : Res → Prop) (tg : Hid Q), Run (P44_0 (d + 1) k ix iy iO iO ix iO iy ((h.put iO (.cells [HCell.own 4 (kops (out ++ [delO p.key]))])).put ix (.cells [HCell.val (.sl false 3 (prs x'))]))) Q tg = Q ([.sl false 4 (kops (out ++ (delO p.key :: diffL x' y)))], h') := fun p x' e => by
      subst e
      have m1 : (h.put iO (.cells [HCell.own 4 (kops (out ++ [delO p.key]))])).objs[ix]? = some (.cells [cX]) := by rw [Heap.put_ne nxO]; exact mX
      obtain ⟨h', E', r⟩ := ih k x' y (out ++ [delO p.key]) _ _ _ ((h.put iO (.cells [HCell.own 4 (kops (out ++ [delO p.key]))])).put ix (.cells [HCell.val (.sl false 3 (prs x'))])) (by simp only [List.length_cons] at hn; omega) (by omega) (by simp; omega) (xvO_val x') hY0 (.inr rfl)
        (Heap.put_get m1) (by rw [Heap.put_ne nxy, Heap.put_ne nyO]; exact mY) (by rw [Heap.put_ne (Ne.symm nxO)]; exact Heap.put_get mO) ((E.put lO).put lx)
      rw [List.append_assoc] at r
      exact ⟨h', E', r⟩
    have comes : ∀ (q : KPair) (y' : List KPair), y = q :: y' → ∃ h', h0.ext h' ∧ ∀ (Q : Res → Prop) (tg : Hid Q), Run (P44_0 (d + 1) k ix iy iO iO ix iO iy ((h.put iO (.cells [HCell.own 4 (kops (out ++ [putO q]))])).put iy (.cells [HCell.val (.sl false 3 (prs y'))]))) Q tg = Q ([.sl false 4 (kops (out ++ (putO q :: diffL x y')))], h') := fun q y' e => by
      subst e
      have m1 : (h.put iO (.cells [HCell.own 4 (kops (out ++ [putO q]))])).objs[iy]? = some (.cells [cY]) := by rw [Heap.put_ne nyO]; exact mY
      obtain ⟨h', E', r⟩ := ih k x y' (out ++ [putO q]) _ _ _ ((h.put iO (.cells [HCell.own 4 (kops (out ++ [putO q]))])).put iy (.cells [HCell.val (.sl false 3 (prs y'))])) (by simp only [List.length_cons] at hn; omega) (by omega) (by simp; omega) hX0 (xvO_val y') (.inr rfl)
        (by rw [Heap.put_ne (Ne.symm nxy), Heap.put_ne nxO]; exact mX) (Heap.put_get m1) (by rw [Heap.put_ne (Ne.symm nyO)]; exact Heap.put_get mO) ((E.put lO).put ly)
      rw [List.append_assoc] at r
      exact ⟨h', E', r⟩
    cases x with
    | nil =>
      cases y with
      | nil =>
        obtain ⟨cO, cO', f, fO⟩ := hO.cell mO
        rw [prs_nil] at fx fy
        refine ⟨h, E, fun Q tg => ?_⟩
        rw [P44_0_eq, diffL_nn]
        simp (disch := (first | assumption | (simp only [Bool.and_eq_true, Bool.and_eq_false_iff, decide_eq_true_eq, decide_eq_false_iff_not, bne_iff_ne, beq_iff_eq, beq_eq_false_iff_ne, bne_eq_false_iff_eq, Bool.not_eq_true', Bool.not_eq_false', bys_length, List.length_append, List.length_cons, List.length_nil, List.length_map, List.length_drop, List.length_take, Int.natCast_add, wrap_i64_eq, wrap_u64, wrap_u8, ne_eq, not_true_eq_false, not_false_eq_true, Nat.zero_add, Nat.mul_one] <;> omega) | omega | (simp; done) | (simp; omega))) only [↓at_runK, ↓at_bind, ↓contQ_mk, ↓at_ret, ↓at_consK, ↓at_nilK, ↓at_optK, ↓at_intK, ↓at_boolK, ↓at_strK, ↓at_slK, ↓at_slOK, ↓at_slK0, ↓at_slOK0, ↓at_aggK, ↓at_cond_t, ↓at_cond_f, ↓at_sameL, ↓at_any1, ↓at_any, and_self, toBytes_bys, List.nil_append, List.append_nil, ↓at_nodeW, List.drop_zero, List.take_succ_cons, List.take_zero, List.getElem?_cons_succ, List.getElem?_cons_zero, cells_agg, eqCells_cons, eqCells_nil, eq1_int, eq1_bool, eq1_str, ↓at_ptr_whole, ↓at_ptr_cell, ↓at_ptr_obj, ↓at_ptr_objs, shift_obj, shift_elt, toA_val, toA_own, Int.toNat_natCast, List.cons_append, cx, fx, cy, fy, cO', fO, List.length_nil]
      | cons q y =>
        obtain ⟨h', E', r⟩ := comes q y rfl
        have rc := fun (Q : Res → Prop) (tg : Hid Q) => comes_run (d := d) hO hY0 mO mY nyO (by omega) Q tg
        rw [prs_nil] at fx
        refine ⟨h', E', fun Q tg => ?_⟩
        rw [P44_0_eq, diffL_nc]
        simp (disch := (first | assumption | (simp only [Bool.and_eq_true, Bool.and_eq_false_iff, decide_eq_true_eq, decide_eq_false_iff_not, bne_iff_ne, beq_iff_eq, beq_eq_false_iff_ne, bne_eq_false_iff_eq, Bool.not_eq_true', Bool.not_eq_false', bys_length, List.length_append, List.length_cons, List.length_nil, List.length_map, List.length_drop, List.length_take, Int.natCast_add, wrap_i64_eq, wrap_u64, wrap_u8, ne_eq, not_true_eq_false, not_false_eq_true, Nat.zero_add, Nat.mul_one] <;> omega) | omega | (simp; done) | (simp; omega))) only [↓at_runK, ↓at_bind, ↓contQ_mk, ↓at_ret, ↓at_consK, ↓at_nilK, ↓at_optK, ↓at_intK, ↓at_boolK, ↓at_strK, ↓at_slK, ↓at_slOK, ↓at_slK0, ↓at_slOK0, ↓at_aggK, ↓at_cond_t, ↓at_cond_f, ↓at_sameL, ↓at_any1, ↓at_any, and_self, toBytes_bys, List.nil_append, List.append_nil, ↓at_nodeW, List.drop_zero, List.take_succ_cons, List.take_zero, List.getElem?_cons_succ, List.getElem?_cons_zero, cells_agg, eqCells_cons, eqCells_nil, eq1_int, eq1_bool, eq1_str, ↓at_ptr_whole, ↓at_ptr_cell, ↓at_ptr_obj, ↓at_ptr_objs, shift_obj, shift_elt, toA_val, toA_own, Int.toNat_natCast, List.cons_append, cx, fx, cy, fy, prs_len1, prs_get0, List.length_nil, b0, b1, rc, r]
    | cons p x =>
      cases y with
      | nil =>
        obtain ⟨h', E', r⟩ := gone p x rfl
        have rc := fun (Q : Res → Prop) (tg : Hid Q) => gone_run (d := d) hO hX0 mO mX nxO (by omega) Q tg
        rw [prs_nil] at fy
        refine ⟨h', E', fun Q tg => ?_⟩
        rw [P44_0_eq, diffL_cn]
        simp (disch := (first | assumption | (simp only [Bool.and_eq_true, Bool.and_eq_false_iff, decide_eq_true_eq, decide_eq_false_iff_not, bne_iff_ne, beq_iff_eq, beq_eq_false_iff_ne, bne_eq_false_iff_eq, Bool.not_eq_true', Bool.not_eq_false', bys_length, List.length_append, List.length_cons, List.length_nil, List.length_map, List.length_drop, List.length_take, Int.natCast_add, wrap_i64_eq, wrap_u64, wrap_u8, ne_eq, not_true_eq_false, not_false_eq_true, Nat.zero_add, Nat.mul_one] <;> omega) | omega | (simp; done) | (simp; omega))) only [↓at_runK, ↓at_bind, ↓contQ_mk, ↓at_ret, ↓at_consK, ↓at_nilK, ↓at_optK, ↓at_intK, ↓at_boolK, ↓at_strK, ↓at_slK, ↓at_slOK, ↓at_slK0, ↓at_slOK0, ↓at_aggK, ↓at_cond_t, ↓at_cond_f, ↓at_sameL, ↓at_any1, ↓at_any, and_self, toBytes_bys, List.nil_append, List.append_nil, ↓at_nodeW, List.drop_zero, List.take_succ_cons, List.take_zero, List.getElem?_cons_succ, List.getElem?_cons_zero, cells_agg, eqCells_cons, eqCells_nil, eq1_int, eq1_bool, eq1_str, ↓at_ptr_whole, ↓at_ptr_cell, ↓at_ptr_obj, ↓at_ptr_objs, shift_obj, shift_elt, toA_val, toA_own, Int.toNat_natCast, List.cons_append, cx, fx, cy, fy, prs_len1, prs_get0, List.length_nil, b0, b1, rc, r]
      | cons q y =>
        rw [diffL_cc]
        cases c1 : blt p.key q.key
        · have c1' : Go.Op.bytesLess p.key q.key = false := c1
          rw [if_neg (by simp)]
          cases c2 : blt q.key p.key
          · have c2' : Go.Op.bytesLess q.key p.key = false := c2
            rw [if_neg (by simp)]
            have ek := blt_tri c1 c2
            have ek' : (p.key == q.key) = true := by simp [ek]
            have hpx := part_prs p x
            have hpy := part_prs q y
            have sx : ∀ v, h.setCell ix 0 v = h.put ix (.cells [v]) := fun v => by rw [Heap.set_at mX]; rfl
            have mY2 : (h.put ix (.cells [HCell.val (.sl false 3 (prs x))])).objs[iy]? = some (.cells [cY]) := by rw [Heap.put_ne nxy]; exact mY
            have mX2 : (h.put ix (.cells [HCell.val (.sl false 3 (prs x))])).objs[ix]? = some (.cells [HCell.val (.sl false 3 (prs x))]) := Heap.put_get mX
            have mO2 : (h.put ix (.cells [HCell.val (.sl false 3 (prs x))])).objs[iO]? = some oo := by rw [Heap.put_ne (Ne.symm nxO)]; exact mO
            have cy2 : (h.put ix (.cells [HCell.val (.sl false 3 (prs x))])).cell? iy 0 = some cY := by rw [Heap.cell_at mY2]; rfl
            have sy2 : ∀ v, (h.put ix (.cells [HCell.val (.sl false 3 (prs x))])).setCell iy 0 v = (h.put ix (.cells [HCell.val (.sl false 3 (prs x))])).put iy (.cells [v]) := fun v => by rw [Heap.set_at mY2]; rfl
            by_cases c3 : p.val = q.val
            · have c3' : (p.val == q.val) = true := by simp [c3]
              rw [if_pos c3]
              obtain ⟨h', E', r⟩ := ih k x y out _ _ _ ((h.put ix (.cells [HCell.val (.sl false 3 (prs x))])).put iy (.cells [HCell.val (.sl false 3 (prs y))])) (by simp only [List.length_cons] at hn; omega) (by omega) (by omega) (xvO_val x) (xvO_val y) hO
                (by rw [Heap.put_ne (Ne.symm nxy)]; exact mX2) (Heap.put_get mY2) (by rw [Heap.put_ne (Ne.symm nyO)]; exact mO2) ((E.put lx).put ly)
              refine ⟨h', E', fun Q tg => ?_⟩
              rw [P44_0_eq]
              simp (disch := (first | assumption | (simp only [Bool.and_eq_true, Bool.and_eq_false_iff, decide_eq_true_eq, decide_eq_false_iff_not, bne_iff_ne, beq_iff_eq, beq_eq_false_iff_ne, bne_eq_false_iff_eq, Bool.not_eq_true', Bool.not_eq_false', bys_length, List.length_append, List.length_cons, List.length_nil, List.length_map, List.length_drop, List.length_take, Int.natCast_add, wrap_i64_eq, wrap_u64, wrap_u8, ne_eq, not_true_eq_false, not_false_eq_true, Nat.zero_add, Nat.mul_one] <;> omega) | omega | (simp; done) | (simp; omega))) only [↓at_runK, ↓at_bind, ↓contQ_mk, ↓at_ret, ↓at_consK, ↓at_nilK, ↓at_optK, ↓at_intK, ↓at_boolK, ↓at_strK, ↓at_slK, ↓at_slOK, ↓at_slK0, ↓at_slOK0, ↓at_aggK, ↓at_cond_t, ↓at_cond_f, ↓at_sameL, ↓at_any1, ↓at_any, and_self, toBytes_bys, List.nil_append, List.append_nil, ↓at_nodeW, List.drop_zero, List.take_succ_cons, List.take_zero, List.getElem?_cons_succ, List.getElem?_cons_zero, cells_agg, eqCells_cons, eqCells_nil, eq1_int, eq1_bool, eq1_str, ↓at_ptr_whole, ↓at_ptr_cell, ↓at_ptr_obj, ↓at_ptr_objs, shift_obj, shift_elt, toA_val, toA_own, Int.toNat_natCast, List.cons_append, cx, fx, cy, fy, prs_len1, prs_get0, b0, c1', c2', plain43, Bool.and_self, ek', c3', hpx, hpy, sx, cy2, sy2, r]
            · have c3' : (p.val == q.val) = false := by simpa using c3
              rw [if_neg c3]
              obtain ⟨h', E', r⟩ := ih k x y (out ++ [putO q]) _ _ _ (((h.put ix (.cells [HCell.val (.sl false 3 (prs x))])).put iO (.cells [HCell.own 4 (kops (out ++ [putO q]))])).put iy (.cells [HCell.val (.sl false 3 (prs y))])) (by simp only [List.length_cons] at hn; omega) (by omega) (by simp; omega) (xvO_val x) (xvO_val y) (.inr rfl)
                (by rw [Heap.put_ne (Ne.symm nxy), Heap.put_ne nxO]; exact mX2) (Heap.put_get (o' := .cells [cY]) (by rw [Heap.put_ne nyO]; exact mY2)) (by rw [Heap.put_ne (Ne.symm nyO)]; exact Heap.put_get mO2) (((E.put lx).put lO).put ly)
              rw [List.append_assoc] at r
              have rc := fun (Q : Res → Prop) (tg : Hid Q) => comes_run (d := d) hO hY0 mO2 mY2 nyO (by omega) Q tg
              refine ⟨h', E', fun Q tg => ?_⟩
              rw [P44_0_eq]
              simp (disch := (first | assumption | (simp only [Bool.and_eq_true, Bool.and_eq_false_iff, decide_eq_true_eq, decide_eq_false_iff_not, bne_iff_ne, beq_iff_eq, beq_eq_false_iff_ne, bne_eq_false_iff_eq, Bool.not_eq_true', Bool.not_eq_false', bys_length, List.length_append, List.length_cons, List.length_nil, List.length_map, List.length_drop, List.length_take, Int.natCast_add, wrap_i64_eq, wrap_u64, wrap_u8, ne_eq, not_true_eq_false, not_false_eq_true, Nat.zero_add, Nat.mul_one] <;> omega) | omega | (simp; done) | (simp; omega))) only [↓at_runK, ↓at_bind, ↓contQ_mk, ↓at_ret, ↓at_consK, ↓at_nilK, ↓at_optK, ↓at_intK, ↓at_boolK, ↓at_strK, ↓at_slK, ↓at_slOK, ↓at_slK0, ↓at_slOK0, ↓at_aggK, ↓at_cond_t, ↓at_cond_f, ↓at_sameL, ↓at_any1, ↓at_any, and_self, toBytes_bys, List.nil_append, List.append_nil, ↓at_nodeW, List.drop_zero, List.take_succ_cons, List.take_zero, List.getElem?_cons_succ, List.getElem?_cons_zero, cells_agg, eqCells_cons, eqCells_nil, eq1_int, eq1_bool, eq1_str, ↓at_ptr_whole, ↓at_ptr_cell, ↓at_ptr_obj, ↓at_ptr_objs, shift_obj, shift_elt, toA_val, toA_own, Int.toNat_natCast, List.cons_append, cx, fx, cy, fy, prs_len1, prs_get0, b0, c1', c2', plain43, Bool.and_self, ek', c3', hpx, hpy, sx, rc, r]
          · have c2' : Go.Op.bytesLess q.key p.key = true := c2
            rw [if_pos rfl]
            obtain ⟨h', E', r⟩ := comes q y rfl
            have rc := fun (Q : Res → Prop) (tg : Hid Q) => comes_run (d := d) hO hY0 mO mY nyO (by omega) Q tg
            refine ⟨h', E', fun Q tg => ?_⟩
            rw [P44_0_eq]
            simp (disch := (first | assumption | (simp only [Bool.and_eq_true, Bool.and_eq_false_iff, decide_eq_true_eq, decide_eq_false_iff_not, bne_iff_ne, beq_iff_eq, beq_eq_false_iff_ne, bne_eq_false_iff_eq, Bool.not_eq_true', Bool.not_eq_false', bys_length, List.length_append, List.length_cons, List.length_nil, List.length_map, List.length_drop, List.length_take, Int.natCast_add, wrap_i64_eq, wrap_u64, wrap_u8, ne_eq, not_true_eq_false, not_false_eq_true, Nat.zero_add, Nat.mul_one] <;> omega) | omega | (simp; done) | (simp; omega))) only [↓at_runK, ↓at_bind, ↓contQ_mk, ↓at_ret, ↓at_consK, ↓at_nilK, ↓at_optK, ↓at_intK, ↓at_boolK, ↓at_strK, ↓at_slK, ↓at_slOK, ↓at_slK0, ↓at_slOK0, ↓at_aggK, ↓at_cond_t, ↓at_cond_f, ↓at_sameL, ↓at_any1, ↓at_any, and_self, toBytes_bys, List.nil_append, List.append_nil, ↓at_nodeW, List.drop_zero, List.take_succ_cons, List.take_zero, List.getElem?_cons_succ, List.getElem?_cons_zero, cells_agg, eqCells_cons, eqCells_nil, eq1_int, eq1_bool, eq1_str, ↓at_ptr_whole, ↓at_ptr_cell, ↓at_ptr_obj, ↓at_ptr_objs, shift_obj, shift_elt, toA_val, toA_own, Int.toNat_natCast, List.cons_append, cx, fx, cy, fy, prs_len1, prs_get0, b0, c1', c2', rc, r]
        · have c1' : Go.Op.bytesLess p.key q.key = true := c1
          rw [if_pos rfl]
          obtain ⟨h', E', r⟩ := gone p x rfl
          have rc := fun (Q : Res → Prop) (tg : Hid Q) => gone_run (d := d) hO hX0 mO mX nxO (by omega) Q tg
          refine ⟨h', E', fun Q tg => ?_⟩
          rw [P44_0_eq]
          simp (disch := (first | assumption | (simp only [Bool.and_eq_true, Bool.and_eq_false_iff, decide_eq_true_eq, decide_eq_false_iff_not, bne_iff_ne, beq_iff_eq, beq_eq_false_iff_ne, bne_eq_false_iff_eq, Bool.not_eq_true', Bool.not_eq_false', bys_length, List.length_append, List.length_cons, List.length_nil, List.length_map, List.length_drop, List.length_take, Int.natCast_add, wrap_i64_eq, wrap_u64, wrap_u8, ne_eq, not_true_eq_false, not_false_eq_true, Nat.zero_add, Nat.mul_one] <;> omega) | omega | (simp; done) | (simp; omega))) only [↓at_runK, ↓at_bind, ↓contQ_mk, ↓at_ret, ↓at_consK, ↓at_nilK, ↓at_optK, ↓at_intK, ↓at_boolK, ↓at_strK, ↓at_slK, ↓at_slOK, ↓at_slK0, ↓at_slOK0, ↓at_aggK, ↓at_cond_t, ↓at_cond_f, ↓at_sameL, ↓at_any1, ↓at_any, and_self, toBytes_bys, List.nil_append, List.append_nil, ↓at_nodeW, List.drop_zero, List.take_succ_cons, List.take_zero, List.getElem?_cons_succ, List.getElem?_cons_zero, cells_agg, eqCells_cons, eqCells_nil, eq1_int, eq1_bool, eq1_str, ↓at_ptr_whole, ↓at_ptr_cell, ↓at_ptr_obj, ↓at_ptr_objs, shift_obj, shift_elt, toA_val, toA_own, Int.toNat_natCast, List.cons_append, cx, fx, cy, fy, prs_len1, prs_get0, b0, c1', rc, r]
end Go.Proofs.Ytdlcjibefbnckaa.Wa
