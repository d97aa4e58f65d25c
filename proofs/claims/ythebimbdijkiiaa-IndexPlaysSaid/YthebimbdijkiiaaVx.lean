/- An index: what it has. IndexNobody. -/
import Derived.Test.YthebimbdijkiiaaVb
import Derived.Test.YthebimbdijkiiaaWg
import Derived.Test.YthebimbdijkiiaaWvLc
import Derived.Test.YthebimbdijkiiaaVapi
namespace Go.Proofs.Ythebimbdijkiiaa.Wa
open Go Go.Weave
set_option maxRecDepth 100000
set_option linter.unusedSimpArgs false
set_option linter.unusedVariables false
set_option linter.unusedSectionVars false

theorem rounds_gt' (n : Nat) (h : n < 4611686018427387904) : n < rounds := by have := rounds_ge; omega

abbrev Ent := IPlace × Int
def entA (e : Ent) : AVal := .agg [.int .i64 e.1.seq, .int .i64 e.1.at', .int .i64 e.2]
def ents (l : List Ent) : List AVal := l.map entA
theorem ents_length (l : List Ent) : (ents l).length = l.length := by simp [ents]
theorem ents_getD {l : List Ent} {i : Nat} (h : i < l.length) : (ents l).getD i AVal.undef = .agg [.int .i64 l[i].1.seq, .int .i64 l[i].1.at', .int .i64 l[i].2] := by simp [ents, h, entA]
theorem ents_snoc (l : List Ent) (s a p : Int) : ents l ++ [AVal.agg [.int .i64 s, .int .i64 a, .int .i64 p]] = ents (l ++ [(⟨s, a⟩, p)]) := by simp [ents, entA]
theorem ents_part (l : List Ent) (i : Nat) : Weave.part (i : Int) ((ents l).length : Int) (ents l) = ents (l.drop i) := by
  simp only [Weave.part, ents, List.length_map, Int.toNat_natCast, ← List.map_drop]
  rw [List.take_of_length_le (by simp)]
theorem ents_part0 (l : List Ent) (i : Nat) : Weave.part 0 (i : Int) (ents l) = ents (l.take i) := by
  simp only [Weave.part, ents, Int.toNat_zero, List.drop_zero, Int.sub_zero, Int.toNat_natCast, ← List.map_take]
def placeA (p : IPlace) : AVal := .agg [.int .i64 p.seq, .int .i64 p.at']
theorem encPlace : KeyEnc placeA := ⟨fun a b => by
  obtain ⟨s, t⟩ := a
  obtain ⟨u, v⟩ := b
  show (s == u && (t == v && true)) = decide ((⟨s, t⟩ : IPlace) = ⟨u, v⟩)
  by_cases h1 : s = u <;> by_cases h2 : t = v <;> simp [h1, h2]⟩
theorem placeA_eq (s a : Int) : AVal.agg [.int .i64 s, .int .i64 a] = placeA ⟨s, a⟩ := of_eq_true (eq_self _)

def ixC (F : Int) (c : HCell) (m : Nat) (H : List Int) : List HCell := [.val (.int .i64 F), c, .val (.map m)] ++ H.map (fun x => HCell.val (.int .i64 x))
theorem ix0 (F : Int) (c : HCell) (m : Nat) (H : List Int) : (ixC F c m H)[0]? = some (.val (.int .i64 F)) := rfl
theorem ix1 (F : Int) (c : HCell) (m : Nat) (H : List Int) : (ixC F c m H)[1]? = some c := rfl
theorem ix2 (F : Int) (c : HCell) (m : Nat) (H : List Int) : (ixC F c m H)[2]? = some (.val (.map m)) := rfl
theorem ix3 (F : Int) (c : HCell) (m : Nat) (H : List Int) {k : Nat} (hk : k < H.length) : (ixC F c m H)[3 + k]? = some (.val (.int .i64 H[k])) := by
  unfold ixC
  rw [List.getElem?_append_right (by simp)]
  simp [hk]
theorem ixs0 (F G : Int) (c : HCell) (m : Nat) (H : List Int) : (ixC F c m H).set 0 (.val (.int .i64 G)) = ixC G c m H := rfl
theorem ixs1 (F : Int) (c c' : HCell) (m : Nat) (H : List Int) : (ixC F c m H).set 1 c' = ixC F c' m H := rfl
theorem ixs3 (F : Int) (c : HCell) (m : Nat) (H : List Int) (k : Nat) (x : Int) : (ixC F c m H).set (3 + k) (.val (.int .i64 x)) = ixC F c m (H.set k x) := by
  unfold ixC
  rw [List.set_append_right _ _ (by simp)]
  simp [List.map_set]
theorem ixC_length (F : Int) (c : HCell) (m : Nat) (H : List Int) : (ixC F c m H).length = 3 + H.length := by simp [ixC]; omega
theorem ixC_heads (F : Int) (c : HCell) (m : Nat) (H : List Int) (h4 : H.length = 4) : ((((ixC F c m H).drop 3).take 4).map HCell.toA) = ints H := by
  unfold ixC
  have : List.drop 3 ([HCell.val (.int .i64 F), c, HCell.val (.map m)] ++ H.map (fun x => HCell.val (.int .i64 x))) = H.map (fun x => HCell.val (.int .i64 x)) := rfl
  rw [this, List.take_of_length_le (by simp [h4])]
  simp [ints]

def LC (c : HCell) (E : List Ent) : Prop := c = .own 4 (ents E) ∨ (E = [] ∧ c = .val (.sl true 4 []))
theorem LC.at {c : HCell} {E : List Ent} (h : LC c E) : ∃ f : Bool, ∀ {R : Type} {Q : R → Prop} {tg : Hid Q} {K : Bool → List AVal → Tr R}, Run (slK 4 c.toA K) Q tg = Run (K f (ents E)) Q ⟨⟩ := by
  rcases h with rfl | ⟨rfl, rfl⟩
  · exact ⟨false, at_slK⟩
  · exact ⟨true, at_slK0⟩

structure Ix where
  F : Int
  E : List Ent
  H : List Int
def idxP (p : IPlace) : List Ent → Option Nat
  | [] => none
  | e :: r => if e.1 = p then some 0 else (idxP p r).map (· + 1)
structure SIx (s : Ix) : Prop where
  four : s.H.length = 4
  lo : 1 ≤ s.F
  hi : s.F + s.E.length ≤ 2147483648
  few : s.E.length ≤ 1000
  nd : (s.E.map (·.1)).Nodup
structure PIx (h : Heap) (i m : Nat) (s : Ix) : Prop where
  ne : i ≠ m
  obj : ∃ c1, h.objs[i]? = some (.cells (ixC s.F c1 m s.H)) ∧ LC c1 s.E
  map : ∃ t c, h.objs[m]? = some (.map 67 (encM placeA t) c) ∧ TOk t c ∧ ∀ p, tget p t = (idxP p s.E).map fun (k : Nat) => .int .i64 (s.F + k)
  ok : SIx s

theorem next_run {d : Nat} {h : Heap} {i m : Nat} {s : Ix} (hp : PIx h i m s) {Q : Res → Prop} {tg : Hid Q} : Run (evFn Cw (d + 1) 53 [.obj i 0] h) Q tg = Q ([.int .i64 (s.F + s.E.length)], h) := by
  obtain ⟨c1, hm, hl⟩ := hp.obj
  obtain ⟨f, hL⟩ := hl.at
  have h1 := hp.ok.lo
  have h2 := hp.ok.hi
  have h3 := hp.ok.few
  have w : IntKind.i64.wrap (s.F + (s.E.length : Int)) = s.F + s.E.length := wrap_i64_id (by omega) (by omega)
  rw [F53_eq]
  simp (disch := (first | assumption | (simp only [Bool.and_eq_true, Bool.and_eq_false_iff, decide_eq_true_eq, decide_eq_false_iff_not, bne_iff_ne, beq_iff_eq, beq_eq_false_iff_ne, bne_eq_false_iff_eq, Bool.not_eq_true', Bool.not_eq_false', bys_length, List.length_append, List.length_cons, List.length_nil, List.length_map, List.length_drop, List.length_take, Int.natCast_add, wrap_i64_eq, wrap_u64, wrap_u8, ne_eq, not_true_eq_false, not_false_eq_true, Nat.zero_add, Nat.mul_one] <;> omega) | omega | (simp; done) | (simp; omega))) only [↓at_runK, ↓at_bind, ↓contQ_mk, ↓at_ret, ↓at_consK, ↓at_nilK, ↓at_optK, ↓at_intK, ↓at_boolK, ↓at_strK, ↓at_slK, ↓at_slOK, ↓at_slK0, ↓at_slOK0, ↓at_aggK, ↓at_cond_t, ↓at_cond_f, ↓at_sameL, ↓at_any1, ↓at_any, and_self, toBytes_bys, List.nil_append, List.append_nil, List.drop_zero, List.take_succ_cons, List.take_zero, List.getElem?_cons_succ, List.getElem?_cons_zero, cells_agg, eqCells_cons, eqCells_nil, eq1_int, eq1_bool, eq1_str, ↓at_ptr_whole, ↓at_ptr_cell, ↓at_ptr_obj, ↓at_ptr_objs, shift_obj, shift_elt, toA_val, toA_own, Int.toNat_natCast, List.cons_append, Heap.cell_at hm, ix0, ix1, hL, ents_length, w]
theorem first_run {d : Nat} {h : Heap} {i m : Nat} {s : Ix} (hp : PIx h i m s) {Q : Res → Prop} {tg : Hid Q} : Run (evFn Cw (d + 1) 52 [.obj i 0] h) Q tg = Q ([.int .i64 s.F], h) := by
  obtain ⟨c1, hm, hl⟩ := hp.obj
  rw [F52_eq]
  simp (disch := (first | assumption | (simp only [Bool.and_eq_true, Bool.and_eq_false_iff, decide_eq_true_eq, decide_eq_false_iff_not, bne_iff_ne, beq_iff_eq, beq_eq_false_iff_ne, bne_eq_false_iff_eq, Bool.not_eq_true', Bool.not_eq_false', bys_length, List.length_append, List.length_cons, List.length_nil, List.length_map, List.length_drop, List.length_take, Int.natCast_add, wrap_i64_eq, wrap_u64, wrap_u8, ne_eq, not_true_eq_false, not_false_eq_true, Nat.zero_add, Nat.mul_one] <;> omega) | omega | (simp; done) | (simp; omega))) only [↓at_runK, ↓at_bind, ↓contQ_mk, ↓at_ret, ↓at_consK, ↓at_nilK, ↓at_optK, ↓at_intK, ↓at_boolK, ↓at_strK, ↓at_slK, ↓at_slOK, ↓at_slK0, ↓at_slOK0, ↓at_aggK, ↓at_cond_t, ↓at_cond_f, ↓at_sameL, ↓at_any1, ↓at_any, and_self, toBytes_bys, List.nil_append, List.append_nil, List.drop_zero, List.take_succ_cons, List.take_zero, List.getElem?_cons_succ, List.getElem?_cons_zero, cells_agg, eqCells_cons, eqCells_nil, eq1_int, eq1_bool, eq1_str, ↓at_ptr_whole, ↓at_ptr_cell, ↓at_ptr_obj, ↓at_ptr_objs, shift_obj, shift_elt, toA_val, toA_own, Int.toNat_natCast, List.cons_append, Heap.cell_at hm, ix0]
theorem iheads_run {d : Nat} {h : Heap} {i m : Nat} {s : Ix} (hp : PIx h i m s) {Q : Res → Prop} {tg : Hid Q} : Run (evFn Cw (d + 1) 54 [.obj i 0] h) Q tg = Q ([.agg (ints s.H)], h) := by
  obtain ⟨c1, hm, hl⟩ := hp.obj
  have h4 := hp.ok.four
  have h5 : (ints s.H).length = 4 := by rw [ints_length, h4]
  have h6 : (ints s.H).take 4 = ints s.H := List.take_of_length_le (by omega)
  have hc := Heap.cells_at (n := 4) (off := 3) hm (by rw [ixC_length]; omega)
  rw [ixC_heads _ _ _ _ h4] at hc
  rw [F54_eq]
  simp (disch := (first | assumption | (simp only [Bool.and_eq_true, Bool.and_eq_false_iff, decide_eq_true_eq, decide_eq_false_iff_not, bne_iff_ne, beq_iff_eq, beq_eq_false_iff_ne, bne_eq_false_iff_eq, Bool.not_eq_true', Bool.not_eq_false', bys_length, List.length_append, List.length_cons, List.length_nil, List.length_map, List.length_drop, List.length_take, Int.natCast_add, wrap_i64_eq, wrap_u64, wrap_u8, ne_eq, not_true_eq_false, not_false_eq_true, Nat.zero_add, Nat.mul_one] <;> omega) | omega | (simp; done) | (simp; omega))) only [↓at_runK, ↓at_bind, ↓contQ_mk, ↓at_ret, ↓at_consK, ↓at_nilK, ↓at_optK, ↓at_intK, ↓at_boolK, ↓at_strK, ↓at_slK, ↓at_slOK, ↓at_slK0, ↓at_slOK0, ↓at_aggK, ↓at_cond_t, ↓at_cond_f, ↓at_sameL, ↓at_any1, ↓at_any, and_self, toBytes_bys, List.nil_append, List.append_nil, List.drop_zero, List.take_succ_cons, List.take_zero, List.getElem?_cons_succ, List.getElem?_cons_zero, cells_agg, eqCells_cons, eqCells_nil, eq1_int, eq1_bool, eq1_str, ↓at_ptr_whole, ↓at_ptr_cell, ↓at_ptr_obj, ↓at_ptr_objs, shift_obj, shift_elt, toA_val, toA_own, Int.toNat_natCast, List.cons_append, hc, h6]
theorem iat_run {d : Nat} {h : Heap} {i m : Nat} {s : Ix} (hp : PIx h i m s) {x y : Int} {Q : Res → Prop} {tg : Hid Q} :
    Run (evFn Cw (d + 1) 47 [.obj i 0, .agg [.int .i64 x, .int .i64 y]] h) Q tg = Q ([.int .i64 (match idxP ⟨x, y⟩ s.E with | some k => s.F + (k : Nat) | none => 0), .bool (idxP ⟨x, y⟩ s.E).isSome], h) := by
  obtain ⟨c1, hm, hl⟩ := hp.obj
  obtain ⟨t, c, hmm, _, ht⟩ := hp.map
  have hg := ht ⟨x, y⟩
  rw [F47_eq]
  cases hx : idxP ⟨x, y⟩ s.E with
  | none =>
    rw [hx] at hg
    simp (disch := (first | assumption | (simp only [Bool.and_eq_true, Bool.and_eq_false_iff, decide_eq_true_eq, decide_eq_false_iff_not, bne_iff_ne, beq_iff_eq, beq_eq_false_iff_ne, bne_eq_false_iff_eq, Bool.not_eq_true', Bool.not_eq_false', bys_length, List.length_append, List.length_cons, List.length_nil, List.length_map, List.length_drop, List.length_take, Int.natCast_add, wrap_i64_eq, wrap_u64, wrap_u8, ne_eq, not_true_eq_false, not_false_eq_true, Nat.zero_add, Nat.mul_one] <;> omega) | omega | (simp; done) | (simp; omega))) only [↓at_runK, ↓at_bind, ↓contQ_mk, ↓at_ret, ↓at_consK, ↓at_nilK, ↓at_optK, ↓at_intK, ↓at_boolK, ↓at_strK, ↓at_slK, ↓at_slOK, ↓at_slK0, ↓at_slOK0, ↓at_aggK, ↓at_cond_t, ↓at_cond_f, ↓at_sameL, ↓at_any1, ↓at_any, and_self, toBytes_bys, List.nil_append, List.append_nil, List.drop_zero, List.take_succ_cons, List.take_zero, List.getElem?_cons_succ, List.getElem?_cons_zero, cells_agg, eqCells_cons, eqCells_nil, eq1_int, eq1_bool, eq1_str, ↓at_ptr_whole, ↓at_ptr_cell, ↓at_ptr_obj, ↓at_ptr_objs, shift_obj, shift_elt, toA_val, toA_own, Int.toNat_natCast, List.cons_append, Heap.cell_at hm, ix2, placeA_eq, at_lookK encPlace hmm, hg, Option.map_none, Option.getD_none, Option.isSome_none]
  | some k =>
    rw [hx] at hg
    simp (disch := (first | assumption | (simp only [Bool.and_eq_true, Bool.and_eq_false_iff, decide_eq_true_eq, decide_eq_false_iff_not, bne_iff_ne, beq_iff_eq, beq_eq_false_iff_ne, bne_eq_false_iff_eq, Bool.not_eq_true', Bool.not_eq_false', bys_length, List.length_append, List.length_cons, List.length_nil, List.length_map, List.length_drop, List.length_take, Int.natCast_add, wrap_i64_eq, wrap_u64, wrap_u8, ne_eq, not_true_eq_false, not_false_eq_true, Nat.zero_add, Nat.mul_one] <;> omega) | omega | (simp; done) | (simp; omega))) only [↓at_runK, ↓at_bind, ↓contQ_mk, ↓at_ret, ↓at_consK, ↓at_nilK, ↓at_optK, ↓at_intK, ↓at_boolK, ↓at_strK, ↓at_slK, ↓at_slOK, ↓at_slK0, ↓at_slOK0, ↓at_aggK, ↓at_cond_t, ↓at_cond_f, ↓at_sameL, ↓at_any1, ↓at_any, and_self, toBytes_bys, List.nil_append, List.append_nil, List.drop_zero, List.take_succ_cons, List.take_zero, List.getElem?_cons_succ, List.getElem?_cons_zero, cells_agg, eqCells_cons, eqCells_nil, eq1_int, eq1_bool, eq1_str, ↓at_ptr_whole, ↓at_ptr_cell, ↓at_ptr_obj, ↓at_ptr_objs, shift_obj, shift_elt, toA_val, toA_own, Int.toNat_natCast, List.cons_append, Heap.cell_at hm, ix2, placeA_eq, at_lookK encPlace hmm, hg, Option.map_some, Option.getD_some, Option.isSome_some]

/-! ### What a number has -/
def inR (s : Ix) (n : Int) : Bool := decide (s.F ≤ n ∧ n < s.F + s.E.length)
theorem find_run {d : Nat} {h : Heap} {i m : Nat} {s : Ix} (hp : PIx h i m s) {n : Int} {Q : Res → Prop} {tg : Hid Q} :
    Run (evFn Cw (d + 2) 70 [.obj i 0, .int .i64 n] h) Q tg = if hn : inR s n = true then Q ([.agg [.int .i64 (s.E[(n - s.F).toNat]'(by simp [inR] at hn; omega)).1.seq, .int .i64 (s.E[(n - s.F).toNat]'(by simp [inR] at hn; omega)).1.at', .int .i64 (s.E[(n - s.F).toNat]'(by simp [inR] at hn; omega)).2], .bool true], h)
      else Q ([.agg [.int .i64 0, .int .i64 0, .int .i64 0], .bool false], h) := by
  obtain ⟨c1, hm, hl⟩ := hp.obj
  obtain ⟨f, hL⟩ := hl.at
  have h1 := hp.ok.lo
  have h2 := hp.ok.hi
  have h3 := hp.ok.few
  rw [F70_eq]
  by_cases ha : n < s.F
  · have hn : ¬ inR s n = true := by simp [inR]; omega
    rw [dif_neg hn]
    simp (disch := (first | assumption | (simp only [Bool.and_eq_true, Bool.and_eq_false_iff, decide_eq_true_eq, decide_eq_false_iff_not, bne_iff_ne, beq_iff_eq, beq_eq_false_iff_ne, bne_eq_false_iff_eq, Bool.not_eq_true', Bool.not_eq_false', bys_length, List.length_append, List.length_cons, List.length_nil, List.length_map, List.length_drop, List.length_take, Int.natCast_add, wrap_i64_eq, wrap_u64, wrap_u8, ne_eq, not_true_eq_false, not_false_eq_true, Nat.zero_add, Nat.mul_one] <;> omega) | omega | (simp; done) | (simp; omega))) only [↓at_runK, ↓at_bind, ↓contQ_mk, ↓at_ret, ↓at_consK, ↓at_nilK, ↓at_optK, ↓at_intK, ↓at_boolK, ↓at_strK, ↓at_slK, ↓at_slOK, ↓at_slK0, ↓at_slOK0, ↓at_aggK, ↓at_cond_t, ↓at_cond_f, ↓at_sameL, ↓at_any1, ↓at_any, and_self, toBytes_bys, List.nil_append, List.append_nil, List.drop_zero, List.take_succ_cons, List.take_zero, List.getElem?_cons_succ, List.getElem?_cons_zero, cells_agg, eqCells_cons, eqCells_nil, eq1_int, eq1_bool, eq1_str, ↓at_ptr_whole, ↓at_ptr_cell, ↓at_ptr_obj, ↓at_ptr_objs, shift_obj, shift_elt, toA_val, toA_own, Int.toNat_natCast, List.cons_append, Heap.cell_at hm, ix0]
  · by_cases hb : n ≥ s.F + s.E.length
    · have hn : ¬ inR s n = true := by simp [inR]; omega
      rw [dif_neg hn]
      simp (disch := (first | assumption | (simp only [Bool.and_eq_true, Bool.and_eq_false_iff, decide_eq_true_eq, decide_eq_false_iff_not, bne_iff_ne, beq_iff_eq, beq_eq_false_iff_ne, bne_eq_false_iff_eq, Bool.not_eq_true', Bool.not_eq_false', bys_length, List.length_append, List.length_cons, List.length_nil, List.length_map, List.length_drop, List.length_take, Int.natCast_add, wrap_i64_eq, wrap_u64, wrap_u8, ne_eq, not_true_eq_false, not_false_eq_true, Nat.zero_add, Nat.mul_one] <;> omega) | omega | (simp; done) | (simp; omega))) only [↓at_runK, ↓at_bind, ↓contQ_mk, ↓at_ret, ↓at_consK, ↓at_nilK, ↓at_optK, ↓at_intK, ↓at_boolK, ↓at_strK, ↓at_slK, ↓at_slOK, ↓at_slK0, ↓at_slOK0, ↓at_aggK, ↓at_cond_t, ↓at_cond_f, ↓at_sameL, ↓at_any1, ↓at_any, and_self, toBytes_bys, List.nil_append, List.append_nil, List.drop_zero, List.take_succ_cons, List.take_zero, List.getElem?_cons_succ, List.getElem?_cons_zero, cells_agg, eqCells_cons, eqCells_nil, eq1_int, eq1_bool, eq1_str, ↓at_ptr_whole, ↓at_ptr_cell, ↓at_ptr_obj, ↓at_ptr_objs, shift_obj, shift_elt, toA_val, toA_own, Int.toNat_natCast, List.cons_append, Heap.cell_at hm, ix0, next_run hp]
    · have hn : inR s n = true := by simp [inR]; omega
      have w : IntKind.i64.wrap (n - s.F) = n - s.F := wrap_i64_id (by omega) (by omega)
      have hk : (n - s.F).toNat < s.E.length := by omega
      rw [dif_pos hn]
      simp (disch := (first | assumption | (simp only [Bool.and_eq_true, Bool.and_eq_false_iff, decide_eq_true_eq, decide_eq_false_iff_not, bne_iff_ne, beq_iff_eq, beq_eq_false_iff_ne, bne_eq_false_iff_eq, Bool.not_eq_true', Bool.not_eq_false', bys_length, List.length_append, List.length_cons, List.length_nil, List.length_map, List.length_drop, List.length_take, Int.natCast_add, wrap_i64_eq, wrap_u64, wrap_u8, ne_eq, not_true_eq_false, not_false_eq_true, Nat.zero_add, Nat.mul_one] <;> omega) | omega | (simp; done) | (simp; omega))) only [↓at_runK, ↓at_bind, ↓contQ_mk, ↓at_ret, ↓at_consK, ↓at_nilK, ↓at_optK, ↓at_intK, ↓at_boolK, ↓at_strK, ↓at_slK, ↓at_slOK, ↓at_slK0, ↓at_slOK0, ↓at_aggK, ↓at_cond_t, ↓at_cond_f, ↓at_sameL, ↓at_any1, ↓at_any, and_self, toBytes_bys, List.nil_append, List.append_nil, List.drop_zero, List.take_succ_cons, List.take_zero, List.getElem?_cons_succ, List.getElem?_cons_zero, cells_agg, eqCells_cons, eqCells_nil, eq1_int, eq1_bool, eq1_str, ↓at_ptr_whole, ↓at_ptr_cell, ↓at_ptr_obj, ↓at_ptr_objs, shift_obj, shift_elt, toA_val, toA_own, Int.toNat_natCast, List.cons_append, Heap.cell_at hm, ix0, ix1, next_run hp, hL, ents_length, w, ents_getD hk]
theorem place_in {d : Nat} {h : Heap} {i m : Nat} {s : Ix} (hp : PIx h i m s) {k : Nat} (hk : k < s.E.length) {Q : Res → Prop} {tg : Hid Q} :
    Run (evFn Cw (d + 3) 49 [.obj i 0, .int .i64 (s.F + k)] h) Q tg = Q ([.agg [.int .i64 s.E[k].1.seq, .int .i64 s.E[k].1.at'], .bool true], h) := by
  have hn : inR s (s.F + k) = true := by simp [inR]; omega
  have e : (s.F + (k : Int) - s.F).toNat = k := by omega
  have hf := fun (Q : Res → Prop) (tg : Hid Q) => find_run (d := d) hp (n := s.F + k) (Q := Q) (tg := tg)
  simp only [dif_pos hn, e] at hf
  rw [F49_eq]
  simp (disch := (first | assumption | (simp only [Bool.and_eq_true, Bool.and_eq_false_iff, decide_eq_true_eq, decide_eq_false_iff_not, bne_iff_ne, beq_iff_eq, beq_eq_false_iff_ne, bne_eq_false_iff_eq, Bool.not_eq_true', Bool.not_eq_false', bys_length, List.length_append, List.length_cons, List.length_nil, List.length_map, List.length_drop, List.length_take, Int.natCast_add, wrap_i64_eq, wrap_u64, wrap_u8, ne_eq, not_true_eq_false, not_false_eq_true, Nat.zero_add, Nat.mul_one] <;> omega) | omega | (simp; done) | (simp; omega))) only [↓at_runK, ↓at_bind, ↓contQ_mk, ↓at_ret, ↓at_consK, ↓at_nilK, ↓at_optK, ↓at_intK, ↓at_boolK, ↓at_strK, ↓at_slK, ↓at_slOK, ↓at_slK0, ↓at_slOK0, ↓at_aggK, ↓at_cond_t, ↓at_cond_f, ↓at_sameL, ↓at_any1, ↓at_any, and_self, toBytes_bys, List.nil_append, List.append_nil, List.drop_zero, List.take_succ_cons, List.take_zero, List.getElem?_cons_succ, List.getElem?_cons_zero, cells_agg, eqCells_cons, eqCells_nil, eq1_int, eq1_bool, eq1_str, ↓at_ptr_whole, ↓at_ptr_cell, ↓at_ptr_obj, ↓at_ptr_objs, shift_obj, shift_elt, toA_val, toA_own, Int.toNat_natCast, List.cons_append, hf]
theorem place_out {d : Nat} {h : Heap} {i m : Nat} {s : Ix} (hp : PIx h i m s) {n : Int} (hn : inR s n = false) {Q : Res → Prop} {tg : Hid Q} :
    Run (evFn Cw (d + 3) 49 [.obj i 0, .int .i64 n] h) Q tg = Q ([.agg [.int .i64 0, .int .i64 0], .bool false], h) := by
  have hf := fun (Q : Res → Prop) (tg : Hid Q) => find_run (d := d) hp (n := n) (Q := Q) (tg := tg)
  simp only [hn, Bool.false_eq_true, dite_false] at hf
  rw [F49_eq]
  simp (disch := (first | assumption | (simp only [Bool.and_eq_true, Bool.and_eq_false_iff, decide_eq_true_eq, decide_eq_false_iff_not, bne_iff_ne, beq_iff_eq, beq_eq_false_iff_ne, bne_eq_false_iff_eq, Bool.not_eq_true', Bool.not_eq_false', bys_length, List.length_append, List.length_cons, List.length_nil, List.length_map, List.length_drop, List.length_take, Int.natCast_add, wrap_i64_eq, wrap_u64, wrap_u8, ne_eq, not_true_eq_false, not_false_eq_true, Nat.zero_add, Nat.mul_one] <;> omega) | omega | (simp; done) | (simp; omega))) only [↓at_runK, ↓at_bind, ↓contQ_mk, ↓at_ret, ↓at_consK, ↓at_nilK, ↓at_optK, ↓at_intK, ↓at_boolK, ↓at_strK, ↓at_slK, ↓at_slOK, ↓at_slK0, ↓at_slOK0, ↓at_aggK, ↓at_cond_t, ↓at_cond_f, ↓at_sameL, ↓at_any1, ↓at_any, and_self, toBytes_bys, List.nil_append, List.append_nil, List.drop_zero, List.take_succ_cons, List.take_zero, List.getElem?_cons_succ, List.getElem?_cons_zero, cells_agg, eqCells_cons, eqCells_nil, eq1_int, eq1_bool, eq1_str, ↓at_ptr_whole, ↓at_ptr_cell, ↓at_ptr_obj, ↓at_ptr_objs, shift_obj, shift_elt, toA_val, toA_own, Int.toNat_natCast, List.cons_append, hf]
theorem prev_in {d : Nat} {h : Heap} {i m : Nat} {s : Ix} (hp : PIx h i m s) {k : Nat} (hk : k < s.E.length) {Q : Res → Prop} {tg : Hid Q} :
    Run (evFn Cw (d + 3) 50 [.obj i 0, .int .i64 (s.F + k)] h) Q tg = Q ([.int .i64 s.E[k].2, .bool true], h) := by
  have hn : inR s (s.F + k) = true := by simp [inR]; omega
  have e : (s.F + (k : Int) - s.F).toNat = k := by omega
  have hf := fun (Q : Res → Prop) (tg : Hid Q) => find_run (d := d) hp (n := s.F + k) (Q := Q) (tg := tg)
  simp only [dif_pos hn, e] at hf
  rw [F50_eq]
  simp (disch := (first | assumption | (simp only [Bool.and_eq_true, Bool.and_eq_false_iff, decide_eq_true_eq, decide_eq_false_iff_not, bne_iff_ne, beq_iff_eq, beq_eq_false_iff_ne, bne_eq_false_iff_eq, Bool.not_eq_true', Bool.not_eq_false', bys_length, List.length_append, List.length_cons, List.length_nil, List.length_map, List.length_drop, List.length_take, Int.natCast_add, wrap_i64_eq, wrap_u64, wrap_u8, ne_eq, not_true_eq_false, not_false_eq_true, Nat.zero_add, Nat.mul_one] <;> omega) | omega | (simp; done) | (simp; omega))) only [↓at_runK, ↓at_bind, ↓contQ_mk, ↓at_ret, ↓at_consK, ↓at_nilK, ↓at_optK, ↓at_intK, ↓at_boolK, ↓at_strK, ↓at_slK, ↓at_slOK, ↓at_slK0, ↓at_slOK0, ↓at_aggK, ↓at_cond_t, ↓at_cond_f, ↓at_sameL, ↓at_any1, ↓at_any, and_self, toBytes_bys, List.nil_append, List.append_nil, List.drop_zero, List.take_succ_cons, List.take_zero, List.getElem?_cons_succ, List.getElem?_cons_zero, cells_agg, eqCells_cons, eqCells_nil, eq1_int, eq1_bool, eq1_str, ↓at_ptr_whole, ↓at_ptr_cell, ↓at_ptr_obj, ↓at_ptr_objs, shift_obj, shift_elt, toA_val, toA_own, Int.toNat_natCast, List.cons_append, hf]
theorem prev_out {d : Nat} {h : Heap} {i m : Nat} {s : Ix} (hp : PIx h i m s) {n : Int} (hn : inR s n = false) {Q : Res → Prop} {tg : Hid Q} :
    Run (evFn Cw (d + 3) 50 [.obj i 0, .int .i64 n] h) Q tg = Q ([.int .i64 0, .bool false], h) := by
  have hf := fun (Q : Res → Prop) (tg : Hid Q) => find_run (d := d) hp (n := n) (Q := Q) (tg := tg)
  simp only [hn, Bool.false_eq_true, dite_false] at hf
  rw [F50_eq]
  simp (disch := (first | assumption | (simp only [Bool.and_eq_true, Bool.and_eq_false_iff, decide_eq_true_eq, decide_eq_false_iff_not, bne_iff_ne, beq_iff_eq, beq_eq_false_iff_ne, bne_eq_false_iff_eq, Bool.not_eq_true', Bool.not_eq_false', bys_length, List.length_append, List.length_cons, List.length_nil, List.length_map, List.length_drop, List.length_take, Int.natCast_add, wrap_i64_eq, wrap_u64, wrap_u8, ne_eq, not_true_eq_false, not_false_eq_true, Nat.zero_add, Nat.mul_one] <;> omega) | omega | (simp; done) | (simp; omega))) only [↓at_runK, ↓at_bind, ↓contQ_mk, ↓at_ret, ↓at_consK, ↓at_nilK, ↓at_optK, ↓at_intK, ↓at_boolK, ↓at_strK, ↓at_slK, ↓at_slOK, ↓at_slK0, ↓at_slOK0, ↓at_aggK, ↓at_cond_t, ↓at_cond_f, ↓at_sameL, ↓at_any1, ↓at_any, and_self, toBytes_bys, List.nil_append, List.append_nil, List.drop_zero, List.take_succ_cons, List.take_zero, List.getElem?_cons_succ, List.getElem?_cons_zero, cells_agg, eqCells_cons, eqCells_nil, eq1_int, eq1_bool, eq1_str, ↓at_ptr_whole, ↓at_ptr_cell, ↓at_ptr_obj, ↓at_ptr_objs, shift_obj, shift_elt, toA_val, toA_own, Int.toNat_natCast, List.cons_append, hf]

/-- A chain. -/
def chI (s : Ix) : Nat → Int → List Int
  | 0, _ => []
  | f + 1, n => if h : s.F ≤ n ∧ n < s.F + s.E.length then (if (s.E[(n - s.F).toNat]'(by omega)).2 ≥ n then [n] else n :: chI s f (s.E[(n - s.F).toNat]'(by omega)).2) else []
theorem chI_len (s : Ix) : ∀ (f : Nat) (n : Int), (chI s f n).length ≤ f
  | 0, _ => by simp [chI]
  | f + 1, n => by
    unfold chI
    split
    · split
      · simp
      · have := chI_len s f (s.E[(n - s.F).toNat]'(by omega)).2
        simp; omega
    · simp
theorem chain_loop26 {d : Nat} {h : Heap} {i m : Nat} {s : Ix} (hp : PIx h i m s) (Q : Res → Prop) : ∀ (f : Nat) (n : Int) (acc : List Int) (k : Nat) (pv : Int) (ok : Bool) (tg : Hid Q), (n - s.F).toNat < f → f < k → acc.length + f ≤ 100000 →
    (∀ hn : s.F ≤ n ∧ n < s.F + s.E.length, ok = true ∧ pv = (s.E[(n - s.F).toNat]'(by omega)).2) → (¬ (s.F ≤ n ∧ n < s.F + s.E.length) → ok = false) →
    Run (P51_0 (d + 3) k i n (ints acc) pv ok h) Q tg = Q ([.sl false 0 (ints (acc ++ chI s f n))], h) := by
  intro f
  induction f with
  | zero => intro n acc k pv ok tg h0; omega
  | succ f ih =>
    intro n acc k pv ok tg h0 hk hb h1 h2
    obtain ⟨k, rfl⟩ : ∃ m, k = m + 1 := ⟨k - 1, by omega⟩
    rw [P51_0_eq]
    unfold chI
    by_cases hn : s.F ≤ n ∧ n < s.F + s.E.length
    · obtain ⟨rfl, hpv⟩ := h1 hn
      rw [dif_pos hn, ← hpv]
      by_cases hge : pv ≥ n
      · rw [if_pos hge]
        simp (disch := (first | assumption | (simp only [Bool.and_eq_true, Bool.and_eq_false_iff, decide_eq_true_eq, decide_eq_false_iff_not, bne_iff_ne, beq_iff_eq, beq_eq_false_iff_ne, bne_eq_false_iff_eq, Bool.not_eq_true', Bool.not_eq_false', bys_length, List.length_append, List.length_cons, List.length_nil, List.length_map, List.length_drop, List.length_take, Int.natCast_add, wrap_i64_eq, wrap_u64, wrap_u8, ne_eq, not_true_eq_false, not_false_eq_true, Nat.zero_add, Nat.mul_one] <;> omega) | omega | (simp; done) | (simp; omega))) only [↓at_runK, ↓at_bind, ↓contQ_mk, ↓at_ret, ↓at_consK, ↓at_nilK, ↓at_optK, ↓at_intK, ↓at_boolK, ↓at_strK, ↓at_slK, ↓at_slOK, ↓at_slK0, ↓at_slOK0, ↓at_aggK, ↓at_cond_t, ↓at_cond_f, ↓at_sameL, ↓at_any1, ↓at_any, and_self, toBytes_bys, List.nil_append, List.append_nil, List.drop_zero, List.take_succ_cons, List.take_zero, List.getElem?_cons_succ, List.getElem?_cons_zero, cells_agg, eqCells_cons, eqCells_nil, eq1_int, eq1_bool, eq1_str, ↓at_ptr_whole, ↓at_ptr_cell, ↓at_ptr_obj, ↓at_ptr_objs, shift_obj, shift_elt, toA_val, toA_own, Int.toNat_natCast, List.cons_append, ints_length, ints_snoc]
      · rw [if_neg hge]
        by_cases hin : s.F ≤ pv ∧ pv < s.F + s.E.length
        · have hlt : (pv - s.F).toNat < s.E.length := by omega
          have epv : pv = s.F + ((pv - s.F).toNat : Nat) := by omega
          have hpr := fun (Q : Res → Prop) (tg : Hid Q) => prev_in (d := d) hp hlt (Q := Q) (tg := tg)
          rw [← epv] at hpr
          have ih' := fun tg => ih pv (acc ++ [n]) k (s.E[(pv - s.F).toNat]).2 true tg (by omega) (by omega) (by simp; omega) (fun _ => ⟨rfl, rfl⟩) (fun hc => absurd hin hc)
          rw [List.append_assoc] at ih'
          simp (disch := (first | assumption | (simp only [Bool.and_eq_true, Bool.and_eq_false_iff, decide_eq_true_eq, decide_eq_false_iff_not, bne_iff_ne, beq_iff_eq, beq_eq_false_iff_ne, bne_eq_false_iff_eq, Bool.not_eq_true', Bool.not_eq_false', bys_length, List.length_append, List.length_cons, List.length_nil, List.length_map, List.length_drop, List.length_take, Int.natCast_add, wrap_i64_eq, wrap_u64, wrap_u8, ne_eq, not_true_eq_false, not_false_eq_true, Nat.zero_add, Nat.mul_one] <;> omega) | omega | (simp; done) | (simp; omega))) only [↓at_runK, ↓at_bind, ↓contQ_mk, ↓at_ret, ↓at_consK, ↓at_nilK, ↓at_optK, ↓at_intK, ↓at_boolK, ↓at_strK, ↓at_slK, ↓at_slOK, ↓at_slK0, ↓at_slOK0, ↓at_aggK, ↓at_cond_t, ↓at_cond_f, ↓at_sameL, ↓at_any1, ↓at_any, and_self, toBytes_bys, List.nil_append, List.append_nil, List.drop_zero, List.take_succ_cons, List.take_zero, List.getElem?_cons_succ, List.getElem?_cons_zero, cells_agg, eqCells_cons, eqCells_nil, eq1_int, eq1_bool, eq1_str, ↓at_ptr_whole, ↓at_ptr_cell, ↓at_ptr_obj, ↓at_ptr_objs, shift_obj, shift_elt, toA_val, toA_own, Int.toNat_natCast, List.cons_append, ints_length, ints_snoc, hpr, ih']
        · have ho : inR s pv = false := by simp [inR]; omega
          obtain ⟨k, rfl⟩ : ∃ m, k = m + 1 := ⟨k - 1, by omega⟩
          have e : chI s f pv = [] := by
            cases f with
            | zero => rfl
            | succ f => unfold chI; rw [dif_neg hin]
          rw [e]
          simp (disch := (first | assumption | (simp only [Bool.and_eq_true, Bool.and_eq_false_iff, decide_eq_true_eq, decide_eq_false_iff_not, bne_iff_ne, beq_iff_eq, beq_eq_false_iff_ne, bne_eq_false_iff_eq, Bool.not_eq_true', Bool.not_eq_false', bys_length, List.length_append, List.length_cons, List.length_nil, List.length_map, List.length_drop, List.length_take, Int.natCast_add, wrap_i64_eq, wrap_u64, wrap_u8, ne_eq, not_true_eq_false, not_false_eq_true, Nat.zero_add, Nat.mul_one] <;> omega) | omega | (simp; done) | (simp; omega))) only [↓at_runK, ↓at_bind, ↓contQ_mk, ↓at_ret, ↓at_consK, ↓at_nilK, ↓at_optK, ↓at_intK, ↓at_boolK, ↓at_strK, ↓at_slK, ↓at_slOK, ↓at_slK0, ↓at_slOK0, ↓at_aggK, ↓at_cond_t, ↓at_cond_f, ↓at_sameL, ↓at_any1, ↓at_any, and_self, toBytes_bys, List.nil_append, List.append_nil, List.drop_zero, List.take_succ_cons, List.take_zero, List.getElem?_cons_succ, List.getElem?_cons_zero, cells_agg, eqCells_cons, eqCells_nil, eq1_int, eq1_bool, eq1_str, ↓at_ptr_whole, ↓at_ptr_cell, ↓at_ptr_obj, ↓at_ptr_objs, shift_obj, shift_elt, toA_val, toA_own, Int.toNat_natCast, List.cons_append, ints_length, ints_snoc, prev_out hp ho, P51_0_eq]
    · have := h2 hn
      subst this
      rw [dif_neg hn, List.append_nil]
      simp (disch := (first | assumption | (simp only [Bool.and_eq_true, Bool.and_eq_false_iff, decide_eq_true_eq, decide_eq_false_iff_not, bne_iff_ne, beq_iff_eq, beq_eq_false_iff_ne, bne_eq_false_iff_eq, Bool.not_eq_true', Bool.not_eq_false', bys_length, List.length_append, List.length_cons, List.length_nil, List.length_map, List.length_drop, List.length_take, Int.natCast_add, wrap_i64_eq, wrap_u64, wrap_u8, ne_eq, not_true_eq_false, not_false_eq_true, Nat.zero_add, Nat.mul_one] <;> omega) | omega | (simp; done) | (simp; omega))) only [↓at_runK, ↓at_bind, ↓contQ_mk, ↓at_ret, ↓at_consK, ↓at_nilK, ↓at_optK, ↓at_intK, ↓at_boolK, ↓at_strK, ↓at_slK, ↓at_slOK, ↓at_slK0, ↓at_slOK0, ↓at_aggK, ↓at_cond_t, ↓at_cond_f, ↓at_sameL, ↓at_any1, ↓at_any, and_self, toBytes_bys, List.nil_append, List.append_nil, List.drop_zero, List.take_succ_cons, List.take_zero, List.getElem?_cons_succ, List.getElem?_cons_zero, cells_agg, eqCells_cons, eqCells_nil, eq1_int, eq1_bool, eq1_str, ↓at_ptr_whole, ↓at_ptr_cell, ↓at_ptr_obj, ↓at_ptr_objs, shift_obj, shift_elt, toA_val, toA_own, Int.toNat_natCast, List.cons_append]
def chF (s : Ix) (n : Int) : List Int := chI s ((n - s.F).toNat + 1) n
theorem chain26_run {d : Nat} {h : Heap} {i m : Nat} {s : Ix} (hp : PIx h i m s) {n : Int} (hnn : n ≤ 2147483648) {Q : Res → Prop} {tg : Hid Q} (hfar : (n - s.F).toNat ≤ 2000) :
    Run (evFn Cw (d + 4) 51 [.obj i 0, .int .i64 n] h) Q tg = Q ([.sl false 0 (ints (chF s n))], h) := by
  have r := rounds_gt' ((n - s.F).toNat + 1) (by omega)
  rw [F51_eq]
  by_cases hin : s.F ≤ n ∧ n < s.F + s.E.length
  · have hlt : (n - s.F).toNat < s.E.length := by omega
    have en : n = s.F + ((n - s.F).toNat : Nat) := by omega
    have hpr := fun (Q : Res → Prop) (tg : Hid Q) => prev_in (d := d) hp hlt (Q := Q) (tg := tg)
    rw [← en] at hpr
    have hl := fun tg => chain_loop26 (d := d) hp Q ((n - s.F).toNat + 1) n [] rounds (s.E[(n - s.F).toNat]).2 true tg (by omega) r (by simp; omega) (fun _ => ⟨rfl, rfl⟩) (fun hc => absurd hin hc)
    rw [ints_nil, List.nil_append] at hl
    simp (disch := (first | assumption | (simp only [Bool.and_eq_true, Bool.and_eq_false_iff, decide_eq_true_eq, decide_eq_false_iff_not, bne_iff_ne, beq_iff_eq, beq_eq_false_iff_ne, bne_eq_false_iff_eq, Bool.not_eq_true', Bool.not_eq_false', bys_length, List.length_append, List.length_cons, List.length_nil, List.length_map, List.length_drop, List.length_take, Int.natCast_add, wrap_i64_eq, wrap_u64, wrap_u8, ne_eq, not_true_eq_false, not_false_eq_true, Nat.zero_add, Nat.mul_one] <;> omega) | omega | (simp; done) | (simp; omega))) only [↓at_runK, ↓at_bind, ↓contQ_mk, ↓at_ret, ↓at_consK, ↓at_nilK, ↓at_optK, ↓at_intK, ↓at_boolK, ↓at_strK, ↓at_slK, ↓at_slOK, ↓at_slK0, ↓at_slOK0, ↓at_aggK, ↓at_cond_t, ↓at_cond_f, ↓at_sameL, ↓at_any1, ↓at_any, and_self, toBytes_bys, List.nil_append, List.append_nil, List.drop_zero, List.take_succ_cons, List.take_zero, List.getElem?_cons_succ, List.getElem?_cons_zero, cells_agg, eqCells_cons, eqCells_nil, eq1_int, eq1_bool, eq1_str, ↓at_ptr_whole, ↓at_ptr_cell, ↓at_ptr_obj, ↓at_ptr_objs, shift_obj, shift_elt, toA_val, toA_own, Int.toNat_natCast, List.cons_append, hpr, hl]
    rfl
  · have ho : inR s n = false := by simp [inR]; omega
    have hl := fun tg => chain_loop26 (d := d) hp Q ((n - s.F).toNat + 1) n [] rounds 0 false tg (by omega) r (by simp; omega) (fun hc => absurd hc hin) (fun _ => rfl)
    rw [ints_nil, List.nil_append] at hl
    simp (disch := (first | assumption | (simp only [Bool.and_eq_true, Bool.and_eq_false_iff, decide_eq_true_eq, decide_eq_false_iff_not, bne_iff_ne, beq_iff_eq, beq_eq_false_iff_ne, bne_eq_false_iff_eq, Bool.not_eq_true', Bool.not_eq_false', bys_length, List.length_append, List.length_cons, List.length_nil, List.length_map, List.length_drop, List.length_take, Int.natCast_add, wrap_i64_eq, wrap_u64, wrap_u8, ne_eq, not_true_eq_false, not_false_eq_true, Nat.zero_add, Nat.mul_one] <;> omega) | omega | (simp; done) | (simp; omega))) only [↓at_runK, ↓at_bind, ↓contQ_mk, ↓at_ret, ↓at_consK, ↓at_nilK, ↓at_optK, ↓at_intK, ↓at_boolK, ↓at_strK, ↓at_slK, ↓at_slOK, ↓at_slK0, ↓at_slOK0, ↓at_aggK, ↓at_cond_t, ↓at_cond_f, ↓at_sameL, ↓at_any1, ↓at_any, and_self, toBytes_bys, List.nil_append, List.append_nil, List.drop_zero, List.take_succ_cons, List.take_zero, List.getElem?_cons_succ, List.getElem?_cons_zero, cells_agg, eqCells_cons, eqCells_nil, eq1_int, eq1_bool, eq1_str, ↓at_ptr_whole, ↓at_ptr_cell, ↓at_ptr_obj, ↓at_ptr_objs, shift_obj, shift_elt, toA_val, toA_own, Int.toNat_natCast, List.cons_append, prev_out hp ho, hl]
    rfl

/-! ### New, Add -/
def clampF (x : Int) : Int := if x < 1 then 1 else if x > 2147483647 then 2147483647 else x
theorem new_ok (d : Nat) (x a b c e : Int) (h : Heap) : ∃ h', PIx h' (h.objs.length + 1) h.objs.length ⟨clampF x, [], [a, b, c, e]⟩ ∧
    ∀ (Q : Res → Prop) (tg : Hid Q), Run (evFn Cw (d + 1) 40 [.int .i64 x, .agg [.int .i64 a, .int .i64 b, .int .i64 c, .int .i64 e]] h) Q tg = Q ([.obj (h.objs.length + 1) 0], h') := by
  have hc : (if (if (2147483647 : Int) < x then 2147483647 else x) > 1 then (if (2147483647 : Int) < x then 2147483647 else x) else 1) = clampF x := by
    unfold clampF
    repeat' split
    all_goals omega
  have hF : 1 ≤ clampF x ∧ clampF x ≤ 2147483647 := by
    unfold clampF
    split
    · omega
    · split <;> omega
  have g1 := Heap.push_new (h.push (.map 67 [] 0)) (.cells (List.map HCell.val [.int .i64 (clampF x), .sl true 4 [], .map h.objs.length, .int .i64 a, .int .i64 b, .int .i64 c, .int .i64 e]))
  rw [Heap.push_len] at g1
  refine ⟨(h.push (.map 67 [] 0)).push (.cells (List.map HCell.val [.int .i64 (clampF x), .sl true 4 [], .map h.objs.length, .int .i64 a, .int .i64 b, .int .i64 c, .int .i64 e])),
    ⟨by omega, ⟨.val (.sl true 4 []), g1, .inr ⟨rfl, rfl⟩⟩, ⟨[], 0, ?_, TOk.nil 0, fun p => rfl⟩, ⟨rfl, hF.1, by simp; omega, by simp, by simp⟩⟩, fun Q tg => ?_⟩
  · rw [Heap.push_old (by rw [Heap.push_len]; omega)]
    exact Heap.push_new h _
  · rw [F40_eq, hc, at_ret, Heap.push_len]

theorem idxP_none {p : IPlace} : ∀ {E : List Ent}, idxP p E = none → p ∉ E.map (·.1)
  | [], _ => by simp
  | e :: r, h => by
    unfold idxP at h
    by_cases hp : e.1 = p
    · rw [if_pos hp] at h; cases h
    · rw [if_neg hp] at h
      have := idxP_none (E := r) (by cases hx : idxP p r with | none => rfl | some k => rw [hx] at h; cases h)
      simp only [List.map_cons, List.mem_cons, not_or]
      exact ⟨fun h2 => hp h2.symm, this⟩
theorem idxP_snoc (p q : IPlace) (x : Int) : ∀ (E : List Ent), idxP q (E ++ [(p, x)]) = match idxP q E with | some k => some k | none => if p = q then some E.length else none
  | [] => by simp [idxP]
  | e :: r => by
    simp only [List.cons_append, idxP]
    by_cases he : e.1 = q
    · rw [if_pos he, if_pos he]
    · rw [if_neg he, if_neg he, idxP_snoc p q x r]
      cases idxP q r with
      | some k => rfl
      | none => by_cases hp : p = q <;> simp [hp]
def addS (s : Ix) (c : Int) (p : IPlace) : Ix × Int :=
  if c < 0 ∨ 4 ≤ c ∨ s.F + s.E.length > 2147483647 ∨ (idxP p s.E).isSome then (s, 0)
  else (⟨s.F, s.E ++ [(p, s.H.getD c.toNat 0)], s.H.set c.toNat (s.F + s.E.length)⟩, s.F + s.E.length)
theorem addS_ok {s : Ix} (h : SIx s) (hf : s.E.length + 1 ≤ 1000) (c : Int) (p : IPlace) : SIx (addS s c p).1 := by
  unfold addS
  split
  · exact h
  · rename_i hc
    simp only [not_or, Bool.not_eq_true, Option.isSome_eq_false_iff, Option.isNone_iff_eq_none] at hc
    refine ⟨by simp [h.four], h.lo, by simp; omega, by simp; omega, ?_⟩
    simp only [List.map_append, List.map_cons, List.map_nil]
    rw [List.nodup_append]
    refine ⟨h.nd, by simp, fun x hx y hy => ?_⟩
    simp at hy
    subst hy
    intro h2; subst h2
    exact idxP_none hc.2.2.2 hx
theorem add_ok {d : Nat} {h : Heap} {i m : Nat} {s : Ix} (hp : PIx h i m s) (hf : s.E.length + 1 ≤ 1000) (c x y : Int) : ∃ h', PIx h' i m (addS s c ⟨x, y⟩).1 ∧
    ∀ (Q : Res → Prop) (tg : Hid Q), Run (evFn Cw (d + 2) 45 [.obj i 0, .int .i64 c, .agg [.int .i64 x, .int .i64 y]] h) Q tg = Q ([.int .i64 (addS s c ⟨x, y⟩).2, .bool (decide ((addS s c ⟨x, y⟩).2 > 0))], h') := by
  obtain ⟨c1, hm, hl⟩ := hp.obj
  obtain ⟨t, ck, hmm, hto, ht⟩ := hp.map
  obtain ⟨f, hL⟩ := hl.at
  have h1 := hp.ok.lo
  have h2 := hp.ok.hi
  have h3 := hp.ok.few
  have h4 := hp.ok.four
  have hne := hp.ne
  have hok := addS_ok hp.ok hf c ⟨x, y⟩
  have hlook := ht ⟨x, y⟩
  by_cases hbad : c < 0 ∨ 4 ≤ c ∨ s.F + s.E.length > 2147483647 ∨ (idxP ⟨x, y⟩ s.E).isSome = true
  · have e : addS s c ⟨x, y⟩ = (s, 0) := by unfold addS; rw [if_pos hbad]
    rw [e]
    refine ⟨h, hp, fun Q tg => ?_⟩
    rw [F45_eq]
    by_cases b1 : c < 0
    · simp (disch := (first | assumption | (simp only [Bool.and_eq_true, Bool.and_eq_false_iff, decide_eq_true_eq, decide_eq_false_iff_not, bne_iff_ne, beq_iff_eq, beq_eq_false_iff_ne, bne_eq_false_iff_eq, Bool.not_eq_true', Bool.not_eq_false', bys_length, List.length_append, List.length_cons, List.length_nil, List.length_map, List.length_drop, List.length_take, Int.natCast_add, wrap_i64_eq, wrap_u64, wrap_u8, ne_eq, not_true_eq_false, not_false_eq_true, Nat.zero_add, Nat.mul_one] <;> omega) | omega | (simp; done) | (simp; omega))) only [↓at_runK, ↓at_bind, ↓contQ_mk, ↓at_ret, ↓at_consK, ↓at_nilK, ↓at_optK, ↓at_intK, ↓at_boolK, ↓at_strK, ↓at_slK, ↓at_slOK, ↓at_slK0, ↓at_slOK0, ↓at_aggK, ↓at_cond_t, ↓at_cond_f, ↓at_sameL, ↓at_any1, ↓at_any, and_self, toBytes_bys, List.nil_append, List.append_nil, List.drop_zero, List.take_succ_cons, List.take_zero, List.getElem?_cons_succ, List.getElem?_cons_zero, cells_agg, eqCells_cons, eqCells_nil, eq1_int, eq1_bool, eq1_str, ↓at_ptr_whole, ↓at_ptr_cell, ↓at_ptr_obj, ↓at_ptr_objs, shift_obj, shift_elt, toA_val, toA_own, Int.toNat_natCast, List.cons_append]
      simp
    · by_cases b2 : 4 ≤ c
      · simp (disch := (first | assumption | (simp only [Bool.and_eq_true, Bool.and_eq_false_iff, decide_eq_true_eq, decide_eq_false_iff_not, bne_iff_ne, beq_iff_eq, beq_eq_false_iff_ne, bne_eq_false_iff_eq, Bool.not_eq_true', Bool.not_eq_false', bys_length, List.length_append, List.length_cons, List.length_nil, List.length_map, List.length_drop, List.length_take, Int.natCast_add, wrap_i64_eq, wrap_u64, wrap_u8, ne_eq, not_true_eq_false, not_false_eq_true, Nat.zero_add, Nat.mul_one] <;> omega) | omega | (simp; done) | (simp; omega))) only [↓at_runK, ↓at_bind, ↓contQ_mk, ↓at_ret, ↓at_consK, ↓at_nilK, ↓at_optK, ↓at_intK, ↓at_boolK, ↓at_strK, ↓at_slK, ↓at_slOK, ↓at_slK0, ↓at_slOK0, ↓at_aggK, ↓at_cond_t, ↓at_cond_f, ↓at_sameL, ↓at_any1, ↓at_any, and_self, toBytes_bys, List.nil_append, List.append_nil, List.drop_zero, List.take_succ_cons, List.take_zero, List.getElem?_cons_succ, List.getElem?_cons_zero, cells_agg, eqCells_cons, eqCells_nil, eq1_int, eq1_bool, eq1_str, ↓at_ptr_whole, ↓at_ptr_cell, ↓at_ptr_obj, ↓at_ptr_objs, shift_obj, shift_elt, toA_val, toA_own, Int.toNat_natCast, List.cons_append]
        simp
      · by_cases b3 : s.F + s.E.length > 2147483647
        · simp (disch := (first | assumption | (simp only [Bool.and_eq_true, Bool.and_eq_false_iff, decide_eq_true_eq, decide_eq_false_iff_not, bne_iff_ne, beq_iff_eq, beq_eq_false_iff_ne, bne_eq_false_iff_eq, Bool.not_eq_true', Bool.not_eq_false', bys_length, List.length_append, List.length_cons, List.length_nil, List.length_map, List.length_drop, List.length_take, Int.natCast_add, wrap_i64_eq, wrap_u64, wrap_u8, ne_eq, not_true_eq_false, not_false_eq_true, Nat.zero_add, Nat.mul_one] <;> omega) | omega | (simp; done) | (simp; omega))) only [↓at_runK, ↓at_bind, ↓contQ_mk, ↓at_ret, ↓at_consK, ↓at_nilK, ↓at_optK, ↓at_intK, ↓at_boolK, ↓at_strK, ↓at_slK, ↓at_slOK, ↓at_slK0, ↓at_slOK0, ↓at_aggK, ↓at_cond_t, ↓at_cond_f, ↓at_sameL, ↓at_any1, ↓at_any, and_self, toBytes_bys, List.nil_append, List.append_nil, List.drop_zero, List.take_succ_cons, List.take_zero, List.getElem?_cons_succ, List.getElem?_cons_zero, cells_agg, eqCells_cons, eqCells_nil, eq1_int, eq1_bool, eq1_str, ↓at_ptr_whole, ↓at_ptr_cell, ↓at_ptr_obj, ↓at_ptr_objs, shift_obj, shift_elt, toA_val, toA_own, Int.toNat_natCast, List.cons_append, next_run hp]
          simp
        · have b4 : (idxP ⟨x, y⟩ s.E).isSome = true := by
            rcases hbad with h | h | h | h
            · omega
            · omega
            · omega
            · exact h
          obtain ⟨k, hk⟩ := Option.isSome_iff_exists.1 b4
          rw [hk] at hlook
          simp (disch := (first | assumption | (simp only [Bool.and_eq_true, Bool.and_eq_false_iff, decide_eq_true_eq, decide_eq_false_iff_not, bne_iff_ne, beq_iff_eq, beq_eq_false_iff_ne, bne_eq_false_iff_eq, Bool.not_eq_true', Bool.not_eq_false', bys_length, List.length_append, List.length_cons, List.length_nil, List.length_map, List.length_drop, List.length_take, Int.natCast_add, wrap_i64_eq, wrap_u64, wrap_u8, ne_eq, not_true_eq_false, not_false_eq_true, Nat.zero_add, Nat.mul_one] <;> omega) | omega | (simp; done) | (simp; omega))) only [↓at_runK, ↓at_bind, ↓contQ_mk, ↓at_ret, ↓at_consK, ↓at_nilK, ↓at_optK, ↓at_intK, ↓at_boolK, ↓at_strK, ↓at_slK, ↓at_slOK, ↓at_slK0, ↓at_slOK0, ↓at_aggK, ↓at_cond_t, ↓at_cond_f, ↓at_sameL, ↓at_any1, ↓at_any, and_self, toBytes_bys, List.nil_append, List.append_nil, List.drop_zero, List.take_succ_cons, List.take_zero, List.getElem?_cons_succ, List.getElem?_cons_zero, cells_agg, eqCells_cons, eqCells_nil, eq1_int, eq1_bool, eq1_str, ↓at_ptr_whole, ↓at_ptr_cell, ↓at_ptr_obj, ↓at_ptr_objs, shift_obj, shift_elt, toA_val, toA_own, Int.toNat_natCast, List.cons_append, next_run hp, Heap.cell_at hm, ix2, placeA_eq, at_lookK encPlace hmm, hlook, Option.map_some, Option.getD_some, Option.isSome_some]
          simp
  · have e : addS s c ⟨x, y⟩ = (⟨s.F, s.E ++ [(⟨x, y⟩, s.H.getD c.toNat 0)], s.H.set c.toNat (s.F + s.E.length)⟩, s.F + s.E.length) := by unfold addS; rw [if_neg hbad]
    rw [e] at hok
    rw [e]
    simp only [not_or, Bool.not_eq_true, Option.isSome_eq_false_iff, Option.isNone_iff_eq_none] at hbad
    obtain ⟨b1, b2, b3, b4⟩ := hbad
    rw [b4] at hlook
    have hc : c.toNat < s.H.length := by omega
    have hg : s.H.getD c.toNat 0 = s.H[c.toNat] := by simp [hc]
    have hil := Heap.lt_of hm
    have hml := Heap.lt_of hmm
    have hne' : m ≠ i := fun h => hne h.symm
    rw [hg]
    have hsnoc := ents_snoc s.E x y s.H[c.toNat]
    have q1 : (h.put i (.cells (ixC s.F (.own 4 (ents (s.E ++ [(⟨x, y⟩, s.H[c.toNat])]))) m s.H))).objs[i]? = some (.cells (ixC s.F (.own 4 (ents (s.E ++ [(⟨x, y⟩, s.H[c.toNat])]))) m s.H)) := Heap.put_get hm
    have q2 : (h.put i (.cells (ixC s.F (.own 4 (ents (s.E ++ [(⟨x, y⟩, s.H[c.toNat])]))) m s.H))).objs[m]? = some (.map 67 (encM placeA t) ck) := by rw [Heap.put_ne hne]; exact hmm
    have q3 : ((h.put i (.cells (ixC s.F (.own 4 (ents (s.E ++ [(⟨x, y⟩, s.H[c.toNat])]))) m s.H))).put m (.map 67 (encM placeA (tput ⟨x, y⟩ (.int .i64 0) t ck)) (ck + 1))).objs[m]? = some (.map 67 (encM placeA (tput ⟨x, y⟩ (.int .i64 0) t ck)) (ck + 1)) := Heap.put_get q2
    have hgn : tget (⟨x, y⟩ : IPlace) t = none := hlook
    have q4 : ((h.put i (.cells (ixC s.F (.own 4 (ents (s.E ++ [(⟨x, y⟩, s.H[c.toNat])]))) m s.H))).put m (.map 67 (encM placeA (tput ⟨x, y⟩ (.int .i64 (s.F + s.E.length)) t ck)) (ck + 1))).objs[i]? = some (.cells (ixC s.F (.own 4 (ents (s.E ++ [(⟨x, y⟩, s.H[c.toNat])]))) m s.H)) := by rw [Heap.put_ne hne']; exact q1
    refine ⟨((h.put i (.cells (ixC s.F (.own 4 (ents (s.E ++ [(⟨x, y⟩, s.H[c.toNat])]))) m s.H))).put m (.map 67 (encM placeA (tput ⟨x, y⟩ (.int .i64 (s.F + s.E.length)) t ck)) (ck + 1))).put i (.cells (ixC s.F (.own 4 (ents (s.E ++ [(⟨x, y⟩, s.H[c.toNat])]))) m (s.H.set c.toNat (s.F + s.E.length)))), ⟨hne, ⟨_, Heap.put_get q4, .inl rfl⟩, ⟨tput ⟨x, y⟩ (.int .i64 (s.F + s.E.length)) t ck, ck + 1, ?_, ?_, fun q => ?_⟩, by rw [hg] at hok; exact hok⟩, fun Q tg => ?_⟩
    · rw [Heap.put_ne hne]
      exact Heap.put_get q2
    · have := hto.put ⟨x, y⟩ (.int .i64 (s.F + s.E.length))
      rw [hgn] at this
      exact this
    · rw [tget_tput, ht q, idxP_snoc]
      by_cases hq : q = ⟨x, y⟩
      · subst hq
        rw [if_pos rfl, b4]
        simp
      · rw [if_neg hq]
        cases hx : idxP q s.E with
        | some k => rfl
        | none => simp only [if_neg (Ne.symm hq)]
    · have hbm : tbirth (⟨x, y⟩ : IPlace) t ck ∈ (tput (⟨x, y⟩ : IPlace) (.int .i64 0) t ck).map (·.2.2) := tbirth_mem _ _ _ _
      have hset := tsetB_tput (⟨x, y⟩ : IPlace) (.int .i64 0) (.int .i64 (s.F + s.E.length)) t ck hto.born hto.lt
      have p45 : ∀ (tg : Hid Q), Run (P45_0 (d + 1) i c (s.F + s.E.length) x y (h.put i (.cells (ixC s.F (.own 4 (ents (s.E ++ [(⟨x, y⟩, s.H[c.toNat])]))) m s.H)))) Q tg = Q ([.int .i64 (s.F + s.E.length), .bool true], ((h.put i (.cells (ixC s.F (.own 4 (ents (s.E ++ [(⟨x, y⟩, s.H[c.toNat])]))) m s.H))).put m (.map 67 (encM placeA (tput ⟨x, y⟩ (.int .i64 (s.F + s.E.length)) t ck)) (ck + 1))).put i (.cells (ixC s.F (.own 4 (ents (s.E ++ [(⟨x, y⟩, s.H[c.toNat])]))) m (s.H.set c.toNat (s.F + s.E.length))))) := fun tg => by
        rw [P45_0_eq]
        simp (disch := (first | assumption | (simp only [Bool.and_eq_true, Bool.and_eq_false_iff, decide_eq_true_eq, decide_eq_false_iff_not, bne_iff_ne, beq_iff_eq, beq_eq_false_iff_ne, bne_eq_false_iff_eq, Bool.not_eq_true', Bool.not_eq_false', bys_length, List.length_append, List.length_cons, List.length_nil, List.length_map, List.length_drop, List.length_take, Int.natCast_add, wrap_i64_eq, wrap_u64, wrap_u8, ne_eq, not_true_eq_false, not_false_eq_true, Nat.zero_add, Nat.mul_one] <;> omega) | omega | (simp; done) | (simp; omega))) only [↓at_runK, ↓at_bind, ↓contQ_mk, ↓at_ret, ↓at_consK, ↓at_nilK, ↓at_optK, ↓at_intK, ↓at_boolK, ↓at_strK, ↓at_slK, ↓at_slOK, ↓at_slK0, ↓at_slOK0, ↓at_aggK, ↓at_cond_t, ↓at_cond_f, ↓at_sameL, ↓at_any1, ↓at_any, and_self, toBytes_bys, List.nil_append, List.append_nil, List.drop_zero, List.take_succ_cons, List.take_zero, List.getElem?_cons_succ, List.getElem?_cons_zero, cells_agg, eqCells_cons, eqCells_nil, eq1_int, eq1_bool, eq1_str, ↓at_ptr_whole, ↓at_ptr_cell, ↓at_ptr_obj, ↓at_ptr_objs, shift_obj, shift_elt, toA_val, toA_own, Int.toNat_natCast, List.cons_append, Heap.cell_at q1, ix2, placeA_eq, at_entryK encPlace q2, hgn, Option.getD_none, Option.isSome_none, Bool.false_eq_true, if_false, at_entryStW q3 hbm, hset, Heap.put_put, Nat.mul_one, Heap.cell_at q4, ix3 _ _ _ _ hc, Heap.set_at q4, ixs3]
      rw [F45_eq]
      have hpos : decide (s.F + (s.E.length : Int) > 0) = true := by rw [decide_eq_true_eq]; omega
      rw [hpos]
      rcases hl with rfl | ⟨hE, rfl⟩
      · have r1 : h.cell? i 1 = some (.own 4 (ents s.E)) := Heap.cell_at hm
        have r2 := Heap.set_at (off := 1) (c := .val (.sl false 4 (ents s.E))) hm
        rw [ixs1] at r2
        have r3 : (h.put i (.cells (ixC s.F (.val (.sl false 4 (ents s.E))) m s.H))).objs[i]? = some (.cells (ixC s.F (.val (.sl false 4 (ents s.E))) m s.H)) := Heap.put_get hm
        simp (disch := (first | assumption | (simp only [Bool.and_eq_true, Bool.and_eq_false_iff, decide_eq_true_eq, decide_eq_false_iff_not, bne_iff_ne, beq_iff_eq, beq_eq_false_iff_ne, bne_eq_false_iff_eq, Bool.not_eq_true', Bool.not_eq_false', bys_length, List.length_append, List.length_cons, List.length_nil, List.length_map, List.length_drop, List.length_take, Int.natCast_add, wrap_i64_eq, wrap_u64, wrap_u8, ne_eq, not_true_eq_false, not_false_eq_true, Nat.zero_add, Nat.mul_one] <;> omega) | omega | (simp; done) | (simp; omega))) only [↓at_runK, ↓at_bind, ↓contQ_mk, ↓at_ret, ↓at_consK, ↓at_nilK, ↓at_optK, ↓at_intK, ↓at_boolK, ↓at_strK, ↓at_slK, ↓at_slOK, ↓at_slK0, ↓at_slOK0, ↓at_aggK, ↓at_cond_t, ↓at_cond_f, ↓at_sameL, ↓at_any1, ↓at_any, and_self, toBytes_bys, List.nil_append, List.append_nil, List.drop_zero, List.take_succ_cons, List.take_zero, List.getElem?_cons_succ, List.getElem?_cons_zero, cells_agg, eqCells_cons, eqCells_nil, eq1_int, eq1_bool, eq1_str, ↓at_ptr_whole, ↓at_ptr_cell, ↓at_ptr_obj, ↓at_ptr_objs, shift_obj, shift_elt, toA_val, toA_own, Int.toNat_natCast, List.cons_append, next_run hp, Heap.cell_at hm, ix1, ix2, placeA_eq, at_lookK encPlace hmm, hlook, Option.map_none, Option.getD_none, Option.isSome_none, hL, Nat.mul_one, ix3 _ _ _ _ hc, ents_length, at_lentK_own r1, r2, Heap.cell_at r3, Heap.set_at r3, ixs1, Heap.put_put, hsnoc, p45]
      · have r1 : h.cell? i 1 = some (.val (.sl true 4 [])) := Heap.cell_at hm
        have hsn : [AVal.agg [.int .i64 x, .int .i64 y, .int .i64 s.H[c.toNat]]] = ents (s.E ++ [(⟨x, y⟩, s.H[c.toNat])]) := by simp [ents, entA, hE]
        have hle : (ents s.E).length = 0 := by rw [hE]; rfl
        simp (disch := (first | assumption | (simp only [Bool.and_eq_true, Bool.and_eq_false_iff, decide_eq_true_eq, decide_eq_false_iff_not, bne_iff_ne, beq_iff_eq, beq_eq_false_iff_ne, bne_eq_false_iff_eq, Bool.not_eq_true', Bool.not_eq_false', bys_length, List.length_append, List.length_cons, List.length_nil, List.length_map, List.length_drop, List.length_take, Int.natCast_add, wrap_i64_eq, wrap_u64, wrap_u8, ne_eq, not_true_eq_false, not_false_eq_true, Nat.zero_add, Nat.mul_one] <;> omega) | omega | (simp; done) | (simp; omega))) only [↓at_runK, ↓at_bind, ↓contQ_mk, ↓at_ret, ↓at_consK, ↓at_nilK, ↓at_optK, ↓at_intK, ↓at_boolK, ↓at_strK, ↓at_slK, ↓at_slOK, ↓at_slK0, ↓at_slOK0, ↓at_aggK, ↓at_cond_t, ↓at_cond_f, ↓at_sameL, ↓at_any1, ↓at_any, and_self, toBytes_bys, List.nil_append, List.append_nil, List.drop_zero, List.take_succ_cons, List.take_zero, List.getElem?_cons_succ, List.getElem?_cons_zero, cells_agg, eqCells_cons, eqCells_nil, eq1_int, eq1_bool, eq1_str, ↓at_ptr_whole, ↓at_ptr_cell, ↓at_ptr_obj, ↓at_ptr_objs, shift_obj, shift_elt, toA_val, toA_own, Int.toNat_natCast, List.cons_append, next_run hp, Heap.cell_at hm, ix1, ix2, placeA_eq, at_lookK encPlace hmm, hlook, Option.map_none, Option.getD_none, Option.isSome_none, hL, Nat.mul_one, ix3 _ _ _ _ hc, at_lentK_full r1, Heap.set_at hm, ixs1, hsn, p45, List.nil_append]
theorem awake26_ok (d : Nat) (h : Heap) : ∃ h', ∀ (Q : Res → Prop) (tg : Hid Q), Run (evFn Cw (d + 5) 39 [] h) Q tg = Q ([.bool true], h') := by
  obtain ⟨h1, p1, r1⟩ := new_ok (d + 3) 5 0 3 0 0 h
  have e1 : clampF 5 = 5 := by decide
  rw [e1] at p1
  obtain ⟨h2, p2, r2⟩ := add_ok (d := d + 2) p1 (by simp) 1 1 0
  have e2 : addS ⟨5, [], [0, 3, 0, 0]⟩ 1 ⟨1, 0⟩ = (⟨5, [(⟨1, 0⟩, 3)], [0, 5, 0, 0]⟩, 5) := rfl
  rw [e2] at p2 r2
  obtain ⟨h3, p3, r3⟩ := add_ok (d := d + 2) p2 (by simp) 1 1 20
  have e3 : addS ⟨5, [(⟨1, 0⟩, 3)], [0, 5, 0, 0]⟩ 1 ⟨1, 20⟩ = (⟨5, [(⟨1, 0⟩, 3), (⟨1, 20⟩, 5)], [0, 6, 0, 0]⟩, 6) := rfl
  rw [e3] at p3 r3
  have e4 : chF ⟨5, [(⟨1, 0⟩, 3), (⟨1, 20⟩, 5)], [0, 6, 0, 0]⟩ 6 = [6, 5] := by decide
  have r4 := fun (Q : Res → Prop) (tg : Hid Q) => chain26_run (d := d) p3 (n := 6) (by omega) (Q := Q) (tg := tg) (by decide)
  rw [e4] at r4
  refine ⟨h3, fun Q tg => ?_⟩
  rw [F39_eq]
  simp (disch := (first | assumption | (simp only [Bool.and_eq_true, Bool.and_eq_false_iff, decide_eq_true_eq, decide_eq_false_iff_not, bne_iff_ne, beq_iff_eq, beq_eq_false_iff_ne, bne_eq_false_iff_eq, Bool.not_eq_true', Bool.not_eq_false', bys_length, List.length_append, List.length_cons, List.length_nil, List.length_map, List.length_drop, List.length_take, Int.natCast_add, wrap_i64_eq, wrap_u64, wrap_u8, ne_eq, not_true_eq_false, not_false_eq_true, Nat.zero_add, Nat.mul_one] <;> omega) | omega | (simp; done) | (simp; omega))) only [↓at_runK, ↓at_bind, ↓contQ_mk, ↓at_ret, ↓at_consK, ↓at_nilK, ↓at_optK, ↓at_intK, ↓at_boolK, ↓at_strK, ↓at_slK, ↓at_slOK, ↓at_slK0, ↓at_slOK0, ↓at_aggK, ↓at_cond_t, ↓at_cond_f, ↓at_sameL, ↓at_any1, ↓at_any, and_self, toBytes_bys, List.nil_append, List.append_nil, List.drop_zero, List.take_succ_cons, List.take_zero, List.getElem?_cons_succ, List.getElem?_cons_zero, cells_agg, eqCells_cons, eqCells_nil, eq1_int, eq1_bool, eq1_str, ↓at_ptr_whole, ↓at_ptr_cell, ↓at_ptr_obj, ↓at_ptr_objs, shift_obj, shift_elt, toA_val, toA_own, Int.toNat_natCast, List.cons_append, r1, r2, r3, r4, ints_length]
  simp
/-- IndexNobody. -/
theorem inobody_true (x y z w : Int) (h : Heap) : ∃ d h', Ans (evFn Cw d 12 [.int .i64 x, .int .i64 y, .agg [.int .i64 z, .int .i64 w]] h) ([.bool true], h') := by
  obtain ⟨h', hw⟩ := awake26_ok 0 h
  refine ⟨6, h', Run.ans ?_⟩
  obtain ⟨k, hk⟩ : ∃ k, rounds = k + 1 := ⟨rounds - 1, by have := rounds_gt' 1 (by omega); omega⟩
  rw [F12_eq]
  have ch : ∀ (Q : Res → Prop) (tg : Hid Q), Run (evFn Cw 5 51 [.nilp, .int .i64 y] h) Q tg = Q ([.sl false 0 []], h) := fun Q tg => by
    rw [F51nil_eq]
    simp (disch := (first | assumption | (simp only [Bool.and_eq_true, Bool.and_eq_false_iff, decide_eq_true_eq, decide_eq_false_iff_not, bne_iff_ne, beq_iff_eq, beq_eq_false_iff_ne, bne_eq_false_iff_eq, Bool.not_eq_true', Bool.not_eq_false', bys_length, List.length_append, List.length_cons, List.length_nil, List.length_map, List.length_drop, List.length_take, Int.natCast_add, wrap_i64_eq, wrap_u64, wrap_u8, ne_eq, not_true_eq_false, not_false_eq_true, Nat.zero_add, Nat.mul_one] <;> omega) | omega | (simp; done) | (simp; omega))) only [↓at_runK, ↓at_bind, ↓contQ_mk, ↓at_ret, ↓at_consK, ↓at_nilK, ↓at_optK, ↓at_intK, ↓at_boolK, ↓at_strK, ↓at_slK, ↓at_slOK, ↓at_slK0, ↓at_slOK0, ↓at_aggK, ↓at_cond_t, ↓at_cond_f, ↓at_sameL, ↓at_any1, ↓at_any, and_self, toBytes_bys, List.nil_append, List.append_nil, List.drop_zero, List.take_succ_cons, List.take_zero, List.getElem?_cons_succ, List.getElem?_cons_zero, cells_agg, eqCells_cons, eqCells_nil, eq1_int, eq1_bool, eq1_str, ↓at_ptr_whole, ↓at_ptr_cell, ↓at_ptr_obj, ↓at_ptr_objs, shift_obj, shift_elt, toA_val, toA_own, Int.toNat_natCast, List.cons_append, F50nil_eq, F70nil_eq, hk, P51nil_0_eq]
  simp (disch := (first | assumption | (simp only [Bool.and_eq_true, Bool.and_eq_false_iff, decide_eq_true_eq, decide_eq_false_iff_not, bne_iff_ne, beq_iff_eq, beq_eq_false_iff_ne, bne_eq_false_iff_eq, Bool.not_eq_true', Bool.not_eq_false', bys_length, List.length_append, List.length_cons, List.length_nil, List.length_map, List.length_drop, List.length_take, Int.natCast_add, wrap_i64_eq, wrap_u64, wrap_u8, ne_eq, not_true_eq_false, not_false_eq_true, Nat.zero_add, Nat.mul_one] <;> omega) | omega | (simp; done) | (simp; omega))) only [↓at_runK, ↓at_bind, ↓contQ_mk, ↓at_ret, ↓at_consK, ↓at_nilK, ↓at_optK, ↓at_intK, ↓at_boolK, ↓at_strK, ↓at_slK, ↓at_slOK, ↓at_slK0, ↓at_slOK0, ↓at_aggK, ↓at_cond_t, ↓at_cond_f, ↓at_sameL, ↓at_any1, ↓at_any, and_self, toBytes_bys, List.nil_append, List.append_nil, List.drop_zero, List.take_succ_cons, List.take_zero, List.getElem?_cons_succ, List.getElem?_cons_zero, cells_agg, eqCells_cons, eqCells_nil, eq1_int, eq1_bool, eq1_str, ↓at_ptr_whole, ↓at_ptr_cell, ↓at_ptr_obj, ↓at_ptr_objs, shift_obj, shift_elt, toA_val, toA_own, Int.toNat_natCast, List.cons_append, F45nil_eq, F49nil_eq, F70nil_eq, F50nil_eq, F47nil_eq, ch, F43nil_eq, F52nil_eq, F53nil_eq, F54nil_eq, hw]
end Go.Proofs.Ythebimbdijkiiaa.Wa
