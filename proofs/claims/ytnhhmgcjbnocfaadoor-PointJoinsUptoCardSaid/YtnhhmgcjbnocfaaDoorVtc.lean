/- Sorted lists of pairs, by the reference; trees, by the program. -/
import Derived.Test.YtnhhmgcjbnocfaaDoorVtb
namespace Go.Proofs.YtnhhmgcjbnocfaaDoor.Wa
open Go Go.Weave
set_option maxRecDepth 100000
set_option linter.unusedSimpArgs false
set_option linter.unusedVariables false
set_option linter.unusedSectionVars false

def prs (l : List KPair) : List AVal := l.map KPair.A
theorem prs_length (l : List KPair) : (prs l).length = l.length := by simp [prs]
theorem prs_nil : prs [] = [] := of_eq_true (eq_self _)
theorem prs_getD {l : List KPair} {i : Nat} (h : i < l.length) : (prs l).getD i AVal.undef = .agg [.str l[i].key, .str l[i].val] := by simp [prs, h, KPair.A, KPair.C]
theorem prs_snoc (l : List KPair) (k v : List UInt8) : prs l ++ [.agg [.str k, .str v]] = prs (l ++ [⟨k, v⟩]) := by simp [prs, KPair.A, KPair.C]
theorem str_beq_self (a : List UInt8) : (a == a) = true := by simp

/-! ### What is told of a pair that there may be -/
def oKey : Option KPair → List UInt8 | none => [] | some p => p.key
def oVal : Option KPair → List UInt8 | none => [] | some p => p.val
theorem tellK_eq (o : Option KPair) : tellK o = [.str (oKey o), .str (oVal o), .bool o.isSome] := by cases o <;> rfl

theorem lget_cons (k : List UInt8) (p : KPair) (l : List KPair) : lget k (p :: l) = if p.key = k then some p else lget k l := by
  unfold lget
  rw [List.find?_cons]
  by_cases h : p.key = k
  · have : (p.key == k) = true := by simp [h]
    rw [this, if_pos h]
  · have : (p.key == k) = false := by simpa using h
    rw [this, if_neg h]
theorem lseek_cons (k : List UInt8) (p : KPair) (l : List KPair) : lseek k (p :: l) = if blt p.key k then lseek k l else some p := by
  unfold lseek
  rw [List.find?_cons]
  cases h : blt p.key k <;> rfl
theorem lbelow_cons (k : List UInt8) (p : KPair) (l : List KPair) : lbelow k (p :: l) = (lbelow k l).or (if blt p.key k then some p else none) := by
  unfold lbelow
  rw [List.filter_cons]
  cases h : blt p.key k
  · simp
  · simp only [if_true]
    rw [List.getLast?_cons]
    cases (List.filter (fun q => blt q.key k) l).getLast? <;> simp
theorem ldel_cons (k : List UInt8) (p : KPair) (l : List KPair) : ldel k (p :: l) = if p.key = k then ldel k l else p :: ldel k l := by
  unfold ldel
  rw [List.filter_cons]
  by_cases h : p.key = k
  · rw [if_neg (by simp [h]), if_pos h]
  · rw [if_pos (by simpa using h), if_neg h]
/-- A key is found where seeking stops. -/
theorem lget_seek {k : List UInt8} : ∀ {l : List KPair}, Srt l → lget k l = if oKey (lseek k l) = k ∧ (lseek k l).isSome = true then lseek k l else none
  | [], _ => by simp [lget, lseek]
  | p :: l, hs => by
    have ⟨h1, h2⟩ := List.pairwise_cons.1 hs
    rw [lget_cons, lseek_cons]
    by_cases c : blt p.key k = true
    · rw [if_neg (blt_ne c), if_pos c]
      exact lget_seek h2
    · rw [if_neg c]
      by_cases e : p.key = k
      · rw [if_pos e, if_pos ⟨e, rfl⟩]
      · rw [if_neg e, if_neg (fun h => e h.1)]
        unfold lget
        rw [List.find?_eq_none]
        intro x hx
        have h3 : blt k p.key = true := by
          cases hh : blt k p.key
          · exact absurd (blt_tri (by simpa using c) hh) e
          · rfl
        have := blt_ne (blt_trans h3 (h1 x hx))
        simpa using this.symm
theorem lget_mem {k : List UInt8} {l : List KPair} (h : (lget k l).isSome = true) : ∃ p ∈ l, p.key = k := by
  cases hp : lget k l with
  | none => rw [hp] at h; simp at h
  | some p =>
    unfold lget at hp
    exact ⟨p, List.mem_of_find?_eq_some hp, by simpa using List.find?_some hp⟩
theorem lget_none {k : List UInt8} {l : List KPair} (h : (lget k l).isSome = false) : ∀ p ∈ l, p.key ≠ k := by
  have : lget k l = none := by cases hp : lget k l <;> simp_all
  unfold lget at this
  rw [List.find?_eq_none] at this
  intro p hp e
  exact this p hp (by simp [e])
theorem ldel_len {k : List UInt8} {l : List KPair} (hs : Srt l) (h : (lget k l).isSome = true) : (ldel k l).length + 1 = l.length := by
  obtain ⟨p, hp, e⟩ := lget_mem h
  obtain ⟨a, b, rfl⟩ := List.append_of_mem hp
  subst e
  rw [ldel_eq hs]; simp; omega
theorem lput_len_new {k v : List UInt8} : ∀ {l : List KPair}, Srt l → (lget k l).isSome = false → (lput k v l).length = l.length + 1 := by
  intro l hs h
  have h0 := lget_none h
  have : ∀ l : List KPair, (∀ p ∈ l, p.key ≠ k) → (l.filter (fun p => blt p.key k)).length + (l.filter (fun p => blt k p.key)).length = l.length := by
    intro l
    induction l with
    | nil => intro _; rfl
    | cons p l ih =>
      intro h
      have ih := ih fun q hq => h q (List.mem_cons_of_mem _ hq)
      have hp := h p List.mem_cons_self
      rw [List.filter_cons, List.filter_cons]
      by_cases c : blt p.key k = true
      · rw [if_pos c, if_neg (by rw [blt_asym c]; simp)]
        simp only [List.length_cons]; omega
      · have c2 : blt k p.key = true := by
          cases hh : blt k p.key
          · exact absurd (blt_tri (by simpa using c) hh) hp
          · rfl
        rw [if_neg c, if_pos c2]
        simp only [List.length_cons]; omega
  unfold lput
  rw [List.length_append, List.length_cons]
  have := this l h0
  omega
theorem lput_len_old {k v : List UInt8} {l : List KPair} (hs : Srt l) (h : (lget k l).isSome = true) : (lput k v l).length = l.length := by
  obtain ⟨⟨pk, pv⟩, hp, e⟩ := lget_mem h
  obtain ⟨a, b, rfl⟩ := List.append_of_mem hp
  simp only at e
  subst e
  rw [lput_eq hs]; simp

/-! ### The reference's lists -/
def insF (k v : List UInt8) : Bool → List KPair → List KPair
  | true, l => l
  | false, [] => [⟨k, v⟩]
  | false, p :: l => if blt k p.key then ⟨k, v⟩ :: p :: l else p :: insF k v false l
theorem insF_lput {k v : List UInt8} : ∀ {l : List KPair}, Srt l → (∀ p ∈ l, p.key ≠ k) → insF k v false l = lput k v l
  | [], _, _ => rfl
  | p :: l, hs, hk => by
    have ⟨h1, h2⟩ := List.pairwise_cons.1 hs
    unfold insF
    by_cases c : blt k p.key = true
    · rw [if_pos c]
      have := lput_lt (a := []) (p := p) (b := l) (k := k) (v := v) hs c
      simp only [List.nil_append] at this
      rw [this]; rfl
    · have c2 : blt p.key k = true := by
        cases hh : blt p.key k
        · exact absurd (blt_tri hh (by simpa using c)) (hk p List.mem_cons_self)
        · rfl
      rw [if_neg c]
      have := lput_gt (a := []) (p := p) (b := l) (k := k) (v := v) hs c2
      simp only [List.nil_append] at this
      rw [this, insF_lput h2 fun q hq => hk q (List.mem_cons_of_mem _ hq)]
theorem lput_ldel (k v : List UInt8) (l : List KPair) : lput k v (ldel k l) = lput k v l := by
  unfold lput ldel
  rw [List.filter_filter, List.filter_filter]
  congr 1
  · refine List.filter_congr fun x _ => ?_
    cases h : blt x.key k
    · simp
    · simpa using blt_ne h
  · congr 1
    refine List.filter_congr fun x _ => ?_
    cases h : blt k x.key
    · simp
    · simpa using (blt_ne h).symm
theorem same31_loop (d : Nat) (f g : Bool) (h : Heap) (l : List KPair) (hl : l.length ≤ 1000000) (Q : Res → Prop) : ∀ (n i k : Nat) (tg : Hid Q), l.length = i + n → n < k →
    Run (P9_0 d k f (prs l) g (prs l) i h) Q tg = Q ([.bool true], h) := by
  intro n
  induction n with
  | zero =>
    intro i k tg hi hk
    obtain ⟨k, rfl⟩ : ∃ m, k = m + 1 := ⟨k - 1, by omega⟩
    rw [P9_0_eq]
    simp (disch := (first | assumption | (simp only [Bool.and_eq_true, Bool.and_eq_false_iff, decide_eq_true_eq, decide_eq_false_iff_not, bne_iff_ne, beq_iff_eq, beq_eq_false_iff_ne, bne_eq_false_iff_eq, Bool.not_eq_true', Bool.not_eq_false', bys_length, List.length_append, List.length_cons, List.length_nil, List.length_map, List.length_drop, List.length_take, Int.natCast_add, wrap_i64_eq, wrap_u64, wrap_u8, ne_eq, not_true_eq_false, not_false_eq_true, Nat.zero_add, Nat.mul_one] <;> omega) | omega | (simp; done) | (simp; omega))) only [↓at_runK, ↓at_bind, ↓contQ_mk, ↓at_ret, ↓at_consK, ↓at_nilK, ↓at_optK, ↓at_intK, ↓at_boolK, ↓at_strK, ↓at_slK, ↓at_slOK, ↓at_slK0, ↓at_slOK0, ↓at_aggK, ↓at_cond_t, ↓at_cond_f, ↓at_sameL, ↓at_any1, ↓at_any, and_self, toBytes_bys, List.nil_append, List.append_nil, ↓at_nodeW, List.drop_zero, List.take_succ_cons, List.take_zero, List.getElem?_cons_succ, List.getElem?_cons_zero, cells_agg, eqCells_cons, eqCells_nil, eq1_int, eq1_bool, eq1_str, ↓at_ptr_whole, ↓at_ptr_cell, ↓at_ptr_obj, ↓at_ptr_objs, shift_obj, shift_elt, toA_val, toA_own, Int.toNat_natCast, List.cons_append, prs_length]
  | succ n ih =>
    intro i k tg hi hk
    obtain ⟨k, rfl⟩ : ∃ m, k = m + 1 := ⟨k - 1, by omega⟩
    have h1 : i < l.length := by omega
    have e1 := succ_wrap (i := i) (by omega)
    have ih' := fun tg => ih (i + 1) k tg (by omega) (by omega)
    rw [P9_0_eq]
    simp (disch := (first | assumption | (simp only [Bool.and_eq_true, Bool.and_eq_false_iff, decide_eq_true_eq, decide_eq_false_iff_not, bne_iff_ne, beq_iff_eq, beq_eq_false_iff_ne, bne_eq_false_iff_eq, Bool.not_eq_true', Bool.not_eq_false', bys_length, List.length_append, List.length_cons, List.length_nil, List.length_map, List.length_drop, List.length_take, Int.natCast_add, wrap_i64_eq, wrap_u64, wrap_u8, ne_eq, not_true_eq_false, not_false_eq_true, Nat.zero_add, Nat.mul_one] <;> omega) | omega | (simp; done) | (simp; omega))) only [↓at_runK, ↓at_bind, ↓contQ_mk, ↓at_ret, ↓at_consK, ↓at_nilK, ↓at_optK, ↓at_intK, ↓at_boolK, ↓at_strK, ↓at_slK, ↓at_slOK, ↓at_slK0, ↓at_slOK0, ↓at_aggK, ↓at_cond_t, ↓at_cond_f, ↓at_sameL, ↓at_any1, ↓at_any, and_self, toBytes_bys, List.nil_append, List.append_nil, ↓at_nodeW, List.drop_zero, List.take_succ_cons, List.take_zero, List.getElem?_cons_succ, List.getElem?_cons_zero, cells_agg, eqCells_cons, eqCells_nil, eq1_int, eq1_bool, eq1_str, ↓at_ptr_whole, ↓at_ptr_cell, ↓at_ptr_obj, ↓at_ptr_objs, shift_obj, shift_elt, toA_val, toA_own, Int.toNat_natCast, List.cons_append, prs_length, prs_getD h1, plain43, Bool.and_self, str_beq_self, Bool.not_true, e1, ih']
theorem same31_run {d : Nat} {f g : Bool} {l : List KPair} {h : Heap} {Q : Res → Prop} {tg : Hid Q} (hl : l.length ≤ 1000000) :
    Run (evFn Cw (d + 1) 9 [.sl f 3 (prs l), .sl g 3 (prs l)] h) Q tg = Q ([.bool true], h) := by
  have := same31_loop d f g h l hl Q l.length 0 rounds ⟨⟩ (by omega) (rounds_gt' (by omega))
  rw [e0] at this
  rw [F9_eq]
  simp (disch := (first | assumption | (simp only [Bool.and_eq_true, Bool.and_eq_false_iff, decide_eq_true_eq, decide_eq_false_iff_not, bne_iff_ne, beq_iff_eq, beq_eq_false_iff_ne, bne_eq_false_iff_eq, Bool.not_eq_true', Bool.not_eq_false', bys_length, List.length_append, List.length_cons, List.length_nil, List.length_map, List.length_drop, List.length_take, Int.natCast_add, wrap_i64_eq, wrap_u64, wrap_u8, ne_eq, not_true_eq_false, not_false_eq_true, Nat.zero_add, Nat.mul_one] <;> omega) | omega | (simp; done) | (simp; omega))) only [↓at_runK, ↓at_bind, ↓contQ_mk, ↓at_ret, ↓at_consK, ↓at_nilK, ↓at_optK, ↓at_intK, ↓at_boolK, ↓at_strK, ↓at_slK, ↓at_slOK, ↓at_slK0, ↓at_slOK0, ↓at_aggK, ↓at_cond_t, ↓at_cond_f, ↓at_sameL, ↓at_any1, ↓at_any, and_self, toBytes_bys, List.nil_append, List.append_nil, ↓at_nodeW, List.drop_zero, List.take_succ_cons, List.take_zero, List.getElem?_cons_succ, List.getElem?_cons_zero, cells_agg, eqCells_cons, eqCells_nil, eq1_int, eq1_bool, eq1_str, ↓at_ptr_whole, ↓at_ptr_cell, ↓at_ptr_obj, ↓at_ptr_objs, shift_obj, shift_elt, toA_val, toA_own, Int.toNat_natCast, List.cons_append, prs_length, this]
end Go.Proofs.YtnhhmgcjbnocfaaDoor.Wa
