/- Texts of this proof, laid together: the evaluator, what it comes to, and the laws. No condition. -/
import Derived.Test.YtbddfpakhealbaaM33
import Derived.Maps.Own
import Derived.Maps.OwnOps
import Derived.Maps.Views
import Derived.OwnWalk
import Derived.Below
import Derived.WalkKit
import Derived.Maps.AppendAt
import Derived.Sort.OwnSorted
import Derived.Test.YtbddfpakhealbaaWvZ
import Derived.Test.YtbddfpakhealbaaProg
import Derived.KernelRfl
import Derived.Test.YtbddfpakhealbaaWvLb
import Derived.Sort.KeysCollected
section
/- Tables. -/
namespace Go.Proofs.Ytbddfpakhealbaa.Wa
open Go Go.Weave
set_option maxRecDepth 100000
set_option linter.unusedSimpArgs false
set_option linter.unusedVariables false
set_option linter.unusedSectionVars false

/-! ### Sorted pairs, plainly -/
def btot : List KPair → Nat
  | [] => 0
  | p :: l => p.key.length + p.val.length + btot l
theorem btot_append (a b : List KPair) : btot (a ++ b) = btot a + btot b := by
  induction a with
  | nil => simp [btot]
  | cons p a ih => simp only [List.cons_append, btot, ih]; omega
theorem btot_le {B : Nat} : ∀ {l : List KPair}, (∀ p ∈ l, p.key.length ≤ B ∧ p.val.length ≤ B) → btot l ≤ l.length * (2 * B)
  | [], _ => by simp [btot]
  | p :: l, h => by
    have h1 := h p List.mem_cons_self
    have h2 := btot_le fun q hq => h q (List.mem_cons_of_mem _ hq)
    simp only [btot, List.length_cons, Nat.add_mul, Nat.one_mul]
    omega
theorem btot_new {k v : List UInt8} {l : List KPair} (h : (lget k l).isSome = false) : btot (lput k v l) = btot l + v.length + k.length := by
  have h0 := lget_none h
  have : ∀ l : List KPair, (∀ p ∈ l, p.key ≠ k) → btot (l.filter (fun p => blt p.key k)) + btot (l.filter (fun p => blt k p.key)) = btot l := by
    intro l
    induction l with
    | nil => intro _; rfl
    | cons p l ih =>
      intro h
      have ih := ih fun q hq => h q (List.mem_cons_of_mem _ hq)
      have hp := h p List.mem_cons_self
      rw [List.filter_cons, List.filter_cons]
      by_cases c : blt p.key k = true
      · rw [if_pos c, if_neg (by rw [blt_asym c]; simp)]
        simp only [btot]; omega
      · have c2 : blt k p.key = true := by
          cases hh : blt k p.key
          · exact absurd (blt_tri (by simpa using c) hh) hp
          · rfl
        rw [if_neg c, if_pos c2]
        simp only [btot]; omega
  unfold lput
  rw [btot_append]
  simp only [btot]
  have := this l h0
  omega
theorem lget_split {k : List UInt8} {l : List KPair} (h : (lget k l).isSome = true) : ∃ a b, l = a ++ ⟨k, oVal (lget k l)⟩ :: b := by
  cases hp : lget k l with
  | none => rw [hp] at h; simp at h
  | some p =>
    unfold lget at hp
    have e : p.key = k := by simpa using List.find?_some hp
    obtain ⟨a, b, e2⟩ := List.append_of_mem (List.mem_of_find?_eq_some hp)
    exact ⟨a, b, by rw [e2, ← e]; rfl⟩
theorem btot_old {k v : List UInt8} {l : List KPair} (hs : Srt l) (h : (lget k l).isSome = true) : btot (lput k v l) + (oVal (lget k l)).length = btot l + v.length := by
  obtain ⟨a, b, e⟩ := lget_split h
  generalize oVal (lget k l) = x at e
  subst e
  rw [lput_eq hs, btot_append, btot_append]
  simp only [btot]; omega
theorem btot_del {k : List UInt8} {l : List KPair} (hs : Srt l) (h : (lget k l).isSome = true) : btot (ldel k l) + (k.length + (oVal (lget k l)).length) = btot l := by
  obtain ⟨a, b, e⟩ := lget_split h
  generalize oVal (lget k l) = x at e
  subst e
  have := ldel_eq hs
  simp only at this
  rw [this, btot_append, btot_append]
  simp only [btot]; omega
theorem oVal_new {k : List UInt8} {l : List KPair} (h : (lget k l).isSome = false) : oVal (lget k l) = [] := by cases hp : lget k l <;> simp_all [oVal]
theorem find_filter (p q : KPair → Bool) (l : List KPair) : (l.filter p).find? q = l.find? (fun a => p a && q a) := by
  induction l with
  | nil => rfl
  | cons a l ih =>
    rw [List.filter_cons, List.find?_cons]
    cases hp : p a
    · simp [ih]
    · simp only [if_true, Bool.true_and, List.find?_cons, ih]
theorem find_none {q : KPair → Bool} {l : List KPair} (h : ∀ a, q a = false) : l.find? q = none := by rw [List.find?_eq_none]; intro a _; simp [h a]
theorem find_congr {p q : KPair → Bool} {l : List KPair} (h : ∀ a, p a = q a) : l.find? p = l.find? q := by rw [show p = q from funext h]
theorem lget_put (k k' v : List UInt8) (l : List KPair) : lget k (lput k' v l) = if k = k' then some ⟨k, v⟩ else lget k l := by
  unfold lget lput
  rw [List.find?_append, find_filter, List.find?_cons, find_filter]
  by_cases e : k = k'
  · subst e
    rw [find_none (fun a => by
      cases h : blt a.key k
      · rfl
      · simpa using blt_ne h)]
    simp
  · rw [if_neg e]
    have e2 : ((⟨k', v⟩ : KPair).key == k) = false := by simpa using fun h => e h.symm
    rw [e2]
    simp only
    cases c : blt k k'
    · have c2 : blt k' k = true := by
        cases hh : blt k' k
        · exact absurd (blt_tri c hh) e
        · rfl
      rw [find_none (fun a => by
        cases h : a.key == k
        · simp
        · have : a.key = k := by simpa using h
          rw [this, c]; rfl)]
      rw [find_congr (p := fun a => blt k' a.key && (a.key == k)) (q := fun a => a.key == k) (fun a => by
        cases h : a.key == k
        · simp
        · have : a.key = k := by simpa using h
          rw [this, c2]; rfl)]
      simp
    · rw [find_congr (p := fun a => blt a.key k' && (a.key == k)) (q := fun a => a.key == k) (fun a => by
        cases h : a.key == k
        · simp
        · have : a.key = k := by simpa using h
          rw [this, c]; rfl)]
      rw [find_none (q := fun a => blt k' a.key && (a.key == k)) (fun a => by
        cases h : a.key == k
        · simp
        · have : a.key = k := by simpa using h
          rw [this, blt_asym c]; rfl)]
      simp
theorem lget_del (k k' : List UInt8) (l : List KPair) : lget k (ldel k' l) = if k = k' then none else lget k l := by
  unfold lget ldel
  rw [find_filter]
  by_cases e : k = k'
  · subst e
    rw [if_pos rfl, find_none (fun a => by cases h : a.key == k <;> simp [h, bne])]
  · rw [if_neg e]
    exact find_congr fun a => by
      cases h : a.key == k
      · simp
      · have : a.key = k := by simpa using h
        rw [this]; simp [e]
/-! ### Operations, plainly -/
def rightO (o : KOp) : Bool := decide (1 ≤ o.key.length) && (decide (o.key.length ≤ 24) && ((o.kind == 1 && decide (o.val.length ≤ 128)) || (o.kind == 2 && (o.val == []))))
def apO (l : List KPair) (o : KOp) : List KPair := if o.kind = 1 then lput o.key o.val l else ldel o.key l
def aps (l : List KPair) (ops : List KOp) : List KPair := ops.foldl (fun l o => if rightO o then apO l o else l) l
def cntO (ops : List KOp) : Nat := (ops.filter rightO).length
theorem aps_nil (l : List KPair) : aps l [] = l := rfl
theorem aps_cons (l : List KPair) (o : KOp) (ops : List KOp) : aps l (o :: ops) = aps (if rightO o then apO l o else l) ops := rfl
theorem apO_srt {l : List KPair} {o : KOp} (h : Srt l) : Srt (apO l o) := by unfold apO; split; exact h.put; exact h.del
theorem aps_srt : ∀ {ops : List KOp} {l : List KPair}, Srt l → Srt (aps l ops)
  | [], _, h => h
  | o :: ops, l, h => by
    rw [aps_cons]
    exact aps_srt (by split; exact apO_srt h; exact h)
end Go.Proofs.Ytbddfpakhealbaa.Wa
end

section
/- Tables: what the program does with them. -/
namespace Go.Proofs.Ytbddfpakhealbaa.Wa
open Go Go.Weave
set_option maxRecDepth 100000
set_option linter.unusedSimpArgs false
set_option linter.unusedVariables false
set_option linter.unusedSectionVars false

/-! ### Right operations -/
theorem opright_run {d : Nat} {o : KOp} {h : Heap} {Q : Res → Prop} {tg : Hid Q} : Run (evFn Cw (d + 1) 23 [.agg [.int .i64 o.kind, .str o.key, .str o.val]] h) Q tg = Q ([.bool (rightO o)], h) := by
  rw [F23_eq]
  by_cases c1 : 1 ≤ o.key.length
  · by_cases c2 : o.key.length ≤ 24
    · by_cases c3 : o.kind = 1
      · have c3' : (o.kind == 1) = true := by simp [c3]
        have e : rightO o = decide ((o.val.length : Int) ≤ 128) := by simp [rightO, c1, c2, c3]; omega
        rw [e]
        simp (disch := (first | assumption | (simp only [Bool.and_eq_true, Bool.and_eq_false_iff, decide_eq_true_eq, decide_eq_false_iff_not, bne_iff_ne, beq_iff_eq, beq_eq_false_iff_ne, bne_eq_false_iff_eq, Bool.not_eq_true', Bool.not_eq_false', bys_length, List.length_append, List.length_cons, List.length_nil, List.length_map, List.length_drop, List.length_take, Int.natCast_add, wrap_i64_eq, wrap_u64, wrap_u8, ne_eq, not_true_eq_false, not_false_eq_true, Nat.zero_add, Nat.mul_one] <;> omega) | omega | (simp; done) | (simp; omega))) only [↓CR, MC, ↓PR, MR, c3']
      · have c3' : (o.kind == 1) = false := by simpa using c3
        by_cases c4 : o.kind = 2
        · have c4' : (o.kind == 2) = true := by simp [c4]
          have e : rightO o = (o.val == []) := by simp [rightO, c1, c2, c4]
          rw [e]
          simp (disch := (first | assumption | (simp only [Bool.and_eq_true, Bool.and_eq_false_iff, decide_eq_true_eq, decide_eq_false_iff_not, bne_iff_ne, beq_iff_eq, beq_eq_false_iff_ne, bne_eq_false_iff_eq, Bool.not_eq_true', Bool.not_eq_false', bys_length, List.length_append, List.length_cons, List.length_nil, List.length_map, List.length_drop, List.length_take, Int.natCast_add, wrap_i64_eq, wrap_u64, wrap_u8, ne_eq, not_true_eq_false, not_false_eq_true, Nat.zero_add, Nat.mul_one] <;> omega) | omega | (simp; done) | (simp; omega))) only [↓CR, MC, ↓PR, MR, c3', c4']
        · have c4' : (o.kind == 2) = false := by simpa using c4
          have e : rightO o = false := by simp [rightO, c3, c4]
          rw [e]
          simp (disch := (first | assumption | (simp only [Bool.and_eq_true, Bool.and_eq_false_iff, decide_eq_true_eq, decide_eq_false_iff_not, bne_iff_ne, beq_iff_eq, beq_eq_false_iff_ne, bne_eq_false_iff_eq, Bool.not_eq_true', Bool.not_eq_false', bys_length, List.length_append, List.length_cons, List.length_nil, List.length_map, List.length_drop, List.length_take, Int.natCast_add, wrap_i64_eq, wrap_u64, wrap_u8, ne_eq, not_true_eq_false, not_false_eq_true, Nat.zero_add, Nat.mul_one] <;> omega) | omega | (simp; done) | (simp; omega))) only [↓CR, MC, ↓PR, MR, c3', c4']
    · have e : rightO o = false := by simp [rightO, c2]
      rw [e]
      simp (disch := (first | assumption | (simp only [Bool.and_eq_true, Bool.and_eq_false_iff, decide_eq_true_eq, decide_eq_false_iff_not, bne_iff_ne, beq_iff_eq, beq_eq_false_iff_ne, bne_eq_false_iff_eq, Bool.not_eq_true', Bool.not_eq_false', bys_length, List.length_append, List.length_cons, List.length_nil, List.length_map, List.length_drop, List.length_take, Int.natCast_add, wrap_i64_eq, wrap_u64, wrap_u8, ne_eq, not_true_eq_false, not_false_eq_true, Nat.zero_add, Nat.mul_one] <;> omega) | omega | (simp; done) | (simp; omega))) only [↓CR, MC, ↓PR, MR]
  · have e : rightO o = false := by simp [rightO, c1]
    rw [e]
    simp (disch := (first | assumption | (simp only [Bool.and_eq_true, Bool.and_eq_false_iff, decide_eq_true_eq, decide_eq_false_iff_not, bne_iff_ne, beq_iff_eq, beq_eq_false_iff_ne, bne_eq_false_iff_eq, Bool.not_eq_true', Bool.not_eq_false', bys_length, List.length_append, List.length_cons, List.length_nil, List.length_map, List.length_drop, List.length_take, Int.natCast_add, wrap_i64_eq, wrap_u64, wrap_u8, ne_eq, not_true_eq_false, not_false_eq_true, Nat.zero_add, Nat.mul_one] <;> omega) | omega | (simp; done) | (simp; omega))) only [↓CR, MC, ↓PR, MR]
theorem r10right_run {d : Nat} {o : KOp} {h : Heap} {Q : Res → Prop} {tg : Hid Q} : Run (evFn Cw (d + 1) 20 [.agg [.int .i64 o.kind, .str o.key, .str o.val]] h) Q tg = Q ([.bool (rightO o)], h) := by
  rw [F20_eq]
  by_cases c1 : 1 ≤ o.key.length
  · have k1 : ((o.key.length : Int) == 0) = false := by simp; intro e; rw [e] at c1; simp at c1
    by_cases c2 : o.key.length ≤ 24
    · by_cases c5 : o.val.length ≤ 128
      · by_cases c3 : o.kind = 1
        · have c3' : (o.kind == 1) = true := by simp [c3]
          have e : rightO o = true := by simp [rightO, c1, c2, c3, c5]
          rw [e]
          simp (disch := (first | assumption | (simp only [Bool.and_eq_true, Bool.and_eq_false_iff, decide_eq_true_eq, decide_eq_false_iff_not, bne_iff_ne, beq_iff_eq, beq_eq_false_iff_ne, bne_eq_false_iff_eq, Bool.not_eq_true', Bool.not_eq_false', bys_length, List.length_append, List.length_cons, List.length_nil, List.length_map, List.length_drop, List.length_take, Int.natCast_add, wrap_i64_eq, wrap_u64, wrap_u8, ne_eq, not_true_eq_false, not_false_eq_true, Nat.zero_add, Nat.mul_one] <;> omega) | omega | (simp; done) | (simp; omega))) only [↓CR, MC, ↓PR, MR, c3', k1]
        · have c3' : (o.kind == 1) = false := by simpa using c3
          by_cases c4 : o.kind = 2
          · have c4' : (o.kind == 2) = true := by simp [c4]
            have e : rightO o = (o.val == []) := by simp [rightO, c1, c2, c4]
            rw [e]
            simp (disch := (first | assumption | (simp only [Bool.and_eq_true, Bool.and_eq_false_iff, decide_eq_true_eq, decide_eq_false_iff_not, bne_iff_ne, beq_iff_eq, beq_eq_false_iff_ne, bne_eq_false_iff_eq, Bool.not_eq_true', Bool.not_eq_false', bys_length, List.length_append, List.length_cons, List.length_nil, List.length_map, List.length_drop, List.length_take, Int.natCast_add, wrap_i64_eq, wrap_u64, wrap_u8, ne_eq, not_true_eq_false, not_false_eq_true, Nat.zero_add, Nat.mul_one] <;> omega) | omega | (simp; done) | (simp; omega))) only [↓CR, MC, ↓PR, MR, c3', c4', k1]
          · have c4' : (o.kind == 2) = false := by simpa using c4
            have e : rightO o = false := by simp [rightO, c3, c4]
            rw [e]
            simp (disch := (first | assumption | (simp only [Bool.and_eq_true, Bool.and_eq_false_iff, decide_eq_true_eq, decide_eq_false_iff_not, bne_iff_ne, beq_iff_eq, beq_eq_false_iff_ne, bne_eq_false_iff_eq, Bool.not_eq_true', Bool.not_eq_false', bys_length, List.length_append, List.length_cons, List.length_nil, List.length_map, List.length_drop, List.length_take, Int.natCast_add, wrap_i64_eq, wrap_u64, wrap_u8, ne_eq, not_true_eq_false, not_false_eq_true, Nat.zero_add, Nat.mul_one] <;> omega) | omega | (simp; done) | (simp; omega))) only [↓CR, MC, ↓PR, MR, c3', c4', k1]
      · have c6 : (o.val == []) = false := by simp; intro e; rw [e] at c5; simp at c5
        have e : rightO o = false := by simp only [rightO, c6, Bool.and_false, Bool.or_false]; simp [c5]
        rw [e]
        simp (disch := (first | assumption | (simp only [Bool.and_eq_true, Bool.and_eq_false_iff, decide_eq_true_eq, decide_eq_false_iff_not, bne_iff_ne, beq_iff_eq, beq_eq_false_iff_ne, bne_eq_false_iff_eq, Bool.not_eq_true', Bool.not_eq_false', bys_length, List.length_append, List.length_cons, List.length_nil, List.length_map, List.length_drop, List.length_take, Int.natCast_add, wrap_i64_eq, wrap_u64, wrap_u8, ne_eq, not_true_eq_false, not_false_eq_true, Nat.zero_add, Nat.mul_one] <;> omega) | omega | (simp; done) | (simp; omega))) only [↓CR, MC, ↓PR, MR, k1]
    · have e : rightO o = false := by simp [rightO, c2]
      rw [e]
      simp (disch := (first | assumption | (simp only [Bool.and_eq_true, Bool.and_eq_false_iff, decide_eq_true_eq, decide_eq_false_iff_not, bne_iff_ne, beq_iff_eq, beq_eq_false_iff_ne, bne_eq_false_iff_eq, Bool.not_eq_true', Bool.not_eq_false', bys_length, List.length_append, List.length_cons, List.length_nil, List.length_map, List.length_drop, List.length_take, Int.natCast_add, wrap_i64_eq, wrap_u64, wrap_u8, ne_eq, not_true_eq_false, not_false_eq_true, Nat.zero_add, Nat.mul_one] <;> omega) | omega | (simp; done) | (simp; omega))) only [↓CR, MC, ↓PR, MR, k1]
  · have k1 : ((o.key.length : Int) == 0) = true := by rw [beq_iff_eq]; omega
    have e : rightO o = false := by simp [rightO, c1]
    rw [e]
    simp (disch := (first | assumption | (simp only [Bool.and_eq_true, Bool.and_eq_false_iff, decide_eq_true_eq, decide_eq_false_iff_not, bne_iff_ne, beq_iff_eq, beq_eq_false_iff_ne, bne_eq_false_iff_eq, Bool.not_eq_true', Bool.not_eq_false', bys_length, List.length_append, List.length_cons, List.length_nil, List.length_map, List.length_drop, List.length_take, Int.natCast_add, wrap_i64_eq, wrap_u64, wrap_u8, ne_eq, not_true_eq_false, not_false_eq_true, Nat.zero_add, Nat.mul_one] <;> omega) | omega | (simp; done) | (simp; omega))) only [↓CR, MC, ↓PR, MR, k1]
theorem rightO_ok {o : KOp} (h : rightO o = true) : KPair.ok ⟨o.key, o.val⟩ := by
  unfold rightO at h
  simp only [Bool.and_eq_true, decide_eq_true_eq, Bool.or_eq_true, beq_iff_eq] at h
  obtain ⟨h1, h2, h3⟩ := h
  refine ⟨by show o.key.length ≤ _; omega, ?_⟩
  show o.val.length ≤ _
  rcases h3 with ⟨_, h3⟩ | ⟨_, h3⟩
  · omega
  · rw [h3]; simp

/-! ### A table -/
def tabO (ti : Nat) (b : Nat) : Weave.Obj := .cells [HCell.val (.obj ti 0), HCell.val (.int .i64 b)]
structure IsTab (h : Heap) (i ti : Nat) (t : Nd) : Prop where
  tb : h.objs[i]? = some (tabO ti (btot t.toL))
  tr : h.objs[ti]? = some (trT t)
  ne : i ≠ ti
  ok : TOk' t
  kv : ∀ p ∈ t.toL, p.key.length ≤ 140737488351232 ∧ p.val.length ≤ 140737488351232
theorem IsTab.bytes {h : Heap} {i ti : Nat} {t : Nd} (T : IsTab h i ti t) : btot t.toL ≤ 8725724277776384000 := by
  have := btot_le T.kv
  have h2 := T.ok.len
  have : t.toL.length * (2 * 140737488351232) ≤ 31000 * (2 * 140737488351232) := Nat.mul_le_mul_right _ h2
  omega
def tabH (h : Heap) (i ti : Nat) (t : Nd) : Heap := (h.put ti (trT t)).put i (tabO ti (btot t.toL))
theorem tabH_tabH {h : Heap} {i ti : Nat} {t t' : Nd} (hne : i ≠ ti) : tabH (tabH h i ti t) i ti t' = tabH h i ti t' := by
  unfold tabH
  rw [Heap.put_comm _ _ _ hne, Heap.put_put, Heap.put_put]
theorem tabH_self {h : Heap} {i ti : Nat} {t : Nd} (T : IsTab h i ti t) : tabH h i ti t = h := by
  unfold tabH
  rw [Heap.put_self' T.tr, Heap.put_self' T.tb]
theorem IsTab.step {h : Heap} {i ti : Nat} {t t' : Nd} (T : IsTab h i ti t) (ok : TOk' t') (kv : ∀ p ∈ t'.toL, p.key.length ≤ 140737488351232 ∧ p.val.length ≤ 140737488351232) : IsTab (tabH h i ti t') i ti t' := by
  refine ⟨?_, ?_, T.ne, ok, kv⟩
  · unfold tabH; exact Heap.put_get (o' := tabO ti (btot t.toL)) (by rw [Heap.put_ne (Ne.symm T.ne)]; exact T.tb)
  · unfold tabH; rw [Heap.put_ne T.ne]; exact Heap.put_get T.tr
theorem IsTab.ext {h h' : Heap} {i ti : Nat} {t : Nd} (T : IsTab h i ti t) (E : h.ext h') : IsTab h' i ti t := ⟨E.get T.tb, E.get T.tr, T.ne, T.ok, T.kv⟩
theorem tab_t {h : Heap} {i ti b : Nat} (hm : h.objs[i]? = some (tabO ti b)) : h.cell? i 0 = some (HCell.val (.obj ti 0)) := by rw [Heap.cell_at hm]; rfl
theorem tab_b {h : Heap} {i ti b : Nat} (hm : h.objs[i]? = some (tabO ti b)) : h.cell? i 1 = some (HCell.val (.int .i64 b)) := by rw [Heap.cell_at hm]; rfl
theorem tab_s {h : Heap} {i ti b b' : Nat} (hm : h.objs[i]? = some (tabO ti b)) : h.setCell i 1 (HCell.val (.int .i64 b')) = h.put i (tabO ti b') := by rw [Heap.set_at hm]; rfl
theorem lput_kv {k v : List UInt8} {l : List KPair} (hk : k.length ≤ 140737488351232) (hv : v.length ≤ 140737488351232) (h : ∀ p ∈ l, p.key.length ≤ 140737488351232 ∧ p.val.length ≤ 140737488351232) : ∀ p ∈ lput k v l, p.key.length ≤ 140737488351232 ∧ p.val.length ≤ 140737488351232 := by
  intro p hp
  unfold lput at hp
  rcases List.mem_append.1 hp with hp | hp
  · exact h p (List.mem_filter.1 hp).1
  · rcases List.mem_cons.1 hp with rfl | hp
    · exact ⟨hk, hv⟩
    · exact h p (List.mem_filter.1 hp).1
theorem tabput_run {d i ti : Nat} {t : Nd} {k v : List UInt8} {h : Heap} {Q : Res → Prop} {tg : Hid Q} (T : IsTab h i ti t) (hl : t.toL.length ≤ 30999) (hk : k.length ≤ 140737488351232) (hv : v.length ≤ 140737488351232) (hd : 31010 ≤ d) :
    Run (evFn Cw (d + 1) 34 [.obj i 0, .str k, .str v] h) Q tg = Q ([], tabH h i ti (t.put k v)) := by
  have rp := fun (Q : Res → Prop) (tg : Hid Q) => tput_run (d := d) (k := k) (v := v) (Q := Q) (tg := tg) T.ok hl T.tr hd
  have hb := T.bytes
  have m1 : (h.put ti (trT (t.put k v))).objs[i]? = some (tabO ti (btot t.toL)) := by rw [Heap.put_ne (Ne.symm T.ne)]; exact T.tb
  have eL := (T.ok.put k v hl).2
  rw [F34_eq]
  unfold tabH
  rw [eL]
  cases hg : (lget k t.toL).isSome
  · have eb := btot_new (v := v) hg
    have eo := oVal_new hg
    have e0' : (([] : List UInt8).length : Int) = 0 := rfl
    have e1 : IntKind.i64.wrap ((v.length : Int) - 0) = (v.length : Int) := by rw [wrap_i64_id (by omega) (by omega)]; omega
    have e2 : IntKind.i64.wrap (((btot t.toL : Nat) : Int) + (v.length : Int)) = ((btot t.toL + v.length : Nat) : Int) := by rw [wrap_i64_id (by omega) (by omega)]; omega
    have m2 : ((h.put ti (trT (t.put k v))).put i (tabO ti (btot t.toL + v.length))).objs[i]? = some (tabO ti (btot t.toL + v.length)) := Heap.put_get m1
    have e3 : IntKind.i64.wrap (((btot t.toL + v.length : Nat) : Int) + (k.length : Int)) = ((btot (lput k v t.toL) : Nat) : Int) := by rw [wrap_i64_id (by omega) (by omega)]; omega
    rw [hg, eo] at rp
    simp (disch := (first | assumption | (simp only [Bool.and_eq_true, Bool.and_eq_false_iff, decide_eq_true_eq, decide_eq_false_iff_not, bne_iff_ne, beq_iff_eq, beq_eq_false_iff_ne, bne_eq_false_iff_eq, Bool.not_eq_true', Bool.not_eq_false', bys_length, List.length_append, List.length_cons, List.length_nil, List.length_map, List.length_drop, List.length_take, Int.natCast_add, wrap_i64_eq, wrap_u64, wrap_u8, ne_eq, not_true_eq_false, not_false_eq_true, Nat.zero_add, Nat.mul_one] <;> omega) | omega | (simp; done) | (simp; omega))) only [↓CR, MC, ↓PR, MR, tab_t T.tb, rp, tab_b m1, e0', e1, e2, tab_s m1, Bool.not_false, tab_b m2, e3, tab_s m2, Heap.put_put]
  · have eb := btot_old (v := v) T.ok.srt hg
    have el := btot_del T.ok.srt hg
    rw [hg] at rp
    generalize (oVal (lget k t.toL)).length = n at *
    have e1 : IntKind.i64.wrap ((v.length : Int) - ((oVal (lget k t.toL)).length : Int)) = (v.length : Int) - ((oVal (lget k t.toL)).length : Int) := wrap_i64_id (by have := btot_del T.ok.srt hg; omega) (by have := btot_del T.ok.srt hg; omega)
    have e2 : IntKind.i64.wrap (((btot t.toL : Nat) : Int) + ((v.length : Int) - ((oVal (lget k t.toL)).length : Int))) = ((btot (lput k v t.toL) : Nat) : Int) := by
      have h1 := btot_del T.ok.srt hg
      have h2 := btot_old (v := v) T.ok.srt hg
      rw [wrap_i64_id (by omega) (by omega)]; omega
    simp (disch := (first | assumption | (simp only [Bool.and_eq_true, Bool.and_eq_false_iff, decide_eq_true_eq, decide_eq_false_iff_not, bne_iff_ne, beq_iff_eq, beq_eq_false_iff_ne, bne_eq_false_iff_eq, Bool.not_eq_true', Bool.not_eq_false', bys_length, List.length_append, List.length_cons, List.length_nil, List.length_map, List.length_drop, List.length_take, Int.natCast_add, wrap_i64_eq, wrap_u64, wrap_u8, ne_eq, not_true_eq_false, not_false_eq_true, Nat.zero_add, Nat.mul_one] <;> omega) | omega | (simp; done) | (simp; omega))) only [↓CR, MC, ↓PR, MR, tab_t T.tb, rp, tab_b m1, e1, e2, tab_s m1, Bool.not_true]
theorem tabnew_run {d : Nat} {h : Heap} {Q : Res → Prop} {tg : Hid Q} : Run (evFn Cw (d + 2) 27 [] h) Q tg = Q ([.obj (h.objs.length + 1) 0], (h.push (trT .nil)).push (tabO h.objs.length 0)) := by
  have e1 : (h.push (trT .nil)).objs.length = h.objs.length + 1 := Heap.push_len _ _
  have e2 : AVal.isAgg (.obj h.objs.length 0) = false := rfl
  have e3 : Weave.Obj.cells ([AVal.obj h.objs.length 0, AVal.int .i64 0].map HCell.val) = tabO h.objs.length 0 := of_eq_true (eq_self _)
  rw [F27_eq]
  simp (disch := (first | assumption | (simp only [Bool.and_eq_true, Bool.and_eq_false_iff, decide_eq_true_eq, decide_eq_false_iff_not, bne_iff_ne, beq_iff_eq, beq_eq_false_iff_ne, bne_eq_false_iff_eq, Bool.not_eq_true', Bool.not_eq_false', bys_length, List.length_append, List.length_cons, List.length_nil, List.length_map, List.length_drop, List.length_take, Int.natCast_add, wrap_i64_eq, wrap_u64, wrap_u8, ne_eq, not_true_eq_false, not_false_eq_true, Nat.zero_add, Nat.mul_one] <;> omega) | omega | (simp; done) | (simp; omega))) only [↓CR, MC, ↓PR, MR, tnew_run, e1, e2, e3, Bool.not_false]
theorem tabnew_is (h : Heap) : h.ext ((h.push (trT .nil)).push (tabO h.objs.length 0)) ∧ IsTab ((h.push (trT .nil)).push (tabO h.objs.length 0)) (h.objs.length + 1) h.objs.length .nil := by
  have E1 := Heap.ext.push h (trT .nil)
  have E2 := Heap.ext.push (h.push (trT .nil)) (tabO h.objs.length 0)
  have e1 : (h.push (trT .nil)).objs.length = h.objs.length + 1 := Heap.push_len _ _
  have m := Heap.push_new (h.push (trT .nil)) (tabO h.objs.length 0)
  rw [e1] at m
  exact ⟨E1.trans E2, m, E2.get (Heap.push_new _ _), by omega, ⟨trivial, List.Pairwise.nil, by simp [Nd.toL]⟩, by simp [Nd.toL]⟩
theorem tabtree_run {d i ti : Nat} {t : Nd} {h : Heap} {Q : Res → Prop} {tg : Hid Q} (T : IsTab h i ti t) : Run (evFn Cw (d + 1) 37 [.obj i 0] h) Q tg = Q ([.obj ti 0], h) := by
  rw [F37_eq]
  simp (disch := (first | assumption | (simp only [Bool.and_eq_true, Bool.and_eq_false_iff, decide_eq_true_eq, decide_eq_false_iff_not, bne_iff_ne, beq_iff_eq, beq_eq_false_iff_ne, bne_eq_false_iff_eq, Bool.not_eq_true', Bool.not_eq_false', bys_length, List.length_append, List.length_cons, List.length_nil, List.length_map, List.length_drop, List.length_take, Int.natCast_add, wrap_i64_eq, wrap_u64, wrap_u8, ne_eq, not_true_eq_false, not_false_eq_true, Nat.zero_add, Nat.mul_one] <;> omega) | omega | (simp; done) | (simp; omega))) only [↓CR, MC, ↓PR, MR, tab_t T.tb]
theorem tablen_run {d i ti : Nat} {t : Nd} {h : Heap} {Q : Res → Prop} {tg : Hid Q} (T : IsTab h i ti t) : Run (evFn Cw (d + 2) 30 [.obj i 0] h) Q tg = Q ([.int .i64 t.toL.length], h) := by
  have r := fun (Q : Res → Prop) (tg : Hid Q) => tabtree_run (d := d) (Q := Q) (tg := tg) T
  have q := fun (Q : Res → Prop) (tg : Hid Q) => tlen_run (d := d) (Q := Q) (tg := tg) T.tr
  rw [F30_eq]
  simp (disch := (first | assumption | (simp only [Bool.and_eq_true, Bool.and_eq_false_iff, decide_eq_true_eq, decide_eq_false_iff_not, bne_iff_ne, beq_iff_eq, beq_eq_false_iff_ne, bne_eq_false_iff_eq, Bool.not_eq_true', Bool.not_eq_false', bys_length, List.length_append, List.length_cons, List.length_nil, List.length_map, List.length_drop, List.length_take, Int.natCast_add, wrap_i64_eq, wrap_u64, wrap_u8, ne_eq, not_true_eq_false, not_false_eq_true, Nat.zero_add, Nat.mul_one] <;> omega) | omega | (simp; done) | (simp; omega))) only [↓CR, MC, ↓PR, MR, r, q]
theorem tabrange_run (d i ti : Nat) (t : Nd) (fr to : List UInt8) (most : Int) (h : Heap) (T : IsTab h i ti t) :
    ∃ h', h.ext h' ∧ ∀ (Q : Res → Prop) (tg : Hid Q), Run (evFn Cw (d + 6) 29 [.obj i 0, .str fr, .str to, .int .i64 most] h) Q tg = Q ([.sl false 3 (prs (rngR fr to most t.toL []))], h') := by
  obtain ⟨h', E, q⟩ := crange_run d ti fr to most t T.ok (fun p hp => (T.kv p hp).1) h T.tr
  refine ⟨h', E, fun Q tg => ?_⟩
  have r := fun (Q : Res → Prop) (tg : Hid Q) => tabtree_run (d := d + 4) (Q := Q) (tg := tg) T
  rw [F29_eq]
  simp (disch := (first | assumption | (simp only [Bool.and_eq_true, Bool.and_eq_false_iff, decide_eq_true_eq, decide_eq_false_iff_not, bne_iff_ne, beq_iff_eq, beq_eq_false_iff_ne, bne_eq_false_iff_eq, Bool.not_eq_true', Bool.not_eq_false', bys_length, List.length_append, List.length_cons, List.length_nil, List.length_map, List.length_drop, List.length_take, Int.natCast_add, wrap_i64_eq, wrap_u64, wrap_u8, ne_eq, not_true_eq_false, not_false_eq_true, Nat.zero_add, Nat.mul_one] <;> omega) | omega | (simp; done) | (simp; omega))) only [↓CR, MC, ↓PR, MR, r, q]
theorem rng_all {most : Int} : ∀ {l acc : List KPair}, ((acc.length + l.length : Nat) : Int) ≤ most → rngR [] [] most l acc = acc ++ l
  | [], acc, _ => by unfold rngR; simp
  | p :: l, acc, h => by
    unfold rngR
    simp only [List.length_cons] at h
    have e : (!blt p.key [] && inTo [] p.key) = true := by
      have : blt p.key [] = false := by cases p.key <;> rfl
      rw [this]; simp [inTo]
    rw [if_pos (by omega), if_pos e, rng_all (by simp; omega)]
    simp
theorem tabpairs_run (d i ti : Nat) (t : Nd) (h : Heap) (T : IsTab h i ti t) :
    ∃ h', h.ext h' ∧ ∀ (Q : Res → Prop) (tg : Hid Q), Run (evFn Cw (d + 7) 19 [.obj i 0] h) Q tg = Q ([.sl false 3 (prs t.toL)], h') := by
  obtain ⟨h', E, q⟩ := tabrange_run d i ti t [] [] (t.toL.length : Nat) h T
  have e : rngR [] [] (t.toL.length : Nat) t.toL [] = t.toL := by rw [rng_all (by simp)]; rfl
  rw [e] at q
  refine ⟨h', E, fun Q tg => ?_⟩
  have r := fun (Q : Res → Prop) (tg : Hid Q) => tablen_run (d := d + 4) (Q := Q) (tg := tg) T
  rw [F19_eq]
  simp (disch := (first | assumption | (simp only [Bool.and_eq_true, Bool.and_eq_false_iff, decide_eq_true_eq, decide_eq_false_iff_not, bne_iff_ne, beq_iff_eq, beq_eq_false_iff_ne, bne_eq_false_iff_eq, Bool.not_eq_true', Bool.not_eq_false', bys_length, List.length_append, List.length_cons, List.length_nil, List.length_map, List.length_drop, List.length_take, Int.natCast_add, wrap_i64_eq, wrap_u64, wrap_u8, ne_eq, not_true_eq_false, not_false_eq_true, Nat.zero_add, Nat.mul_one] <;> omega) | omega | (simp; done) | (simp; omega))) only [↓CR, MC, ↓PR, MR, r, q]
theorem cntO_cons (o : KOp) (ops : List KOp) : cntO (o :: ops) = (if rightO o then 1 else 0) + cntO ops := by
  unfold cntO
  rw [List.filter_cons]
  cases rightO o <;> simp
  omega
theorem tabapply_loop (d i ti : Nat) (f : Bool) (ops : List KOp) (ho : ops.length ≤ 31000) : ∀ (n j k c : Nat) (t : Nd) (h : Heap), IsTab h i ti t → t.toL.length + n ≤ 31000 → ops.length = j + n → n < k → c ≤ j →
    ∃ t', IsTab (tabH h i ti t') i ti t' ∧ t'.toL = aps t.toL (ops.drop j) ∧ ∀ (Q : Res → Prop) (tg : Hid Q),
      Run (P28_0 (d + 31020) k i c f (kops ops) (ops.length : Int) j h) Q tg = Q ([.int .i64 (c + cntO (ops.drop j) : Nat)], tabH h i ti t') := by
  intro n
  induction n with
  | zero =>
    intro j k c t h T hl hj hk hc
    obtain ⟨k, rfl⟩ : ∃ m, k = m + 1 := ⟨k - 1, by omega⟩
    have hd : ops.drop j = [] := List.drop_eq_nil_of_le (by omega)
    refine ⟨t, by rw [tabH_self T]; exact T, by rw [hd]; rfl, fun Q tg => ?_⟩
    rw [tabH_self T, P28_0_eq, hd]
    have e : c + cntO [] = c := rfl
    rw [e]
    simp (disch := (first | assumption | (simp only [Bool.and_eq_true, Bool.and_eq_false_iff, decide_eq_true_eq, decide_eq_false_iff_not, bne_iff_ne, beq_iff_eq, beq_eq_false_iff_ne, bne_eq_false_iff_eq, Bool.not_eq_true', Bool.not_eq_false', bys_length, List.length_append, List.length_cons, List.length_nil, List.length_map, List.length_drop, List.length_take, Int.natCast_add, wrap_i64_eq, wrap_u64, wrap_u8, ne_eq, not_true_eq_false, not_false_eq_true, Nat.zero_add, Nat.mul_one] <;> omega) | omega | (simp; done) | (simp; omega))) only [↓CR, MC, ↓PR, MR]
  | succ n ih =>
    intro j k c t h T hl hj hk hc
    obtain ⟨k, rfl⟩ : ∃ m, k = m + 1 := ⟨k - 1, by omega⟩
    have h1 : j < ops.length := by omega
    have e1 := succ_wrap (i := j) (by omega)
    have e2 := succ_wrap (i := c) (by omega)
    rw [List.drop_eq_getElem_cons h1, aps_cons, cntO_cons]
    cases hr : rightO ops[j]
    · obtain ⟨t', T', hL, r⟩ := ih (j + 1) k c t h T (by omega) (by omega) (by omega) (by omega)
      refine ⟨t', T', by simpa using hL, fun Q tg => ?_⟩
      have r' : ∀ (Q : Res → Prop) (tg : Hid Q), Run (P28_0 (d + 31020) k i c f (kops ops) (ops.length : Int) (j + 1 : Nat) h) Q tg = Q ([.int .i64 (c + ((if false = true then 1 else 0) + cntO (ops.drop (j + 1))) : Nat)], tabH h i ti t') := by simpa using r
      rw [P28_0_eq]
      simp (disch := (first | assumption | (simp only [Bool.and_eq_true, Bool.and_eq_false_iff, decide_eq_true_eq, decide_eq_false_iff_not, bne_iff_ne, beq_iff_eq, beq_eq_false_iff_ne, bne_eq_false_iff_eq, Bool.not_eq_true', Bool.not_eq_false', bys_length, List.length_append, List.length_cons, List.length_nil, List.length_map, List.length_drop, List.length_take, Int.natCast_add, wrap_i64_eq, wrap_u64, wrap_u8, ne_eq, not_true_eq_false, not_false_eq_true, Nat.zero_add, Nat.mul_one] <;> omega) | omega | (simp; done) | (simp; omega))) only [↓CR, MC, ↓PR, MR, kops_length, kops_getD h1, opright_run, hr, Bool.not_false, e1, r']
    · have hok := rightO_ok hr
      by_cases c1 : ops[j].kind = 1
      · have c1' : (ops[j].kind == 1) = true := by simp [c1]
        have rp := fun (Q : Res → Prop) (tg : Hid Q) => tabput_run (d := d + 31019) (k := ops[j].key) (v := ops[j].val) (Q := Q) (tg := tg) T (by omega) hok.1 hok.2 (by omega)
        obtain ⟨ok', hP⟩ := T.ok.put ops[j].key ops[j].val (by omega)
        have T1 := T.step ok' (by rw [hP]; exact lput_kv hok.1 hok.2 T.kv)
        have hlen' : (t.put ops[j].key ops[j].val).toL.length + n ≤ 31000 := by rw [hP]; have := lput_len_le (k := ops[j].key) (v := ops[j].val) T.ok.srt; omega
        obtain ⟨t', T', hL, r⟩ := ih (j + 1) k (c + 1) _ _ T1 hlen' (by omega) (by omega) (by omega)
        rw [tabH_tabH T.ne] at T' r
        refine ⟨t', T', by rw [if_pos rfl]; unfold apO; rw [if_pos c1, hL, hP], fun Q tg => ?_⟩
        have r' : ∀ (Q : Res → Prop) (tg : Hid Q), Run (P28_0 (d + 31020) k i (c + 1 : Nat) f (kops ops) (ops.length : Int) (j + 1 : Nat) (tabH h i ti (t.put ops[j].key ops[j].val))) Q tg = Q ([.int .i64 (c + ((if true = true then 1 else 0) + cntO (ops.drop (j + 1))) : Nat)], tabH h i ti t') := fun Q tg => by
          rw [r Q tg, if_pos rfl, Nat.add_assoc]
        rw [P28_0_eq]
        simp (disch := (first | assumption | (simp only [Bool.and_eq_true, Bool.and_eq_false_iff, decide_eq_true_eq, decide_eq_false_iff_not, bne_iff_ne, beq_iff_eq, beq_eq_false_iff_ne, bne_eq_false_iff_eq, Bool.not_eq_true', Bool.not_eq_false', bys_length, List.length_append, List.length_cons, List.length_nil, List.length_map, List.length_drop, List.length_take, Int.natCast_add, wrap_i64_eq, wrap_u64, wrap_u8, ne_eq, not_true_eq_false, not_false_eq_true, Nat.zero_add, Nat.mul_one] <;> omega) | omega | (simp; done) | (simp; omega))) only [↓CR, MC, ↓PR, MR, kops_length, kops_getD h1, opright_run, hr, Bool.not_true, c1', rp, e1, e2, r']
      · have c1' : (ops[j].kind == 1) = false := by simpa using c1
        have rd := fun (Q : Res → Prop) (tg : Hid Q) => tdel_run (d := d + 31020) (k := ops[j].key) (Q := Q) (tg := tg) T.ok T.tr (by omega)
        have hb := T.bytes
        obtain ⟨t1, ok1, hL1, hT1, hrun⟩ : ∃ t1, TOk' t1 ∧ t1.toL = ldel ops[j].key t.toL ∧ t1.toL.length ≤ t.toL.length ∧ ∀ (Q : Res → Prop) (tg : Hid Q),
            Run (P28_0 (d + 31020) (k + 1) i c f (kops ops) (ops.length : Int) j h) Q tg = Run (P28_0 (d + 31020) k i (c + 1 : Nat) f (kops ops) (ops.length : Int) (j + 1 : Nat) (tabH h i ti t1)) Q ⟨⟩ := by
          cases hg : (lget ops[j].key t.toL).isSome
          · have hn := ldel_none (lget_none hg)
            refine ⟨t, T.ok, hn.symm, Nat.le_refl _, fun Q tg => ?_⟩
            rw [hg] at rd
            simp only [Bool.false_eq_true, if_false] at rd
            rw [Heap.put_self' T.tr] at rd
            rw [tabH_self T, P28_0_eq]
            simp (disch := (first | assumption | (simp only [Bool.and_eq_true, Bool.and_eq_false_iff, decide_eq_true_eq, decide_eq_false_iff_not, bne_iff_ne, beq_iff_eq, beq_eq_false_iff_ne, bne_eq_false_iff_eq, Bool.not_eq_true', Bool.not_eq_false', bys_length, List.length_append, List.length_cons, List.length_nil, List.length_map, List.length_drop, List.length_take, Int.natCast_add, wrap_i64_eq, wrap_u64, wrap_u8, ne_eq, not_true_eq_false, not_false_eq_true, Nat.zero_add, Nat.mul_one] <;> omega) | omega | (simp; done) | (simp; omega))) only [↓CR, MC, ↓PR, MR, kops_length, kops_getD h1, opright_run, hr, Bool.not_true, c1', tab_t T.tb, rd, e1, e2]
          · obtain ⟨ok1, hL1⟩ := T.ok.del hg
            have el := btot_del T.ok.srt hg
            refine ⟨t.without ops[j].key, ok1, hL1, by rw [hL1]; exact ldel_len_le _ _, fun Q tg => ?_⟩
            rw [hg] at rd
            simp only [if_true] at rd
            have m1 : (h.put ti (trT (t.without ops[j].key))).objs[i]? = some (tabO ti (btot t.toL)) := by rw [Heap.put_ne (Ne.symm T.ne)]; exact T.tb
            have w1 : IntKind.i64.wrap ((ops[j].key.length : Int) + ((oVal (lget ops[j].key t.toL)).length : Int)) = (ops[j].key.length : Int) + ((oVal (lget ops[j].key t.toL)).length : Int) := wrap_i64_id (by omega) (by omega)
            have w2 : IntKind.i64.wrap (((btot t.toL : Nat) : Int) - ((ops[j].key.length : Int) + ((oVal (lget ops[j].key t.toL)).length : Int))) = ((btot (t.without ops[j].key).toL : Nat) : Int) := by
              rw [hL1, wrap_i64_id (by omega) (by omega)]; omega
            unfold tabH
            rw [P28_0_eq]
            simp (disch := (first | assumption | (simp only [Bool.and_eq_true, Bool.and_eq_false_iff, decide_eq_true_eq, decide_eq_false_iff_not, bne_iff_ne, beq_iff_eq, beq_eq_false_iff_ne, bne_eq_false_iff_eq, Bool.not_eq_true', Bool.not_eq_false', bys_length, List.length_append, List.length_cons, List.length_nil, List.length_map, List.length_drop, List.length_take, Int.natCast_add, wrap_i64_eq, wrap_u64, wrap_u8, ne_eq, not_true_eq_false, not_false_eq_true, Nat.zero_add, Nat.mul_one] <;> omega) | omega | (simp; done) | (simp; omega))) only [↓CR, MC, ↓PR, MR, kops_length, kops_getD h1, opright_run, hr, Bool.not_true, c1', tab_t T.tb, rd, tab_b m1, w1, w2, tab_s m1, e1, e2]
        have T1 := T.step ok1 (by rw [hL1]; intro p hp; exact T.kv p (List.mem_filter.1 hp).1)
        obtain ⟨t', T', hL, r⟩ := ih (j + 1) k (c + 1) _ _ T1 (by omega) (by omega) (by omega) (by omega)
        rw [tabH_tabH T.ne] at T' r
        refine ⟨t', T', by rw [if_pos rfl]; unfold apO; rw [if_neg c1, hL, hL1], fun Q tg => ?_⟩
        rw [hrun Q tg, r Q ⟨⟩, if_pos rfl, Nat.add_assoc]
theorem tabapply_run (d i ti : Nat) (f : Bool) (ops : List KOp) (t : Nd) (h : Heap) (T : IsTab h i ti t) (hl : t.toL.length + ops.length ≤ 31000) :
    ∃ t', IsTab (tabH h i ti t') i ti t' ∧ t'.toL = aps t.toL ops ∧ ∀ (Q : Res → Prop) (tg : Hid Q),
      Run (evFn Cw (d + 31021) 28 [.obj i 0, .sl f 4 (kops ops)] h) Q tg = Q ([.int .i64 (cntO ops : Nat)], tabH h i ti t') := by
  obtain ⟨t', T', hL, r⟩ := tabapply_loop d i ti f ops (by omega) ops.length 0 rounds 0 t h T (by omega) (by omega) (rounds_gt' (by omega)) (by omega)
  rw [List.drop_zero] at hL r
  rw [e0, Nat.zero_add] at r
  refine ⟨t', T', hL, fun Q tg => ?_⟩
  rw [F28_eq]
  simp (disch := (first | assumption | (simp only [Bool.and_eq_true, Bool.and_eq_false_iff, decide_eq_true_eq, decide_eq_false_iff_not, bne_iff_ne, beq_iff_eq, beq_eq_false_iff_ne, bne_eq_false_iff_eq, Bool.not_eq_true', Bool.not_eq_false', bys_length, List.length_append, List.length_cons, List.length_nil, List.length_map, List.length_drop, List.length_take, Int.natCast_add, wrap_i64_eq, wrap_u64, wrap_u8, ne_eq, not_true_eq_false, not_false_eq_true, Nat.zero_add, Nat.mul_one] <;> omega) | omega | (simp; done) | (simp; omega))) only [↓CR, MC, ↓PR, MR, kops_length, r]
end Go.Proofs.Ytbddfpakhealbaa.Wa
end

section
/- What the contracts of fold come to. -/
namespace Go.Proofs.Ytbddfpakhealbaa.Wa
open Go Go.Weave
set_option maxRecDepth 100000
set_option linter.unusedSimpArgs false
set_option linter.unusedVariables false
set_option linter.unusedSectionVars false

theorem apO_len {l : List KPair} {o : KOp} (hs : Srt l) : (apO l o).length ≤ l.length + 1 := by
  unfold apO
  split
  · exact lput_len_le hs
  · have := ldel_len_le o.key l; omega
theorem aps_len : ∀ {ops : List KOp} {l : List KPair}, Srt l → (aps l ops).length ≤ l.length + ops.length
  | [], l, _ => by rw [aps_nil]; simp
  | o :: ops, l, h => by
    rw [aps_cons]
    by_cases c : rightO o = true
    · rw [if_pos c]
      have h1 := aps_len (ops := ops) (apO_srt (o := o) h)
      have h2 := apO_len (o := o) h
      simp only [List.length_cons]; omega
    · rw [if_neg c]
      have h1 := aps_len (ops := ops) h
      simp only [List.length_cons]; omega
def eqLB : List KPair → List KPair → Bool
  | [], [] => true
  | p :: a, q :: b => ((p.key == q.key) && (p.val == q.val)) && eqLB a b
  | _, _ => false
theorem eqLB_iff : ∀ {a b : List KPair}, eqLB a b = true ↔ a = b
  | [], [] => by simp [eqLB]
  | [], q :: b => by simp [eqLB]
  | p :: a, [] => by simp [eqLB]
  | p :: a, q :: b => by
    obtain ⟨pk, pv⟩ := p
    obtain ⟨qk, qv⟩ := q
    unfold eqLB
    simp only [Bool.and_eq_true, beq_iff_eq, eqLB_iff, List.cons.injEq, KPair.mk.injEq]
theorem eqLB_ne {a b : List KPair} (h : ¬ a.length = b.length) : eqLB a b = false := by
  cases hq : eqLB a b
  · rfl
  · exact absurd (by rw [eqLB_iff.1 hq]) h
theorem eq98_loop (d : Nat) (f g : Bool) (a b : List KPair) (hl : a.length ≤ 1000) (he : a.length = b.length) (h : Heap) (Q : Res → Prop) : ∀ (n j k : Nat) (tg : Hid Q), a.length = j + n → n < k →
    Run (P25_0 d k f (prs a) g (prs b) (a.length : Int) j h) Q tg = Q ([.bool (eqLB (a.drop j) (b.drop j))], h) := by
  intro n
  induction n with
  | zero =>
    intro j k tg hj hk
    obtain ⟨k, rfl⟩ : ∃ m, k = m + 1 := ⟨k - 1, by omega⟩
    have hd : a.drop j = [] := List.drop_eq_nil_of_le (by omega)
    have hd' : b.drop j = [] := List.drop_eq_nil_of_le (by omega)
    rw [P25_0_eq, hd, hd']
    simp (disch := (first | assumption | (simp only [Bool.and_eq_true, Bool.and_eq_false_iff, decide_eq_true_eq, decide_eq_false_iff_not, bne_iff_ne, beq_iff_eq, beq_eq_false_iff_ne, bne_eq_false_iff_eq, Bool.not_eq_true', Bool.not_eq_false', bys_length, List.length_append, List.length_cons, List.length_nil, List.length_map, List.length_drop, List.length_take, Int.natCast_add, wrap_i64_eq, wrap_u64, wrap_u8, ne_eq, not_true_eq_false, not_false_eq_true, Nat.zero_add, Nat.mul_one] <;> omega) | omega | (simp; done) | (simp; omega))) only [↓CR, MC, ↓PR, MR, prs_length]
    rfl
  | succ n ih =>
    intro j k tg hj hk
    obtain ⟨k, rfl⟩ : ∃ m, k = m + 1 := ⟨k - 1, by omega⟩
    have h1 : j < a.length := by omega
    have h2 : j < b.length := by omega
    have e1 := succ_wrap (i := j) (by omega)
    have ih' := fun tg => ih (j + 1) k tg (by omega) (by omega)
    rw [P25_0_eq, List.drop_eq_getElem_cons h1, List.drop_eq_getElem_cons h2]
    unfold eqLB
    cases c1 : a[j].key == b[j].key
    · simp (disch := (first | assumption | (simp only [Bool.and_eq_true, Bool.and_eq_false_iff, decide_eq_true_eq, decide_eq_false_iff_not, bne_iff_ne, beq_iff_eq, beq_eq_false_iff_ne, bne_eq_false_iff_eq, Bool.not_eq_true', Bool.not_eq_false', bys_length, List.length_append, List.length_cons, List.length_nil, List.length_map, List.length_drop, List.length_take, Int.natCast_add, wrap_i64_eq, wrap_u64, wrap_u8, ne_eq, not_true_eq_false, not_false_eq_true, Nat.zero_add, Nat.mul_one] <;> omega) | omega | (simp; done) | (simp; omega))) only [↓CR, MC, ↓PR, MR, prs_length, prs_getD h1, prs_getD h2, plain39, Bool.and_self, c1, Bool.false_and, Bool.not_false]
    · cases c2 : a[j].val == b[j].val
      · simp (disch := (first | assumption | (simp only [Bool.and_eq_true, Bool.and_eq_false_iff, decide_eq_true_eq, decide_eq_false_iff_not, bne_iff_ne, beq_iff_eq, beq_eq_false_iff_ne, bne_eq_false_iff_eq, Bool.not_eq_true', Bool.not_eq_false', bys_length, List.length_append, List.length_cons, List.length_nil, List.length_map, List.length_drop, List.length_take, Int.natCast_add, wrap_i64_eq, wrap_u64, wrap_u8, ne_eq, not_true_eq_false, not_false_eq_true, Nat.zero_add, Nat.mul_one] <;> omega) | omega | (simp; done) | (simp; omega))) only [↓CR, MC, ↓PR, MR, prs_length, prs_getD h1, prs_getD h2, plain39, Bool.and_self, c1, c2, Bool.and_false, Bool.false_and, Bool.not_false]
      · simp (disch := (first | assumption | (simp only [Bool.and_eq_true, Bool.and_eq_false_iff, decide_eq_true_eq, decide_eq_false_iff_not, bne_iff_ne, beq_iff_eq, beq_eq_false_iff_ne, bne_eq_false_iff_eq, Bool.not_eq_true', Bool.not_eq_false', bys_length, List.length_append, List.length_cons, List.length_nil, List.length_map, List.length_drop, List.length_take, Int.natCast_add, wrap_i64_eq, wrap_u64, wrap_u8, ne_eq, not_true_eq_false, not_false_eq_true, Nat.zero_add, Nat.mul_one] <;> omega) | omega | (simp; done) | (simp; omega))) only [↓CR, MC, ↓PR, MR, prs_length, prs_getD h1, prs_getD h2, plain39, Bool.and_self, c1, c2, Bool.true_and, Bool.not_true, e1, ih']
theorem equal_run {d : Nat} {f g : Bool} {a b : List KPair} {h : Heap} {Q : Res → Prop} {tg : Hid Q} (hl : a.length ≤ 1000) : Run (evFn Cw (d + 2) 16 [.sl f 3 (prs a), .sl g 3 (prs b)] h) Q tg = Q ([.bool (eqLB a b)], h) := by
  have e : ∀ (Q : Res → Prop) (tg : Hid Q), Run (evFn Cw (d + 1) 25 [.sl f 3 (prs a), .sl g 3 (prs b)] h) Q tg = Q ([.bool (eqLB a b)], h) := fun Q tg => by
    rw [F25_eq]
    by_cases c : a.length = b.length
    · have := eq98_loop d f g a b hl c h Q a.length 0 rounds ⟨⟩ (by omega) (rounds_gt' (by omega))
      rw [List.drop_zero, List.drop_zero, e0] at this
      have c' : ((a.length : Int) != (b.length : Int)) = false := by simp [c]
      simp (disch := (first | assumption | (simp only [Bool.and_eq_true, Bool.and_eq_false_iff, decide_eq_true_eq, decide_eq_false_iff_not, bne_iff_ne, beq_iff_eq, beq_eq_false_iff_ne, bne_eq_false_iff_eq, Bool.not_eq_true', Bool.not_eq_false', bys_length, List.length_append, List.length_cons, List.length_nil, List.length_map, List.length_drop, List.length_take, Int.natCast_add, wrap_i64_eq, wrap_u64, wrap_u8, ne_eq, not_true_eq_false, not_false_eq_true, Nat.zero_add, Nat.mul_one] <;> omega) | omega | (simp; done) | (simp; omega))) only [↓CR, MC, ↓PR, MR, prs_length, c', this]
    · have c' : ((a.length : Int) != (b.length : Int)) = true := by simp; omega
      rw [eqLB_ne c]
      simp (disch := (first | assumption | (simp only [Bool.and_eq_true, Bool.and_eq_false_iff, decide_eq_true_eq, decide_eq_false_iff_not, bne_iff_ne, beq_iff_eq, beq_eq_false_iff_ne, bne_eq_false_iff_eq, Bool.not_eq_true', Bool.not_eq_false', bys_length, List.length_append, List.length_cons, List.length_nil, List.length_map, List.length_drop, List.length_take, Int.natCast_add, wrap_i64_eq, wrap_u64, wrap_u8, ne_eq, not_true_eq_false, not_false_eq_true, Nat.zero_add, Nat.mul_one] <;> omega) | omega | (simp; done) | (simp; omega))) only [↓CR, MC, ↓PR, MR, prs_length, c']
  rw [F16_eq]
  simp (disch := (first | assumption | (simp only [Bool.and_eq_true, Bool.and_eq_false_iff, decide_eq_true_eq, decide_eq_false_iff_not, bne_iff_ne, beq_iff_eq, beq_eq_false_iff_ne, bne_eq_false_iff_eq, Bool.not_eq_true', Bool.not_eq_false', bys_length, List.length_append, List.length_cons, List.length_nil, List.length_map, List.length_drop, List.length_take, Int.natCast_add, wrap_i64_eq, wrap_u64, wrap_u8, ne_eq, not_true_eq_false, not_false_eq_true, Nat.zero_add, Nat.mul_one] <;> omega) | omega | (simp; done) | (simp; omega))) only [↓CR, MC, ↓PR, MR, e]

/-! ### The table's calls, as the contracts make them -/
theorem newK_run (h : Heap) : ∃ h' i ti, h.ext h' ∧ IsTab h' i ti .nil ∧ ∀ (K : AVal → Heap → Tr Res) (Q : Res → Prop) (tg : Hid Q), Run (newK foldD h K) Q tg = Run (K (.obj i 0) h') Q ⟨⟩ := by
  obtain ⟨E, T⟩ := tabnew_is h
  refine ⟨_, _, _, E, T, fun K Q tg => ?_⟩
  have r : ∀ (Q : Res → Prop) (tg : Hid Q), Run (evFn Cw foldD 27 [] h) Q tg = Q ([.obj (h.objs.length + 1) 0], (h.push (trT .nil)).push (tabO h.objs.length 0)) := fun Q tg => tabnew_run (d := 39998)
  unfold newK
  simp (disch := (first | assumption | (simp only [Bool.and_eq_true, Bool.and_eq_false_iff, decide_eq_true_eq, decide_eq_false_iff_not, bne_iff_ne, beq_iff_eq, beq_eq_false_iff_ne, bne_eq_false_iff_eq, Bool.not_eq_true', Bool.not_eq_false', bys_length, List.length_append, List.length_cons, List.length_nil, List.length_map, List.length_drop, List.length_take, Int.natCast_add, wrap_i64_eq, wrap_u64, wrap_u8, ne_eq, not_true_eq_false, not_false_eq_true, Nat.zero_add, Nat.mul_one] <;> omega) | omega | (simp; done) | (simp; omega))) only [↓CR, MC, ↓PR, MR, r]
theorem applyK_run (i ti : Nat) (b : Bool) (ops : List KOp) (t : Nd) (h : Heap) (T : IsTab h i ti t) (hl : t.toL.length + ops.length ≤ 31000) :
    ∃ t' h', IsTab h' i ti t' ∧ t'.toL = aps t.toL ops ∧ ∀ (K : Heap → Tr Res) (Q : Res → Prop) (tg : Hid Q), Run (applyK foldD (.obj i 0) (.sl b 4 (kops ops)) h K) Q tg = Run (K h') Q ⟨⟩ := by
  obtain ⟨t', T', hL, r⟩ := tabapply_run 8979 i ti b ops t h T hl
  refine ⟨t', _, T', hL, fun K Q tg => ?_⟩
  have r' : ∀ (Q : Res → Prop) (tg : Hid Q), Run (evFn Cw foldD 28 [.obj i 0, .sl b 4 (kops ops)] h) Q tg = Q ([.int .i64 (cntO ops : Nat)], tabH h i ti t') := r
  unfold applyK
  simp (disch := (first | assumption | (simp only [Bool.and_eq_true, Bool.and_eq_false_iff, decide_eq_true_eq, decide_eq_false_iff_not, bne_iff_ne, beq_iff_eq, beq_eq_false_iff_ne, bne_eq_false_iff_eq, Bool.not_eq_true', Bool.not_eq_false', bys_length, List.length_append, List.length_cons, List.length_nil, List.length_map, List.length_drop, List.length_take, Int.natCast_add, wrap_i64_eq, wrap_u64, wrap_u8, ne_eq, not_true_eq_false, not_false_eq_true, Nat.zero_add, Nat.mul_one] <;> omega) | omega | (simp; done) | (simp; omega))) only [↓CR, MC, ↓PR, MR, r']
theorem pairsK_run (i ti : Nat) (t : Nd) (h : Heap) (T : IsTab h i ti t) :
    ∃ h', IsTab h' i ti t ∧ ∀ (K : Bool → Nat → List AVal → Heap → Tr Res) (Q : Res → Prop) (tg : Hid Q), Run (pairsK foldD (.obj i 0) h K) Q tg = Run (K false 3 (prs t.toL) h') Q ⟨⟩ := by
  obtain ⟨h', E, r⟩ := tabpairs_run 39993 i ti t h T
  refine ⟨h', T.ext E, fun K Q tg => ?_⟩
  have r' : ∀ (Q : Res → Prop) (tg : Hid Q), Run (evFn Cw foldD 19 [.obj i 0] h) Q tg = Q ([.sl false 3 (prs t.toL)], h') := r
  unfold pairsK
  simp (disch := (first | assumption | (simp only [Bool.and_eq_true, Bool.and_eq_false_iff, decide_eq_true_eq, decide_eq_false_iff_not, bne_iff_ne, beq_iff_eq, beq_eq_false_iff_ne, bne_eq_false_iff_eq, Bool.not_eq_true', Bool.not_eq_false', bys_length, List.length_append, List.length_cons, List.length_nil, List.length_map, List.length_drop, List.length_take, Int.natCast_add, wrap_i64_eq, wrap_u64, wrap_u8, ne_eq, not_true_eq_false, not_false_eq_true, Nat.zero_add, Nat.mul_one] <;> omega) | omega | (simp; done) | (simp; omega))) only [↓CR, MC, ↓PR, MR, r']
theorem equalK_run {f g : Bool} {a b : List KPair} {h : Heap} (hl : a.length ≤ 1000) (K : Bool → Heap → Tr Res) (Q : Res → Prop) (tg : Hid Q) : Run (equalK foldD (.sl f 3 (prs a)) (.sl g 3 (prs b)) h K) Q tg = Run (K (eqLB a b) h) Q ⟨⟩ := by
  have r : ∀ (Q : Res → Prop) (tg : Hid Q), Run (evFn Cw foldD 16 [.sl f 3 (prs a), .sl g 3 (prs b)] h) Q tg = Q ([.bool (eqLB a b)], h) := fun Q tg => equal_run (d := 39998) hl
  unfold equalK
  simp (disch := (first | assumption | (simp only [Bool.and_eq_true, Bool.and_eq_false_iff, decide_eq_true_eq, decide_eq_false_iff_not, bne_iff_ne, beq_iff_eq, beq_eq_false_iff_ne, bne_eq_false_iff_eq, Bool.not_eq_true', Bool.not_eq_false', bys_length, List.length_append, List.length_cons, List.length_nil, List.length_map, List.length_drop, List.length_take, Int.natCast_add, wrap_i64_eq, wrap_u64, wrap_u8, ne_eq, not_true_eq_false, not_false_eq_true, Nat.zero_add, Nat.mul_one] <;> omega) | omega | (simp; done) | (simp; omega))) only [↓CR, MC, ↓PR, MR, r]
end Go.Proofs.Ytbddfpakhealbaa.Wa
end

section
/- Which keys batches touch: the walk of Touched. -/
namespace Go.Proofs.Ytbddfpakhealbaa.Wa
open Go Go.RowKit Go.Maps Go.Weave
set_option maxRecDepth 100000
set_option linter.unusedSimpArgs false
set_option linter.unusedVariables false
set_option linter.unusedSectionVars false

/-! ### Worlds in which what lay is as it was -/
structure Up (w w' : World) : Prop where
  size : w.heap.size ≤ w'.heap.size
  io : w'.os = w.os ∧ w'.output = w.output
  low : ∀ b, b < w.heap.size → w'.heap[b]? = w.heap[b]?
theorem Up.refl (w : World) : Up w w := ⟨Nat.le_refl _, ⟨rfl, rfl⟩, fun _ _ => rfl⟩
theorem Up.trans {w w' w'' : World} (h1 : Up w w') (h2 : Up w' w'') : Up w w'' := ⟨Nat.le_trans h1.size h2.size, ⟨h2.io.1.trans h1.io.1, h2.io.2.trans h1.io.2⟩, fun b hb => (h2.low b (Nat.lt_of_lt_of_le hb h1.size)).trans (h1.low b hb)⟩
theorem Up.alloc (w : World) (o : Obj) : Up w (w.alloc o) := ⟨by simp, ⟨rfl, rfl⟩, fun b hb => Below.heap_alloc _ _ b hb⟩
theorem Up.grown {w w1 w2 : World} {row : Option Nat} (h : Up w w1) (hg : w1.grownBy w2 row) (hr : ∀ g, row = some g → w.heap.size ≤ g) : Up w w2 := ⟨Nat.le_trans h.size hg.size, ⟨hg.os.trans h.io.1, hg.output.trans h.io.2⟩, fun b hb => (hg.block b (Nat.lt_of_lt_of_le hb h.size) fun e => by have := hr b e.symm; omega).trans (h.low b hb)⟩
theorem Up.cell {w w' : World} (h : Up w w') {a : Addr} {v : Value} (hc : w.cell? a = some v) : w'.cell? a = some v := (World.cell?_of_block (h.low _ (World.block_lt_of_cell? w a hc))).trans hc
/-! ### What is given -/
def btf (L : List (Bool × List KOp)) : List AVal := L.map fun p => AVal.sl p.1 4 (kops p.2)
theorem btf_length (L : List (Bool × List KOp)) : (btf L).length = L.length := by simp [btf]
theorem row_at {c : Ctx} {x : Option Addr} {cp : Nat} {f : Bool} {L : List (Bool × List KOp)} (h : Rep c (.slice x L.length cp) (.sl f 0 (btf L))) {i : Nat} (hi : i < L.length) :
    ∃ b off x' cp', x = some ⟨b, off, none⟩ ∧ c.w.cell? ⟨b, off + i, none⟩ = some (.slice x' L[i].2.length cp') ∧ Rep c (.slice x' L[i].2.length cp') (.sl L[i].1 4 (kops L[i].2)) := by
  obtain ⟨b, off, fv, hx, hc, hr⟩ := el_at (btf_length L).symm h (i := i) (by rw [btf_length]; exact hi)
  have e : (btf L)[i]'(by rw [btf_length]; exact hi) = .sl L[i].1 4 (kops L[i].2) := by simp [btf]
  rw [e] at hr
  obtain ⟨x', cp', rfl⟩ := sl_value hr
  rw [kops_length] at hc hr
  exact ⟨b, off, x', cp', hx, hc, hr⟩
theorem op_at {c : Ctx} {x : Option Addr} {n cp : Nat} {f : Bool} {O : List KOp} (h : Rep c (.slice x n cp) (.sl f 4 (kops O))) {j : Nat} (hj : j < O.length) :
    ∃ b off, x = some ⟨b, off, none⟩ ∧ c.w.cell? ⟨b, off + j * 3, none⟩ = some (.int .i64 O[j].kind) ∧ c.w.cell? ⟨b, off + j * 3 + 1, none⟩ = some (.string ⟨O[j].key.toArray⟩) ∧ c.w.cell? ⟨b, off + j * 3 + 2, none⟩ = some (.string ⟨O[j].val.toArray⟩) := by
  rcases h.slInv with ⟨x, e, e2⟩ | ⟨b, off, cap, e, hat⟩
  · have : (kops O).length = 0 := by rw [e2]; rfl
    rw [kops_length] at this
    omega
  · obtain ⟨hcap, hf, lim, g, hk, hl, he, hc, hr⟩ := hat
    have hj' : j < (kops O).length := by rw [kops_length]; exact hj
    have hstr : ∀ {v : Value} {s : List UInt8}, Rep c v (.str s) → v = .string ⟨s.toArray⟩ := fun {v s} h => by
      generalize hq : AVal.str s = q at h
      cases h with
      | str s' => cases hq; rfl
      | _ => cases hq
    have c0 := hc j 0 hj' (by decide)
    have c1 := hc j 1 hj' (by decide)
    have c2 := hc j 2 hj' (by decide)
    have r0 := hr j 0 hj' (by decide)
    have r1 := hr j 1 hj' (by decide)
    have r2 := hr j 2 hj' (by decide)
    rw [kops_getD hj] at r0 r1 r2
    have k0 : g j 0 = .int .i64 O[j].kind := rep_int r0
    have k1 : g j 1 = .string ⟨O[j].key.toArray⟩ := hstr r1
    have k2 : g j 2 = .string ⟨O[j].val.toArray⟩ := hstr r2
    rw [k0] at c0; rw [k1] at c1; rw [k2] at c2
    exact ⟨b, off, by cases e; rfl, c0, c1, c2⟩
/-- A right operation? -/
theorem right_calls (w : World) (o : KOp) : Calls Try.prog 23 #[.agg #[.int .i64 o.kind, .string ⟨o.key.toArray⟩, .string ⟨o.val.toArray⟩]] w fun e w' => e = .returned (.bool (rightO o)) ∧ Up w w' := by
  have L : Live Cw.P (⟨w, 0, fun _ => 0, fun _ => none⟩ : Ctx) (fun _ => none) ⟨[]⟩ := ⟨⟨rfl, fun id o h => (by simp at h), fun id h => (by cases h), fun _ _ h => (by cases h)⟩, ⟨fun _ _ h => (by cases h), fun _ _ h => (by cases h), fun _ _ _ h => (by cases h), fun _ _ h => (by cases h), fun _ _ _ h => (by cases h)⟩, fun id kt es c h => (by simp at h), fun _ => rfl⟩
  have hq : (evFn Cw 1 23 [.agg [.int .i64 o.kind, .str o.key, .str o.val]] ⟨[]⟩).All fun r => r = ([.bool (rightO o)], ⟨[]⟩) := by
    have := opright_run (d := 0) (o := o) (h := ⟨[]⟩) (Q := fun r => r = ([.bool (rightO o)], ⟨[]⟩)) (tg := ⟨⟩)
    rw [run_eq] at this
    rw [this]
  refine (call_live (callA 1 ⟨w, 0, fun _ => 0, fun _ => none⟩) hq (Ctx.le_refl _) L (by rfl) rfl (fun j hj => by
    match j, hj with
    | 0, _ =>
      refine Rep.agg #[.int .i64 o.kind, .string ⟨o.key.toArray⟩, .string ⟨o.val.toArray⟩] _ rfl (fun x hx => ?_) fun j hj => ?_
      · simp at hx; rcases hx with rfl | rfl | rfl <;> rfl
      · match j, hj with
        | 0, _ => exact Rep.int _ _
        | 1, _ => exact Rep.str ⟨o.key.toArray⟩
        | 2, _ => exact Rep.str ⟨o.val.toArray⟩)).mono ?_
  rintro e w' ⟨xs, c', β', r, rfl, rfl, L', k, hs, hr, rfl⟩
  obtain ⟨v, rfl⟩ : ∃ v, xs = #[v] := Array.size_eq_one_iff.1 hs
  have hv : Rep c' v (.bool (rightO o)) := hr 0 (by simp)
  obtain rfl := rep_bool hv
  refine ⟨rfl, k.size, k.io, fun b hb => (k.same b ⟨hb, fun h => ?_⟩).1⟩
  rcases h with ⟨id, h, _⟩ | ⟨id, o, h⟩
  · cases h
  · cases h
end Go.Proofs.Ytbddfpakhealbaa.Wa
end

section
/- Touched: what one operation does to the map and to the row. -/
namespace Go.Proofs.Ytbddfpakhealbaa.Wa
open Go Go.RowKit Go.Maps Go.Weave
set_option maxRecDepth 100000
set_option linter.unusedSimpArgs false
set_option linter.unusedVariables false
set_option linter.unusedSectionVars false

theorem tinfo9 : (Try.prog.info? 9).map (fun i => (i.zero, i.size, i.bytes)) = some (some (.string ⟨#[]⟩), 1, 16) := by kernel_rfl
theorem tzero3 (w : World) : (zeroValue 3).run Try.prog w = .ok (.int .i64 0) w := by kernel_rfl
/-- The keys met, in the order in which they came. -/
def tkO (ks : List (List UInt8)) (o : KOp) : List (List UInt8) := if rightO o then (if o.key ∈ ks then ks else ks ++ [o.key]) else ks
def tks (ks : List (List UInt8)) (O : List KOp) : List (List UInt8) := O.foldl tkO ks
def tkL (ks : List (List UInt8)) (L : List (Bool × List KOp)) : List (List UInt8) := L.foldl (fun ks p => tks ks p.2) ks
abbrev TMap (w : World) (b T : Nat) (D : DataW Unit) : Prop := w.ownsMap Try.prog 9 (plainElem Try.prog 3) b T D
/-- How often each key was met. -/
def Cnts (D : DataW Unit) (ks : List (List UInt8)) (T : Nat) : Prop := IsMap D ∧ ∀ key : List UInt8, ∃ c : Int, D.atKey (.string key) (.lit (.int .i64 0)) = .lit (.int .i64 c) ∧ 0 ≤ c ∧ c ≤ T ∧ (c = 0 ↔ key ∉ ks)
structure TI (w : World) (wr : World) (v : Value) (ks : List (List UInt8)) (T : Nat) : Prop where
  map : ∃ D, TMap wr w.heap.size T D ∧ Cnts D ks T
  row : wr.ownsRow (w.heap.size + 1) 9 1 v ks.length (ks.map encStr)
  up : Up w wr
  size : w.heap.size + 1 ≤ wr.heap.size
  len : ks.length ≤ T
theorem TI.start (w : World) : TI w (w.alloc (.map #[] 0)) (.slice none 0 0) [] 0 := by
  refine ⟨⟨.map [], World.ownsMap_made _ _ _ _, ⟨⟨[], rfl⟩, fun key => ⟨0, rfl, Int.le_refl _, Int.le_refl _, ?_⟩⟩⟩, World.ownsRow_nil _ _ _ _, Up.alloc _ _, by simp, Nat.le_refl _⟩
  simp
theorem tmap_of {w w' : World} {b T : Nat} {D : DataW Unit} (h : TMap w b T D) (hb : w'.heap[b]? = w.heap[b]?) : TMap w' b T D := by
  obtain ⟨es, clock, h1, h2⟩ := h
  exact ⟨es, clock, hb.trans h1, h2⟩
theorem row_lt {w : World} {base size n : Nat} {e : TypeId} {v : Value} {xs : List Value} (h : w.ownsRow base e size v n xs) {g : Nat} (hg : v.ownBlock = some g) : g < w.heap.size := by
  rcases h.2 with ⟨rfl, _⟩ | ⟨g', cap, cur, rfl, h1, h2, h3⟩
  · cases hg
  · cases hg; exact (Array.getElem?_eq_some_iff.1 h2).1
theorem TI.more {w wr wr' : World} {v : Value} {ks : List (List UInt8)} {T : Nat} (h : TI w wr v ks T) (hu : Up wr wr') : TI w wr' v ks T := by
  obtain ⟨D, h1, h2⟩ := h.map
  have hs := h.size
  exact ⟨⟨D, tmap_of h1 (hu.low _ (by omega)), h2⟩, ownsRow_of h.row fun g hg => hu.low g (row_lt h.row hg), h.up.trans hu, Nat.le_trans hs hu.size, h.len⟩
theorem Cnts.mono {D : DataW Unit} {ks : List (List UInt8)} {T T' : Nat} (h : Cnts D ks T) (hT : T ≤ T') : Cnts D ks T' := ⟨h.1, fun key => by
  obtain ⟨c, h1, h2, h3, h4⟩ := h.2 key
  exact ⟨c, h1, h2, by omega, h4⟩⟩
theorem TI.mono {w wr : World} {v : Value} {ks : List (List UInt8)} {T T' : Nat} (h : TI w wr v ks T) (hT : T ≤ T') : TI w wr v ks T' := by
  obtain ⟨D, h1, h2⟩ := h.map
  exact ⟨⟨D, h1.mono hT, h2.mono hT⟩, h.row, h.up, h.size, Nat.le_trans h.len hT⟩
def appOp9 (ats : Array TypeId) (ty : TypeId) (args : Array Value) : Sem Value := Builtin.append_ ats ty args
theorem builtin_app9 (ats : Array TypeId) (ty : TypeId) (args : Array Value) : Builtin.append_ ats ty args = appOp9 ats ty args := rfl
theorem TI.step {w wr : World} {v : Value} {ks : List (List UInt8)} {T : Nat} (h : TI w wr v ks T) {o : KOp} (hr : rightO o = true) (hT : T ≤ 100000) {w' : World}
    (hup : Up (wr.alloc (.cells #[.int .i64 o.kind, .string ⟨o.key.toArray⟩, .string ⟨o.val.toArray⟩] 44)) w') :
    ∃ (c : Int) (w3 : World), 0 ≤ c ∧ c ≤ 100000 ∧ (Instr.lookup 53 (.map (some w.heap.size)) (.string ⟨o.key.toArray⟩) false).run Try.prog w' = .ok (.int .i64 c) w' ∧ w'.cell? ⟨wr.heap.size, 1, none⟩ = some (.string ⟨o.key.toArray⟩) ∧
      (Instr.mapUpdate 53 (.map (some w.heap.size)) (.string ⟨o.key.toArray⟩) (.int .i64 (c + 1))).run Try.prog w' = .ok () w3 ∧ w3.cell? ⟨wr.heap.size, 1, none⟩ = some (.string ⟨o.key.toArray⟩) ∧
      (Instr.lookup 53 (.map (some w.heap.size)) (.string ⟨o.key.toArray⟩) false).run Try.prog w3 = .ok (.int .i64 (c + 1)) w3 ∧
      (c ≠ 0 → tkO ks o = ks ∧ TI w w3 v ks (T + 1)) ∧
      (c = 0 → tkO ks o = ks ++ [o.key] ∧ ∃ v' w5, (appOp9 #[34, 34] 34 #[v, .slice (some ⟨w3.heap.size, 0, none⟩) 1 1]).run Try.prog (w3.alloc (.cells #[.string ⟨o.key.toArray⟩] 9)) = .ok v' w5 ∧ TI w w5 v' (ks ++ [o.key]) (T + 1)) := by
  have h' := (h.more (Up.alloc _ _)).more hup
  have hlb : w'.cell? ⟨wr.heap.size, 1, none⟩ = some (.string ⟨o.key.toArray⟩) := hup.cell (by simp only [World.cell?, World.alloc_heap_new]; rfl)
  have hlbs := World.block_lt_of_cell? w' ⟨wr.heap.size, 1, none⟩ hlb
  obtain ⟨D, hm, hc⟩ := h'.map
  have hkl : o.key.length ≤ 24 := by
    unfold rightO at hr
    simp only [Bool.and_eq_true, decide_eq_true_eq] at hr
    omega
  have hkey : keyOf Try.prog 9 (.string ⟨o.key.toArray⟩) = some (.string o.key) := by
    have := WideMaps.keyOf_string_mk (P := Try.prog) Try.underlying9 (s := ⟨o.key.toArray⟩) (by show o.key.toArray.size ≤ maxLen; simp [maxLen]; omega)
    simpa using this
  have K : Keyed Try.prog 9 := string_keyed Try.underlying9
  obtain ⟨c, hrun, hat, hwf⟩ := hm.lookup_int K Try.underlying53 Try.underlying3 (tzero3 w') hkey
  obtain ⟨c', hat', c0, c1, c2⟩ := hc.2 o.key
  have hcc : c' = c := by
    have := hat'.symm.trans hat
    simpa using this
  subst hcc
  obtain ⟨w3, hrun2, hm3, hg3⟩ := hm.update K Try.underlying53 (by simp [maxLen]; omega) hkey (val := .int .i64 (c' + 1)) (plainElem_int Try.underlying3 (WalkArith.wf_i64 (n := c' + 1) ⟨by omega, by omega⟩))
  have hik := K.key hkey
  have hat3 : (D.put (.string o.key) (.lit (.int .i64 (c' + 1)))).atKey (.string o.key) (.lit (.int .i64 0)) = .lit (.int .i64 (c' + 1)) := atKey_put_same hc.1 hik _ _
  have hne3 : w.heap.size ≠ wr.heap.size := by have := h.size; omega
  have hlb3 : w3.cell? ⟨wr.heap.size, 1, none⟩ = some (.string ⟨o.key.toArray⟩) := (World.cell?_of_block (hg3.block _ hlbs (by simp; omega))).trans hlb
  have hup3 : Up w w3 := h'.up.grown hg3 fun g hg => by cases hg; exact Nat.le_refl _
  have hrow3 : w3.ownsRow (w.heap.size + 1) 9 1 v ks.length (ks.map encStr) := ownsRow_of h'.row fun g hg => hg3.block g (row_lt h'.row hg) (by have := ownsRow_ge h'.row hg; simp; omega)
  have hs3 : w.heap.size + 1 ≤ w3.heap.size := Nat.le_trans h'.size hg3.size
  have hcn : ∀ ks', (∀ key, key ∈ ks' ↔ key ∈ ks ∨ key = o.key) → Cnts (D.put (.string o.key) (.lit (.int .i64 (c' + 1)))) ks' (T + 1) := fun ks' hks => by
    refine ⟨?_, fun key => ?_⟩
    · obtain ⟨es, rfl⟩ := hc.1
      exact ⟨_, rfl⟩
    · by_cases e : key = o.key
      · subst e
        exact ⟨c' + 1, hat3, by omega, by omega, by constructor <;> intro h <;> first | omega | exact absurd ((hks _).2 (.inr rfl)) h⟩
      · obtain ⟨c4, g1, g2, g3, g4⟩ := hc.2 key
        refine ⟨c4, ?_, g2, by omega, ?_⟩
        · rw [atKey_put_other (fun h => e (by simpa using h))]; exact g1
        · rw [g4, hks]; simp [e]
  obtain ⟨c5, hrun3, hat5, _⟩ := hm3.lookup_int K Try.underlying53 Try.underlying3 (tzero3 w3) hkey
  have hc5 : c' + 1 = c5 := by
    have := hat3.symm.trans hat5
    simpa using this
  subst hc5
  refine ⟨c', w3, c0, by omega, hrun, hlb, hrun2, hlb3, hrun3, fun hne => ?_, fun hz => ?_⟩
  · have hin : o.key ∈ ks := by
      apply Classical.byContradiction
      intro hn
      exact hne (c2.2 hn)
    refine ⟨by unfold tkO; rw [if_pos hr, if_pos hin], ⟨⟨_, hm3, hcn ks fun key => ?_⟩, hrow3, hup3, hs3, Nat.le_succ_of_le h.len⟩⟩
    constructor
    · exact .inl
    · rintro (h | rfl)
      · exact h
      · exact hin
  · have hin : o.key ∉ ks := c2.1 hz
    obtain ⟨i0, hi, hz0, hz1, hz2⟩ := info_parts tinfo9
    have hlen := h.len
    obtain ⟨v', w5, hrun4, hown, hgrow, hnil, hwhere⟩ := run_append_own_at (P := Try.prog) (w := w3.alloc (.cells #[.string ⟨o.key.toArray⟩] 9)) (w.heap.size + 1) 34 34 9 i0 (.string ⟨#[]⟩) 1 16 Try.underlying34 hi hz0 hz1 hz2 rfl (by decide) v ks.length (ks.map encStr) (hrow3.alloc _) ⟨w3.heap.size, 0, none⟩ 1 1 [.string ⟨o.key.toArray⟩] rfl (cell_one_new _ _ _) (by simp [Value.oneCell']) (by simp only [maxLen]; omega) (by omega) (by simp; omega)
    have hm5 : TMap w5 w.heap.size (T + 1) (D.put (.string o.key) (.lit (.int .i64 (c' + 1)))) := tmap_of hm3 (by
      rw [hgrow.block _ (by simp; omega) (fun e => by have := ownsRow_ge hrow3 e.symm; omega)]
      exact Below.heap_alloc _ _ _ (by omega))
    refine ⟨by unfold tkO; rw [if_pos hr, if_neg hin], v', w5, hrun4, ⟨⟨_, hm5, hcn _ fun key => by simp⟩, ?_, ?_, ?_, ?_⟩⟩
    · rw [List.length_append, List.map_append]
      exact hown
    · exact (hup3.trans (Up.alloc _ _)).grown hgrow fun g hg => by have := ownsRow_ge hrow3 hg; omega
    · have := hgrow.size; simp at this; omega
    · rw [List.length_append]; simp; omega
theorem TI.skip {w wr : World} {v : Value} {ks : List (List UInt8)} {T : Nat} (h : TI w wr v ks T) {o : KOp} (hr : rightO o = false) {ob : Obj} {w' : World} (hup : Up (wr.alloc ob) w') : tkO ks o = ks ∧ TI w w' v ks (T + 1) :=
  ⟨by unfold tkO; rw [hr]; rfl, ((h.more (Up.alloc _ _)).more hup).mono (Nat.le_succ _)⟩
theorem tks_snoc {ks : List (List UInt8)} {O : List KOp} {j : Nat} (h : j < O.length) : tks ks (O.take (j + 1)) = tkO (tks ks (O.take j)) O[j] := by
  unfold tks
  rw [List.take_succ_eq_append_getElem h, List.foldl_append]
  rfl
theorem tkL_snoc {L : List (Bool × List KOp)} {i : Nat} (h : i < L.length) : tkL [] (L.take (i + 1)) = tks (tkL [] (L.take i)) L[i].2 := by
  unfold tkL
  rw [List.take_succ_eq_append_getElem h, List.foldl_append]
  rfl
end Go.Proofs.Ytbddfpakhealbaa.Wa
end

section
/- Touched: the walk. -/
namespace Go.Proofs.Ytbddfpakhealbaa.Wa
open Go Go.RowKit Go.Maps Go.Weave
set_option maxRecDepth 100000
set_option linter.unusedSimpArgs false
set_option linter.unusedVariables false
set_option linter.unusedSectionVars false

theorem right_t (w : World) (o : KOp) {b : Bool} (h : rightO o = b) : Calls Try.prog 23 #[.agg #[.int .i64 o.kind, .string ⟨o.key.toArray⟩, .string ⟨o.val.toArray⟩]] w fun e w' => e = .returned (.bool b) ∧ Up w w' := h ▸ right_calls w o
theorem TI.stepNew {w wr : World} {v : Value} {ks : List (List UInt8)} {T : Nat} (h : TI w wr v ks T) {o : KOp} (hr : rightO o = true) (hk : o.key ∉ ks) (hT : T ≤ 100000) {w' : World}
    (hup : Up (wr.alloc (.cells #[.int .i64 o.kind, .string ⟨o.key.toArray⟩, .string ⟨o.val.toArray⟩] 44)) w') :
    ∃ (w3 : World) (v' : Value) (w5 : World), (Instr.lookup 53 (.map (some w.heap.size)) (.string ⟨o.key.toArray⟩) false).run Try.prog w' = .ok (.int .i64 0) w' ∧ w'.cell? ⟨wr.heap.size, 1, none⟩ = some (.string ⟨o.key.toArray⟩) ∧
      (Instr.mapUpdate 53 (.map (some w.heap.size)) (.string ⟨o.key.toArray⟩) (.int .i64 1)).run Try.prog w' = .ok () w3 ∧ w3.cell? ⟨wr.heap.size, 1, none⟩ = some (.string ⟨o.key.toArray⟩) ∧
      (Instr.lookup 53 (.map (some w.heap.size)) (.string ⟨o.key.toArray⟩) false).run Try.prog w3 = .ok (.int .i64 1) w3 ∧
      (appOp9 #[34, 34] 34 #[v, .slice (some ⟨w3.heap.size, 0, none⟩) 1 1]).run Try.prog (w3.alloc (.cells #[.string ⟨o.key.toArray⟩] 9)) = .ok v' w5 ∧ TI w w5 v' (tkO ks o) (T + 1) := by
  obtain ⟨c, w3, g0, g1, r1, l1, r2, l3, r3, hne, hz⟩ := h.step hr hT hup
  have hc : c = 0 := by
    apply Classical.byContradiction
    intro hc
    have h1 := (hne hc).1
    unfold tkO at h1
    rw [if_pos hr, if_neg hk] at h1
    simp at h1
  subst hc
  obtain ⟨e, v', w5, r4, h5⟩ := hz rfl
  rw [Int.zero_add] at r2 r3
  exact ⟨w3, v', w5, r1, l1, r2, l3, r3, r4, by rw [e]; exact h5⟩
theorem TI.stepOld {w wr : World} {v : Value} {ks : List (List UInt8)} {T : Nat} (h : TI w wr v ks T) {o : KOp} (hr : rightO o = true) (hk : o.key ∈ ks) (hT : T ≤ 100000) {w' : World}
    (hup : Up (wr.alloc (.cells #[.int .i64 o.kind, .string ⟨o.key.toArray⟩, .string ⟨o.val.toArray⟩] 44)) w') :
    ∃ (c : Int) (w3 : World), 1 ≤ c ∧ c ≤ 100000 ∧ (Instr.lookup 53 (.map (some w.heap.size)) (.string ⟨o.key.toArray⟩) false).run Try.prog w' = .ok (.int .i64 c) w' ∧ w'.cell? ⟨wr.heap.size, 1, none⟩ = some (.string ⟨o.key.toArray⟩) ∧
      (Instr.mapUpdate 53 (.map (some w.heap.size)) (.string ⟨o.key.toArray⟩) (.int .i64 (c + 1))).run Try.prog w' = .ok () w3 ∧ w3.cell? ⟨wr.heap.size, 1, none⟩ = some (.string ⟨o.key.toArray⟩) ∧
      (Instr.lookup 53 (.map (some w.heap.size)) (.string ⟨o.key.toArray⟩) false).run Try.prog w3 = .ok (.int .i64 (c + 1)) w3 ∧ TI w w3 v (tkO ks o) (T + 1) := by
  obtain ⟨c, w3, g0, g1, r1, l1, r2, l3, r3, hne, hz⟩ := h.step hr hT hup
  have hc : c ≠ 0 := fun hc => by
    have h1 := (hz hc).1
    unfold tkO at h1
    rw [if_pos hr, if_pos hk] at h1
    simp at h1
  obtain ⟨e, h5⟩ := hne hc
  exact ⟨c, w3, by omega, g1, r1, l1, r2, l3, r3, by rw [e]; exact h5⟩
attribute [local go_sem ↓] builtin_app9
set_option maxHeartbeats 2000000 in
theorem touched_any (c : Ctx) (x : Option Addr) (cp : Nat) (f : Bool) (L : List (Bool × List KOp)) (rl : Rep c (.slice x L.length cp) (.sl f 0 (btf L))) (h1 : L.length ≤ 100) (h2 : ∀ p ∈ L, p.2.length ≤ 100) :
    Calls Try.prog 12 #[.slice x L.length cp] c.w fun e w' => ∃ v, e = .returned v ∧ w'.ownsRow (c.w.heap.size + 1) 9 1 v (tkL [] L).length (((tkL [] L).mergeSort fun x y => decide (x ≤ y)).map encStr) ∧ Up c.w w' := by
  have hmm := @run_makeMap Try.prog
  go_enter Try.func12, Try.ntmps12
  go_wp2
  go_loopw [4, 12] (fun v4 v12 wr => ∃ (i : Nat), v12 = .int .i64 i ∧ i ≤ L.length ∧ ∃ T, T ≤ 100 * i ∧ TI c.w wr v4 (tkL [] (L.take i)) T)
    (fun _ v _ => L.length - (RowKit.intOf v).toNat)
  case atStart => exact ⟨0, rfl, Nat.zero_le _, 0, Nat.le_refl _, TI.start _⟩
  case round =>
    obtain ⟨i, rfl, hi, T, hT, hTI⟩ := hrel
    by_cases hlt : i < L.length
    · obtain ⟨b, off, x', cp', rfl, hce, hrr⟩ := row_at rl hlt
      have hO := h2 _ (List.getElem_mem hlt)
      have hce' := hTI.up.cell hce
      go_wp2
      go_loopw [4, 18] (fun v4 v18 wr2 => ∃ (j : Nat), v18 = .int .i64 j ∧ j ≤ L[i].2.length ∧ ∃ T, T ≤ 100 * i + j ∧ TI c.w wr2 v4 (tks (tkL [] (L.take i)) (L[i].2.take j)) T)
        (fun _ v _ => L[i].2.length - (RowKit.intOf v).toNat)
      case atStart => exact ⟨0, rfl, Nat.zero_le _, T, by omega, hTI⟩
      case round =>
        obtain ⟨j, rfl, hj, T2, hT2, hTI2⟩ := hrel
        by_cases hjt : j < L[i].2.length
        · obtain ⟨b2, off2, rfl, d0, d1, d2⟩ := op_at hrr hjt
          have d0' := hTI2.up.cell d0
          have d1' := hTI2.up.cell d1
          have d2' := hTI2.up.cell d2
          have hT3 : T2 ≤ 100000 := by omega
          have hsn := tks_snoc (ks := tkL [] (L.take i)) hjt
          generalize L[i].2[j] = o at *
          by_cases hro : rightO o = true
          · by_cases hk : o.key ∈ tks (tkL [] (L.take i)) (L[i].2.take j)
            · go_wp2_with (go_at_call 23; refine (right_t _ o hro).mono ?_; rintro e w' ⟨rfl, hup⟩; obtain ⟨c1, w3, g0, g1, r1, l1, r2, l3, r3, h5⟩ := hTI2.stepOld hro hk hT3 hup)
              refine ⟨⟨j + 1, by go_num, by omega, T2 + 1, by omega, ?_⟩, by simp [RowKit.intOf]; omega⟩
              rw [hsn]; exact h5
            · go_wp2_with (go_at_call 23; refine (right_t _ o hro).mono ?_; rintro e w' ⟨rfl, hup⟩; obtain ⟨w3, v', w5, r1, l1, r2, l3, r3, r4, h5⟩ := hTI2.stepNew hro hk hT3 hup)
              refine ⟨⟨j + 1, by go_num, by omega, T2 + 1, by omega, ?_⟩, by simp [RowKit.intOf]; omega⟩
              rw [hsn]; exact h5
          · have hro' : rightO o = false := by simpa using hro
            go_wp2_with (go_at_call 23; refine (right_t _ o hro').mono ?_; rintro e w' ⟨rfl, hup⟩)
            obtain ⟨e, h5⟩ := hTI2.skip hro' hup
            refine ⟨⟨j + 1, by go_num, by omega, T2 + 1, by omega, ?_⟩, by simp [RowKit.intOf]; omega⟩
            rw [hsn, e]; exact h5
        · have ej : L[i].2.take j = L[i].2 := List.take_of_length_le (by omega)
          rw [ej] at hTI2
          go_wp2
          refine ⟨⟨i + 1, by go_num, by omega, T2, by omega, ?_⟩, by simp [RowKit.intOf]; omega⟩
          rw [tkL_snoc hlt]; exact hTI2
    · have ei : L.take i = L := List.take_of_length_le (by omega)
      rw [ei] at hTI
      have hlen := hTI.len
      have hup := hTI.up
      generalize hks : tkL [] L = ks at *
      rcases hTI.row.2 with ⟨hnil, hl0⟩ | ⟨g, cap, cur, hv, hbase, hb, g1, g2, g3, g4⟩
      · subst hnil
        have he : ks = [] := List.length_eq_zero_iff.1 hl0
        subst he
        go_wp2_with (go_at_call 24; refine (sort_nil _).mono ?_; rintro e w' ⟨rfl, rfl⟩)
        go_ret
        exact ⟨.slice none 0 0, rfl, by rw [hks, List.mergeSort_nil]; exact World.ownsRow_nil _ _ _ _, hup⟩
      · subst hv
        have hH : Go.Sort.Holds encStr wr g 0 ks.toArray := holds_of_block hb (by simpa using g4)
        have hgl : g < wr.heap.size := (Array.getElem?_eq_some_iff.1 hb).1
        have HH : Hid (Go.Sort.Holds encStr wr g 0 ks.toArray) := hH
        have HG : Hid (g < wr.heap.size) := hgl
        clear hH g4 hTI
        go_wp2_with (go_at_call 24; refine (sort_some g cap ks wr HH.out HG.out (by omega)).mono ?_; rintro e w' ⟨rfl, nn, os, rfl⟩)
        go_ret
        exact ⟨_, rfl, by rw [hks]; exact ownsRow_sorted (by simp) hbase hb g1 g2 g3, hup.grown (grownBy_sorted _) (fun j hj => by cases hj; omega)⟩
end Go.Proofs.Ytbddfpakhealbaa.Wa
end

section
/- What After, States, Find come to. -/
namespace Go.Proofs.Ytbddfpakhealbaa.Wa
open Go Go.Weave
set_option maxRecDepth 100000
set_option linter.unusedSimpArgs false
set_option linter.unusedVariables false
set_option linter.unusedSectionVars false

/-- Batches, as the law has them. -/
def bts (b : Bool) (L : List (List KOp)) : List AVal := L.map fun o => AVal.sl b 4 (kops o)
theorem bts_length (b : Bool) (L : List (List KOp)) : (bts b L).length = L.length := by simp [bts]
theorem bts_getD {b : Bool} {L : List (List KOp)} {i : Nat} (h : i < L.length) : (bts b L).getD i .undef = .sl b 4 (kops L[i]) := by simp [bts, h]
/-- The pairs behind batches. -/
def folds (l : List KPair) (L : List (List KOp)) : List KPair := L.foldl aps l
theorem folds_cons (l : List KPair) (o : List KOp) (L : List (List KOp)) : folds l (o :: L) = folds (aps l o) L := rfl
/-- All states, from a state on. -/
def scn : List KPair → List (List KOp) → List (List KPair)
  | l, [] => [l]
  | l, o :: L => l :: scn (aps l o) L
/-- From which state on there are just these pairs. -/
def fnd (m : Int) (x : List KPair) : Nat → List KPair → List (List KOp) → Int
  | k, l, [] => if m ≤ (k : Int) ∧ eqLB l x = true then (k : Int) else -1
  | k, l, o :: L => if m ≤ (k : Int) ∧ eqLB l x = true then (k : Int) else fnd m x (k + 1) (aps l o) L
noncomputable def yA (m : Int) : Nat → AVal → Heap → Unit → (Unit → Heap → Tr Res) → Tr Res := fun k t h _ K => bif decide ((k : Int) = m) then pairsK foldD t h (fun f sz ps h' => .ret ([.sl f sz ps], h')) else K () h
noncomputable def fA : Unit → Heap → Tr Res := fun _ _ => .fail
theorem afterT_eq (es : List AVal) (n : Int) (h : Heap) : afterT foldD es n h = newK foldD h fun t h' => iterT foldD (yA (max 0 (min n es.length))) fA es t 0 () h' := rfl
theorem after_iter (i ti : Nat) (b : Bool) (m : Nat) : ∀ (L : List (List KOp)) (k : Nat) (t : Nd) (h : Heap), IsTab h i ti t → k ≤ m → m ≤ k + L.length → t.toL.length + 30 * L.length ≤ 1000 → (∀ o ∈ L, o.length ≤ 30) →
    ∃ h', ∀ (Q : Res → Prop) (tg : Hid Q), Run (iterT foldD (yA m) fA (bts b L) (.obj i 0) k () h) Q tg = Q ([.sl false 3 (prs (folds t.toL (L.take (m - k))))], h') := by
  intro L
  induction L with
  | nil =>
    intro k t h T h1 h2 h3 h4
    obtain rfl : k = m := by simp at h2; omega
    obtain ⟨h', T', r⟩ := pairsK_run i ti t h T
    have c : decide ((k : Int) = (k : Int)) = true := by simp
    refine ⟨h', fun Q tg => ?_⟩
    show Run (yA k k (.obj i 0) h () fA) Q tg = _
    unfold yA
    rw [at_cond_t c, r, at_ret, Nat.sub_self]
    rfl
  | cons o L ih =>
    intro k t h T h1 h2 h3 h4
    by_cases e : k = m
    · subst e
      obtain ⟨h', T', r⟩ := pairsK_run i ti t h T
      have c : decide ((k : Int) = (k : Int)) = true := by simp
      refine ⟨h', fun Q tg => ?_⟩
      rw [iterT_eq]
      unfold yA
      rw [at_cond_t c, r, at_ret, Nat.sub_self]
      rfl
    · have ho := h4 o List.mem_cons_self
      simp only [List.length_cons] at h2 h3
      obtain ⟨t', h', T', hL, r⟩ := applyK_run i ti b o t h T (by omega)
      have hlen := aps_len (ops := o) T.ok.srt
      obtain ⟨h'', r2⟩ := ih (k + 1) t' h' T' (by omega) (by omega) (by rw [hL]; omega) fun x hx => h4 x (List.mem_cons_of_mem _ hx)
      have c : decide ((k : Int) = (m : Int)) = false := by simp; omega
      refine ⟨h'', fun Q tg => ?_⟩
      rw [iterT_eq]
      unfold yA
      rw [at_cond_f c]
      show Run (applyK foldD (.obj i 0) (.sl b 4 (kops o)) h fun h' => iterT foldD (yA m) fA (bts b L) (.obj i 0) (k + 1) () h') Q ⟨⟩ = _
      rw [r, r2, hL]
      rw [show m - k = (m - (k + 1)) + 1 by omega, List.take_succ_cons, folds_cons]
theorem after_run (f b : Bool) (L : List (List KOp)) (n : Int) (h : Heap) (h1 : L.length ≤ 30) (h2 : ∀ o ∈ L, o.length ≤ 30) :
    ∃ h', ∀ (Q : Res → Prop) (tg : Hid Q), Run (afterG [.sl f 0 (bts b L), .int .i64 n] h) Q tg = Q ([.sl false 3 (prs (folds [] (L.take n.toNat)))], h') := by
  obtain ⟨h1', i, ti, E, T, r⟩ := newK_run h
  have e : max 0 (min n (bts b L).length) = ((max 0 (min n L.length)).toNat : Int) := by rw [bts_length]; omega
  obtain ⟨h', r2⟩ := after_iter i ti b (max 0 (min n L.length)).toNat L 0 .nil h1' T (by omega) (by omega) (by show 0 + 30 * L.length ≤ 1000; omega) h2
  have c : decide ((bts b L).length ≤ 100) = true := by rw [bts_length]; simp; omega
  refine ⟨h', fun Q tg => ?_⟩
  show Run (bif decide ((bts b L).length ≤ 100) then afterT foldD (bts b L) n h else .fail) Q tg = _
  rw [at_cond_t c, afterT_eq, r, e, r2]
  have ht : L.take ((max 0 (min n L.length)).toNat - 0) = L.take n.toNat := by
    by_cases c : n ≤ L.length
    · rw [show (max 0 (min n L.length)).toNat - 0 = n.toNat by omega]
    · rw [List.take_of_length_le (by omega), List.take_of_length_le (by omega)]
  rw [ht]
  rfl
noncomputable def yS : Nat → AVal → Heap → List AVal → (List AVal → Heap → Tr Res) → Tr Res := fun _ t h s K => bif decide (s.length ≤ 200) then (pairsK foldD t h fun f sz ps h' => K (s ++ [.sl f sz ps]) h') else .fail
noncomputable def fS : List AVal → Heap → Tr Res := fun s h => .ret ([.sl false 0 s], h)
def rows (l : List (List KPair)) : List AVal := l.map fun x => AVal.sl false 3 (prs x)
theorem states_iter (i ti : Nat) (b : Bool) : ∀ (L : List (List KOp)) (k : Nat) (s : List AVal) (t : Nd) (h : Heap), IsTab h i ti t → s.length + L.length ≤ 200 → t.toL.length + 30 * L.length ≤ 1000 → (∀ o ∈ L, o.length ≤ 30) →
    ∃ h', ∀ (Q : Res → Prop) (tg : Hid Q), Run (iterT foldD yS fS (bts b L) (.obj i 0) k s h) Q tg = Q ([.sl false 0 (s ++ rows (scn t.toL L))], h') := by
  intro L
  induction L with
  | nil =>
    intro k s t h T h1 h3 h4
    obtain ⟨h', T', r⟩ := pairsK_run i ti t h T
    have c : decide (s.length ≤ 200) = true := by simp at h1 ⊢; omega
    refine ⟨h', fun Q tg => ?_⟩
    show Run (yS k (.obj i 0) h s fS) Q tg = _
    unfold yS
    rw [at_cond_t c, r]
    unfold fS
    rw [at_ret]
    rfl
  | cons o L ih =>
    intro k s t h T h1 h3 h4
    have ho := h4 o List.mem_cons_self
    simp only [List.length_cons] at h1 h3
    obtain ⟨h0', T0, r0⟩ := pairsK_run i ti t h T
    obtain ⟨t', h', T', hL, r⟩ := applyK_run i ti b o t h0' T0 (by omega)
    have hlen := aps_len (ops := o) T.ok.srt
    obtain ⟨h'', r2⟩ := ih (k + 1) (s ++ [.sl false 3 (prs t.toL)]) t' h' T' (by simp; omega) (by rw [hL]; omega) fun x hx => h4 x (List.mem_cons_of_mem _ hx)
    have c : decide (s.length ≤ 200) = true := by simp; omega
    refine ⟨h'', fun Q tg => ?_⟩
    rw [iterT_eq]
    unfold yS
    rw [at_cond_t c, r0]
    show Run (applyK foldD (.obj i 0) (.sl b 4 (kops o)) h0' fun h' => iterT foldD yS fS (bts b L) (.obj i 0) (k + 1) (s ++ [.sl false 3 (prs t.toL)]) h') Q ⟨⟩ = _
    rw [r, r2, hL, List.append_assoc]
    rfl
theorem states_run (f b : Bool) (L : List (List KOp)) (h : Heap) (h1 : L.length ≤ 30) (h2 : ∀ o ∈ L, o.length ≤ 30) :
    ∃ h', ∀ (Q : Res → Prop) (tg : Hid Q), Run (statesG [.sl f 0 (bts b L)] h) Q tg = Q ([.sl false 0 (rows (scn [] L))], h') := by
  obtain ⟨h1', i, ti, E, T, r⟩ := newK_run h
  obtain ⟨h', r2⟩ := states_iter i ti b L 0 [] .nil h1' T (by simp; omega) (by show 0 + 30 * L.length ≤ 1000; omega) h2
  have c : decide ((bts b L).length ≤ 100) = true := by rw [bts_length]; simp; omega
  refine ⟨h', fun Q tg => ?_⟩
  show Run (bif decide ((bts b L).length ≤ 100) then statesT foldD (bts b L) h else .fail) Q tg = _
  rw [at_cond_t c]
  show Run (newK foldD h fun t h' => iterT foldD yS fS (bts b L) t 0 [] h') Q ⟨⟩ = _
  rw [r, r2]
  rfl
noncomputable def yF (m : Int) (p : AVal) : Nat → AVal → Heap → Unit → (Unit → Heap → Tr Res) → Tr Res := fun k t h _ K => bif decide (m ≤ (k : Int)) then (pairsK foldD t h fun f sz ps h' => equalK foldD (.sl f sz ps) p h' fun b h'' => bif b then .ret ([.int .i64 k], h'') else K () h'') else K () h
noncomputable def fF : Unit → Heap → Tr Res := fun _ h => .ret ([.int .i64 (-1)], h)
theorem yF_run (m : Int) (f : Bool) (x : List KPair) (i ti : Nat) (k : Nat) (t : Nd) (h : Heap) (T : IsTab h i ti t) (hl : t.toL.length ≤ 1000) : ∃ h', IsTab h' i ti t ∧ ∀ (K : Unit → Heap → Tr Res) (Q : Res → Prop) (tg : Hid Q),
    Run (yF m (.sl f 3 (prs x)) k (.obj i 0) h () K) Q tg = if m ≤ (k : Int) ∧ eqLB t.toL x = true then Q ([.int .i64 k], h') else Run (K () h') Q ⟨⟩ := by
  by_cases c : m ≤ (k : Int)
  · obtain ⟨h', T', r⟩ := pairsK_run i ti t h T
    refine ⟨h', T', fun K Q tg => ?_⟩
    unfold yF
    rw [at_cond_t (by simpa using c), r, equalK_run hl]
    cases e : eqLB t.toL x
    · rw [at_cond_f rfl, if_neg (by simp)]
    · rw [at_cond_t rfl, at_ret, if_pos ⟨c, rfl⟩]
  · refine ⟨h, T, fun K Q tg => ?_⟩
    unfold yF
    rw [at_cond_f (by simpa using c), if_neg (fun h => c h.1)]
theorem find_iter (i ti : Nat) (b f : Bool) (m : Int) (x : List KPair) : ∀ (L : List (List KOp)) (k : Nat) (t : Nd) (h : Heap), IsTab h i ti t → t.toL.length + 30 * L.length ≤ 1000 → (∀ o ∈ L, o.length ≤ 30) →
    ∃ h', ∀ (Q : Res → Prop) (tg : Hid Q), Run (iterT foldD (yF m (.sl f 3 (prs x))) fF (bts b L) (.obj i 0) k () h) Q tg = Q ([.int .i64 (fnd m x k t.toL L)], h') := by
  intro L
  induction L with
  | nil =>
    intro k t h T h3 h4
    obtain ⟨h', T', r⟩ := yF_run m f x i ti k t h T (by omega)
    refine ⟨h', fun Q tg => ?_⟩
    show Run (yF m (.sl f 3 (prs x)) k (.obj i 0) h () fF) Q tg = _
    rw [r]
    unfold fnd
    split
    · rfl
    · unfold fF; rw [at_ret]
  | cons o L ih =>
    intro k t h T h3 h4
    have ho := h4 o List.mem_cons_self
    simp only [List.length_cons] at h3
    obtain ⟨h0', T0, r0⟩ := yF_run m f x i ti k t h T (by omega)
    obtain ⟨t', h', T', hL, r⟩ := applyK_run i ti b o t h0' T0 (by omega)
    have hlen := aps_len (ops := o) T.ok.srt
    obtain ⟨h'', r2⟩ := ih (k + 1) t' h' T' (by rw [hL]; omega) fun x hx => h4 x (List.mem_cons_of_mem _ hx)
    by_cases c : m ≤ (k : Int) ∧ eqLB t.toL x = true
    · refine ⟨h0', fun Q tg => ?_⟩
      rw [iterT_eq, r0, if_pos c]
      unfold fnd
      rw [if_pos c]
    · refine ⟨h'', fun Q tg => ?_⟩
      rw [iterT_eq, r0, if_neg c]
      show Run (applyK foldD (.obj i 0) (.sl b 4 (kops o)) h0' fun h' => iterT foldD (yF m (.sl f 3 (prs x))) fF (bts b L) (.obj i 0) (k + 1) () h') Q ⟨⟩ = _
      rw [r, r2, hL]
      conv => rhs; unfold fnd
      rw [if_neg c]
theorem find_run (f b g : Bool) (L : List (List KOp)) (n : Int) (x : List KPair) (h : Heap) (h1 : L.length ≤ 30) (h2 : ∀ o ∈ L, o.length ≤ 30) :
    ∃ h', ∀ (Q : Res → Prop) (tg : Hid Q), Run (findG [.sl f 0 (bts b L), .int .i64 n, .sl g 3 (prs x)] h) Q tg = Q ([.int .i64 (fnd (max 0 (min n L.length)) x 0 [] L)], h') := by
  obtain ⟨h1', i, ti, E, T, r⟩ := newK_run h
  obtain ⟨h', r2⟩ := find_iter i ti b g (max 0 (min n L.length)) x L 0 .nil h1' T (by show 0 + 30 * L.length ≤ 1000; omega) h2
  have c : decide ((bts b L).length ≤ 100) = true := by rw [bts_length]; simp; omega
  refine ⟨h', fun Q tg => ?_⟩
  have e : findG [.sl f 0 (bts b L), .int .i64 n, .sl g 3 (prs x)] h = (bif decide ((bts b L).length ≤ 100) then findT foldD (bts b L) n (.sl g 3 (prs x)) h else .fail) := by unfold findG; rfl
  rw [e, at_cond_t c]
  show Run (newK foldD h fun t h' => iterT foldD (yF (max 0 (min n (bts b L).length)) (.sl g 3 (prs x))) fF (bts b L) t 0 () h') Q ⟨⟩ = _
  rw [r, bts_length, r2]
  rfl
theorem find_nil (f : Bool) (es : List AVal) (n : Int) (h : Heap) : findG [.sl f 0 es, .int .i64 n, .sl true 0 []] h = findG [.sl f 0 es, .int .i64 n, .sl true 3 (prs [])] h := by
  unfold findG; rfl
end Go.Proofs.Ytbddfpakhealbaa.Wa
end

section
/- Touched as a contract. -/
namespace Go.Proofs.Ytbddfpakhealbaa.Wa
open Go Go.RowKit Go.Maps Go.Weave
set_option maxRecDepth 100000
set_option linter.unusedSimpArgs false
set_option linter.unusedVariables false
set_option linter.unusedSectionVars false

def decKs : List AVal → Option (List KOp)
  | [] => some []
  | .agg [.int .i64 k, .str a, .str b] :: r => match decKs r with | some l => some (⟨k, a, b⟩ :: l) | none => none
  | _ :: _ => none
def decB : List AVal → Option (List (Bool × List KOp))
  | [] => some []
  | .sl f 4 es :: r => (match decKs es, decB r with | some l, some L => some ((f, l) :: L) | _, _ => none)
  | _ :: _ => none
theorem decKs_spec : ∀ {es : List AVal} {l : List KOp}, decKs es = some l → es = kops l
  | [], l, h => by simp only [decKs, Option.some.injEq] at h; subst h; rfl
  | e :: r, l, h => by
    unfold decKs at h
    split at h
    · rename_i h0; cases h0
    · rename_i k a b r' h0
      cases h0
      split at h
      · rename_i l' hl
        simp only [Option.some.injEq] at h
        subst h
        rw [decKs_spec hl]; rfl
      · cases h
    · cases h
theorem decB_spec : ∀ {es : List AVal} {L : List (Bool × List KOp)}, decB es = some L → es = btf L
  | [], L, h => by simp only [decB, Option.some.injEq] at h; subst h; rfl
  | e :: r, L, h => by
    unfold decB at h
    split at h
    · rename_i h0; cases h0
    · rename_i f es' r' h0
      cases h0
      split at h
      · rename_i l' L' hl hL
        simp only [Option.some.injEq] at h
        subst h
        rw [decKs_spec hl, decB_spec hL]; rfl
      · cases h
    · cases h
theorem decKs_kops : ∀ l : List KOp, decKs (kops l) = some l
  | [] => rfl
  | o :: l => by
    have := decKs_kops l
    show (match decKs (kops l) with | some l' => some (_ :: l') | none => none) = _
    rw [this]
theorem decB_btf : ∀ L : List (Bool × List KOp), decB (btf L) = some L
  | [] => rfl
  | p :: L => by
    have h1 := decB_btf L
    have h2 := decKs_kops p.2
    show (match decKs (kops p.2), decB (btf L) with | some l, some L => some ((p.1, l) :: L) | _, _ => none) = _
    rw [h1, h2]
def okB (L : List (Bool × List KOp)) : Bool := decide (L.length ≤ 100) && L.all fun p => decide (p.2.length ≤ 100)
def srtK (l : List (List UInt8)) : List (List UInt8) := l.mergeSort fun x y => decide (x ≤ y)
noncomputable def touchedG (args : List AVal) (h : Heap) : Tr Res :=
  match args with
  | [.sl _ 0 es] => (match decB es with
    | some L => bif okB L then .ret ([.sl false 0 ((srtK (tkL [] L)).map AVal.str)], h) else .fail
    | none => .fail)
  | _ => .fail
theorem tellS {n0 : Nat} {c : Ctx} {β : Owner → Option Nat} {h : Heap} {v : Value} {ss : List (List UInt8)} (L : Live Cw.P c β h) (hrow : c.w.ownsRow n0 9 1 v ss.length (ss.map encStr)) (hpv : ∀ g, v.ownBlock = some g → Pv c β g) :
    ∃ c', c'.w = c.w ∧ Live Cw.P c' β h ∧ Kp n0 c β c' β ∧ Rep c' v (.sl false 0 (ss.map AVal.str)) := by
  rcases hrow.2 with ⟨rfl, h0⟩ | ⟨g, cap, cur, rfl, h1, h2, h3, h4, h5, h6⟩
  · obtain rfl : ss = [] := List.length_eq_zero_iff.1 h0
    exact ⟨c, rfl, L, Kp.refl _ _ _, Rep.slnil _ _ _⟩
  · have pg := hpv g rfl
    have hgl : g < c.w.heap.size := pg.out.1
    have hm : ∀ b, Mgd c β b → b ≠ g := fun b hb e => pg.out.2 (e ▸ hb)
    have hβg : ∀ o b, β o = some b → b ≠ g := fun o b h e => by
      have := L.own.κ o b h
      rw [e] at this; exact this pg.κ
    have hle : c.le ⟨c.w, c.n, c.ι, fun b => if b = g then some ss.length else c.κ b⟩ := ⟨Nat.le_refl _, fun _ _ => rfl, fun b l h => ⟨l, by
      have : b ≠ g := fun e => by rw [e, pg.κ] at h; cases h
      show (if b = g then _ else _) = _
      rw [if_neg this]; exact h, Nat.le_refl _, fun _ _ => rfl⟩⟩
    have hls : (ss.map AVal.str).length = ss.length := List.length_map _
    refine ⟨⟨c.w, c.n, c.ι, fun b => if b = g then some ss.length else c.κ b⟩, rfl, ⟨⟨L.heap.n, fun id o ho => ?_, fun id hid => ?_, L.heap.inj⟩, ⟨L.own.blk, fun o b h => ?_, L.own.inj, fun b l h => ?_, L.own.cl⟩, L.keys, L.tok⟩, ⟨hle, Nat.le_refl _, ⟨rfl, rfl⟩, fun b hb ho => ⟨rfl, if_neg (by omega), ho.2⟩⟩, ?_⟩
    · have hid : id < c.n := by rw [L.heap.n]; exact (List.getElem?_eq_some_iff.1 ho).1
      exact (L.heap.obj id o ho).move hle (fun o' b h => ⟨if_neg (hβg o' b h), rfl⟩) hid rfl
    · show (if c.ι id = g then _ else _) = none
      rw [if_neg (hm _ (.inl ⟨id, hid, rfl⟩))]
      exact L.heap.κ id hid
    · show (if b = g then _ else _) ≠ none
      rw [if_neg (hβg o b h)]
      exact L.own.κ o b h
    · have h : (if b = g then some ss.length else c.κ b) = some l := h
      split at h
      · rename_i e; rw [e]; exact hgl
      · exact L.own.lim b l h
    · have hcell : ∀ i (hi : i < ss.length), c.w.cell? ⟨g, i, none⟩ = some (encStr (ss.getD i [])) := fun i hi => by
        have h7 : (cur.toList.take (ss.length * 1))[i]? = (ss.map encStr)[i]? := by rw [h6]
        rw [List.getElem?_take_of_lt (by omega), Array.getElem?_toList] at h7
        simp only [World.cell?, h2]
        simp only [Option.isSome_none, Bool.false_eq_true, if_false]
        rw [h7]
        simp [hi]
      have := Rep.sl (c := ⟨c.w, c.n, c.ι, fun b => if b = g then some ss.length else c.κ b⟩) g 0 cap ss.length false 0 (ss.map AVal.str) (fun i _ => encStr (ss.getD i [])) (by rw [hls]; exact h3) (by simp) (if_pos rfl) (by rw [hls]; show 0 + ss.length * 1 ≤ ss.length; omega) (fun e he => by
        obtain ⟨x, _, rfl⟩ := List.mem_map.1 he
        exact ⟨rfl, rfl, fun z hz => by simp [AVal.cells] at hz; subst hz; rfl⟩) (fun i j hi hj => by
        have hj0 : j = 0 := by have : cnt 0 = 1 := rfl; omega
        subst hj0
        rw [hls] at hi
        show c.w.cell? ⟨g, 0 + i * 1 + 0, none⟩ = _
        rw [show 0 + i * 1 + 0 = i by omega, hcell i hi]) (fun i j hi hj => by
        have hj0 : j = 0 := by have : cnt 0 = 1 := rfl; omega
        subst hj0
        rw [hls] at hi
        have e5 : ((ss.map AVal.str).getD i .undef).cells.getD 0 .undef = .str (ss.getD i []) := by simp [hi, AVal.cells]
        rw [e5]
        exact Rep.str ⟨(ss.getD i []).toArray⟩)
      rw [hls] at this
      exact this
theorem touched_ext {C : Cfg} (hP : C.P = Cw.P) {c0 : Ctx} (hann : (C.ann 12).pown = [] ∧ (C.ann 12).rown = []) : CallAt C 12 touchedG c0 := by
  refine callAt_of hP hann ?_
  intro args H Q hq c β vs L hs hr
  unfold touchedG at hq
  split at hq
  · rename_i f es
    split at hq
    · rename_i B hB
      have hes := decB_spec hB
      subst hes
      cases hok : okB B with
      | false => rw [hok] at hq; exact hq.elim
      | true =>
      rw [hok] at hq
      have hq : Q ([.sl false 0 ((srtK (tkL [] B)).map AVal.str)], H) := hq
      unfold okB at hok
      simp only [Bool.and_eq_true, decide_eq_true_eq, List.all_eq_true] at hok
      obtain ⟨a, rfl⟩ := arr1 hs
      have h0 : Rep c a (.sl f 0 (btf B)) := hr 0 (by simp)
      obtain ⟨x, cp, rfl⟩ := sl_value h0
      rw [btf_length] at h0 ⊢
      refine (touched_any c x cp f B h0 hok.1 hok.2).mono ?_
      rintro e w' ⟨v, rfl, hrow, hup⟩
      obtain ⟨L2, hle2, hpv2, hnew2⟩ := own_step L (w' := w') hup.size (fun b hb _ => hup.low b hb)
      have hlen : (srtK (tkL [] B)).length = (tkL [] B).length := by simp [srtK]
      have hrow' : (c.at w').w.ownsRow (c.w.heap.size + 1) 9 1 v (srtK (tkL [] B)).length ((srtK (tkL [] B)).map encStr) := by rw [hlen]; exact hrow
      obtain ⟨c3, hw3, L3, kp3, rep3⟩ := tellS L2 hrow' fun g hg => hnew2 g (by have := ownsRow_ge hrow hg; omega) (row_lt hrow hg)
      exact ⟨v, c3, β, H, _, rfl, hw3.symm, L3, (own_kp hle2 hup.size hup.io fun b hb _ => hup.low b hb).trans ⟨kp3.le, kp3.size, kp3.io, fun b hb => kp3.same b (by omega)⟩, rep3, hq⟩
    · exact hq.elim
  · exact hq.elim
theorem touched_run (f b : Bool) (L : List (List KOp)) (h : Heap) (h1 : L.length ≤ 30) (h2 : ∀ o ∈ L, o.length ≤ 30) (Q : Res → Prop) (tg : Hid Q) :
    Run (touchedG [.sl f 0 (bts b L)] h) Q tg = Q ([.sl false 0 ((srtK (tkL [] (L.map fun o => (b, o)))).map AVal.str)], h) := by
  have e : bts b L = btf (L.map fun o => (b, o)) := by simp [bts, btf]
  have hok : okB (L.map fun o => (b, o)) = true := by
    unfold okB
    simp only [Bool.and_eq_true, decide_eq_true_eq, List.all_eq_true, List.length_map]
    refine ⟨by omega, fun p hp => ?_⟩
    obtain ⟨o, ho, rfl⟩ := List.mem_map.1 hp
    have := h2 o ho
    show o.length ≤ 100
    omega
  rw [e]
  have e2 : touchedG [.sl f 0 (btf (L.map fun o => (b, o)))] h = (bif okB (L.map fun o => (b, o)) then .ret ([.sl false 0 ((srtK (tkL [] (L.map fun o => (b, o)))).map AVal.str)], h) else .fail) := by
    show (match decB (btf (L.map fun o => (b, o))) with | some L => _ | none => _) = _
    rw [decB_btf]
  rw [e2, at_cond_t hok, at_ret]
end Go.Proofs.Ytbddfpakhealbaa.Wa
end

section
/- What the evaluator is told ahead of each function (nothing of it is trusted). -/
namespace Go.Proofs.Ytbddfpakhealbaa.Wb
open Go Go.Weave Go.Proofs.Ytbddfpakhealbaa.Wa
set_option maxRecDepth 100000
set_option linter.unusedVariables false
def annw : FuncId → Ann := fun f => match f with
  | 5 => { keep := [(2, [.plain 0, .plain 3])] }
  | 20 => { loc := [(1, false)] }
  | 22 => { keep := [(3, [.plain 0, .plain 1, .own 5 3, .plain 6])], rown := [0] }
  | 21 => { keep := [(5, [.own 0 3, .plain 1, .plain 2, .own 7 3, .plain 8, .plain 9])], rown := [0] }
  | 11 => { keep := [(3, [.plain 0, .plain 1, .plain 6, .plain 7])] }
  | 9 => { keep := [(3, [.plain 0, .plain 1, .plain 5, .plain 6])] }
  | 7 => { keep := [(4, [.plain 0, .plain 1, .plain 5])] }
  | 3 => { keep := [(9, [.plain 0, .plain 5, .plain 6])] }
  | 13 => { keep := [(3, [.plain 0, .own 3 3, .plain 4]), (6, [.plain 0, .own 3 3, .plain 4, .plain 5])], rown := [0] }
  | 15 => { keep := [(3, [.plain 0, .plain 1, .plain 2]), (5, [.plain 0, .plain 1, .plain 2]), (6, [.plain 0, .plain 2, .plain 7])], join := [3, 5] }
  | 25 => { keep := [(4, [.plain 0, .plain 1, .plain 12, .plain 13])] }
  | 17 => { keep := [(2, [.plain 0, .plain 1, .plain 6])] }
  | 4 => { keep := [(7, [.plain 0, .plain 7, .own 8 3, .plain 9]), (13, [.own 8 3, .plain 10, .plain 11])] }
  | _ => {}
noncomputable def Cw : Cfg := ⟨Try.prog, annw, fun f => match f with | 8 => some afterG | 10 => some statesG | 12 => some touchedG | 14 => some findG | _ => none, fun _ => none⟩
@[simp] theorem plain39 (x0 : List UInt8) (x1 : List UInt8) : plainOk Cw.P 39 (AVal.agg [AVal.str x0, AVal.str x1]) = true := by kernel_rfl
end Go.Proofs.Ytbddfpakhealbaa.Wb
end

section
/- What the evaluator comes to in these functions. -/
namespace Go.Proofs.Ytbddfpakhealbaa.Wb
open Go Go.Weave Go.Proofs.Ytbddfpakhealbaa.Wa
set_option maxRecDepth 100000
set_option linter.unusedVariables false
/- f5 strandline/strandlinelaw37.Few -/
noncomputable def P5_0 (d k : Nat) (f0 : Bool) (l1 : List AVal) (x2 : Int) (h : Heap) : Tr Res :=
  loopPt Cw d 5 [true, false, true, true] [] k ⟨[(0, (EV.one (SV.val (AVal.sl f0 0 l1)))), (3, (EV.one (SV.val (AVal.int .i64 x2))))], []⟩ h
theorem P5_0_eq (d k : Nat) (f0 : Bool) (l1 : List AVal) (x2 : Int) (h : Heap) : P5_0 d (k + 1) f0 l1 x2 h =
  (bif (decide ((x2 : Int) < (l1.length : Int))) then
    (bif (decide ((0 : Int) ≤ x2) && decide ((x2 : Int) < (l1.length : Int))) then
      (slK 4 (l1.getD (Int.toNat x2) AVal.undef) fun fl1 es2 =>
        (bif (decide (((es2.length : Int) : Int) > 30)) then (Tr.ret ([(AVal.bool false)], h)) else (P5_0 d k f0 l1 (IntKind.i64.wrap (x2 + 1)) h)))
    else
      Tr.fail)
  else
    (Tr.ret ([(AVal.bool (decide (((l1.length : Int) : Int) ≤ 30)))], h))) := by kernel_rfl
theorem F5_eq (d : Nat) (f0 : Bool) (l1 : List AVal) (h : Heap) : evFn Cw (d + 1) 5 [(AVal.sl f0 0 l1)] h =
  (P5_0 d rounds f0 l1 0 h) := by kernel_rfl
/- f6 strandline/strandlinelaw37.awake -/
theorem F6_eq (d : Nat) (h : Heap) : evFn Cw (d + 1) 6 [] h =
  (runK (evFn Cw d 8 [(AVal.sl true 0 [(AVal.sl true 4 [(AVal.agg [(AVal.int .i64 1), (AVal.str [97]), (AVal.str [98])])]), (AVal.sl true 4 [(AVal.agg [(AVal.int .i64 2), (AVal.str [97]), (AVal.str [])])])]), (AVal.int .i64 1)] h) fun r1 h1 =>
    (consK r1 fun w2 ws3 =>
      (slK 3 w2 fun fl4 es5 =>
        (nilK ws3
          (bif (((es5.length : Int) : Int) == 1) then
            (runK (evFn Cw d 14 [(AVal.sl true 0 [(AVal.sl true 4 [(AVal.agg [(AVal.int .i64 1), (AVal.str [97]), (AVal.str [98])])]), (AVal.sl true 4 [(AVal.agg [(AVal.int .i64 2), (AVal.str [97]), (AVal.str [])])])]), (AVal.int .i64 1), (AVal.sl true 0 [])] h1) fun r6 h6 =>
              (consK r6 fun w7 ws8 =>
                (intK .i64 w7 fun y9 =>
                  (nilK ws8
                    (bif ((y9 : Int) == 2) then
                      (runK (evFn Cw d 10 [(AVal.sl true 0 [(AVal.sl true 4 [(AVal.agg [(AVal.int .i64 1), (AVal.str [97]), (AVal.str [98])])]), (AVal.sl true 4 [(AVal.agg [(AVal.int .i64 2), (AVal.str [97]), (AVal.str [])])])])] h6) fun r10 h10 =>
                        (consK r10 fun w11 ws12 =>
                          (slK 0 w11 fun fl13 es14 =>
                            (nilK ws12
                              (Tr.ret ([(AVal.bool (((es14.length : Int) : Int) == 3))], h10))))))
                    else
                      (Tr.ret ([(AVal.bool false)], h6)))))))
          else
            (Tr.ret ([(AVal.bool false)], h1))))))) := by kernel_rfl
/- f20 strandline/strandlineref10.Right -/
theorem F20_eq (d : Nat) (x0 : Int) (s1 : List UInt8) (s2 : List UInt8) (h : Heap) : evFn Cw (d + 1) 20 [(AVal.agg [(AVal.int .i64 x0), (AVal.str s1), (AVal.str s2)])] h =
  (bif (((s1.length : Int) : Int) == 0) then
    (Tr.ret ([(AVal.bool false)], h))
  else
    (bif (decide (((s1.length : Int) : Int) > 24)) then
      (Tr.ret ([(AVal.bool false)], h))
    else
      (bif (decide (((s2.length : Int) : Int) > 128)) then
        (Tr.ret ([(AVal.bool false)], h))
      else
        (bif ((x0 : Int) == 1) then
          (Tr.ret ([(AVal.bool true)], h))
        else
          (bif ((x0 : Int) == 2) then (Tr.ret ([(AVal.bool (s2 == []))], h)) else (Tr.ret ([(AVal.bool false)], h))))))) := by kernel_rfl
/- f22 strandline/strandlineref31.Delete -/
noncomputable def P22_0 (d k : Nat) (f0 : Bool) (l1 : List AVal) (s2 : List UInt8) (l3 : List AVal) (x4 : Int) (h : Heap) : Tr Res :=
  loopPt Cw d 22 [true, true, false, true, true] [] k ⟨[(0, (EV.one (SV.val (AVal.sl f0 3 l1)))), (1, (EV.one (SV.val (AVal.str s2)))), (5, (EV.one (SV.own (tokOf 5 0) 3 l3))), (6, (EV.one (SV.val (AVal.int .i64 x4))))], []⟩ h
theorem P22_0_eq (d k : Nat) (f0 : Bool) (l1 : List AVal) (s2 : List UInt8) (l3 : List AVal) (x4 : Int) (h : Heap) : P22_0 d (k + 1) f0 l1 s2 l3 x4 h =
  (bif (decide ((x4 : Int) < (l1.length : Int))) then
    (bif (decide ((0 : Int) ≤ x4) && decide ((x4 : Int) < (l1.length : Int))) then
      (optK ((AVal.cells (l1.getD (Int.toNat x4) AVal.undef))[0]?) fun w1 =>
        (strK w1 fun ss2 =>
          (bif (!(ss2 == s2)) then
            (bif (decide ((0 : Int) ≤ x4) && decide ((x4 : Int) < (l1.length : Int))) then
              (aggK 2 (l1.getD (Int.toNat x4) AVal.undef) fun cc3 =>
                (bif ((cc3.length == 2) && true) then
                  (bif decide ((l3.length + (1 : Nat)) * 32 ≤ 140737488355328) then (P22_0 d k f0 l1 s2 (l3 ++ [(AVal.agg cc3)]) (IntKind.i64.wrap (x4 + 1)) h) else Tr.fail)
                else
                  Tr.fail))
            else
              Tr.fail)
          else
            (P22_0 d k f0 l1 s2 l3 (IntKind.i64.wrap (x4 + 1)) h))))
    else
      Tr.fail)
  else
    (Tr.ret ([(AVal.sl false 3 l3)], h))) := by kernel_rfl
theorem F22_eq (d : Nat) (f0 : Bool) (l1 : List AVal) (s2 : List UInt8) (h : Heap) : evFn Cw (d + 1) 22 [(AVal.sl f0 3 l1), (AVal.str s2)] h =
  (P22_0 d rounds f0 l1 s2 [] 0 h) := by kernel_rfl
noncomputable def P22n_0 (d k : Nat) (s0 : List UInt8) (l1 : List AVal) (x2 : Int) (h : Heap) : Tr Res :=
  loopPt Cw d 22 [true, true, false, true, true] [] k ⟨[(0, (EV.one (SV.val (AVal.sl true 0 [])))), (1, (EV.one (SV.val (AVal.str s0)))), (5, (EV.one (SV.own (tokOf 5 0) 3 l1))), (6, (EV.one (SV.val (AVal.int .i64 x2))))], []⟩ h
theorem P22n_0_eq (d k : Nat) (s0 : List UInt8) (l1 : List AVal) (x2 : Int) (h : Heap) : P22n_0 d (k + 1) s0 l1 x2 h =
  (bif (decide ((x2 : Int) < 0)) then
    (bif (decide ((0 : Int) ≤ x2) && decide ((x2 : Int) < 0)) then
      (optK ((AVal.cells ([].getD (Int.toNat x2) AVal.undef))[0]?) fun w1 =>
        (strK w1 fun ss2 =>
          (bif (!(ss2 == s0)) then
            (bif (decide ((0 : Int) ≤ x2) && decide ((x2 : Int) < 0)) then
              (aggK 2 ([].getD (Int.toNat x2) AVal.undef) fun cc3 =>
                (bif ((cc3.length == 2) && true) then
                  (bif decide ((l1.length + (1 : Nat)) * 32 ≤ 140737488355328) then (P22n_0 d k s0 (l1 ++ [(AVal.agg cc3)]) (IntKind.i64.wrap (x2 + 1)) h) else Tr.fail)
                else
                  Tr.fail))
            else
              Tr.fail)
          else
            (P22n_0 d k s0 l1 (IntKind.i64.wrap (x2 + 1)) h))))
    else
      Tr.fail)
  else
    (Tr.ret ([(AVal.sl false 3 l1)], h))) := by kernel_rfl
theorem F22n_eq (d : Nat) (s0 : List UInt8) (h : Heap) : evFn Cw (d + 1) 22 [(AVal.sl true 0 []), (AVal.str s0)] h =
  (P22n_0 d rounds s0 [] 0 h) := by kernel_rfl
/- f21 strandline/strandlineref31.Put -/
noncomputable def P21_0 (d k : Nat) (l0 : List AVal) (s1 : List UInt8) (s2 : List UInt8) (l3 : List AVal) (b4 : Bool) (x5 : Int) (h : Heap) : Tr Res :=
  loopPt Cw d 21 [true, true, true, true, false, true, true] [] k ⟨[(0, (EV.one (SV.own (tokOf 0 0) 3 l0))), (1, (EV.one (SV.val (AVal.str s1)))), (2, (EV.one (SV.val (AVal.str s2)))), (7, (EV.one (SV.own (tokOf 7 0) 3 l3))), (8, (EV.one (SV.val (AVal.bool b4)))), (9, (EV.one (SV.val (AVal.int .i64 x5))))], []⟩ h
theorem P21_0_eq (d k : Nat) (l0 : List AVal) (s1 : List UInt8) (s2 : List UInt8) (l3 : List AVal) (b4 : Bool) (x5 : Int) (h : Heap) : P21_0 d (k + 1) l0 s1 s2 l3 b4 x5 h =
  (bif (decide ((x5 : Int) < (l0.length : Int))) then
    (bif (!b4) then
      (bif (decide ((0 : Int) ≤ x5) && decide ((x5 : Int) < (l0.length : Int))) then
        (optK ((AVal.cells (l0.getD (Int.toNat x5) AVal.undef))[0]?) fun w1 =>
          (strK w1 fun ss2 =>
            (bif (!((Go.Op.bytesLess ss2 s1) || (ss2 == s1))) then
              (bif decide ((l3.length + (1 : Nat)) * 32 ≤ 140737488355328) then
                (bif (decide ((0 : Int) ≤ x5) && decide ((x5 : Int) < (l0.length : Int))) then
                  (aggK 2 (l0.getD (Int.toNat x5) AVal.undef) fun cc3 =>
                    (bif ((cc3.length == 2) && true) then
                      (bif decide (((l3 ++ [(AVal.agg [(AVal.str s1), (AVal.str s2)])]).length + (1 : Nat)) * 32 ≤ 140737488355328) then
                        (P21_0 d k l0 s1 s2 ((l3 ++ [(AVal.agg [(AVal.str s1), (AVal.str s2)])]) ++ [(AVal.agg cc3)]) true (IntKind.i64.wrap (x5 + 1)) h)
                      else
                        Tr.fail)
                    else
                      Tr.fail))
                else
                  Tr.fail)
              else
                Tr.fail)
            else
              (bif (decide ((0 : Int) ≤ x5) && decide ((x5 : Int) < (l0.length : Int))) then
                (aggK 2 (l0.getD (Int.toNat x5) AVal.undef) fun cc4 =>
                  (bif ((cc4.length == 2) && true) then
                    (bif decide ((l3.length + (1 : Nat)) * 32 ≤ 140737488355328) then (P21_0 d k l0 s1 s2 (l3 ++ [(AVal.agg cc4)]) b4 (IntKind.i64.wrap (x5 + 1)) h) else Tr.fail)
                  else
                    Tr.fail))
              else
                Tr.fail))))
      else
        Tr.fail)
    else
      (bif (decide ((0 : Int) ≤ x5) && decide ((x5 : Int) < (l0.length : Int))) then
        (aggK 2 (l0.getD (Int.toNat x5) AVal.undef) fun cc5 =>
          (bif ((cc5.length == 2) && true) then
            (bif decide ((l3.length + (1 : Nat)) * 32 ≤ 140737488355328) then (P21_0 d k l0 s1 s2 (l3 ++ [(AVal.agg cc5)]) b4 (IntKind.i64.wrap (x5 + 1)) h) else Tr.fail)
          else
            Tr.fail))
      else
        Tr.fail))
  else
    (bif (!b4) then
      (bif decide ((l3.length + (1 : Nat)) * 32 ≤ 140737488355328) then (Tr.ret ([(AVal.sl false 3 (l3 ++ [(AVal.agg [(AVal.str s1), (AVal.str s2)])]))], h)) else Tr.fail)
    else
      (Tr.ret ([(AVal.sl false 3 l3)], h)))) := by kernel_rfl
theorem F21_eq (d : Nat) (f0 : Bool) (l1 : List AVal) (s2 : List UInt8) (s3 : List UInt8) (h : Heap) : evFn Cw (d + 1) 21 [(AVal.sl f0 3 l1), (AVal.str s2), (AVal.str s3)] h =
  (runK (evFn Cw d 22 [(AVal.sl f0 3 l1), (AVal.str s2)] h) fun r1 h1 =>
    (consK r1 fun w2 ws3 =>
      (slOK 3 w2 fun es4 =>
        (nilK ws3
          (P21_0 d rounds es4 s2 s3 [] false 0 h1))))) := by kernel_rfl
noncomputable def P21n_0 (d k : Nat) (l0 : List AVal) (s1 : List UInt8) (s2 : List UInt8) (l3 : List AVal) (b4 : Bool) (x5 : Int) (h : Heap) : Tr Res :=
  loopPt Cw d 21 [true, true, true, true, false, true, true] [] k ⟨[(0, (EV.one (SV.own (tokOf 0 0) 3 l0))), (1, (EV.one (SV.val (AVal.str s1)))), (2, (EV.one (SV.val (AVal.str s2)))), (7, (EV.one (SV.own (tokOf 7 0) 3 l3))), (8, (EV.one (SV.val (AVal.bool b4)))), (9, (EV.one (SV.val (AVal.int .i64 x5))))], []⟩ h
theorem P21n_0_eq (d k : Nat) (l0 : List AVal) (s1 : List UInt8) (s2 : List UInt8) (l3 : List AVal) (b4 : Bool) (x5 : Int) (h : Heap) : P21n_0 d (k + 1) l0 s1 s2 l3 b4 x5 h =
  (bif (decide ((x5 : Int) < (l0.length : Int))) then
    (bif (!b4) then
      (bif (decide ((0 : Int) ≤ x5) && decide ((x5 : Int) < (l0.length : Int))) then
        (optK ((AVal.cells (l0.getD (Int.toNat x5) AVal.undef))[0]?) fun w1 =>
          (strK w1 fun ss2 =>
            (bif (!((Go.Op.bytesLess ss2 s1) || (ss2 == s1))) then
              (bif decide ((l3.length + (1 : Nat)) * 32 ≤ 140737488355328) then
                (bif (decide ((0 : Int) ≤ x5) && decide ((x5 : Int) < (l0.length : Int))) then
                  (aggK 2 (l0.getD (Int.toNat x5) AVal.undef) fun cc3 =>
                    (bif ((cc3.length == 2) && true) then
                      (bif decide (((l3 ++ [(AVal.agg [(AVal.str s1), (AVal.str s2)])]).length + (1 : Nat)) * 32 ≤ 140737488355328) then
                        (P21n_0 d k l0 s1 s2 ((l3 ++ [(AVal.agg [(AVal.str s1), (AVal.str s2)])]) ++ [(AVal.agg cc3)]) true (IntKind.i64.wrap (x5 + 1)) h)
                      else
                        Tr.fail)
                    else
                      Tr.fail))
                else
                  Tr.fail)
              else
                Tr.fail)
            else
              (bif (decide ((0 : Int) ≤ x5) && decide ((x5 : Int) < (l0.length : Int))) then
                (aggK 2 (l0.getD (Int.toNat x5) AVal.undef) fun cc4 =>
                  (bif ((cc4.length == 2) && true) then
                    (bif decide ((l3.length + (1 : Nat)) * 32 ≤ 140737488355328) then (P21n_0 d k l0 s1 s2 (l3 ++ [(AVal.agg cc4)]) b4 (IntKind.i64.wrap (x5 + 1)) h) else Tr.fail)
                  else
                    Tr.fail))
              else
                Tr.fail))))
      else
        Tr.fail)
    else
      (bif (decide ((0 : Int) ≤ x5) && decide ((x5 : Int) < (l0.length : Int))) then
        (aggK 2 (l0.getD (Int.toNat x5) AVal.undef) fun cc5 =>
          (bif ((cc5.length == 2) && true) then
            (bif decide ((l3.length + (1 : Nat)) * 32 ≤ 140737488355328) then (P21n_0 d k l0 s1 s2 (l3 ++ [(AVal.agg cc5)]) b4 (IntKind.i64.wrap (x5 + 1)) h) else Tr.fail)
          else
            Tr.fail))
      else
        Tr.fail))
  else
    (bif (!b4) then
      (bif decide ((l3.length + (1 : Nat)) * 32 ≤ 140737488355328) then (Tr.ret ([(AVal.sl false 3 (l3 ++ [(AVal.agg [(AVal.str s1), (AVal.str s2)])]))], h)) else Tr.fail)
    else
      (Tr.ret ([(AVal.sl false 3 l3)], h)))) := by kernel_rfl
theorem F21n_eq (d : Nat) (s0 : List UInt8) (s1 : List UInt8) (h : Heap) : evFn Cw (d + 1) 21 [(AVal.sl true 0 []), (AVal.str s0), (AVal.str s1)] h =
  (runK (evFn Cw d 22 [(AVal.sl true 0 []), (AVal.str s0)] h) fun r1 h1 =>
    (consK r1 fun w2 ws3 =>
      (slOK 3 w2 fun es4 =>
        (nilK ws3
          (P21n_0 d rounds es4 s0 s1 [] false 0 h1))))) := by kernel_rfl
/- f11 strandline/strandlineref33.Apply -/
noncomputable def P11_0 (d k : Nat) (f0 : Bool) (l1 : List AVal) (f2 : Bool) (l3 : List AVal) (x4 : Int) (x5 : Int) (h : Heap) : Tr Res :=
  loopPt Cw d 11 [true, true, false, true, true] [] k ⟨[(0, (EV.one (SV.val (AVal.sl f0 3 l1)))), (1, (EV.one (SV.val (AVal.sl f2 4 l3)))), (6, (EV.one (SV.val (AVal.int .i64 x4)))), (7, (EV.one (SV.val (AVal.int .i64 x5))))], []⟩ h
theorem P11_0_eq (d k : Nat) (f0 : Bool) (l1 : List AVal) (f2 : Bool) (l3 : List AVal) (x4 : Int) (x5 : Int) (h : Heap) : P11_0 d (k + 1) f0 l1 f2 l3 x4 x5 h =
  (bif (decide ((x5 : Int) < (l3.length : Int))) then
    (bif (decide ((0 : Int) ≤ x5) && decide ((x5 : Int) < (l3.length : Int))) then
      (aggK 3 (l3.getD (Int.toNat x5) AVal.undef) fun cc1 =>
        (runK (evFn Cw d 20 [(AVal.agg cc1)] h) fun r2 h2 =>
          (consK r2 fun w3 ws4 =>
            (boolK w3 fun bb5 =>
              (nilK ws4
                (bif (!bb5) then
                  (P11_0 d k f0 l1 f2 l3 x4 (IntKind.i64.wrap (x5 + 1)) h2)
                else
                  (bif (decide ((0 : Int) ≤ x5) && decide ((x5 : Int) < (l3.length : Int))) then
                    (optK ((AVal.cells (l3.getD (Int.toNat x5) AVal.undef))[0]?) fun w6 =>
                      (intK .i64 w6 fun y7 =>
                        (bif ((y7 : Int) == 1) then
                          (bif (decide ((0 : Int) ≤ x5) && decide ((x5 : Int) < (l3.length : Int))) then
                            (optK ((AVal.cells (l3.getD (Int.toNat x5) AVal.undef))[1]?) fun w8 =>
                              (strK w8 fun ss9 =>
                                (bif (decide ((0 : Int) ≤ x5) && decide ((x5 : Int) < (l3.length : Int))) then
                                  (optK ((AVal.cells (l3.getD (Int.toNat x5) AVal.undef))[2]?) fun w10 =>
                                    (strK w10 fun ss11 =>
                                      (runK (evFn Cw d 21 [(AVal.sl f0 3 l1), (AVal.str ss9), (AVal.str ss11)] h2) fun r12 h12 =>
                                        (consK r12 fun w13 ws14 =>
                                          (slOK 3 w13 fun es15 =>
                                            (nilK ws14
                                              (P11_0 d k false es15 f2 l3 (IntKind.i64.wrap (x4 + 1)) (IntKind.i64.wrap (x5 + 1)) h12)))))))
                                else
                                  Tr.fail)))
                          else
                            Tr.fail)
                        else
                          (bif (decide ((0 : Int) ≤ x5) && decide ((x5 : Int) < (l3.length : Int))) then
                            (optK ((AVal.cells (l3.getD (Int.toNat x5) AVal.undef))[1]?) fun w16 =>
                              (strK w16 fun ss17 =>
                                (runK (evFn Cw d 22 [(AVal.sl f0 3 l1), (AVal.str ss17)] h2) fun r18 h18 =>
                                  (consK r18 fun w19 ws20 =>
                                    (slOK 3 w19 fun es21 =>
                                      (nilK ws20
                                        (P11_0 d k false es21 f2 l3 (IntKind.i64.wrap (x4 + 1)) (IntKind.i64.wrap (x5 + 1)) h18)))))))
                          else
                            Tr.fail))))
                  else
                    Tr.fail)))))))
    else
      Tr.fail)
  else
    (Tr.ret ([(AVal.sl f0 3 l1), (AVal.int .i64 x4)], h))) := by kernel_rfl
theorem F11_eq (d : Nat) (f0 : Bool) (l1 : List AVal) (f2 : Bool) (l3 : List AVal) (h : Heap) : evFn Cw (d + 1) 11 [(AVal.sl f0 3 l1), (AVal.sl f2 4 l3)] h =
  (P11_0 d rounds f0 l1 f2 l3 0 0 h) := by kernel_rfl
noncomputable def P11n_0 (d k : Nat) (v0 : AVal) (f1 : Bool) (l2 : List AVal) (x3 : Int) (x4 : Int) (h : Heap) : Tr Res :=
  loopPt Cw d 11 [true, true, false, true, true] [] k ⟨[(0, (EV.one (SV.val v0))), (1, (EV.one (SV.val (AVal.sl f1 4 l2)))), (6, (EV.one (SV.val (AVal.int .i64 x3)))), (7, (EV.one (SV.val (AVal.int .i64 x4))))], []⟩ h
theorem P11n_0_eq (d k : Nat) (v0 : AVal) (f1 : Bool) (l2 : List AVal) (x3 : Int) (x4 : Int) (h : Heap) : P11n_0 d (k + 1) v0 f1 l2 x3 x4 h =
  (bif (decide ((x4 : Int) < (l2.length : Int))) then
    (bif (decide ((0 : Int) ≤ x4) && decide ((x4 : Int) < (l2.length : Int))) then
      (aggK 3 (l2.getD (Int.toNat x4) AVal.undef) fun cc1 =>
        (runK (evFn Cw d 20 [(AVal.agg cc1)] h) fun r2 h2 =>
          (consK r2 fun w3 ws4 =>
            (boolK w3 fun bb5 =>
              (nilK ws4
                (bif (!bb5) then
                  (P11n_0 d k v0 f1 l2 x3 (IntKind.i64.wrap (x4 + 1)) h2)
                else
                  (bif (decide ((0 : Int) ≤ x4) && decide ((x4 : Int) < (l2.length : Int))) then
                    (optK ((AVal.cells (l2.getD (Int.toNat x4) AVal.undef))[0]?) fun w6 =>
                      (intK .i64 w6 fun y7 =>
                        (bif ((y7 : Int) == 1) then
                          (bif (decide ((0 : Int) ≤ x4) && decide ((x4 : Int) < (l2.length : Int))) then
                            (optK ((AVal.cells (l2.getD (Int.toNat x4) AVal.undef))[1]?) fun w8 =>
                              (strK w8 fun ss9 =>
                                (bif (decide ((0 : Int) ≤ x4) && decide ((x4 : Int) < (l2.length : Int))) then
                                  (optK ((AVal.cells (l2.getD (Int.toNat x4) AVal.undef))[2]?) fun w10 =>
                                    (strK w10 fun ss11 =>
                                      (runK (evFn Cw d 21 [v0, (AVal.str ss9), (AVal.str ss11)] h2) fun r12 h12 =>
                                        (consK r12 fun w13 ws14 =>
                                          (slOK 3 w13 fun es15 =>
                                            (nilK ws14
                                              (P11n_0 d k (AVal.sl false 3 es15) f1 l2 (IntKind.i64.wrap (x3 + 1)) (IntKind.i64.wrap (x4 + 1)) h12)))))))
                                else
                                  Tr.fail)))
                          else
                            Tr.fail)
                        else
                          (bif (decide ((0 : Int) ≤ x4) && decide ((x4 : Int) < (l2.length : Int))) then
                            (optK ((AVal.cells (l2.getD (Int.toNat x4) AVal.undef))[1]?) fun w16 =>
                              (strK w16 fun ss17 =>
                                (runK (evFn Cw d 22 [v0, (AVal.str ss17)] h2) fun r18 h18 =>
                                  (consK r18 fun w19 ws20 =>
                                    (slOK 3 w19 fun es21 =>
                                      (nilK ws20
                                        (P11n_0 d k (AVal.sl false 3 es21) f1 l2 (IntKind.i64.wrap (x3 + 1)) (IntKind.i64.wrap (x4 + 1)) h18)))))))
                          else
                            Tr.fail))))
                  else
                    Tr.fail)))))))
    else
      Tr.fail)
  else
    (Tr.ret ([v0, (AVal.int .i64 x3)], h))) := by kernel_rfl
theorem F11n_eq (d : Nat) (f0 : Bool) (l1 : List AVal) (h : Heap) : evFn Cw (d + 1) 11 [(AVal.sl true 0 []), (AVal.sl f0 4 l1)] h =
  (P11n_0 d rounds (AVal.sl true 0 []) f0 l1 0 0 h) := by kernel_rfl
/- f9 strandline/strandlineref37.After -/
noncomputable def P9_0 (d k : Nat) (f0 : Bool) (l1 : List AVal) (x2 : Int) (v3 : AVal) (x4 : Int) (h : Heap) : Tr Res :=
  loopPt Cw d 9 [true, true, false, true, true] [] k ⟨[(0, (EV.one (SV.val (AVal.sl f0 0 l1)))), (1, (EV.one (SV.val (AVal.int .i64 x2)))), (5, (EV.one (SV.val v3))), (6, (EV.one (SV.val (AVal.int .i64 x4))))], []⟩ h
theorem P9_0_eq (d k : Nat) (f0 : Bool) (l1 : List AVal) (x2 : Int) (v3 : AVal) (x4 : Int) (h : Heap) : P9_0 d (k + 1) f0 l1 x2 v3 x4 h =
  (bif (decide ((x4 : Int) < (l1.length : Int))) then
    (bif (decide ((x4 : Int) < x2)) then
      (bif (decide ((0 : Int) ≤ x4) && decide ((x4 : Int) < (l1.length : Int))) then
        (slK 4 (l1.getD (Int.toNat x4) AVal.undef) fun fl1 es2 =>
          (runK (evFn Cw d 11 [v3, (AVal.sl fl1 4 es2)] h) fun r3 h3 =>
            (consK r3 fun w4 ws5 =>
              (slK 3 w4 fun fl6 es7 =>
                (consK ws5 fun w8 ws9 =>
                  (intK .i64 w8 fun y10 =>
                    (nilK ws9
                      (P9_0 d k f0 l1 x2 (AVal.sl fl6 3 es7) (IntKind.i64.wrap (x4 + 1)) h3))))))))
      else
        Tr.fail)
    else
      (Tr.ret ([v3], h)))
  else
    (Tr.ret ([v3], h))) := by kernel_rfl
theorem F9_eq (d : Nat) (f0 : Bool) (l1 : List AVal) (x2 : Int) (h : Heap) : evFn Cw (d + 1) 9 [(AVal.sl f0 0 l1), (AVal.int .i64 x2)] h =
  (P9_0 d rounds f0 l1 x2 (AVal.sl true 0 []) 0 h) := by kernel_rfl
/- f7 strandline/strandlineref31.Same -/
noncomputable def P7_0 (d k : Nat) (f0 : Bool) (l1 : List AVal) (f2 : Bool) (l3 : List AVal) (x4 : Int) (h : Heap) : Tr Res :=
  loopPt Cw d 7 [true, true, false, true, true] [] k ⟨[(0, (EV.one (SV.val (AVal.sl f0 3 l1)))), (1, (EV.one (SV.val (AVal.sl f2 3 l3)))), (5, (EV.one (SV.val (AVal.int .i64 x4))))], []⟩ h
theorem P7_0_eq (d k : Nat) (f0 : Bool) (l1 : List AVal) (f2 : Bool) (l3 : List AVal) (x4 : Int) (h : Heap) : P7_0 d (k + 1) f0 l1 f2 l3 x4 h =
  (bif (decide ((x4 : Int) < (l1.length : Int))) then
    (bif (decide ((0 : Int) ≤ x4) && decide ((x4 : Int) < (l1.length : Int))) then
      (aggK 2 (l1.getD (Int.toNat x4) AVal.undef) fun cc1 =>
        (bif (decide ((0 : Int) ≤ x4) && decide ((x4 : Int) < (l3.length : Int))) then
          (aggK 2 (l3.getD (Int.toNat x4) AVal.undef) fun cc2 =>
            (bif ((plainOk Cw.P 39 (AVal.agg cc1)) && (plainOk Cw.P 39 (AVal.agg cc2))) then
              (bif (!(eqCells cc1 cc2)) then (Tr.ret ([(AVal.bool false)], h)) else (P7_0 d k f0 l1 f2 l3 (IntKind.i64.wrap (x4 + 1)) h))
            else
              Tr.fail))
        else
          Tr.fail))
    else
      Tr.fail)
  else
    (Tr.ret ([(AVal.bool true)], h))) := by kernel_rfl
theorem F7_eq (d : Nat) (f0 : Bool) (l1 : List AVal) (f2 : Bool) (l3 : List AVal) (h : Heap) : evFn Cw (d + 1) 7 [(AVal.sl f0 3 l1), (AVal.sl f2 3 l3)] h =
  (bif (((l1.length : Int) : Int) != (l3.length : Int)) then (Tr.ret ([(AVal.bool false)], h)) else (P7_0 d rounds f0 l1 f2 l3 0 h)) := by kernel_rfl
/- f3 strandline/strandlinelaw37.FoldStates -/
noncomputable def P13_0 (d k : Nat) (f0 : Bool) (l1 : List AVal) (l2 : List AVal) (x3 : Int) (h : Heap) : Tr Res :=
  loopPt Cw d 13 [true, true, false, true, true] [] k ⟨[(0, (EV.one (SV.val (AVal.sl f0 0 l1)))), (3, (EV.one (SV.own (tokOf 3 0) 3 l2))), (4, (EV.one (SV.val (AVal.int .i64 x3))))], []⟩ h
noncomputable def P13_1 (d n0 k : Nat) (f0 : Bool) (l1 : List AVal) (l2 : List AVal) (x3 : Int) (x4 : Int) (h : Heap) : Tr Res :=
  loopPt Cw d 13 [true, true, false, true, true, true, true, false, true, true, true] [n0] k ⟨[(0, (EV.one (SV.val (AVal.sl f0 0 l1)))), (3, (EV.one (SV.own (tokOf 3 0) 3 l2))), (4, (EV.one (SV.val (AVal.int .i64 x3)))), (5, (EV.one (SV.val (AVal.int .i64 x4))))], []⟩ h
theorem P13_0_eq (d k : Nat) (f0 : Bool) (l1 : List AVal) (l2 : List AVal) (x3 : Int) (h : Heap) : P13_0 d (k + 1) f0 l1 l2 x3 h =
  (bif (decide ((x3 : Int) < (l1.length : Int))) then (P13_1 d k rounds f0 l1 l2 x3 0 h) else (Tr.ret ([(AVal.sl false 3 l2)], h))) := by kernel_rfl
theorem P13_1_eq (d n0 k : Nat) (f0 : Bool) (l1 : List AVal) (l2 : List AVal) (x3 : Int) (x4 : Int) (h : Heap) : P13_1 d n0 (k + 1) f0 l1 l2 x3 x4 h =
  (bif (decide ((0 : Int) ≤ x3) && decide ((x3 : Int) < (l1.length : Int))) then
    (slK 4 (l1.getD (Int.toNat x3) AVal.undef) fun fl1 es2 =>
      (bif (decide ((x4 : Int) < (es2.length : Int))) then
        (bif (decide ((0 : Int) ≤ x3) && decide ((x3 : Int) < (l1.length : Int))) then
          (slK 4 (l1.getD (Int.toNat x3) AVal.undef) fun fl3 es4 =>
            (bif (decide ((0 : Int) ≤ x4) && decide ((x4 : Int) < (es4.length : Int))) then
              (aggK 3 (es4.getD (Int.toNat x4) AVal.undef) fun cc5 =>
                (runK (evFn Cw d 20 [(AVal.agg cc5)] h) fun r6 h6 =>
                  (consK r6 fun w7 ws8 =>
                    (boolK w7 fun bb9 =>
                      (nilK ws8
                        (bif bb9 then
                          (bif (decide ((0 : Int) ≤ x3) && decide ((x3 : Int) < (l1.length : Int))) then
                            (slK 4 (l1.getD (Int.toNat x3) AVal.undef) fun fl10 es11 =>
                              (bif (decide ((0 : Int) ≤ x4) && decide ((x4 : Int) < (es11.length : Int))) then
                                (optK ((AVal.cells (es11.getD (Int.toNat x4) AVal.undef))[1]?) fun w12 =>
                                  (strK w12 fun ss13 =>
                                    (runK (evFn Cw d 21 [(AVal.sl false 3 l2), (AVal.str ss13), (AVal.str [])] h6) fun r14 h14 =>
                                      (consK r14 fun w15 ws16 =>
                                        (slOK 3 w15 fun es17 =>
                                          (nilK ws16
                                            (P13_1 d n0 k f0 l1 es17 x3 (IntKind.i64.wrap (x4 + 1)) h14)))))))
                              else
                                Tr.fail))
                          else
                            Tr.fail)
                        else
                          (P13_1 d n0 k f0 l1 l2 x3 (IntKind.i64.wrap (x4 + 1)) h6)))))))
            else
              Tr.fail))
        else
          Tr.fail)
      else
        (P13_0 d n0 f0 l1 l2 (IntKind.i64.wrap (x3 + 1)) h)))
  else
    Tr.fail) := by kernel_rfl
theorem F13_eq (d : Nat) (f0 : Bool) (l1 : List AVal) (h : Heap) : evFn Cw (d + 1) 13 [(AVal.sl f0 0 l1)] h =
  (P13_0 d rounds f0 l1 [] 0 h) := by kernel_rfl
/- f15 strandline/strandlineref37.Find -/
noncomputable def P15_0 (d : Nat) (f0 : Bool) (l1 : List AVal) (x2 : Int) (f3 : Bool) (l4 : List AVal) (h : Heap) : Tr Res :=
  heldPt Cw d 15 [true, true] [] ⟨[(0, (EV.one (SV.val (AVal.sl f0 0 l1)))), (1, (EV.one (SV.val (AVal.int .i64 x2)))), (2, (EV.one (SV.val (AVal.sl f3 3 l4))))], []⟩ h
noncomputable def P15_1 (d : Nat) (f0 : Bool) (l1 : List AVal) (x2 : Int) (f3 : Bool) (l4 : List AVal) (h : Heap) : Tr Res :=
  heldPt Cw d 15 [true, true, true] [] ⟨[(0, (EV.one (SV.val (AVal.sl f0 0 l1)))), (1, (EV.one (SV.val (AVal.int .i64 x2)))), (2, (EV.one (SV.val (AVal.sl f3 3 l4))))], []⟩ h
noncomputable def P15_2 (d k : Nat) (f0 : Bool) (l1 : List AVal) (f2 : Bool) (l3 : List AVal) (x4 : Int) (h : Heap) : Tr Res :=
  loopPt Cw d 15 [true, true, true, false, true, true] [] k ⟨[(0, (EV.one (SV.val (AVal.sl f0 0 l1)))), (2, (EV.one (SV.val (AVal.sl f2 3 l3)))), (7, (EV.one (SV.val (AVal.int .i64 x4))))], []⟩ h
theorem P15_0_eq (d : Nat) (f0 : Bool) (l1 : List AVal) (x2 : Int) (f3 : Bool) (l4 : List AVal) (h : Heap) : P15_0 d f0 l1 x2 f3 l4 h =
  (bif (decide ((x2 : Int) > (l1.length : Int))) then (P15_1 d f0 l1 (l1.length : Int) f3 l4 h) else (P15_1 d f0 l1 x2 f3 l4 h)) := (heldPt_eq _ _ _ _ _ _ _).trans (by kernel_rfl)
theorem P15_1_eq (d : Nat) (f0 : Bool) (l1 : List AVal) (x2 : Int) (f3 : Bool) (l4 : List AVal) (h : Heap) : P15_1 d f0 l1 x2 f3 l4 h =
  (P15_2 d rounds f0 l1 f3 l4 x2 h) := (heldPt_eq _ _ _ _ _ _ _).trans (by kernel_rfl)
theorem P15_2_eq (d k : Nat) (f0 : Bool) (l1 : List AVal) (f2 : Bool) (l3 : List AVal) (x4 : Int) (h : Heap) : P15_2 d (k + 1) f0 l1 f2 l3 x4 h =
  (bif (decide ((x4 : Int) ≤ (l1.length : Int))) then
    (runK (evFn Cw d 9 [(AVal.sl f0 0 l1), (AVal.int .i64 x4)] h) fun r1 h1 =>
      (consK r1 fun w2 ws3 =>
        (slK 3 w2 fun fl4 es5 =>
          (nilK ws3
            (runK (evFn Cw d 7 [(AVal.sl fl4 3 es5), (AVal.sl f2 3 l3)] h1) fun r6 h6 =>
              (consK r6 fun w7 ws8 =>
                (boolK w7 fun bb9 =>
                  (nilK ws8
                    (bif bb9 then (Tr.ret ([(AVal.int .i64 x4)], h6)) else (P15_2 d k f0 l1 f2 l3 (IntKind.i64.wrap (x4 + 1)) h6))))))))))
  else
    (Tr.ret ([(AVal.int .i64 (-1))], h))) := by kernel_rfl
theorem F15_eq (d : Nat) (f0 : Bool) (l1 : List AVal) (x2 : Int) (f3 : Bool) (l4 : List AVal) (h : Heap) : evFn Cw (d + 1) 15 [(AVal.sl f0 0 l1), (AVal.int .i64 x2), (AVal.sl f3 3 l4)] h =
  (bif (decide ((x2 : Int) < 0)) then (P15_0 d f0 l1 0 f3 l4 h) else (P15_0 d f0 l1 x2 f3 l4 h)) := by kernel_rfl
/- f25 slices.Equal[[]strandline/api.Pair,strandline/api.Pair] -/
noncomputable def P25_0 (d k : Nat) (f0 : Bool) (l1 : List AVal) (f2 : Bool) (l3 : List AVal) (x4 : Int) (x5 : Int) (h : Heap) : Tr Res :=
  loopPt Cw d 25 [true, true, false, true, true] [] k ⟨[(0, (EV.one (SV.val (AVal.sl f0 3 l1)))), (1, (EV.one (SV.val (AVal.sl f2 3 l3)))), (12, (EV.one (SV.val (AVal.int .i64 x4)))), (13, (EV.one (SV.val (AVal.int .i64 x5))))], []⟩ h
theorem P25_0_eq (d k : Nat) (f0 : Bool) (l1 : List AVal) (f2 : Bool) (l3 : List AVal) (x4 : Int) (x5 : Int) (h : Heap) : P25_0 d (k + 1) f0 l1 f2 l3 x4 x5 h =
  (bif (decide ((x5 : Int) < x4)) then
    (bif (decide ((0 : Int) ≤ x5) && decide ((x5 : Int) < (l1.length : Int))) then
      (aggK 2 (l1.getD (Int.toNat x5) AVal.undef) fun cc1 =>
        (bif (decide ((0 : Int) ≤ x5) && decide ((x5 : Int) < (l3.length : Int))) then
          (aggK 2 (l3.getD (Int.toNat x5) AVal.undef) fun cc2 =>
            (bif ((plainOk Cw.P 39 (AVal.agg cc1)) && (plainOk Cw.P 39 (AVal.agg cc2))) then
              (bif (!(eqCells cc1 cc2)) then (Tr.ret ([(AVal.bool false)], h)) else (P25_0 d k f0 l1 f2 l3 x4 (IntKind.i64.wrap (x5 + 1)) h))
            else
              Tr.fail))
        else
          Tr.fail))
    else
      Tr.fail)
  else
    (Tr.ret ([(AVal.bool true)], h))) := by kernel_rfl
theorem F25_eq (d : Nat) (f0 : Bool) (l1 : List AVal) (f2 : Bool) (l3 : List AVal) (h : Heap) : evFn Cw (d + 1) 25 [(AVal.sl f0 3 l1), (AVal.sl f2 3 l3)] h =
  (bif (((l1.length : Int) : Int) != (l3.length : Int)) then (Tr.ret ([(AVal.bool false)], h)) else (P25_0 d rounds f0 l1 f2 l3 (l1.length : Int) 0 h)) := by kernel_rfl
/- f16 strandline/fold.Equal -/
theorem F16_eq (d : Nat) (f0 : Bool) (l1 : List AVal) (f2 : Bool) (l3 : List AVal) (h : Heap) : evFn Cw (d + 1) 16 [(AVal.sl f0 3 l1), (AVal.sl f2 3 l3)] h =
  (runK (evFn Cw d 25 [(AVal.sl f0 3 l1), (AVal.sl f2 3 l3)] h) fun r1 h1 =>
    (consK r1 fun w2 ws3 =>
      (boolK w2 fun bb4 =>
        (nilK ws3
          (Tr.ret ([(AVal.bool bb4)], h1)))))) := by kernel_rfl
/- f17 strandline/strandlineref31.Get -/
noncomputable def P17_0 (d k : Nat) (f0 : Bool) (l1 : List AVal) (s2 : List UInt8) (x3 : Int) (h : Heap) : Tr Res :=
  loopPt Cw d 17 [true, false, true, true] [] k ⟨[(0, (EV.one (SV.val (AVal.sl f0 3 l1)))), (1, (EV.one (SV.val (AVal.str s2)))), (6, (EV.one (SV.val (AVal.int .i64 x3))))], []⟩ h
theorem P17_0_eq (d k : Nat) (f0 : Bool) (l1 : List AVal) (s2 : List UInt8) (x3 : Int) (h : Heap) : P17_0 d (k + 1) f0 l1 s2 x3 h =
  (bif (decide ((x3 : Int) < (l1.length : Int))) then
    (bif (decide ((0 : Int) ≤ x3) && decide ((x3 : Int) < (l1.length : Int))) then
      (optK ((AVal.cells (l1.getD (Int.toNat x3) AVal.undef))[0]?) fun w1 =>
        (strK w1 fun ss2 =>
          (bif (ss2 == s2) then
            (bif (decide ((0 : Int) ≤ x3) && decide ((x3 : Int) < (l1.length : Int))) then
              (optK ((AVal.cells (l1.getD (Int.toNat x3) AVal.undef))[1]?) fun w3 =>
                (strK w3 fun ss4 =>
                  (Tr.ret ([(AVal.str ss4), (AVal.bool true)], h))))
            else
              Tr.fail)
          else
            (P17_0 d k f0 l1 s2 (IntKind.i64.wrap (x3 + 1)) h))))
    else
      Tr.fail)
  else
    (Tr.ret ([(AVal.str []), (AVal.bool false)], h))) := by kernel_rfl
theorem F17_eq (d : Nat) (f0 : Bool) (l1 : List AVal) (s2 : List UInt8) (h : Heap) : evFn Cw (d + 1) 17 [(AVal.sl f0 3 l1), (AVal.str s2)] h =
  (P17_0 d rounds f0 l1 s2 0 h) := by kernel_rfl
/- f4 strandline/strandlinelaw37.FoldFinds -/
noncomputable def P4_0 (d k : Nat) (f0 : Bool) (l1 : List AVal) (f2 : Bool) (l3 : List AVal) (l4 : List AVal) (x5 : Int) (h : Heap) : Tr Res :=
  loopPt Cw d 4 [true, true, true, true, false, true, true] [] k ⟨[(0, (EV.one (SV.val (AVal.sl f0 0 l1)))), (7, (EV.one (SV.val (AVal.sl f2 0 l3)))), (8, (EV.one (SV.own (tokOf 8 0) 3 l4))), (9, (EV.one (SV.val (AVal.int .i64 x5))))], []⟩ h
noncomputable def P4_1 (d k : Nat) (l0 : List AVal) (f1 : Bool) (l2 : List AVal) (x3 : Int) (h : Heap) : Tr Res :=
  loopPt Cw d 4 [true, true, true, true, true, true, false, true, true] [] k ⟨[(8, (EV.one (SV.own (tokOf 8 0) 3 l0))), (10, (EV.one (SV.val (AVal.sl f1 3 l2)))), (11, (EV.one (SV.val (AVal.int .i64 x3))))], []⟩ h
theorem P4_0_eq (d k : Nat) (f0 : Bool) (l1 : List AVal) (f2 : Bool) (l3 : List AVal) (l4 : List AVal) (x5 : Int) (h : Heap) : P4_0 d (k + 1) f0 l1 f2 l3 l4 x5 h =
  (bif (decide ((x5 : Int) < (l3.length : Int))) then
    (bif (decide ((0 : Int) ≤ x5) && decide ((x5 : Int) < (l3.length : Int))) then
      (strK (l3.getD (Int.toNat x5) AVal.undef) fun ss1 =>
        (bif (decide ((0 : Int) ≤ x5) && decide ((x5 : Int) < (l4.length : Int))) then
          (optK ((AVal.cells (l4.getD (Int.toNat x5) AVal.undef))[0]?) fun w2 =>
            (strK w2 fun ss3 =>
              (bif (!(ss1 == ss3)) then (Tr.ret ([(AVal.bool false)], h)) else (P4_0 d k f0 l1 f2 l3 l4 (IntKind.i64.wrap (x5 + 1)) h))))
        else
          Tr.fail))
    else
      Tr.fail)
  else
    (runK (evFn Cw d 8 [(AVal.sl f0 0 l1), (AVal.int .i64 (l1.length : Int))] h) fun r4 h4 =>
      (consK r4 fun w5 ws6 =>
        (slK 3 w5 fun fl7 es8 =>
          (nilK ws6
            (P4_1 d rounds l4 fl7 es8 0 h4)))))) := by kernel_rfl
theorem P4_1_eq (d k : Nat) (l0 : List AVal) (f1 : Bool) (l2 : List AVal) (x3 : Int) (h : Heap) : P4_1 d (k + 1) l0 f1 l2 x3 h =
  (bif (decide ((x3 : Int) < (l2.length : Int))) then
    (bif (decide ((0 : Int) ≤ x3) && decide ((x3 : Int) < (l2.length : Int))) then
      (optK ((AVal.cells (l2.getD (Int.toNat x3) AVal.undef))[0]?) fun w1 =>
        (strK w1 fun ss2 =>
          (runK (evFn Cw d 17 [(AVal.sl false 3 l0), (AVal.str ss2)] h) fun r3 h3 =>
            (consK r3 fun w4 ws5 =>
              (strK w4 fun ss6 =>
                (consK ws5 fun w7 ws8 =>
                  (boolK w7 fun bb9 =>
                    (nilK ws8
                      (bif (!bb9) then (Tr.ret ([(AVal.bool false)], h3)) else (P4_1 d k l0 f1 l2 (IntKind.i64.wrap (x3 + 1)) h3))))))))))
    else
      Tr.fail)
  else
    (runK (evFn Cw d 6 [] h) fun r10 h10 =>
      (consK r10 fun w11 ws12 =>
        (boolK w11 fun bb13 =>
          (nilK ws12
            (Tr.ret ([(AVal.bool bb13)], h10))))))) := by kernel_rfl
theorem F4_eq (d : Nat) (f0 : Bool) (l1 : List AVal) (x2 : Int) (f3 : Bool) (l4 : List AVal) (h : Heap) : evFn Cw (d + 1) 4 [(AVal.sl f0 0 l1), (AVal.int .i64 x2), (AVal.sl f3 3 l4)] h =
  (runK (evFn Cw d 5 [(AVal.sl f0 0 l1)] h) fun r1 h1 =>
    (consK r1 fun w2 ws3 =>
      (boolK w2 fun bb4 =>
        (nilK ws3
          (bif (!bb4) then
            (runK (evFn Cw d 6 [] h1) fun r5 h5 =>
              (consK r5 fun w6 ws7 =>
                (boolK w6 fun bb8 =>
                  (nilK ws7
                    (Tr.ret ([(AVal.bool bb8)], h5))))))
          else
            (bif (decide (((l4.length : Int) : Int) > 100)) then
              (runK (evFn Cw d 6 [] h1) fun r9 h9 =>
                (consK r9 fun w10 ws11 =>
                  (boolK w10 fun bb12 =>
                    (nilK ws11
                      (Tr.ret ([(AVal.bool bb12)], h9))))))
            else
              (runK (evFn Cw d 12 [(AVal.sl f0 0 l1)] h1) fun r13 h13 =>
                (consK r13 fun w14 ws15 =>
                  (slK 0 w14 fun fl16 es17 =>
                    (nilK ws15
                      (runK (evFn Cw d 13 [(AVal.sl f0 0 l1)] h13) fun r18 h18 =>
                        (consK r18 fun w19 ws20 =>
                          (slOK 3 w19 fun es21 =>
                            (nilK ws20
                              (runK (evFn Cw d 14 [(AVal.sl f0 0 l1), (AVal.int .i64 x2), (AVal.sl f3 3 l4)] h18) fun r22 h22 =>
                                (consK r22 fun w23 ws24 =>
                                  (intK .i64 w23 fun y25 =>
                                    (nilK ws24
                                      (runK (evFn Cw d 15 [(AVal.sl f0 0 l1), (AVal.int .i64 x2), (AVal.sl f3 3 l4)] h22) fun r26 h26 =>
                                        (consK r26 fun w27 ws28 =>
                                          (intK .i64 w27 fun y29 =>
                                            (nilK ws28
                                              (bif ((y25 : Int) != y29) then
                                                (Tr.ret ([(AVal.bool false)], h26))
                                              else
                                                (bif (((es17.length : Int) : Int) != (es21.length : Int)) then
                                                  (Tr.ret ([(AVal.bool false)], h26))
                                                else
                                                  (runK (evFn Cw d 9 [(AVal.sl f0 0 l1), (AVal.int .i64 x2)] h26) fun r30 h30 =>
                                                    (consK r30 fun w31 ws32 =>
                                                      (slK 3 w31 fun fl33 es34 =>
                                                        (nilK ws32
                                                          (runK (evFn Cw d 16 [(AVal.sl f3 3 l4), (AVal.sl fl33 3 es34)] h30) fun r35 h35 =>
                                                            (consK r35 fun w36 ws37 =>
                                                              (boolK w36 fun bb38 =>
                                                                (nilK ws37
                                                                  (runK (evFn Cw d 9 [(AVal.sl f0 0 l1), (AVal.int .i64 x2)] h35) fun r39 h39 =>
                                                                    (consK r39 fun w40 ws41 =>
                                                                      (slK 3 w40 fun fl42 es43 =>
                                                                        (nilK ws41
                                                                          (runK (evFn Cw d 7 [(AVal.sl f3 3 l4), (AVal.sl fl42 3 es43)] h39) fun r44 h44 =>
                                                                            (consK r44 fun w45 ws46 =>
                                                                              (boolK w45 fun bb47 =>
                                                                                (nilK ws46
                                                                                  (bif (!(bb38 == bb47)) then (Tr.ret ([(AVal.bool false)], h44)) else (P4_0 d rounds f0 l1 fl16 es17 es21 0 h44)))))))))))))))))))))))))))))))))))))))))) := by kernel_rfl
end Go.Proofs.Ytbddfpakhealbaa.Wb
end

section
/- The reference's lists of pairs, where contracts stand for the program's After, States, Find. -/
namespace Go.Proofs.Ytbddfpakhealbaa.Wb
open Go Go.Weave Go.Proofs.Ytbddfpakhealbaa.Wa
set_option maxRecDepth 100000
set_option linter.unusedSimpArgs false
set_option linter.unusedVariables false
set_option linter.unusedSectionVars false

theorem r10right_run {d : Nat} {o : KOp} {h : Heap} {Q : Res → Prop} {tg : Hid Q} : Run (evFn Cw (d + 1) 20 [.agg [.int .i64 o.kind, .str o.key, .str o.val]] h) Q tg = Q ([.bool (rightO o)], h) := by
  rw [F20_eq]
  by_cases c1 : 1 ≤ o.key.length
  · have k1 : ((o.key.length : Int) == 0) = false := by simp; intro e; rw [e] at c1; simp at c1
    by_cases c2 : o.key.length ≤ 24
    · by_cases c5 : o.val.length ≤ 128
      · by_cases c3 : o.kind = 1
        · have c3' : (o.kind == 1) = true := by simp [c3]
          have e : rightO o = true := by simp [rightO, c1, c2, c3, c5]
          rw [e]
          simp (disch := (first | assumption | (simp only [Bool.and_eq_true, Bool.and_eq_false_iff, decide_eq_true_eq, decide_eq_false_iff_not, bne_iff_ne, beq_iff_eq, beq_eq_false_iff_ne, bne_eq_false_iff_eq, Bool.not_eq_true', Bool.not_eq_false', bys_length, List.length_append, List.length_cons, List.length_nil, List.length_map, List.length_drop, List.length_take, Int.natCast_add, wrap_i64_eq, wrap_u64, wrap_u8, ne_eq, not_true_eq_false, not_false_eq_true, Nat.zero_add, Nat.mul_one] <;> omega) | omega | (simp; done) | (simp; omega))) only [↓CR, MC, ↓PR, MR, c3', k1]
        · have c3' : (o.kind == 1) = false := by simpa using c3
          by_cases c4 : o.kind = 2
          · have c4' : (o.kind == 2) = true := by simp [c4]
            have e : rightO o = (o.val == []) := by simp [rightO, c1, c2, c4]
            rw [e]
            simp (disch := (first | assumption | (simp only [Bool.and_eq_true, Bool.and_eq_false_iff, decide_eq_true_eq, decide_eq_false_iff_not, bne_iff_ne, beq_iff_eq, beq_eq_false_iff_ne, bne_eq_false_iff_eq, Bool.not_eq_true', Bool.not_eq_false', bys_length, List.length_append, List.length_cons, List.length_nil, List.length_map, List.length_drop, List.length_take, Int.natCast_add, wrap_i64_eq, wrap_u64, wrap_u8, ne_eq, not_true_eq_false, not_false_eq_true, Nat.zero_add, Nat.mul_one] <;> omega) | omega | (simp; done) | (simp; omega))) only [↓CR, MC, ↓PR, MR, c3', c4', k1]
          · have c4' : (o.kind == 2) = false := by simpa using c4
            have e : rightO o = false := by simp [rightO, c3, c4]
            rw [e]
            simp (disch := (first | assumption | (simp only [Bool.and_eq_true, Bool.and_eq_false_iff, decide_eq_true_eq, decide_eq_false_iff_not, bne_iff_ne, beq_iff_eq, beq_eq_false_iff_ne, bne_eq_false_iff_eq, Bool.not_eq_true', Bool.not_eq_false', bys_length, List.length_append, List.length_cons, List.length_nil, List.length_map, List.length_drop, List.length_take, Int.natCast_add, wrap_i64_eq, wrap_u64, wrap_u8, ne_eq, not_true_eq_false, not_false_eq_true, Nat.zero_add, Nat.mul_one] <;> omega) | omega | (simp; done) | (simp; omega))) only [↓CR, MC, ↓PR, MR, c3', c4', k1]
      · have c6 : (o.val == []) = false := by simp; intro e; rw [e] at c5; simp at c5
        have e : rightO o = false := by simp only [rightO, c6, Bool.and_false, Bool.or_false]; simp [c5]
        rw [e]
        simp (disch := (first | assumption | (simp only [Bool.and_eq_true, Bool.and_eq_false_iff, decide_eq_true_eq, decide_eq_false_iff_not, bne_iff_ne, beq_iff_eq, beq_eq_false_iff_ne, bne_eq_false_iff_eq, Bool.not_eq_true', Bool.not_eq_false', bys_length, List.length_append, List.length_cons, List.length_nil, List.length_map, List.length_drop, List.length_take, Int.natCast_add, wrap_i64_eq, wrap_u64, wrap_u8, ne_eq, not_true_eq_false, not_false_eq_true, Nat.zero_add, Nat.mul_one] <;> omega) | omega | (simp; done) | (simp; omega))) only [↓CR, MC, ↓PR, MR, k1]
    · have e : rightO o = false := by simp [rightO, c2]
      rw [e]
      simp (disch := (first | assumption | (simp only [Bool.and_eq_true, Bool.and_eq_false_iff, decide_eq_true_eq, decide_eq_false_iff_not, bne_iff_ne, beq_iff_eq, beq_eq_false_iff_ne, bne_eq_false_iff_eq, Bool.not_eq_true', Bool.not_eq_false', bys_length, List.length_append, List.length_cons, List.length_nil, List.length_map, List.length_drop, List.length_take, Int.natCast_add, wrap_i64_eq, wrap_u64, wrap_u8, ne_eq, not_true_eq_false, not_false_eq_true, Nat.zero_add, Nat.mul_one] <;> omega) | omega | (simp; done) | (simp; omega))) only [↓CR, MC, ↓PR, MR, k1]
  · have k1 : ((o.key.length : Int) == 0) = true := by rw [beq_iff_eq]; omega
    have e : rightO o = false := by simp [rightO, c1]
    rw [e]
    simp (disch := (first | assumption | (simp only [Bool.and_eq_true, Bool.and_eq_false_iff, decide_eq_true_eq, decide_eq_false_iff_not, bne_iff_ne, beq_iff_eq, beq_eq_false_iff_ne, bne_eq_false_iff_eq, Bool.not_eq_true', Bool.not_eq_false', bys_length, List.length_append, List.length_cons, List.length_nil, List.length_map, List.length_drop, List.length_take, Int.natCast_add, wrap_i64_eq, wrap_u64, wrap_u8, ne_eq, not_true_eq_false, not_false_eq_true, Nat.zero_add, Nat.mul_one] <;> omega) | omega | (simp; done) | (simp; omega))) only [↓CR, MC, ↓PR, MR, k1]
theorem rdel31_loop (d : Nat) (f : Bool) (s : List UInt8) (h : Heap) (l : List KPair) (hl : l.length ≤ 1000000) (Q : Res → Prop) : ∀ (n i k : Nat) (acc : List KPair) (tg : Hid Q), acc.length ≤ i → l.length = i + n → n < k →
    Run (P22_0 d k f (prs l) s (prs acc) i h) Q tg = Q ([.sl false 3 (prs (acc ++ ldel s (l.drop i)))], h) := by
  intro n
  induction n with
  | zero =>
    intro i k acc tg ha hi hk
    obtain ⟨k, rfl⟩ : ∃ m, k = m + 1 := ⟨k - 1, by omega⟩
    have hd : l.drop i = [] := List.drop_eq_nil_of_le (by omega)
    have hb : acc ++ ldel s [] = acc := by simp [ldel]
    rw [P22_0_eq, hd, hb]
    simp (disch := (first | assumption | (simp only [Bool.and_eq_true, Bool.and_eq_false_iff, decide_eq_true_eq, decide_eq_false_iff_not, bne_iff_ne, beq_iff_eq, beq_eq_false_iff_ne, bne_eq_false_iff_eq, Bool.not_eq_true', Bool.not_eq_false', bys_length, List.length_append, List.length_cons, List.length_nil, List.length_map, List.length_drop, List.length_take, Int.natCast_add, wrap_i64_eq, wrap_u64, wrap_u8, ne_eq, not_true_eq_false, not_false_eq_true, Nat.zero_add, Nat.mul_one] <;> omega) | omega | (simp; done) | (simp; omega))) only [↓CR, MC, ↓PR, MR, prs_length]
  | succ n ih =>
    intro i k acc tg ha hi hk
    obtain ⟨k, rfl⟩ : ∃ m, k = m + 1 := ⟨k - 1, by omega⟩
    have h1 : i < l.length := by omega
    have e1 := succ_wrap (i := i) (by omega)
    rw [P22_0_eq, List.drop_eq_getElem_cons h1, ldel_cons]
    by_cases c : l[i].key = s
    · have c' : (l[i].key == s) = true := by simp [c]
      have ih' := fun tg => ih (i + 1) k acc tg (by omega) (by omega) (by omega)
      rw [if_pos c]
      simp (disch := (first | assumption | (simp only [Bool.and_eq_true, Bool.and_eq_false_iff, decide_eq_true_eq, decide_eq_false_iff_not, bne_iff_ne, beq_iff_eq, beq_eq_false_iff_ne, bne_eq_false_iff_eq, Bool.not_eq_true', Bool.not_eq_false', bys_length, List.length_append, List.length_cons, List.length_nil, List.length_map, List.length_drop, List.length_take, Int.natCast_add, wrap_i64_eq, wrap_u64, wrap_u8, ne_eq, not_true_eq_false, not_false_eq_true, Nat.zero_add, Nat.mul_one] <;> omega) | omega | (simp; done) | (simp; omega))) only [↓CR, MC, ↓PR, MR, prs_length, prs_getD h1, c', Bool.not_true, e1, ih']
    · have c' : (l[i].key == s) = false := by simpa using c
      have ih' := fun tg => ih (i + 1) k (acc ++ [l[i]]) tg (by simp; omega) (by omega) (by omega)
      have ea : prs acc ++ [.agg [.str l[i].key, .str l[i].val]] = prs (acc ++ [l[i]]) := prs_snoc acc l[i].key l[i].val
      rw [if_neg c]
      simp (disch := (first | assumption | (simp only [Bool.and_eq_true, Bool.and_eq_false_iff, decide_eq_true_eq, decide_eq_false_iff_not, bne_iff_ne, beq_iff_eq, beq_eq_false_iff_ne, bne_eq_false_iff_eq, Bool.not_eq_true', Bool.not_eq_false', bys_length, List.length_append, List.length_cons, List.length_nil, List.length_map, List.length_drop, List.length_take, Int.natCast_add, wrap_i64_eq, wrap_u64, wrap_u8, ne_eq, not_true_eq_false, not_false_eq_true, Nat.zero_add, Nat.mul_one] <;> omega) | omega | (simp; done) | (simp; omega))) only [↓CR, MC, ↓PR, MR, prs_length, prs_getD h1, c', Bool.not_false, e1, ea, ih']
      simp
theorem rdel31_run {d : Nat} {f : Bool} {l : List KPair} {s : List UInt8} {h : Heap} {Q : Res → Prop} {tg : Hid Q} (hl : l.length ≤ 1000000) :
    Run (evFn Cw (d + 1) 22 [.sl f 3 (prs l), .str s] h) Q tg = Q ([.sl false 3 (prs (ldel s l))], h) := by
  rw [F22_eq]
  have := rdel31_loop d f s h l hl Q l.length 0 rounds [] ⟨⟩ (by simp) (by omega) (rounds_gt' (by omega))
  rw [e0, prs_nil] at this
  exact this
theorem rput31_loop (d : Nat) (s v : List UInt8) (h : Heap) (l : List KPair) (hl : l.length ≤ 1000000) (Q : Res → Prop) : ∀ (n i k : Nat) (b : Bool) (acc : List KPair) (tg : Hid Q), acc.length ≤ i + b.toNat → l.length = i + n → n < k →
    Run (P21_0 d k (prs l) s v (prs acc) b i h) Q tg = Q ([.sl false 3 (prs (acc ++ insF s v b (l.drop i)))], h) := by
  intro n
  induction n with
  | zero =>
    intro i k b acc tg ha hi hk
    obtain ⟨k, rfl⟩ : ∃ m, k = m + 1 := ⟨k - 1, by omega⟩
    have hd : l.drop i = [] := List.drop_eq_nil_of_le (by omega)
    rw [P21_0_eq, hd]
    cases b <;> simp only [Bool.toNat_false, Bool.toNat_true] at ha
    · simp (disch := (first | assumption | (simp only [Bool.and_eq_true, Bool.and_eq_false_iff, decide_eq_true_eq, decide_eq_false_iff_not, bne_iff_ne, beq_iff_eq, beq_eq_false_iff_ne, bne_eq_false_iff_eq, Bool.not_eq_true', Bool.not_eq_false', bys_length, List.length_append, List.length_cons, List.length_nil, List.length_map, List.length_drop, List.length_take, Int.natCast_add, wrap_i64_eq, wrap_u64, wrap_u8, ne_eq, not_true_eq_false, not_false_eq_true, Nat.zero_add, Nat.mul_one] <;> omega) | omega | (simp; done) | (simp; omega))) only [↓CR, MC, ↓PR, MR, prs_length, Bool.not_false, prs_snoc]
      rfl
    · have hb : acc ++ insF s v true [] = acc := by simp [insF]
      rw [hb]
      simp (disch := (first | assumption | (simp only [Bool.and_eq_true, Bool.and_eq_false_iff, decide_eq_true_eq, decide_eq_false_iff_not, bne_iff_ne, beq_iff_eq, beq_eq_false_iff_ne, bne_eq_false_iff_eq, Bool.not_eq_true', Bool.not_eq_false', bys_length, List.length_append, List.length_cons, List.length_nil, List.length_map, List.length_drop, List.length_take, Int.natCast_add, wrap_i64_eq, wrap_u64, wrap_u8, ne_eq, not_true_eq_false, not_false_eq_true, Nat.zero_add, Nat.mul_one] <;> omega) | omega | (simp; done) | (simp; omega))) only [↓CR, MC, ↓PR, MR, prs_length, Bool.not_true]
  | succ n ih =>
    intro i k b acc tg ha hi hk
    obtain ⟨k, rfl⟩ : ∃ m, k = m + 1 := ⟨k - 1, by omega⟩
    have h1 : i < l.length := by omega
    have e1 := succ_wrap (i := i) (by omega)
    have ea : ∀ acc, prs acc ++ [.agg [.str l[i].key, .str l[i].val]] = prs (acc ++ [l[i]]) := fun acc => prs_snoc acc l[i].key l[i].val
    rw [P21_0_eq, List.drop_eq_getElem_cons h1]
    cases b <;> simp only [Bool.toNat_false, Bool.toNat_true] at ha
    · unfold insF
      by_cases c : blt s l[i].key = true
      · have c1 : Go.Op.bytesLess l[i].key s = false := blt_asym c
        have c2 : (l[i].key == s) = false := by simpa using (blt_ne c).symm
        have ih' := fun tg => ih (i + 1) k true (acc ++ [⟨s, v⟩] ++ [l[i]]) tg (by simp; omega) (by omega) (by omega)
        rw [if_pos c]
        simp (disch := (first | assumption | (simp only [Bool.and_eq_true, Bool.and_eq_false_iff, decide_eq_true_eq, decide_eq_false_iff_not, bne_iff_ne, beq_iff_eq, beq_eq_false_iff_ne, bne_eq_false_iff_eq, Bool.not_eq_true', Bool.not_eq_false', bys_length, List.length_append, List.length_cons, List.length_nil, List.length_map, List.length_drop, List.length_take, Int.natCast_add, wrap_i64_eq, wrap_u64, wrap_u8, ne_eq, not_true_eq_false, not_false_eq_true, Nat.zero_add, Nat.mul_one] <;> omega) | omega | (simp; done) | (simp; omega))) only [↓CR, MC, ↓PR, MR, prs_length, prs_getD h1, Bool.not_false, c1, c2, Bool.or_false, e1, prs_snoc, ea, ih']
        simp [insF]
      · have ih' := fun tg => ih (i + 1) k false (acc ++ [l[i]]) tg (by simp; omega) (by omega) (by omega)
        rw [if_neg c]
        have c3 : (Go.Op.bytesLess l[i].key s || (l[i].key == s)) = true := by
          cases hh : blt l[i].key s
          · have := blt_tri hh (by simpa using c)
            simp [this]
          · have : Go.Op.bytesLess l[i].key s = true := hh
            simp [this]
        simp (disch := (first | assumption | (simp only [Bool.and_eq_true, Bool.and_eq_false_iff, decide_eq_true_eq, decide_eq_false_iff_not, bne_iff_ne, beq_iff_eq, beq_eq_false_iff_ne, bne_eq_false_iff_eq, Bool.not_eq_true', Bool.not_eq_false', bys_length, List.length_append, List.length_cons, List.length_nil, List.length_map, List.length_drop, List.length_take, Int.natCast_add, wrap_i64_eq, wrap_u64, wrap_u8, ne_eq, not_true_eq_false, not_false_eq_true, Nat.zero_add, Nat.mul_one] <;> omega) | omega | (simp; done) | (simp; omega))) only [↓CR, MC, ↓PR, MR, prs_length, prs_getD h1, Bool.not_false, c3, Bool.not_true, e1, ea, ih']
        simp
    · have ih' := fun tg => ih (i + 1) k true (acc ++ [l[i]]) tg (by simp; omega) (by omega) (by omega)
      simp (disch := (first | assumption | (simp only [Bool.and_eq_true, Bool.and_eq_false_iff, decide_eq_true_eq, decide_eq_false_iff_not, bne_iff_ne, beq_iff_eq, beq_eq_false_iff_ne, bne_eq_false_iff_eq, Bool.not_eq_true', Bool.not_eq_false', bys_length, List.length_append, List.length_cons, List.length_nil, List.length_map, List.length_drop, List.length_take, Int.natCast_add, wrap_i64_eq, wrap_u64, wrap_u8, ne_eq, not_true_eq_false, not_false_eq_true, Nat.zero_add, Nat.mul_one] <;> omega) | omega | (simp; done) | (simp; omega))) only [↓CR, MC, ↓PR, MR, prs_length, prs_getD h1, Bool.not_true, e1, ea, ih']
      simp [insF]
theorem rput31_run {d : Nat} {f : Bool} {l : List KPair} {s v : List UInt8} {h : Heap} {Q : Res → Prop} {tg : Hid Q} (hs : Srt l) (hl : l.length ≤ 900000) :
    Run (evFn Cw (d + 2) 21 [.sl f 3 (prs l), .str s, .str v] h) Q tg = Q ([.sl false 3 (prs (lput s v l))], h) := by
  have hlen : (ldel s l).length ≤ l.length := List.length_filter_le _ _
  have := rput31_loop (d + 1) s v h (ldel s l) (by omega) Q (ldel s l).length 0 rounds false [] ⟨⟩ (by simp) (by omega) (rounds_gt' (by omega))
  rw [e0, prs_nil, List.drop_zero, List.nil_append, insF_lput hs.del (fun p hp => by simpa using (List.mem_filter.1 hp).2), lput_ldel] at this
  rw [F21_eq]
  simp (disch := (first | assumption | (simp only [Bool.and_eq_true, Bool.and_eq_false_iff, decide_eq_true_eq, decide_eq_false_iff_not, bne_iff_ne, beq_iff_eq, beq_eq_false_iff_ne, bne_eq_false_iff_eq, Bool.not_eq_true', Bool.not_eq_false', bys_length, List.length_append, List.length_cons, List.length_nil, List.length_map, List.length_drop, List.length_take, Int.natCast_add, wrap_i64_eq, wrap_u64, wrap_u8, ne_eq, not_true_eq_false, not_false_eq_true, Nat.zero_add, Nat.mul_one] <;> omega) | omega | (simp; done) | (simp; omega))) only [↓CR, MC, ↓PR, MR, rdel31_run, this]
def isSl (v : AVal) (l : List KPair) : Prop := (v = .sl true 0 [] ∧ l = []) ∨ v = .sl false 3 (prs l)
theorem rputs_run {d : Nat} {v : AVal} {l : List KPair} {s x : List UInt8} {h : Heap} {Q : Res → Prop} {tg : Hid Q} (hv : isSl v l) (hs : Srt l) (hl : l.length ≤ 900000) :
    Run (evFn Cw (d + 2) 21 [v, .str s, .str x] h) Q tg = Q ([.sl false 3 (prs (lput s x l))], h) := by
  rcases hv with ⟨rfl, rfl⟩ | rfl
  · obtain ⟨k, hk⟩ : ∃ m, rounds = m + 1 := ⟨rounds - 1, by have := rounds_ge; omega⟩
    have e : prs (lput s x []) = [.agg [.str s, .str x]] := rfl
    have ed : ∀ (Q : Res → Prop) (tg : Hid Q), Run (evFn Cw (d + 1) 22 [.sl true 0 [], .str s] h) Q tg = Q ([.sl false 3 []], h) := fun Q tg => by
      rw [F22n_eq, hk, P22n_0_eq]
      simp (disch := (first | assumption | (simp only [Bool.and_eq_true, Bool.and_eq_false_iff, decide_eq_true_eq, decide_eq_false_iff_not, bne_iff_ne, beq_iff_eq, beq_eq_false_iff_ne, bne_eq_false_iff_eq, Bool.not_eq_true', Bool.not_eq_false', bys_length, List.length_append, List.length_cons, List.length_nil, List.length_map, List.length_drop, List.length_take, Int.natCast_add, wrap_i64_eq, wrap_u64, wrap_u8, ne_eq, not_true_eq_false, not_false_eq_true, Nat.zero_add, Nat.mul_one] <;> omega) | omega | (simp; done) | (simp; omega))) only [↓CR, MC, ↓PR, MR, List.length_nil]
    rw [F21n_eq, e]
    simp (disch := (first | assumption | (simp only [Bool.and_eq_true, Bool.and_eq_false_iff, decide_eq_true_eq, decide_eq_false_iff_not, bne_iff_ne, beq_iff_eq, beq_eq_false_iff_ne, bne_eq_false_iff_eq, Bool.not_eq_true', Bool.not_eq_false', bys_length, List.length_append, List.length_cons, List.length_nil, List.length_map, List.length_drop, List.length_take, Int.natCast_add, wrap_i64_eq, wrap_u64, wrap_u8, ne_eq, not_true_eq_false, not_false_eq_true, Nat.zero_add, Nat.mul_one] <;> omega) | omega | (simp; done) | (simp; omega))) only [↓CR, MC, ↓PR, MR, ed]
    rw [hk, P21n_0_eq]
    simp (disch := (first | assumption | (simp only [Bool.and_eq_true, Bool.and_eq_false_iff, decide_eq_true_eq, decide_eq_false_iff_not, bne_iff_ne, beq_iff_eq, beq_eq_false_iff_ne, bne_eq_false_iff_eq, Bool.not_eq_true', Bool.not_eq_false', bys_length, List.length_append, List.length_cons, List.length_nil, List.length_map, List.length_drop, List.length_take, Int.natCast_add, wrap_i64_eq, wrap_u64, wrap_u8, ne_eq, not_true_eq_false, not_false_eq_true, Nat.zero_add, Nat.mul_one] <;> omega) | omega | (simp; done) | (simp; omega))) only [↓CR, MC, ↓PR, MR, List.length_nil, Bool.not_false]
  · exact rput31_run hs hl
theorem rdels_run {d : Nat} {v : AVal} {l : List KPair} {s : List UInt8} {h : Heap} {Q : Res → Prop} {tg : Hid Q} (hv : isSl v l) (hl : l.length ≤ 900000) :
    Run (evFn Cw (d + 1) 22 [v, .str s] h) Q tg = Q ([.sl false 3 (prs (ldel s l))], h) := by
  rcases hv with ⟨rfl, rfl⟩ | rfl
  · obtain ⟨k, hk⟩ : ∃ m, rounds = m + 1 := ⟨rounds - 1, by have := rounds_ge; omega⟩
    have e : prs (ldel s []) = [] := rfl
    rw [F22n_eq, hk, P22n_0_eq, e]
    simp (disch := (first | assumption | (simp only [Bool.and_eq_true, Bool.and_eq_false_iff, decide_eq_true_eq, decide_eq_false_iff_not, bne_iff_ne, beq_iff_eq, beq_eq_false_iff_ne, bne_eq_false_iff_eq, Bool.not_eq_true', Bool.not_eq_false', bys_length, List.length_append, List.length_cons, List.length_nil, List.length_map, List.length_drop, List.length_take, Int.natCast_add, wrap_i64_eq, wrap_u64, wrap_u8, ne_eq, not_true_eq_false, not_false_eq_true, Nat.zero_add, Nat.mul_one] <;> omega) | omega | (simp; done) | (simp; omega))) only [↓CR, MC, ↓PR, MR, List.length_nil]
  · exact rdel31_run (by omega)
theorem rapply_loop (d : Nat) (f : Bool) (ops : List KOp) (ho : ops.length ≤ 1000) (h : Heap) : ∀ (n j k c : Nat) (v : AVal) (l : List KPair), isSl v l → Srt l → l.length + n ≤ 2000 → ops.length = j + n → n < k → c ≤ j →
    ∃ v', isSl v' (aps l (ops.drop j)) ∧ ∀ (Q : Res → Prop) (tg : Hid Q),
      Run (P11n_0 (d + 2) k v f (kops ops) c j h) Q tg = Q ([v', .int .i64 (c + cntO (ops.drop j) : Nat)], h) := by
  intro n
  induction n with
  | zero =>
    intro j k c v l hv hs hl hj hk hc
    obtain ⟨k, rfl⟩ : ∃ m, k = m + 1 := ⟨k - 1, by omega⟩
    have hd : ops.drop j = [] := List.drop_eq_nil_of_le (by omega)
    have e : c + cntO [] = c := rfl
    refine ⟨v, by rw [hd]; exact hv, fun Q tg => ?_⟩
    rw [P11n_0_eq, hd, e]
    simp (disch := (first | assumption | (simp only [Bool.and_eq_true, Bool.and_eq_false_iff, decide_eq_true_eq, decide_eq_false_iff_not, bne_iff_ne, beq_iff_eq, beq_eq_false_iff_ne, bne_eq_false_iff_eq, Bool.not_eq_true', Bool.not_eq_false', bys_length, List.length_append, List.length_cons, List.length_nil, List.length_map, List.length_drop, List.length_take, Int.natCast_add, wrap_i64_eq, wrap_u64, wrap_u8, ne_eq, not_true_eq_false, not_false_eq_true, Nat.zero_add, Nat.mul_one] <;> omega) | omega | (simp; done) | (simp; omega))) only [↓CR, MC, ↓PR, MR, kops_length]
  | succ n ih =>
    intro j k c v l hv hs hl hj hk hc
    obtain ⟨k, rfl⟩ : ∃ m, k = m + 1 := ⟨k - 1, by omega⟩
    have h1 : j < ops.length := by omega
    have e1 := succ_wrap (i := j) (by omega)
    have e2 := succ_wrap (i := c) (by omega)
    rw [List.drop_eq_getElem_cons h1, aps_cons, cntO_cons]
    cases hr : rightO ops[j]
    · obtain ⟨v', hv', r⟩ := ih (j + 1) k c v l hv hs (by omega) (by omega) (by omega) (by omega)
      refine ⟨v', by simpa using hv', fun Q tg => ?_⟩
      have r' : ∀ (Q : Res → Prop) (tg : Hid Q), Run (P11n_0 (d + 2) k v f (kops ops) c (j + 1 : Nat) h) Q tg = Q ([v', .int .i64 (c + ((if false = true then 1 else 0) + cntO (ops.drop (j + 1))) : Nat)], h) := by simpa using r
      rw [P11n_0_eq]
      simp (disch := (first | assumption | (simp only [Bool.and_eq_true, Bool.and_eq_false_iff, decide_eq_true_eq, decide_eq_false_iff_not, bne_iff_ne, beq_iff_eq, beq_eq_false_iff_ne, bne_eq_false_iff_eq, Bool.not_eq_true', Bool.not_eq_false', bys_length, List.length_append, List.length_cons, List.length_nil, List.length_map, List.length_drop, List.length_take, Int.natCast_add, wrap_i64_eq, wrap_u64, wrap_u8, ne_eq, not_true_eq_false, not_false_eq_true, Nat.zero_add, Nat.mul_one] <;> omega) | omega | (simp; done) | (simp; omega))) only [↓CR, MC, ↓PR, MR, kops_length, kops_getD h1, r10right_run, hr, Bool.not_false, e1, r']
    · by_cases c1 : ops[j].kind = 1
      · have c1' : (ops[j].kind == 1) = true := by simp [c1]
        have rp := fun (Q : Res → Prop) (tg : Hid Q) => rputs_run (d := d) (s := ops[j].key) (x := ops[j].val) (h := h) (Q := Q) (tg := tg) hv hs (by omega)
        have hl' := lput_len_le (k := ops[j].key) (v := ops[j].val) hs
        obtain ⟨v', hv', r⟩ := ih (j + 1) k (c + 1) _ _ (.inr rfl) (hs.put (k := ops[j].key) (v := ops[j].val)) (by omega) (by omega) (by omega) (by omega)
        refine ⟨v', by rw [if_pos rfl]; unfold apO; rw [if_pos c1]; exact hv', fun Q tg => ?_⟩
        have r' : ∀ (Q : Res → Prop) (tg : Hid Q), Run (P11n_0 (d + 2) k (.sl false 3 (prs (lput ops[j].key ops[j].val l))) f (kops ops) (c + 1 : Nat) (j + 1 : Nat) h) Q tg = Q ([v', .int .i64 (c + ((if true = true then 1 else 0) + cntO (ops.drop (j + 1))) : Nat)], h) := fun Q tg => by
          rw [r Q tg, if_pos rfl, Nat.add_assoc]
        rw [P11n_0_eq]
        simp (disch := (first | assumption | (simp only [Bool.and_eq_true, Bool.and_eq_false_iff, decide_eq_true_eq, decide_eq_false_iff_not, bne_iff_ne, beq_iff_eq, beq_eq_false_iff_ne, bne_eq_false_iff_eq, Bool.not_eq_true', Bool.not_eq_false', bys_length, List.length_append, List.length_cons, List.length_nil, List.length_map, List.length_drop, List.length_take, Int.natCast_add, wrap_i64_eq, wrap_u64, wrap_u8, ne_eq, not_true_eq_false, not_false_eq_true, Nat.zero_add, Nat.mul_one] <;> omega) | omega | (simp; done) | (simp; omega))) only [↓CR, MC, ↓PR, MR, kops_length, kops_getD h1, r10right_run, hr, Bool.not_true, c1', rp, e1, e2, r']
      · have c1' : (ops[j].kind == 1) = false := by simpa using c1
        have rp := fun (Q : Res → Prop) (tg : Hid Q) => rdels_run (d := d + 1) (s := ops[j].key) (h := h) (Q := Q) (tg := tg) hv (by omega)
        have hl' := ldel_len_le ops[j].key l
        obtain ⟨v', hv', r⟩ := ih (j + 1) k (c + 1) _ _ (.inr rfl) (hs.del (k := ops[j].key)) (by omega) (by omega) (by omega) (by omega)
        refine ⟨v', by rw [if_pos rfl]; unfold apO; rw [if_neg c1]; exact hv', fun Q tg => ?_⟩
        have r' : ∀ (Q : Res → Prop) (tg : Hid Q), Run (P11n_0 (d + 2) k (.sl false 3 (prs (ldel ops[j].key l))) f (kops ops) (c + 1 : Nat) (j + 1 : Nat) h) Q tg = Q ([v', .int .i64 (c + ((if true = true then 1 else 0) + cntO (ops.drop (j + 1))) : Nat)], h) := fun Q tg => by
          rw [r Q tg, if_pos rfl, Nat.add_assoc]
        rw [P11n_0_eq]
        simp (disch := (first | assumption | (simp only [Bool.and_eq_true, Bool.and_eq_false_iff, decide_eq_true_eq, decide_eq_false_iff_not, bne_iff_ne, beq_iff_eq, beq_eq_false_iff_ne, bne_eq_false_iff_eq, Bool.not_eq_true', Bool.not_eq_false', bys_length, List.length_append, List.length_cons, List.length_nil, List.length_map, List.length_drop, List.length_take, Int.natCast_add, wrap_i64_eq, wrap_u64, wrap_u8, ne_eq, not_true_eq_false, not_false_eq_true, Nat.zero_add, Nat.mul_one] <;> omega) | omega | (simp; done) | (simp; omega))) only [↓CR, MC, ↓PR, MR, kops_length, kops_getD h1, r10right_run, hr, Bool.not_true, c1', rp, e1, e2, r']
theorem rapplyn_run (d : Nat) (f : Bool) (ops : List KOp) (ho : ops.length ≤ 1000) (h : Heap) : ∃ v', isSl v' (aps [] ops) ∧ ∀ (Q : Res → Prop) (tg : Hid Q),
    Run (evFn Cw (d + 3) 11 [.sl true 0 [], .sl f 4 (kops ops)] h) Q tg = Q ([v', .int .i64 (cntO ops : Nat)], h) := by
  obtain ⟨v', hv', r⟩ := rapply_loop d f ops ho h ops.length 0 rounds 0 (.sl true 0 []) [] (.inl ⟨rfl, rfl⟩) List.Pairwise.nil (by simp; omega) (by omega) (rounds_gt' (by omega)) (by omega)
  rw [List.drop_zero] at hv' r
  rw [e0, Nat.zero_add] at r
  refine ⟨v', hv', fun Q tg => ?_⟩
  rw [F11n_eq]
  simp (disch := (first | assumption | (simp only [Bool.and_eq_true, Bool.and_eq_false_iff, decide_eq_true_eq, decide_eq_false_iff_not, bne_iff_ne, beq_iff_eq, beq_eq_false_iff_ne, bne_eq_false_iff_eq, Bool.not_eq_true', Bool.not_eq_false', bys_length, List.length_append, List.length_cons, List.length_nil, List.length_map, List.length_drop, List.length_take, Int.natCast_add, wrap_i64_eq, wrap_u64, wrap_u8, ne_eq, not_true_eq_false, not_false_eq_true, Nat.zero_add, Nat.mul_one] <;> omega) | omega | (simp; done) | (simp; omega))) only [↓CR, MC, ↓PR, MR, r]
theorem rapplys_loop (d : Nat) (f : Bool) (ops : List KOp) (ho : ops.length ≤ 1000) (h : Heap) : ∀ (n j k c : Nat) (g : Bool) (l : List KPair), Srt l → l.length + n ≤ 800000 → ops.length = j + n → n < k → c ≤ j →
    ∃ g', ∀ (Q : Res → Prop) (tg : Hid Q),
      Run (P11_0 (d + 2) k g (prs l) f (kops ops) c j h) Q tg = Q ([.sl g' 3 (prs (aps l (ops.drop j))), .int .i64 (c + cntO (ops.drop j) : Nat)], h) := by
  intro n
  induction n with
  | zero =>
    intro j k c g l hs hl hj hk hc
    obtain ⟨k, rfl⟩ : ∃ m, k = m + 1 := ⟨k - 1, by omega⟩
    have hd : ops.drop j = [] := List.drop_eq_nil_of_le (by omega)
    refine ⟨g, fun Q tg => ?_⟩
    rw [P11_0_eq, hd]
    have e : c + cntO [] = c := rfl
    rw [e, aps_nil]
    simp (disch := (first | assumption | (simp only [Bool.and_eq_true, Bool.and_eq_false_iff, decide_eq_true_eq, decide_eq_false_iff_not, bne_iff_ne, beq_iff_eq, beq_eq_false_iff_ne, bne_eq_false_iff_eq, Bool.not_eq_true', Bool.not_eq_false', bys_length, List.length_append, List.length_cons, List.length_nil, List.length_map, List.length_drop, List.length_take, Int.natCast_add, wrap_i64_eq, wrap_u64, wrap_u8, ne_eq, not_true_eq_false, not_false_eq_true, Nat.zero_add, Nat.mul_one] <;> omega) | omega | (simp; done) | (simp; omega))) only [↓CR, MC, ↓PR, MR, kops_length]
  | succ n ih =>
    intro j k c g l hs hl hj hk hc
    obtain ⟨k, rfl⟩ : ∃ m, k = m + 1 := ⟨k - 1, by omega⟩
    have h1 : j < ops.length := by omega
    have e1 := succ_wrap (i := j) (by omega)
    have e2 := succ_wrap (i := c) (by omega)
    have rr := fun (Q : Res → Prop) (tg : Hid Q) => r10right_run (d := d + 1) (o := ops[j]) (h := h) (Q := Q) (tg := tg)
    rw [List.drop_eq_getElem_cons h1, aps_cons, cntO_cons]
    cases hr : rightO ops[j]
    · rw [hr] at rr
      obtain ⟨g', r⟩ := ih (j + 1) k c g l hs (by omega) (by omega) (by omega) (by omega)
      refine ⟨g', fun Q tg => ?_⟩
      rw [P11_0_eq]
      simp (disch := (first | assumption | (simp only [Bool.and_eq_true, Bool.and_eq_false_iff, decide_eq_true_eq, decide_eq_false_iff_not, bne_iff_ne, beq_iff_eq, beq_eq_false_iff_ne, bne_eq_false_iff_eq, Bool.not_eq_true', Bool.not_eq_false', bys_length, List.length_append, List.length_cons, List.length_nil, List.length_map, List.length_drop, List.length_take, Int.natCast_add, wrap_i64_eq, wrap_u64, wrap_u8, ne_eq, not_true_eq_false, not_false_eq_true, Nat.zero_add, Nat.mul_one] <;> omega) | omega | (simp; done) | (simp; omega))) only [↓CR, MC, ↓PR, MR, kops_length, kops_getD h1, rr, Bool.not_false, e1, r]
      simp
    · rw [hr] at rr
      by_cases k1 : ops[j].kind = 1
      · have b1 : (ops[j].kind == 1) = true := by simp [k1]
        have ha : apO l ops[j] = lput ops[j].key ops[j].val l := by unfold apO; rw [if_pos k1]
        have hlen := lput_len_le (k := ops[j].key) (v := ops[j].val) hs
        obtain ⟨g', r⟩ := ih (j + 1) k (c + 1) false (lput ops[j].key ops[j].val l) hs.put (by omega) (by omega) (by omega) (by omega)
        have rp := fun (Q : Res → Prop) (tg : Hid Q) => rput31_run (d := d) (f := g) (l := l) (s := ops[j].key) (v := ops[j].val) (h := h) (Q := Q) (tg := tg) hs (by omega)
        refine ⟨g', fun Q tg => ?_⟩
        rw [P11_0_eq]
        simp (disch := (first | assumption | (simp only [Bool.and_eq_true, Bool.and_eq_false_iff, decide_eq_true_eq, decide_eq_false_iff_not, bne_iff_ne, beq_iff_eq, beq_eq_false_iff_ne, bne_eq_false_iff_eq, Bool.not_eq_true', Bool.not_eq_false', bys_length, List.length_append, List.length_cons, List.length_nil, List.length_map, List.length_drop, List.length_take, Int.natCast_add, wrap_i64_eq, wrap_u64, wrap_u8, ne_eq, not_true_eq_false, not_false_eq_true, Nat.zero_add, Nat.mul_one] <;> omega) | omega | (simp; done) | (simp; omega))) only [↓CR, MC, ↓PR, MR, kops_length, kops_getD h1, rr, Bool.not_true, cells_agg, b1, rp, e1, e2, r]
        simp only [if_true, ha]
        rw [show c + 1 + cntO (ops.drop (j + 1)) = c + (1 + cntO (ops.drop (j + 1))) by omega]
      · have b1 : (ops[j].kind == 1) = false := by simp [k1]
        have ha : apO l ops[j] = ldel ops[j].key l := by unfold apO; rw [if_neg k1]
        have hlen := ldel_len_le ops[j].key l
        obtain ⟨g', r⟩ := ih (j + 1) k (c + 1) false (ldel ops[j].key l) hs.del (by omega) (by omega) (by omega) (by omega)
        have rp := fun (Q : Res → Prop) (tg : Hid Q) => rdel31_run (d := d + 1) (f := g) (l := l) (s := ops[j].key) (h := h) (Q := Q) (tg := tg) (by omega)
        refine ⟨g', fun Q tg => ?_⟩
        rw [P11_0_eq]
        simp (disch := (first | assumption | (simp only [Bool.and_eq_true, Bool.and_eq_false_iff, decide_eq_true_eq, decide_eq_false_iff_not, bne_iff_ne, beq_iff_eq, beq_eq_false_iff_ne, bne_eq_false_iff_eq, Bool.not_eq_true', Bool.not_eq_false', bys_length, List.length_append, List.length_cons, List.length_nil, List.length_map, List.length_drop, List.length_take, Int.natCast_add, wrap_i64_eq, wrap_u64, wrap_u8, ne_eq, not_true_eq_false, not_false_eq_true, Nat.zero_add, Nat.mul_one] <;> omega) | omega | (simp; done) | (simp; omega))) only [↓CR, MC, ↓PR, MR, kops_length, kops_getD h1, rr, Bool.not_true, cells_agg, b1, rp, e1, e2, r]
        simp only [if_true, ha]
        rw [show c + 1 + cntO (ops.drop (j + 1)) = c + (1 + cntO (ops.drop (j + 1))) by omega]
theorem rapplys_run (d : Nat) (f g : Bool) (ops : List KOp) (ho : ops.length ≤ 1000) (l : List KPair) (hs : Srt l) (hl : l.length ≤ 700000) (h : Heap) : ∃ g', ∀ (Q : Res → Prop) (tg : Hid Q),
    Run (evFn Cw (d + 3) 11 [.sl g 3 (prs l), .sl f 4 (kops ops)] h) Q tg = Q ([.sl g' 3 (prs (aps l ops)), .int .i64 (cntO ops : Nat)], h) := by
  obtain ⟨g', r⟩ := rapplys_loop d f ops ho h ops.length 0 rounds 0 g l hs (by omega) (by omega) (Nat.lt_of_lt_of_le (by omega) rounds_ge) (by omega)
  rw [List.drop_zero] at r
  rw [e0, Nat.zero_add] at r
  refine ⟨g', fun Q tg => ?_⟩
  rw [F11_eq]
  exact r Q ⟨⟩

theorem same31g_loop (d : Nat) (f g : Bool) (a b : List KPair) (hl : a.length ≤ 1000) (he : a.length = b.length) (h : Heap) (Q : Res → Prop) : ∀ (n j k : Nat) (tg : Hid Q), a.length = j + n → n < k →
    Run (P7_0 d k f (prs a) g (prs b) j h) Q tg = Q ([.bool (eqLB (a.drop j) (b.drop j))], h) := by
  intro n
  induction n with
  | zero =>
    intro j k tg hj hk
    obtain ⟨k, rfl⟩ : ∃ m, k = m + 1 := ⟨k - 1, by omega⟩
    have hd : a.drop j = [] := List.drop_eq_nil_of_le (by omega)
    have hd' : b.drop j = [] := List.drop_eq_nil_of_le (by omega)
    rw [P7_0_eq, hd, hd']
    simp (disch := (first | assumption | (simp only [Bool.and_eq_true, Bool.and_eq_false_iff, decide_eq_true_eq, decide_eq_false_iff_not, bne_iff_ne, beq_iff_eq, beq_eq_false_iff_ne, bne_eq_false_iff_eq, Bool.not_eq_true', Bool.not_eq_false', bys_length, List.length_append, List.length_cons, List.length_nil, List.length_map, List.length_drop, List.length_take, Int.natCast_add, wrap_i64_eq, wrap_u64, wrap_u8, ne_eq, not_true_eq_false, not_false_eq_true, Nat.zero_add, Nat.mul_one] <;> omega) | omega | (simp; done) | (simp; omega))) only [↓CR, MC, ↓PR, MR, prs_length]
    rfl
  | succ n ih =>
    intro j k tg hj hk
    obtain ⟨k, rfl⟩ : ∃ m, k = m + 1 := ⟨k - 1, by omega⟩
    have h1 : j < a.length := by omega
    have h2 : j < b.length := by omega
    have e1 := succ_wrap (i := j) (by omega)
    have ih' := fun tg => ih (j + 1) k tg (by omega) (by omega)
    rw [P7_0_eq, List.drop_eq_getElem_cons h1, List.drop_eq_getElem_cons h2]
    unfold eqLB
    cases c1 : a[j].key == b[j].key
    · simp (disch := (first | assumption | (simp only [Bool.and_eq_true, Bool.and_eq_false_iff, decide_eq_true_eq, decide_eq_false_iff_not, bne_iff_ne, beq_iff_eq, beq_eq_false_iff_ne, bne_eq_false_iff_eq, Bool.not_eq_true', Bool.not_eq_false', bys_length, List.length_append, List.length_cons, List.length_nil, List.length_map, List.length_drop, List.length_take, Int.natCast_add, wrap_i64_eq, wrap_u64, wrap_u8, ne_eq, not_true_eq_false, not_false_eq_true, Nat.zero_add, Nat.mul_one] <;> omega) | omega | (simp; done) | (simp; omega))) only [↓CR, MC, ↓PR, MR, prs_length, prs_getD h1, prs_getD h2, plain39, Bool.and_self, c1, Bool.false_and, Bool.not_false]
    · cases c2 : a[j].val == b[j].val
      · simp (disch := (first | assumption | (simp only [Bool.and_eq_true, Bool.and_eq_false_iff, decide_eq_true_eq, decide_eq_false_iff_not, bne_iff_ne, beq_iff_eq, beq_eq_false_iff_ne, bne_eq_false_iff_eq, Bool.not_eq_true', Bool.not_eq_false', bys_length, List.length_append, List.length_cons, List.length_nil, List.length_map, List.length_drop, List.length_take, Int.natCast_add, wrap_i64_eq, wrap_u64, wrap_u8, ne_eq, not_true_eq_false, not_false_eq_true, Nat.zero_add, Nat.mul_one] <;> omega) | omega | (simp; done) | (simp; omega))) only [↓CR, MC, ↓PR, MR, prs_length, prs_getD h1, prs_getD h2, plain39, Bool.and_self, c1, c2, Bool.and_false, Bool.false_and, Bool.not_false]
      · simp (disch := (first | assumption | (simp only [Bool.and_eq_true, Bool.and_eq_false_iff, decide_eq_true_eq, decide_eq_false_iff_not, bne_iff_ne, beq_iff_eq, beq_eq_false_iff_ne, bne_eq_false_iff_eq, Bool.not_eq_true', Bool.not_eq_false', bys_length, List.length_append, List.length_cons, List.length_nil, List.length_map, List.length_drop, List.length_take, Int.natCast_add, wrap_i64_eq, wrap_u64, wrap_u8, ne_eq, not_true_eq_false, not_false_eq_true, Nat.zero_add, Nat.mul_one] <;> omega) | omega | (simp; done) | (simp; omega))) only [↓CR, MC, ↓PR, MR, prs_length, prs_getD h1, prs_getD h2, plain39, Bool.and_self, c1, c2, Bool.true_and, Bool.not_true, e1, ih']
theorem same31g_run {d : Nat} {f g : Bool} {a b : List KPair} {h : Heap} {Q : Res → Prop} {tg : Hid Q} (hl : a.length ≤ 1000) : Run (evFn Cw (d + 1) 7 [.sl f 3 (prs a), .sl g 3 (prs b)] h) Q tg = Q ([.bool (eqLB a b)], h) := by
  rw [F7_eq]
  by_cases c : a.length = b.length
  · have := same31g_loop d f g a b hl c h Q a.length 0 rounds ⟨⟩ (by omega) (rounds_gt' (by omega))
    rw [List.drop_zero, List.drop_zero, e0] at this
    have c' : ((a.length : Int) != (b.length : Int)) = false := by simp [c]
    simp (disch := (first | assumption | (simp only [Bool.and_eq_true, Bool.and_eq_false_iff, decide_eq_true_eq, decide_eq_false_iff_not, bne_iff_ne, beq_iff_eq, beq_eq_false_iff_ne, bne_eq_false_iff_eq, Bool.not_eq_true', Bool.not_eq_false', bys_length, List.length_append, List.length_cons, List.length_nil, List.length_map, List.length_drop, List.length_take, Int.natCast_add, wrap_i64_eq, wrap_u64, wrap_u8, ne_eq, not_true_eq_false, not_false_eq_true, Nat.zero_add, Nat.mul_one] <;> omega) | omega | (simp; done) | (simp; omega))) only [↓CR, MC, ↓PR, MR, prs_length, c', this]
  · have c' : ((a.length : Int) != (b.length : Int)) = true := by simp; omega
    rw [eqLB_ne c]
    simp (disch := (first | assumption | (simp only [Bool.and_eq_true, Bool.and_eq_false_iff, decide_eq_true_eq, decide_eq_false_iff_not, bne_iff_ne, beq_iff_eq, beq_eq_false_iff_ne, bne_eq_false_iff_eq, Bool.not_eq_true', Bool.not_eq_false', bys_length, List.length_append, List.length_cons, List.length_nil, List.length_map, List.length_drop, List.length_take, Int.natCast_add, wrap_i64_eq, wrap_u64, wrap_u8, ne_eq, not_true_eq_false, not_false_eq_true, Nat.zero_add, Nat.mul_one] <;> omega) | omega | (simp; done) | (simp; omega))) only [↓CR, MC, ↓PR, MR, prs_length, c']
end Go.Proofs.Ytbddfpakhealbaa.Wb
end

section
/- FoldStates. -/
namespace Go.Proofs.Ytbddfpakhealbaa.Wb
open Go Go.Weave Go.Proofs.Ytbddfpakhealbaa.Wa
set_option maxRecDepth 100000
set_option linter.unusedSimpArgs false
set_option linter.unusedVariables false
set_option linter.unusedSectionVars false

/-! ### The reference -/
def isV (v : AVal) (l : List KPair) : Prop := (v = .sl true 0 [] ∧ l = []) ∨ ∃ g, v = .sl g 3 (prs l)
theorem isV_slK {v : AVal} {l : List KPair} (hv : isV v l) : ∃ fl, ∀ (K : Bool → List AVal → Tr Res) (Q : Res → Prop) (tg : Hid Q), Run (slK 3 v K) Q tg = Run (K fl (prs l)) Q ⟨⟩ := by
  rcases hv with ⟨rfl, rfl⟩ | ⟨g, rfl⟩
  · refine ⟨true, fun K Q tg => ?_⟩
    rw [prs_nil]
    simp (disch := (first | assumption | (simp only [Bool.and_eq_true, Bool.and_eq_false_iff, decide_eq_true_eq, decide_eq_false_iff_not, bne_iff_ne, beq_iff_eq, beq_eq_false_iff_ne, bne_eq_false_iff_eq, Bool.not_eq_true', Bool.not_eq_false', bys_length, List.length_append, List.length_cons, List.length_nil, List.length_map, List.length_drop, List.length_take, Int.natCast_add, wrap_i64_eq, wrap_u64, wrap_u8, ne_eq, not_true_eq_false, not_false_eq_true, Nat.zero_add, Nat.mul_one] <;> omega) | omega | (simp; done) | (simp; omega))) only [↓CR, MC, ↓PR, MR]
  · refine ⟨g, fun K Q tg => ?_⟩
    simp (disch := (first | assumption | (simp only [Bool.and_eq_true, Bool.and_eq_false_iff, decide_eq_true_eq, decide_eq_false_iff_not, bne_iff_ne, beq_iff_eq, beq_eq_false_iff_ne, bne_eq_false_iff_eq, Bool.not_eq_true', Bool.not_eq_false', bys_length, List.length_append, List.length_cons, List.length_nil, List.length_map, List.length_drop, List.length_take, Int.natCast_add, wrap_i64_eq, wrap_u64, wrap_u8, ne_eq, not_true_eq_false, not_false_eq_true, Nat.zero_add, Nat.mul_one] <;> omega) | omega | (simp; done) | (simp; omega))) only [↓CR, MC, ↓PR, MR]
theorem rapp_run (d : Nat) (f : Bool) (ops : List KOp) (ho : ops.length ≤ 1000) (v : AVal) (l : List KPair) (hv : isV v l) (hs : Srt l) (hl : l.length ≤ 700000) (h : Heap) : ∃ v' , isV v' (aps l ops) ∧ ∀ (Q : Res → Prop) (tg : Hid Q),
    Run (evFn Cw (d + 3) 11 [v, .sl f 4 (kops ops)] h) Q tg = Q ([v', .int .i64 (cntO ops : Nat)], h) := by
  rcases hv with ⟨rfl, rfl⟩ | ⟨g, rfl⟩
  · obtain ⟨v', hv', r⟩ := rapplyn_run d f ops ho h
    refine ⟨v', ?_, r⟩
    rcases hv' with h | h
    · exact .inl h
    · exact .inr ⟨false, h⟩
  · obtain ⟨g', r⟩ := rapplys_run d f g ops ho l hs hl h
    exact ⟨_, .inr ⟨g', rfl⟩, r⟩
theorem raft_loop (d : Nat) (f b : Bool) (L : List (List KOp)) (h1 : L.length ≤ 30) (h2 : ∀ o ∈ L, o.length ≤ 30) (n : Int) (h : Heap) : ∀ (r j k : Nat) (v : AVal) (l : List KPair), isV v l → Srt l → l.length + 30 * r ≤ 1000 → L.length = j + r → r < k →
    ∃ v', isV v' (folds l ((L.drop j).take (n - j).toNat)) ∧ ∀ (Q : Res → Prop) (tg : Hid Q), Run (P9_0 (d + 3) k f (bts b L) n v j h) Q tg = Q ([v'], h) := by
  intro r
  induction r with
  | zero =>
    intro j k v l hv hs hl hj hk
    obtain ⟨k, rfl⟩ : ∃ m, k = m + 1 := ⟨k - 1, by omega⟩
    have hd : L.drop j = [] := List.drop_eq_nil_of_le (by omega)
    refine ⟨v, by rw [hd, List.take_nil]; exact hv, fun Q tg => ?_⟩
    rw [P9_0_eq]
    simp (disch := (first | assumption | (simp only [Bool.and_eq_true, Bool.and_eq_false_iff, decide_eq_true_eq, decide_eq_false_iff_not, bne_iff_ne, beq_iff_eq, beq_eq_false_iff_ne, bne_eq_false_iff_eq, Bool.not_eq_true', Bool.not_eq_false', bys_length, List.length_append, List.length_cons, List.length_nil, List.length_map, List.length_drop, List.length_take, Int.natCast_add, wrap_i64_eq, wrap_u64, wrap_u8, ne_eq, not_true_eq_false, not_false_eq_true, Nat.zero_add, Nat.mul_one] <;> omega) | omega | (simp; done) | (simp; omega))) only [↓CR, MC, ↓PR, MR, bts_length]
  | succ r ih =>
    intro j k v l hv hs hl hj hk
    obtain ⟨k, rfl⟩ : ∃ m, k = m + 1 := ⟨k - 1, by omega⟩
    have hlt : j < L.length := by omega
    have e1 := succ_wrap (i := j) (by omega)
    by_cases c : (j : Int) < n
    · have ho := h2 _ (List.getElem_mem hlt)
      obtain ⟨v1, hv1, r1⟩ := rapp_run d b L[j] (by omega) v l hv hs (by omega) h
      obtain ⟨fl, rs⟩ := isV_slK hv1
      have hlen := aps_len (ops := L[j]) hs
      obtain ⟨v', hv', r2⟩ := ih (j + 1) k (.sl fl 3 (prs (aps l L[j]))) (aps l L[j]) (.inr ⟨fl, rfl⟩) (aps_srt hs) (by omega) (by omega) (by omega)
      refine ⟨v', ?_, fun Q tg => ?_⟩
      · rw [List.drop_eq_getElem_cons hlt, show (n - (j : Int)).toNat = (n - ((j + 1 : Nat) : Int)).toNat + 1 by omega, List.take_succ_cons, folds_cons]
        exact hv'
      · rw [P9_0_eq]
        simp (disch := (first | assumption | (simp only [Bool.and_eq_true, Bool.and_eq_false_iff, decide_eq_true_eq, decide_eq_false_iff_not, bne_iff_ne, beq_iff_eq, beq_eq_false_iff_ne, bne_eq_false_iff_eq, Bool.not_eq_true', Bool.not_eq_false', bys_length, List.length_append, List.length_cons, List.length_nil, List.length_map, List.length_drop, List.length_take, Int.natCast_add, wrap_i64_eq, wrap_u64, wrap_u8, ne_eq, not_true_eq_false, not_false_eq_true, Nat.zero_add, Nat.mul_one] <;> omega) | omega | (simp; done) | (simp; omega))) only [↓CR, MC, ↓PR, MR, bts_length, bts_getD hlt, r1, rs, e1, r2]
    · refine ⟨v, by rw [show (n - (j : Int)).toNat = 0 by omega, List.take_zero]; exact hv, fun Q tg => ?_⟩
      rw [P9_0_eq]
      simp (disch := (first | assumption | (simp only [Bool.and_eq_true, Bool.and_eq_false_iff, decide_eq_true_eq, decide_eq_false_iff_not, bne_iff_ne, beq_iff_eq, beq_eq_false_iff_ne, bne_eq_false_iff_eq, Bool.not_eq_true', Bool.not_eq_false', bys_length, List.length_append, List.length_cons, List.length_nil, List.length_map, List.length_drop, List.length_take, Int.natCast_add, wrap_i64_eq, wrap_u64, wrap_u8, ne_eq, not_true_eq_false, not_false_eq_true, Nat.zero_add, Nat.mul_one] <;> omega) | omega | (simp; done) | (simp; omega))) only [↓CR, MC, ↓PR, MR, bts_length]
theorem raft_run (d : Nat) (f b : Bool) (L : List (List KOp)) (h1 : L.length ≤ 30) (h2 : ∀ o ∈ L, o.length ≤ 30) (n : Int) (h : Heap) :
    ∃ v', isV v' (folds [] (L.take n.toNat)) ∧ ∀ (Q : Res → Prop) (tg : Hid Q), Run (evFn Cw (d + 4) 9 [.sl f 0 (bts b L), .int .i64 n] h) Q tg = Q ([v'], h) := by
  obtain ⟨v', hv', r⟩ := raft_loop d f b L h1 h2 n h L.length 0 rounds (.sl true 0 []) [] (.inl ⟨rfl, rfl⟩) List.Pairwise.nil (by simp; omega) (by omega) (rounds_gt' (by omega))
  rw [e0] at r hv'
  rw [List.drop_zero, Int.sub_zero] at hv'
  refine ⟨v', hv', fun Q tg => ?_⟩
  rw [F9_eq]
  simp (disch := (first | assumption | (simp only [Bool.and_eq_true, Bool.and_eq_false_iff, decide_eq_true_eq, decide_eq_false_iff_not, bne_iff_ne, beq_iff_eq, beq_eq_false_iff_ne, bne_eq_false_iff_eq, Bool.not_eq_true', Bool.not_eq_false', bys_length, List.length_append, List.length_cons, List.length_nil, List.length_map, List.length_drop, List.length_take, Int.natCast_add, wrap_i64_eq, wrap_u64, wrap_u8, ne_eq, not_true_eq_false, not_false_eq_true, Nat.zero_add, Nat.mul_one] <;> omega) | omega | (simp; done) | (simp; omega))) only [↓CR, MC, ↓PR, MR, r]
/-! ### Few -/
def few30 (L : List (List KOp)) : Bool := (L.all fun o => decide (o.length ≤ 30)) && decide (L.length ≤ 30)
theorem few37_loop (d : Nat) (f b : Bool) (L : List (List KOp)) (hL : L.length ≤ 140737488351232) (h : Heap) (Q : Res → Prop) : ∀ (r j k : Nat) (tg : Hid Q), L.length = j + r → r < k →
    Run (P5_0 d k f (bts b L) j h) Q tg = Q ([.bool (((L.drop j).all fun o => decide (o.length ≤ 30)) && decide (L.length ≤ 30))], h) := by
  intro r
  induction r with
  | zero =>
    intro j k tg hj hk
    obtain ⟨k, rfl⟩ : ∃ m, k = m + 1 := ⟨k - 1, by omega⟩
    have hd : L.drop j = [] := List.drop_eq_nil_of_le (by omega)
    have e : decide ((L.length : Int) ≤ 30) = decide (L.length ≤ 30) := by simp only [decide_eq_decide]; omega
    rw [P5_0_eq, hd]
    simp (disch := (first | assumption | (simp only [Bool.and_eq_true, Bool.and_eq_false_iff, decide_eq_true_eq, decide_eq_false_iff_not, bne_iff_ne, beq_iff_eq, beq_eq_false_iff_ne, bne_eq_false_iff_eq, Bool.not_eq_true', Bool.not_eq_false', bys_length, List.length_append, List.length_cons, List.length_nil, List.length_map, List.length_drop, List.length_take, Int.natCast_add, wrap_i64_eq, wrap_u64, wrap_u8, ne_eq, not_true_eq_false, not_false_eq_true, Nat.zero_add, Nat.mul_one] <;> omega) | omega | (simp; done) | (simp; omega))) only [↓CR, MC, ↓PR, MR, bts_length, e]
    simp
  | succ r ih =>
    intro j k tg hj hk
    obtain ⟨k, rfl⟩ : ∃ m, k = m + 1 := ⟨k - 1, by omega⟩
    have hlt : j < L.length := by omega
    have e1 := succ_wrap (i := j) (by omega)
    have ih' := fun tg => ih (j + 1) k tg (by omega) (by omega)
    rw [P5_0_eq, List.drop_eq_getElem_cons hlt]
    by_cases c : L[j].length ≤ 30
    · have c' : decide (L[j].length ≤ 30) = true := by simpa using c
      rw [List.all_cons, c', Bool.true_and]
      simp (disch := (first | assumption | (simp only [Bool.and_eq_true, Bool.and_eq_false_iff, decide_eq_true_eq, decide_eq_false_iff_not, bne_iff_ne, beq_iff_eq, beq_eq_false_iff_ne, bne_eq_false_iff_eq, Bool.not_eq_true', Bool.not_eq_false', bys_length, List.length_append, List.length_cons, List.length_nil, List.length_map, List.length_drop, List.length_take, Int.natCast_add, wrap_i64_eq, wrap_u64, wrap_u8, ne_eq, not_true_eq_false, not_false_eq_true, Nat.zero_add, Nat.mul_one] <;> omega) | omega | (simp; done) | (simp; omega))) only [↓CR, MC, ↓PR, MR, bts_length, bts_getD hlt, kops_length, e1, ih']
    · have c' : decide (L[j].length ≤ 30) = false := by simpa using c
      rw [List.all_cons, c', Bool.false_and, Bool.false_and]
      simp (disch := (first | assumption | (simp only [Bool.and_eq_true, Bool.and_eq_false_iff, decide_eq_true_eq, decide_eq_false_iff_not, bne_iff_ne, beq_iff_eq, beq_eq_false_iff_ne, bne_eq_false_iff_eq, Bool.not_eq_true', Bool.not_eq_false', bys_length, List.length_append, List.length_cons, List.length_nil, List.length_map, List.length_drop, List.length_take, Int.natCast_add, wrap_i64_eq, wrap_u64, wrap_u8, ne_eq, not_true_eq_false, not_false_eq_true, Nat.zero_add, Nat.mul_one] <;> omega) | omega | (simp; done) | (simp; omega))) only [↓CR, MC, ↓PR, MR, bts_length, bts_getD hlt, kops_length]
theorem few37_run {d : Nat} {f b : Bool} {L : List (List KOp)} (hL : L.length ≤ 140737488351232) {h : Heap} {Q : Res → Prop} {tg : Hid Q} : Run (evFn Cw (d + 1) 5 [.sl f 0 (bts b L)] h) Q tg = Q ([.bool (few30 L)], h) := by
  have := few37_loop d f b L hL h Q L.length 0 rounds ⟨⟩ (by omega) (Nat.lt_of_lt_of_le (by omega) rounds_ge)
  rw [List.drop_zero, e0] at this
  rw [F5_eq]
  simp (disch := (first | assumption | (simp only [Bool.and_eq_true, Bool.and_eq_false_iff, decide_eq_true_eq, decide_eq_false_iff_not, bne_iff_ne, beq_iff_eq, beq_eq_false_iff_ne, bne_eq_false_iff_eq, Bool.not_eq_true', Bool.not_eq_false', bys_length, List.length_append, List.length_cons, List.length_nil, List.length_map, List.length_drop, List.length_take, Int.natCast_add, wrap_i64_eq, wrap_u64, wrap_u8, ne_eq, not_true_eq_false, not_false_eq_true, Nat.zero_add, Nat.mul_one] <;> omega) | omega | (simp; done) | (simp; omega))) only [↓CR, MC, ↓PR, MR, this]
  rfl
/-! ### The contracts -/
theorem afterW (d : Nat) (args : List AVal) (h : Heap) : evFn Cw (d + 1) 8 args h = afterG args h := by kernel_rfl
theorem statesW (d : Nat) (args : List AVal) (h : Heap) : evFn Cw (d + 1) 10 args h = statesG args h := by kernel_rfl
theorem findW (d : Nat) (args : List AVal) (h : Heap) : evFn Cw (d + 1) 14 args h = findG args h := by kernel_rfl
def awL : List (List KOp) := [[⟨1, [97], [98]⟩], [⟨2, [97], []⟩]]
theorem awake37_run (d : Nat) (h : Heap) : ∃ h', ∀ (Q : Res → Prop) (tg : Hid Q), Run (evFn Cw (d + 2) 6 [] h) Q tg = Q ([.bool true], h') := by
  have h2 : ∀ o ∈ awL, o.length ≤ 30 := by decide
  obtain ⟨h1, r1⟩ := after_run true true awL 1 h (by decide) h2
  obtain ⟨h3, r3⟩ := find_run true true true awL 1 [] h1 (by decide) h2
  obtain ⟨h5, r5⟩ := states_run true true awL h3 (by decide) h2
  have e1 : (prs (folds [] (awL.take (1 : Int).toNat))).length = 1 := by decide
  have e2 : fnd (max 0 (min 1 awL.length)) [] 0 [] awL = 2 := by decide
  have e3 : (rows (scn [] awL)).length = 3 := by decide
  rw [e2] at r3
  have el : bts true awL = [(AVal.sl true 4 [(AVal.agg [(AVal.int .i64 1), (AVal.str [97]), (AVal.str [98])])]), (AVal.sl true 4 [(AVal.agg [(AVal.int .i64 2), (AVal.str [97]), (AVal.str [])])])] := rfl
  rw [el] at r1 r3 r5
  have r3' : ∀ (Q : Res → Prop) (tg : Hid Q), Run (findG [.sl true 0 [(AVal.sl true 4 [(AVal.agg [(AVal.int .i64 1), (AVal.str [97]), (AVal.str [98])])]), (AVal.sl true 4 [(AVal.agg [(AVal.int .i64 2), (AVal.str [97]), (AVal.str [])])])], .int .i64 1, .sl true 0 []] h1) Q tg = Q ([.int .i64 2], h3) := fun Q tg => by
    rw [find_nil]; exact r3 Q tg
  refine ⟨h5, fun Q tg => ?_⟩
  rw [F6_eq]
  simp (disch := (first | assumption | (simp only [Bool.and_eq_true, Bool.and_eq_false_iff, decide_eq_true_eq, decide_eq_false_iff_not, bne_iff_ne, beq_iff_eq, beq_eq_false_iff_ne, bne_eq_false_iff_eq, Bool.not_eq_true', Bool.not_eq_false', bys_length, List.length_append, List.length_cons, List.length_nil, List.length_map, List.length_drop, List.length_take, Int.natCast_add, wrap_i64_eq, wrap_u64, wrap_u8, ne_eq, not_true_eq_false, not_false_eq_true, Nat.zero_add, Nat.mul_one] <;> omega) | omega | (simp; done) | (simp; omega))) only [↓CR, MC, ↓PR, MR, afterW, findW, statesW, r1, r3', r5, e1, e3]
  rfl
/-! ### The states, one after another -/
theorem folds_snoc {L : List (List KOp)} {i : Nat} (h : i < L.length) : folds [] (L.take (i + 1)) = aps (folds [] (L.take i)) L[i] := by
  unfold folds
  rw [List.take_succ_eq_append_getElem h, List.foldl_append]
  rfl
theorem folds_len : ∀ (L : List (List KOp)) (l : List KPair), Srt l → (∀ o ∈ L, o.length ≤ 30) → (folds l L).length ≤ l.length + 30 * L.length
  | [], l, _, _ => by simp [folds]
  | o :: L, l, h, h2 => by
    have h1 := folds_len L (aps l o) (aps_srt h) fun x hx => h2 x (List.mem_cons_of_mem _ hx)
    have h3 := aps_len (ops := o) h
    have h4 := h2 o List.mem_cons_self
    rw [folds_cons, List.length_cons]
    omega
theorem foldst_len {L : List (List KOp)} (h1 : L.length ≤ 30) (h2 : ∀ o ∈ L, o.length ≤ 30) (n : Nat) : (folds [] (L.take n)).length ≤ 900 := by
  have := folds_len (L.take n) [] List.Pairwise.nil fun o ho => h2 o (List.mem_of_mem_take ho)
  have h3 : (L.take n).length ≤ L.length := by simp only [List.length_take]; omega
  simp at this h3
  omega
end Go.Proofs.Ytbddfpakhealbaa.Wb
end

section
/- FoldFinds: the reference's runs. -/
namespace Go.Proofs.Ytbddfpakhealbaa.Wb
open Go Go.Weave Go.Proofs.Ytbddfpakhealbaa.Wa
set_option maxRecDepth 100000
set_option linter.unusedSimpArgs false
set_option linter.unusedVariables false
set_option linter.unusedSectionVars false

theorem rget31_loop (d : Nat) (f : Bool) (s : List UInt8) (h : Heap) (l : List KPair) (hl : l.length ≤ 1000000) (Q : Res → Prop) : ∀ (n i k : Nat) (tg : Hid Q), l.length = i + n → n < k →
    Run (P17_0 d k f (prs l) s i h) Q tg = Q ([.str (oVal (lget s (l.drop i))), .bool (lget s (l.drop i)).isSome], h) := by
  intro n
  induction n with
  | zero =>
    intro i k tg hi hk
    obtain ⟨k, rfl⟩ : ∃ m, k = m + 1 := ⟨k - 1, by omega⟩
    have hd : l.drop i = [] := List.drop_eq_nil_of_le (by omega)
    rw [P17_0_eq, hd]
    simp (disch := (first | assumption | (simp only [Bool.and_eq_true, Bool.and_eq_false_iff, decide_eq_true_eq, decide_eq_false_iff_not, bne_iff_ne, beq_iff_eq, beq_eq_false_iff_ne, bne_eq_false_iff_eq, Bool.not_eq_true', Bool.not_eq_false', bys_length, List.length_append, List.length_cons, List.length_nil, List.length_map, List.length_drop, List.length_take, Int.natCast_add, wrap_i64_eq, wrap_u64, wrap_u8, ne_eq, not_true_eq_false, not_false_eq_true, Nat.zero_add, Nat.mul_one] <;> omega) | omega | (simp; done) | (simp; omega))) only [↓CR, MC, ↓PR, MR, prs_length]
    rfl
  | succ n ih =>
    intro i k tg hi hk
    obtain ⟨k, rfl⟩ : ∃ m, k = m + 1 := ⟨k - 1, by omega⟩
    have h1 : i < l.length := by omega
    have e1 := succ_wrap (i := i) (by omega)
    have ih' := fun tg => ih (i + 1) k tg (by omega) (by omega)
    rw [P17_0_eq, List.drop_eq_getElem_cons h1, lget_cons]
    by_cases c : l[i].key = s
    · have c' : (l[i].key == s) = true := by simp [c]
      rw [if_pos c]
      simp (disch := (first | assumption | (simp only [Bool.and_eq_true, Bool.and_eq_false_iff, decide_eq_true_eq, decide_eq_false_iff_not, bne_iff_ne, beq_iff_eq, beq_eq_false_iff_ne, bne_eq_false_iff_eq, Bool.not_eq_true', Bool.not_eq_false', bys_length, List.length_append, List.length_cons, List.length_nil, List.length_map, List.length_drop, List.length_take, Int.natCast_add, wrap_i64_eq, wrap_u64, wrap_u8, ne_eq, not_true_eq_false, not_false_eq_true, Nat.zero_add, Nat.mul_one] <;> omega) | omega | (simp; done) | (simp; omega))) only [↓CR, MC, ↓PR, MR, prs_length, prs_getD h1, c']
      rfl
    · have c' : (l[i].key == s) = false := by simpa using c
      rw [if_neg c]
      simp (disch := (first | assumption | (simp only [Bool.and_eq_true, Bool.and_eq_false_iff, decide_eq_true_eq, decide_eq_false_iff_not, bne_iff_ne, beq_iff_eq, beq_eq_false_iff_ne, bne_eq_false_iff_eq, Bool.not_eq_true', Bool.not_eq_false', bys_length, List.length_append, List.length_cons, List.length_nil, List.length_map, List.length_drop, List.length_take, Int.natCast_add, wrap_i64_eq, wrap_u64, wrap_u8, ne_eq, not_true_eq_false, not_false_eq_true, Nat.zero_add, Nat.mul_one] <;> omega) | omega | (simp; done) | (simp; omega))) only [↓CR, MC, ↓PR, MR, prs_length, prs_getD h1, c', e1, ih']
theorem rget31_run {d : Nat} {f : Bool} {l : List KPair} {s : List UInt8} {h : Heap} {Q : Res → Prop} {tg : Hid Q} (hl : l.length ≤ 1000000) :
    Run (evFn Cw (d + 1) 17 [.sl f 3 (prs l), .str s] h) Q tg = Q ([.str (oVal (lget s l)), .bool (lget s l).isSome], h) := by
  rw [F17_eq]
  have := rget31_loop d f s h l hl Q l.length 0 rounds ⟨⟩ (by omega) (rounds_gt' (by omega))
  rw [e0] at this
  exact this
theorem eq98_loop (d : Nat) (f g : Bool) (a b : List KPair) (hl : a.length ≤ 1000) (he : a.length = b.length) (h : Heap) (Q : Res → Prop) : ∀ (n j k : Nat) (tg : Hid Q), a.length = j + n → n < k →
    Run (P25_0 d k f (prs a) g (prs b) (a.length : Int) j h) Q tg = Q ([.bool (eqLB (a.drop j) (b.drop j))], h) := by
  intro n
  induction n with
  | zero =>
    intro j k tg hj hk
    obtain ⟨k, rfl⟩ : ∃ m, k = m + 1 := ⟨k - 1, by omega⟩
    have hd : a.drop j = [] := List.drop_eq_nil_of_le (by omega)
    have hd' : b.drop j = [] := List.drop_eq_nil_of_le (by omega)
    rw [P25_0_eq, hd, hd']
    simp (disch := (first | assumption | (simp only [Bool.and_eq_true, Bool.and_eq_false_iff, decide_eq_true_eq, decide_eq_false_iff_not, bne_iff_ne, beq_iff_eq, beq_eq_false_iff_ne, bne_eq_false_iff_eq, Bool.not_eq_true', Bool.not_eq_false', bys_length, List.length_append, List.length_cons, List.length_nil, List.length_map, List.length_drop, List.length_take, Int.natCast_add, wrap_i64_eq, wrap_u64, wrap_u8, ne_eq, not_true_eq_false, not_false_eq_true, Nat.zero_add, Nat.mul_one] <;> omega) | omega | (simp; done) | (simp; omega))) only [↓CR, MC, ↓PR, MR, prs_length]
    rfl
  | succ n ih =>
    intro j k tg hj hk
    obtain ⟨k, rfl⟩ : ∃ m, k = m + 1 := ⟨k - 1, by omega⟩
    have h1 : j < a.length := by omega
    have h2 : j < b.length := by omega
    have e1 := succ_wrap (i := j) (by omega)
    have ih' := fun tg => ih (j + 1) k tg (by omega) (by omega)
    rw [P25_0_eq, List.drop_eq_getElem_cons h1, List.drop_eq_getElem_cons h2]
    unfold eqLB
    cases c1 : a[j].key == b[j].key
    · simp (disch := (first | assumption | (simp only [Bool.and_eq_true, Bool.and_eq_false_iff, decide_eq_true_eq, decide_eq_false_iff_not, bne_iff_ne, beq_iff_eq, beq_eq_false_iff_ne, bne_eq_false_iff_eq, Bool.not_eq_true', Bool.not_eq_false', bys_length, List.length_append, List.length_cons, List.length_nil, List.length_map, List.length_drop, List.length_take, Int.natCast_add, wrap_i64_eq, wrap_u64, wrap_u8, ne_eq, not_true_eq_false, not_false_eq_true, Nat.zero_add, Nat.mul_one] <;> omega) | omega | (simp; done) | (simp; omega))) only [↓CR, MC, ↓PR, MR, prs_length, prs_getD h1, prs_getD h2, plain39, Bool.and_self, c1, Bool.false_and, Bool.not_false]
    · cases c2 : a[j].val == b[j].val
      · simp (disch := (first | assumption | (simp only [Bool.and_eq_true, Bool.and_eq_false_iff, decide_eq_true_eq, decide_eq_false_iff_not, bne_iff_ne, beq_iff_eq, beq_eq_false_iff_ne, bne_eq_false_iff_eq, Bool.not_eq_true', Bool.not_eq_false', bys_length, List.length_append, List.length_cons, List.length_nil, List.length_map, List.length_drop, List.length_take, Int.natCast_add, wrap_i64_eq, wrap_u64, wrap_u8, ne_eq, not_true_eq_false, not_false_eq_true, Nat.zero_add, Nat.mul_one] <;> omega) | omega | (simp; done) | (simp; omega))) only [↓CR, MC, ↓PR, MR, prs_length, prs_getD h1, prs_getD h2, plain39, Bool.and_self, c1, c2, Bool.and_false, Bool.false_and, Bool.not_false]
      · simp (disch := (first | assumption | (simp only [Bool.and_eq_true, Bool.and_eq_false_iff, decide_eq_true_eq, decide_eq_false_iff_not, bne_iff_ne, beq_iff_eq, beq_eq_false_iff_ne, bne_eq_false_iff_eq, Bool.not_eq_true', Bool.not_eq_false', bys_length, List.length_append, List.length_cons, List.length_nil, List.length_map, List.length_drop, List.length_take, Int.natCast_add, wrap_i64_eq, wrap_u64, wrap_u8, ne_eq, not_true_eq_false, not_false_eq_true, Nat.zero_add, Nat.mul_one] <;> omega) | omega | (simp; done) | (simp; omega))) only [↓CR, MC, ↓PR, MR, prs_length, prs_getD h1, prs_getD h2, plain39, Bool.and_self, c1, c2, Bool.true_and, Bool.not_true, e1, ih']
theorem equal_run {d : Nat} {f g : Bool} {a b : List KPair} {h : Heap} {Q : Res → Prop} {tg : Hid Q} (hl : a.length ≤ 1000) : Run (evFn Cw (d + 2) 16 [.sl f 3 (prs a), .sl g 3 (prs b)] h) Q tg = Q ([.bool (eqLB a b)], h) := by
  have e : ∀ (Q : Res → Prop) (tg : Hid Q), Run (evFn Cw (d + 1) 25 [.sl f 3 (prs a), .sl g 3 (prs b)] h) Q tg = Q ([.bool (eqLB a b)], h) := fun Q tg => by
    rw [F25_eq]
    by_cases c : a.length = b.length
    · have := eq98_loop d f g a b hl c h Q a.length 0 rounds ⟨⟩ (by omega) (rounds_gt' (by omega))
      rw [List.drop_zero, List.drop_zero, e0] at this
      have c' : ((a.length : Int) != (b.length : Int)) = false := by simp [c]
      simp (disch := (first | assumption | (simp only [Bool.and_eq_true, Bool.and_eq_false_iff, decide_eq_true_eq, decide_eq_false_iff_not, bne_iff_ne, beq_iff_eq, beq_eq_false_iff_ne, bne_eq_false_iff_eq, Bool.not_eq_true', Bool.not_eq_false', bys_length, List.length_append, List.length_cons, List.length_nil, List.length_map, List.length_drop, List.length_take, Int.natCast_add, wrap_i64_eq, wrap_u64, wrap_u8, ne_eq, not_true_eq_false, not_false_eq_true, Nat.zero_add, Nat.mul_one] <;> omega) | omega | (simp; done) | (simp; omega))) only [↓CR, MC, ↓PR, MR, prs_length, c', this]
    · have c' : ((a.length : Int) != (b.length : Int)) = true := by simp; omega
      rw [eqLB_ne c]
      simp (disch := (first | assumption | (simp only [Bool.and_eq_true, Bool.and_eq_false_iff, decide_eq_true_eq, decide_eq_false_iff_not, bne_iff_ne, beq_iff_eq, beq_eq_false_iff_ne, bne_eq_false_iff_eq, Bool.not_eq_true', Bool.not_eq_false', bys_length, List.length_append, List.length_cons, List.length_nil, List.length_map, List.length_drop, List.length_take, Int.natCast_add, wrap_i64_eq, wrap_u64, wrap_u8, ne_eq, not_true_eq_false, not_false_eq_true, Nat.zero_add, Nat.mul_one] <;> omega) | omega | (simp; done) | (simp; omega))) only [↓CR, MC, ↓PR, MR, prs_length, c']
  rw [F16_eq]
  simp (disch := (first | assumption | (simp only [Bool.and_eq_true, Bool.and_eq_false_iff, decide_eq_true_eq, decide_eq_false_iff_not, bne_iff_ne, beq_iff_eq, beq_eq_false_iff_ne, bne_eq_false_iff_eq, Bool.not_eq_true', Bool.not_eq_false', bys_length, List.length_append, List.length_cons, List.length_nil, List.length_map, List.length_drop, List.length_take, Int.natCast_add, wrap_i64_eq, wrap_u64, wrap_u8, ne_eq, not_true_eq_false, not_false_eq_true, Nat.zero_add, Nat.mul_one] <;> omega) | omega | (simp; done) | (simp; omega))) only [↓CR, MC, ↓PR, MR, e]

/-! ### Touched -/
def rtO (l : List KPair) (o : KOp) : List KPair := if rightO o then lput o.key [] l else l
def rts (l : List KPair) (O : List KOp) : List KPair := O.foldl rtO l
def rtL (l : List KPair) (L : List (List KOp)) : List KPair := L.foldl rts l
theorem rtO_srt {l : List KPair} {o : KOp} (h : Srt l) : Srt (rtO l o) := by
  unfold rtO
  split
  · exact h.put
  · exact h
theorem rts_srt : ∀ (O : List KOp) {l : List KPair}, Srt l → Srt (rts l O)
  | [], _, h => h
  | _ :: O, _, h => rts_srt O (rtO_srt h)
theorem rtL_srt : ∀ (L : List (List KOp)) {l : List KPair}, Srt l → Srt (rtL l L)
  | [], _, h => h
  | O :: L, _, h => rtL_srt L (rts_srt O h)
theorem rtO_len {l : List KPair} {o : KOp} (h : Srt l) : (rtO l o).length ≤ l.length + 1 := by
  unfold rtO
  split
  · exact lput_len_le h
  · omega
theorem rts_len : ∀ (O : List KOp) {l : List KPair}, Srt l → (rts l O).length ≤ l.length + O.length
  | [], l, h => by simp [rts]
  | o :: O, l, h => by
    have h1 := rts_len O (rtO_srt (o := o) h)
    have h2 := rtO_len (o := o) h
    show (rts (rtO l o) O).length ≤ _
    rw [List.length_cons]; omega
theorem rtL_len : ∀ (L : List (List KOp)) {l : List KPair}, Srt l → (∀ o ∈ L, o.length ≤ 30) → (rtL l L).length ≤ l.length + 30 * L.length
  | [], l, h, _ => by simp [rtL]
  | O :: L, l, h, h2 => by
    have h1 := rtL_len L (rts_srt O h) fun x hx => h2 x (List.mem_cons_of_mem _ hx)
    have h3 := rts_len O h
    have h4 := h2 O List.mem_cons_self
    show (rtL (rts l O) L).length ≤ _
    rw [List.length_cons]; omega
theorem rtouch1_loop (d : Nat) (f b : Bool) (L : List (List KOp)) (h1 : L.length ≤ 30) (h2 : ∀ o ∈ L, o.length ≤ 30) (h : Heap) (Q : Res → Prop) (i n0 : Nat) (hi : i < L.length) (l' : List KPair)
    (hK : ∀ tg : Hid Q, Run (P13_0 (d + 2) n0 f (bts b L) (prs l') (i + 1 : Nat) h) Q tg = Q ([.sl false 3 (prs (rtL l' (L.drop (i + 1))))], h)) :
    ∀ (r j k : Nat) (l : List KPair) (tg : Hid Q), Srt l → l.length + r ≤ 2000 → L[i].length = j + r → r < k → rts l (L[i].drop j) = l' →
    Run (P13_1 (d + 2) n0 k f (bts b L) (prs l) i j h) Q tg = Q ([.sl false 3 (prs (rtL l' (L.drop (i + 1))))], h) := by
  have e2 := succ_wrap (i := i) (by omega)
  intro r
  induction r with
  | zero =>
    intro j k l tg hs hl hj hk hl'
    obtain ⟨k, rfl⟩ : ∃ m, k = m + 1 := ⟨k - 1, by omega⟩
    have hd : L[i].drop j = [] := List.drop_eq_nil_of_le (by omega)
    rw [hd] at hl'
    have hl' : l = l' := hl'
    subst hl'
    rw [P13_1_eq]
    simp (disch := (first | assumption | (simp only [Bool.and_eq_true, Bool.and_eq_false_iff, decide_eq_true_eq, decide_eq_false_iff_not, bne_iff_ne, beq_iff_eq, beq_eq_false_iff_ne, bne_eq_false_iff_eq, Bool.not_eq_true', Bool.not_eq_false', bys_length, List.length_append, List.length_cons, List.length_nil, List.length_map, List.length_drop, List.length_take, Int.natCast_add, wrap_i64_eq, wrap_u64, wrap_u8, ne_eq, not_true_eq_false, not_false_eq_true, Nat.zero_add, Nat.mul_one] <;> omega) | omega | (simp; done) | (simp; omega))) only [↓CR, MC, ↓PR, MR, bts_length, bts_getD hi, kops_length, e2, hK]
  | succ r ih =>
    intro j k l tg hs hl hj hk hl'
    obtain ⟨k, rfl⟩ : ∃ m, k = m + 1 := ⟨k - 1, by omega⟩
    have hlt : j < L[i].length := by omega
    have ho := h2 _ (List.getElem_mem hi)
    have e1 := succ_wrap (i := j) (by omega)
    rw [List.drop_eq_getElem_cons hlt] at hl'
    have hl' : rts (rtO l L[i][j]) (L[i].drop (j + 1)) = l' := hl'
    have rr := fun (Q : Res → Prop) (tg : Hid Q) => r10right_run (d := d + 1) (o := L[i][j]) (h := h) (Q := Q) (tg := tg)
    have hlen := rtO_len (o := L[i][j]) hs
    have ih' := fun tg => ih (j + 1) k (rtO l L[i][j]) tg (rtO_srt hs) (by omega) (by omega) (by omega) hl'
    rw [P13_1_eq]
    cases hr : rightO L[i][j]
    · rw [hr] at rr
      have e : rtO l L[i][j] = l := by unfold rtO; rw [hr]; rfl
      rw [e] at ih'
      simp (disch := (first | assumption | (simp only [Bool.and_eq_true, Bool.and_eq_false_iff, decide_eq_true_eq, decide_eq_false_iff_not, bne_iff_ne, beq_iff_eq, beq_eq_false_iff_ne, bne_eq_false_iff_eq, Bool.not_eq_true', Bool.not_eq_false', bys_length, List.length_append, List.length_cons, List.length_nil, List.length_map, List.length_drop, List.length_take, Int.natCast_add, wrap_i64_eq, wrap_u64, wrap_u8, ne_eq, not_true_eq_false, not_false_eq_true, Nat.zero_add, Nat.mul_one] <;> omega) | omega | (simp; done) | (simp; omega))) only [↓CR, MC, ↓PR, MR, bts_length, bts_getD hi, kops_length, kops_getD hlt, rr, e1, ih']
    · rw [hr] at rr
      have e : rtO l L[i][j] = lput L[i][j].key [] l := by unfold rtO; rw [hr]; rfl
      rw [e] at ih'
      have rp := fun (Q : Res → Prop) (tg : Hid Q) => rput31_run (d := d) (f := false) (l := l) (s := L[i][j].key) (v := []) (h := h) (Q := Q) (tg := tg) hs (by omega)
      simp (disch := (first | assumption | (simp only [Bool.and_eq_true, Bool.and_eq_false_iff, decide_eq_true_eq, decide_eq_false_iff_not, bne_iff_ne, beq_iff_eq, beq_eq_false_iff_ne, bne_eq_false_iff_eq, Bool.not_eq_true', Bool.not_eq_false', bys_length, List.length_append, List.length_cons, List.length_nil, List.length_map, List.length_drop, List.length_take, Int.natCast_add, wrap_i64_eq, wrap_u64, wrap_u8, ne_eq, not_true_eq_false, not_false_eq_true, Nat.zero_add, Nat.mul_one] <;> omega) | omega | (simp; done) | (simp; omega))) only [↓CR, MC, ↓PR, MR, bts_length, bts_getD hi, kops_length, kops_getD hlt, rr, cells_agg, rp, e1, ih']
theorem rtouch0_loop (d : Nat) (f b : Bool) (L : List (List KOp)) (h1 : L.length ≤ 30) (h2 : ∀ o ∈ L, o.length ≤ 30) (h : Heap) (Q : Res → Prop) : ∀ (r i k : Nat) (l : List KPair) (tg : Hid Q), Srt l → l.length + 30 * r ≤ 1000 → L.length = i + r → r < k →
    Run (P13_0 (d + 2) k f (bts b L) (prs l) i h) Q tg = Q ([.sl false 3 (prs (rtL l (L.drop i)))], h) := by
  intro r
  induction r with
  | zero =>
    intro i k l tg hs hl hi hk
    obtain ⟨k, rfl⟩ : ∃ m, k = m + 1 := ⟨k - 1, by omega⟩
    have hd : L.drop i = [] := List.drop_eq_nil_of_le (by omega)
    rw [P13_0_eq, hd]
    simp (disch := (first | assumption | (simp only [Bool.and_eq_true, Bool.and_eq_false_iff, decide_eq_true_eq, decide_eq_false_iff_not, bne_iff_ne, beq_iff_eq, beq_eq_false_iff_ne, bne_eq_false_iff_eq, Bool.not_eq_true', Bool.not_eq_false', bys_length, List.length_append, List.length_cons, List.length_nil, List.length_map, List.length_drop, List.length_take, Int.natCast_add, wrap_i64_eq, wrap_u64, wrap_u8, ne_eq, not_true_eq_false, not_false_eq_true, Nat.zero_add, Nat.mul_one] <;> omega) | omega | (simp; done) | (simp; omega))) only [↓CR, MC, ↓PR, MR, bts_length]
    rfl
  | succ r ih =>
    intro i k l tg hs hl hi hk
    obtain ⟨k, rfl⟩ : ∃ m, k = m + 1 := ⟨k - 1, by omega⟩
    have hlt : i < L.length := by omega
    have ho := h2 _ (List.getElem_mem hlt)
    have hlen := rts_len L[i] hs
    have ih' := fun tg => ih (i + 1) k (rts l L[i]) tg (rts_srt _ hs) (by omega) (by omega) (by omega)
    have r1 := fun tg => rtouch1_loop d f b L h1 h2 h Q i k hlt (rts l L[i]) ih' L[i].length 0 rounds l tg hs (by omega) (by omega) (rounds_gt' (by omega)) (by rw [List.drop_zero])
    rw [e0] at r1
    rw [P13_0_eq, List.drop_eq_getElem_cons hlt]
    simp (disch := (first | assumption | (simp only [Bool.and_eq_true, Bool.and_eq_false_iff, decide_eq_true_eq, decide_eq_false_iff_not, bne_iff_ne, beq_iff_eq, beq_eq_false_iff_ne, bne_eq_false_iff_eq, Bool.not_eq_true', Bool.not_eq_false', bys_length, List.length_append, List.length_cons, List.length_nil, List.length_map, List.length_drop, List.length_take, Int.natCast_add, wrap_i64_eq, wrap_u64, wrap_u8, ne_eq, not_true_eq_false, not_false_eq_true, Nat.zero_add, Nat.mul_one] <;> omega) | omega | (simp; done) | (simp; omega))) only [↓CR, MC, ↓PR, MR, bts_length, r1]
    rfl
theorem rtouch_run {d : Nat} {f b : Bool} {L : List (List KOp)} (h1 : L.length ≤ 30) (h2 : ∀ o ∈ L, o.length ≤ 30) {h : Heap} {Q : Res → Prop} {tg : Hid Q} :
    Run (evFn Cw (d + 3) 13 [.sl f 0 (bts b L)] h) Q tg = Q ([.sl false 3 (prs (rtL [] L))], h) := by
  have := rtouch0_loop d f b L h1 h2 h Q L.length 0 rounds [] ⟨⟩ List.Pairwise.nil (by simp; omega) (by omega) (rounds_gt' (by omega))
  rw [List.drop_zero, e0, prs_nil] at this
  rw [F13_eq]
  exact this
/-! ### Find -/
theorem rfind_loop (d : Nat) (f b g : Bool) (L : List (List KOp)) (h1 : L.length ≤ 30) (h2 : ∀ o ∈ L, o.length ≤ 30) (x : List KPair) (m : Int) (h : Heap) (Q : Res → Prop) : ∀ (r j k : Nat) (tg : Hid Q), m ≤ (j : Int) → L.length = j + r → r + 1 < k →
    Run (P15_2 (d + 4) k f (bts b L) g (prs x) j h) Q tg = Q ([.int .i64 (fnd m x j (folds [] (L.take j)) (L.drop j))], h) := by
  intro r
  induction r with
  | zero =>
    intro j k tg hm hj hk
    obtain ⟨k, rfl⟩ : ∃ m, k = m + 1 + 1 := ⟨k - 2, by omega⟩
    have e1 := succ_wrap (i := j) (by omega)
    have hd : L.drop j = [] := List.drop_eq_nil_of_le (by omega)
    obtain ⟨v', hv', r1⟩ := raft_run d f b L h1 h2 (j : Int) h
    rw [Int.toNat_natCast] at hv'
    obtain ⟨fl, rs⟩ := isV_slK hv'
    have hl := foldst_len h1 h2 j
    have rq := fun (Q : Res → Prop) (tg : Hid Q) => same31g_run (d := d + 3) (f := fl) (g := g) (a := folds [] (L.take j)) (b := x) (h := h) (Q := Q) (tg := tg) (by omega)
    rw [hd]
    unfold fnd
    rw [P15_2_eq]
    cases c : eqLB (folds [] (L.take j)) x
    · rw [c] at rq
      rw [if_neg (by simp)]
      have e : ∀ (Q : Res → Prop) (tg : Hid Q), Run (P15_2 (d + 4) (k + 1) f (bts b L) g (prs x) (j + 1 : Nat) h) Q tg = Q ([.int .i64 (-1)], h) := fun Q tg => by
        rw [P15_2_eq]
        simp (disch := (first | assumption | (simp only [Bool.and_eq_true, Bool.and_eq_false_iff, decide_eq_true_eq, decide_eq_false_iff_not, bne_iff_ne, beq_iff_eq, beq_eq_false_iff_ne, bne_eq_false_iff_eq, Bool.not_eq_true', Bool.not_eq_false', bys_length, List.length_append, List.length_cons, List.length_nil, List.length_map, List.length_drop, List.length_take, Int.natCast_add, wrap_i64_eq, wrap_u64, wrap_u8, ne_eq, not_true_eq_false, not_false_eq_true, Nat.zero_add, Nat.mul_one] <;> omega) | omega | (simp; done) | (simp; omega))) only [↓CR, MC, ↓PR, MR, bts_length]
      simp (disch := (first | assumption | (simp only [Bool.and_eq_true, Bool.and_eq_false_iff, decide_eq_true_eq, decide_eq_false_iff_not, bne_iff_ne, beq_iff_eq, beq_eq_false_iff_ne, bne_eq_false_iff_eq, Bool.not_eq_true', Bool.not_eq_false', bys_length, List.length_append, List.length_cons, List.length_nil, List.length_map, List.length_drop, List.length_take, Int.natCast_add, wrap_i64_eq, wrap_u64, wrap_u8, ne_eq, not_true_eq_false, not_false_eq_true, Nat.zero_add, Nat.mul_one] <;> omega) | omega | (simp; done) | (simp; omega))) only [↓CR, MC, ↓PR, MR, bts_length, r1, rs, rq, e1, e]
    · rw [c] at rq
      rw [if_pos ⟨hm, rfl⟩]
      simp (disch := (first | assumption | (simp only [Bool.and_eq_true, Bool.and_eq_false_iff, decide_eq_true_eq, decide_eq_false_iff_not, bne_iff_ne, beq_iff_eq, beq_eq_false_iff_ne, bne_eq_false_iff_eq, Bool.not_eq_true', Bool.not_eq_false', bys_length, List.length_append, List.length_cons, List.length_nil, List.length_map, List.length_drop, List.length_take, Int.natCast_add, wrap_i64_eq, wrap_u64, wrap_u8, ne_eq, not_true_eq_false, not_false_eq_true, Nat.zero_add, Nat.mul_one] <;> omega) | omega | (simp; done) | (simp; omega))) only [↓CR, MC, ↓PR, MR, bts_length, r1, rs, rq]
  | succ r ih =>
    intro j k tg hm hj hk
    obtain ⟨k, rfl⟩ : ∃ m, k = m + 1 := ⟨k - 1, by omega⟩
    have hlt : j < L.length := by omega
    have e1 := succ_wrap (i := j) (by omega)
    obtain ⟨v', hv', r1⟩ := raft_run d f b L h1 h2 (j : Int) h
    rw [Int.toNat_natCast] at hv'
    obtain ⟨fl, rs⟩ := isV_slK hv'
    have hl := foldst_len h1 h2 j
    have rq := fun (Q : Res → Prop) (tg : Hid Q) => same31g_run (d := d + 3) (f := fl) (g := g) (a := folds [] (L.take j)) (b := x) (h := h) (Q := Q) (tg := tg) (by omega)
    have ih' := fun tg => ih (j + 1) k tg (by omega) (by omega) (by omega)
    rw [folds_snoc hlt] at ih'
    rw [List.drop_eq_getElem_cons hlt]
    unfold fnd
    rw [P15_2_eq]
    cases c : eqLB (folds [] (L.take j)) x
    · rw [c] at rq
      rw [if_neg (by simp)]
      simp (disch := (first | assumption | (simp only [Bool.and_eq_true, Bool.and_eq_false_iff, decide_eq_true_eq, decide_eq_false_iff_not, bne_iff_ne, beq_iff_eq, beq_eq_false_iff_ne, bne_eq_false_iff_eq, Bool.not_eq_true', Bool.not_eq_false', bys_length, List.length_append, List.length_cons, List.length_nil, List.length_map, List.length_drop, List.length_take, Int.natCast_add, wrap_i64_eq, wrap_u64, wrap_u8, ne_eq, not_true_eq_false, not_false_eq_true, Nat.zero_add, Nat.mul_one] <;> omega) | omega | (simp; done) | (simp; omega))) only [↓CR, MC, ↓PR, MR, bts_length, r1, rs, rq, e1, ih']
    · rw [c] at rq
      rw [if_pos ⟨hm, rfl⟩]
      simp (disch := (first | assumption | (simp only [Bool.and_eq_true, Bool.and_eq_false_iff, decide_eq_true_eq, decide_eq_false_iff_not, bne_iff_ne, beq_iff_eq, beq_eq_false_iff_ne, bne_eq_false_iff_eq, Bool.not_eq_true', Bool.not_eq_false', bys_length, List.length_append, List.length_cons, List.length_nil, List.length_map, List.length_drop, List.length_take, Int.natCast_add, wrap_i64_eq, wrap_u64, wrap_u8, ne_eq, not_true_eq_false, not_false_eq_true, Nat.zero_add, Nat.mul_one] <;> omega) | omega | (simp; done) | (simp; omega))) only [↓CR, MC, ↓PR, MR, bts_length, r1, rs, rq]
theorem fnd_skip (m : Nat) (x : List KPair) : ∀ (L : List (List KOp)) (k n : Nat) (l : List KPair), k + n = m → n ≤ L.length → fnd m x k l L = fnd m x m (folds l (L.take n)) (L.drop n)
  | L, k, 0, l, h, _ => by
    obtain rfl : k = m := by omega
    rw [List.take_zero, List.drop_zero]; rfl
  | [], k, n + 1, l, h, h2 => by simp at h2
  | o :: L, k, n + 1, l, h, h2 => by
    conv => lhs; unfold fnd
    rw [if_neg (fun h => by omega), fnd_skip m x L (k + 1) n (aps l o) (by omega) (by simpa using h2)]
    rw [List.take_succ_cons, List.drop_succ_cons, folds_cons]
theorem rfind_run {d : Nat} {f b g : Bool} {L : List (List KOp)} (h1 : L.length ≤ 30) (h2 : ∀ o ∈ L, o.length ≤ 30) {x : List KPair} {n : Int} {h : Heap} {Q : Res → Prop} {tg : Hid Q} :
    Run (evFn Cw (d + 5) 15 [.sl f 0 (bts b L), .int .i64 n, .sl g 3 (prs x)] h) Q tg = Q ([.int .i64 (fnd (max 0 (min n L.length)) x 0 [] L)], h) := by
  obtain ⟨m, hm⟩ : ∃ m : Nat, max 0 (min n (L.length : Int)) = m := ⟨(max 0 (min n (L.length : Int))).toNat, by omega⟩
  have hmL : m ≤ L.length := by omega
  have := rfind_loop d f b g L h1 h2 x m h Q (L.length - m) m rounds ⟨⟩ (Int.le_refl _) (by omega) (rounds_gt' (by omega))
  rw [hm, fnd_skip m x L 0 m [] (by omega) hmL]
  rw [F15_eq]
  by_cases c : n < 0
  · obtain rfl : m = 0 := by omega
    rw [e0] at this
    simp (disch := (first | assumption | (simp only [Bool.and_eq_true, Bool.and_eq_false_iff, decide_eq_true_eq, decide_eq_false_iff_not, bne_iff_ne, beq_iff_eq, beq_eq_false_iff_ne, bne_eq_false_iff_eq, Bool.not_eq_true', Bool.not_eq_false', bys_length, List.length_append, List.length_cons, List.length_nil, List.length_map, List.length_drop, List.length_take, Int.natCast_add, wrap_i64_eq, wrap_u64, wrap_u8, ne_eq, not_true_eq_false, not_false_eq_true, Nat.zero_add, Nat.mul_one] <;> omega) | omega | (simp; done) | (simp; omega))) only [↓CR, MC, ↓PR, MR]
    rw [P15_0_eq]
    simp (disch := (first | assumption | (simp only [Bool.and_eq_true, Bool.and_eq_false_iff, decide_eq_true_eq, decide_eq_false_iff_not, bne_iff_ne, beq_iff_eq, beq_eq_false_iff_ne, bne_eq_false_iff_eq, Bool.not_eq_true', Bool.not_eq_false', bys_length, List.length_append, List.length_cons, List.length_nil, List.length_map, List.length_drop, List.length_take, Int.natCast_add, wrap_i64_eq, wrap_u64, wrap_u8, ne_eq, not_true_eq_false, not_false_eq_true, Nat.zero_add, Nat.mul_one] <;> omega) | omega | (simp; done) | (simp; omega))) only [↓CR, MC, ↓PR, MR, bts_length]
    rw [P15_1_eq]
    exact this
  · simp (disch := (first | assumption | (simp only [Bool.and_eq_true, Bool.and_eq_false_iff, decide_eq_true_eq, decide_eq_false_iff_not, bne_iff_ne, beq_iff_eq, beq_eq_false_iff_ne, bne_eq_false_iff_eq, Bool.not_eq_true', Bool.not_eq_false', bys_length, List.length_append, List.length_cons, List.length_nil, List.length_map, List.length_drop, List.length_take, Int.natCast_add, wrap_i64_eq, wrap_u64, wrap_u8, ne_eq, not_true_eq_false, not_false_eq_true, Nat.zero_add, Nat.mul_one] <;> omega) | omega | (simp; done) | (simp; omega))) only [↓CR, MC, ↓PR, MR]
    rw [P15_0_eq]
    by_cases c2 : n > L.length
    · have em : (m : Int) = L.length := by omega
      simp (disch := (first | assumption | (simp only [Bool.and_eq_true, Bool.and_eq_false_iff, decide_eq_true_eq, decide_eq_false_iff_not, bne_iff_ne, beq_iff_eq, beq_eq_false_iff_ne, bne_eq_false_iff_eq, Bool.not_eq_true', Bool.not_eq_false', bys_length, List.length_append, List.length_cons, List.length_nil, List.length_map, List.length_drop, List.length_take, Int.natCast_add, wrap_i64_eq, wrap_u64, wrap_u8, ne_eq, not_true_eq_false, not_false_eq_true, Nat.zero_add, Nat.mul_one] <;> omega) | omega | (simp; done) | (simp; omega))) only [↓CR, MC, ↓PR, MR, bts_length]
      rw [P15_1_eq, ← em]
      exact this
    · have em : (m : Int) = n := by omega
      simp (disch := (first | assumption | (simp only [Bool.and_eq_true, Bool.and_eq_false_iff, decide_eq_true_eq, decide_eq_false_iff_not, bne_iff_ne, beq_iff_eq, beq_eq_false_iff_ne, bne_eq_false_iff_eq, Bool.not_eq_true', Bool.not_eq_false', bys_length, List.length_append, List.length_cons, List.length_nil, List.length_map, List.length_drop, List.length_take, Int.natCast_add, wrap_i64_eq, wrap_u64, wrap_u8, ne_eq, not_true_eq_false, not_false_eq_true, Nat.zero_add, Nat.mul_one] <;> omega) | omega | (simp; done) | (simp; omega))) only [↓CR, MC, ↓PR, MR, bts_length]
      rw [P15_1_eq, ← em]
      exact this
end Go.Proofs.Ytbddfpakhealbaa.Wb
end

section
/- FoldFinds. -/
namespace Go.Proofs.Ytbddfpakhealbaa.Wb
open Go Go.Weave Go.Proofs.Ytbddfpakhealbaa.Wa
set_option maxRecDepth 100000
set_option linter.unusedSimpArgs false
set_option linter.unusedVariables false
set_option linter.unusedSectionVars false

/-! ### Keys touched, plainly -/
theorem tkO_step {l : List KPair} {ks : List (List UInt8)} {o : KOp} (h : ∀ k, (lget k l).isSome = true ↔ k ∈ ks) : ∀ k, (lget k (rtO l o)).isSome = true ↔ k ∈ tkO ks o := fun k => by
  unfold rtO tkO
  by_cases hr : rightO o = true
  · rw [if_pos hr, if_pos hr, lget_put]
    by_cases e : k = o.key
    · rw [if_pos e]
      split
      · rename_i hm; rw [e]; simp [hm]
      · rw [e]; simp
    · rw [if_neg e, h k]
      split
      · rfl
      · simp [e]
  · rw [if_neg hr, if_neg hr]; exact h k
theorem tks_step : ∀ (O : List KOp) {l : List KPair} {ks : List (List UInt8)}, (∀ k, (lget k l).isSome = true ↔ k ∈ ks) → ∀ k, (lget k (rts l O)).isSome = true ↔ k ∈ tks ks O
  | [], _, _, h => h
  | _ :: O, _, _, h => tks_step O (tkO_step h)
theorem tkL_step (b : Bool) : ∀ (L : List (List KOp)) {l : List KPair} {ks : List (List UInt8)}, (∀ k, (lget k l).isSome = true ↔ k ∈ ks) → ∀ k, (lget k (rtL l L)).isSome = true ↔ k ∈ tkL ks (L.map fun o => (b, o))
  | [], _, _, h => h
  | O :: L, _, _, h => tkL_step b L (tks_step O h)
theorem tkO_nodup {ks : List (List UInt8)} {o : KOp} (h : ks.Nodup) : (tkO ks o).Nodup := by
  unfold tkO
  split
  · split
    · exact h
    · rename_i hm
      rw [List.nodup_append]
      refine ⟨h, by simp, fun a ha b hb => ?_⟩
      simp at hb
      subst hb
      exact fun e => hm (e ▸ ha)
  · exact h
theorem tks_nodup : ∀ (O : List KOp) {ks : List (List UInt8)}, ks.Nodup → (tks ks O).Nodup
  | [], _, h => h
  | _ :: O, _, h => tks_nodup O (tkO_nodup h)
theorem tkL_nodup : ∀ (L : List (Bool × List KOp)) {ks : List (List UInt8)}, ks.Nodup → (tkL ks L).Nodup
  | [], _, h => h
  | p :: L, _, h => tkL_nodup L (tks_nodup p.2 h)
theorem key_mem {l : List KPair} {k : List UInt8} : k ∈ l.map KPair.key ↔ (lget k l).isSome = true := by
  constructor
  · intro h
    obtain ⟨p, hp, e⟩ := List.mem_map.1 h
    cases c : (lget k l).isSome
    · exact absurd e (lget_none c p hp)
    · rfl
  · intro h
    obtain ⟨p, hp, e⟩ := lget_mem h
    exact List.mem_map.2 ⟨p, hp, e⟩
theorem keys_eq (b : Bool) (L : List (List KOp)) : srtK (tkL [] (L.map fun o => (b, o))) = (rtL [] L).map KPair.key := by
  have hs : Srt (rtL [] L) := rtL_srt L List.Pairwise.nil
  have hlt : ((rtL [] L).map KPair.key).Pairwise (fun a b => blt a b = true) := List.pairwise_map.2 hs
  have hnd : ((rtL [] L).map KPair.key).Nodup := hlt.imp fun {a b} h e => by rw [e, blt_irr] at h; cases h
  have hp : (tkL [] (L.map fun o => (b, o))).Perm ((rtL [] L).map KPair.key) := (List.perm_ext_iff_of_nodup (tkL_nodup _ List.nodup_nil) hnd).2 fun k => by
    rw [key_mem]
    exact (tkL_step b L (l := []) (ks := []) (fun k => by simp [lget]) k).symm
  have tr : ∀ a b c : List UInt8, decide (a ≤ b) = true → decide (b ≤ c) = true → decide (a ≤ c) = true := fun a b c h1 h2 => by simp only [decide_eq_true_eq] at *; exact List.le_trans h1 h2
  have to : ∀ a b : List UInt8, (decide (a ≤ b) || decide (b ≤ a)) = true := fun a b => by simp only [Bool.or_eq_true, decide_eq_true_eq]; exact List.le_total a b
  unfold srtK
  refine List.Perm.eq_of_pairwise (le := fun a b => decide (a ≤ b) = true) (fun a b _ _ h1 h2 => ?_) (List.pairwise_mergeSort tr to _) (hlt.imp fun {a b} h => ?_) ((List.mergeSort_perm _ _).trans hp)
  · simp only [decide_eq_true_eq] at h1 h2
    exact List.le_antisymm h1 h2
  · have h : Go.Op.bytesLess a b = true := h
    rw [bytesLess_eq] at h
    simp only [decide_eq_true_eq] at h ⊢
    exact List.le_of_lt h
def Sub (l l' : List KPair) : Prop := ∀ k, (lget k l).isSome = true → (lget k l').isSome = true
theorem sub_step {l l' : List KPair} {o : KOp} (h : Sub l l') : Sub (if rightO o then apO l o else l) (rtO l' o) := fun k hk => by
  unfold rtO
  by_cases hr : rightO o = true
  · rw [if_pos hr] at hk ⊢
    rw [lget_put]
    by_cases e : k = o.key
    · rw [if_pos e]; rfl
    · rw [if_neg e]
      unfold apO at hk
      split at hk
      · rw [lget_put, if_neg e] at hk; exact h k hk
      · rw [lget_del, if_neg e] at hk; exact h k hk
  · rw [if_neg hr] at hk ⊢; exact h k hk
theorem sub_aps : ∀ (O : List KOp) {l l' : List KPair}, Sub l l' → Sub (aps l O) (rts l' O)
  | [], _, _, h => h
  | o :: O, l, l', h => by rw [aps_cons]; exact sub_aps O (sub_step (o := o) h)
theorem sub_folds : ∀ (L : List (List KOp)) {l l' : List KPair}, Sub l l' → Sub (folds l L) (rtL l' L)
  | [], _, _, h => h
  | O :: L, l, l', h => by rw [folds_cons]; exact sub_folds L (sub_aps O h)

/-! ### On the machine -/
theorem touchedW (d : Nat) (args : List AVal) (h : Heap) : evFn Cw (d + 1) 12 args h = touchedG args h := by kernel_rfl
theorem finds1_loop (d : Nat) (g : Bool) (l a : List KPair) (hl : l.length ≤ 1000) (ha : a.length ≤ 1000) (hsub : ∀ p ∈ a, (lget p.key l).isSome = true) (h : Heap) : ∃ h', ∀ (r j k : Nat) (Q : Res → Prop) (tg : Hid Q), a.length = j + r → r < k →
    Run (P4_1 (d + 2) k (prs l) g (prs a) j h) Q tg = Q ([.bool true], h') := by
  obtain ⟨h', ra⟩ := awake37_run d h
  refine ⟨h', fun r => ?_⟩
  induction r with
  | zero =>
    intro j k Q tg hj hk
    obtain ⟨k, rfl⟩ : ∃ m, k = m + 1 := ⟨k - 1, by omega⟩
    rw [P4_1_eq]
    simp (disch := (first | assumption | (simp only [Bool.and_eq_true, Bool.and_eq_false_iff, decide_eq_true_eq, decide_eq_false_iff_not, bne_iff_ne, beq_iff_eq, beq_eq_false_iff_ne, bne_eq_false_iff_eq, Bool.not_eq_true', Bool.not_eq_false', bys_length, List.length_append, List.length_cons, List.length_nil, List.length_map, List.length_drop, List.length_take, Int.natCast_add, wrap_i64_eq, wrap_u64, wrap_u8, ne_eq, not_true_eq_false, not_false_eq_true, Nat.zero_add, Nat.mul_one] <;> omega) | omega | (simp; done) | (simp; omega))) only [↓CR, MC, ↓PR, MR, prs_length, ra]
  | succ r ih =>
    intro j k Q tg hj hk
    obtain ⟨k, rfl⟩ : ∃ m, k = m + 1 := ⟨k - 1, by omega⟩
    have hlt : j < a.length := by omega
    have e1 := succ_wrap (i := j) (by omega)
    have hs := hsub _ (List.getElem_mem hlt)
    have rg := fun (Q : Res → Prop) (tg : Hid Q) => rget31_run (d := d + 1) (f := false) (l := l) (s := a[j].key) (h := h) (Q := Q) (tg := tg) (by omega)
    rw [hs] at rg
    have ih' := fun Q tg => ih (j + 1) k Q tg (by omega) (by omega)
    rw [P4_1_eq]
    simp (disch := (first | assumption | (simp only [Bool.and_eq_true, Bool.and_eq_false_iff, decide_eq_true_eq, decide_eq_false_iff_not, bne_iff_ne, beq_iff_eq, beq_eq_false_iff_ne, bne_eq_false_iff_eq, Bool.not_eq_true', Bool.not_eq_false', bys_length, List.length_append, List.length_cons, List.length_nil, List.length_map, List.length_drop, List.length_take, Int.natCast_add, wrap_i64_eq, wrap_u64, wrap_u8, ne_eq, not_true_eq_false, not_false_eq_true, Nat.zero_add, Nat.mul_one] <;> omega) | omega | (simp; done) | (simp; omega))) only [↓CR, MC, ↓PR, MR, prs_length, prs_getD hlt, cells_agg, rg, Bool.not_true, e1, ih']
def strK' (l : List KPair) : List AVal := (l.map KPair.key).map AVal.str
theorem strK_length (l : List KPair) : (strK' l).length = l.length := by simp [strK']
theorem strK_getD {l : List KPair} {i : Nat} (h : i < l.length) : (strK' l).getD i .undef = .str l[i].key := by simp [strK', h]
theorem finds0_loop (d : Nat) (f b g : Bool) (L : List (List KOp)) (h1 : L.length ≤ 30) (h2 : ∀ o ∈ L, o.length ≤ 30) (l : List KPair) (hl : l.length ≤ 1000) (hsub : Sub (folds [] L) l) (h : Heap) : ∃ h', ∀ (r j k : Nat) (Q : Res → Prop) (tg : Hid Q), l.length = j + r → r < k →
    Run (P4_0 (d + 2) k f (bts b L) g (strK' l) (prs l) j h) Q tg = Q ([.bool true], h') := by
  obtain ⟨k1, r1⟩ := after_run f b L (L.length : Int) h h1 h2
  have et : L.take (L.length : Int).toNat = L := by rw [Int.toNat_natCast, List.take_length]
  rw [et] at r1
  have hlen := folds_len L [] List.Pairwise.nil h2
  have hlen : (folds [] L).length ≤ 900 := by simp at hlen; omega
  obtain ⟨h', r2⟩ := finds1_loop d false l (folds [] L) hl (by omega) (fun p hp => hsub p.key (key_mem.1 (List.mem_map.2 ⟨p, hp, rfl⟩))) k1
  have r2' := fun (Q : Res → Prop) (tg : Hid Q) => r2 (folds [] L).length 0 rounds Q tg (by omega) (rounds_gt' (by omega))
  rw [e0] at r2'
  have r1' : ∀ (Q : Res → Prop) (tg : Hid Q), Run (evFn Cw (d + 2) 8 [.sl f 0 (bts b L), .int .i64 (L.length : Int)] h) Q tg = Q ([.sl false 3 (prs (folds [] L))], k1) := fun Q tg => by
    have e : evFn Cw (d + 2) 8 [.sl f 0 (bts b L), .int .i64 (L.length : Int)] h = _ := afterW (d + 1) _ _
    rw [e]; exact r1 Q tg
  refine ⟨h', fun r => ?_⟩
  induction r with
  | zero =>
    intro j k Q tg hj hk
    obtain ⟨k, rfl⟩ : ∃ m, k = m + 1 := ⟨k - 1, by omega⟩
    rw [P4_0_eq]
    simp (disch := (first | assumption | (simp only [Bool.and_eq_true, Bool.and_eq_false_iff, decide_eq_true_eq, decide_eq_false_iff_not, bne_iff_ne, beq_iff_eq, beq_eq_false_iff_ne, bne_eq_false_iff_eq, Bool.not_eq_true', Bool.not_eq_false', bys_length, List.length_append, List.length_cons, List.length_nil, List.length_map, List.length_drop, List.length_take, Int.natCast_add, wrap_i64_eq, wrap_u64, wrap_u8, ne_eq, not_true_eq_false, not_false_eq_true, Nat.zero_add, Nat.mul_one] <;> omega) | omega | (simp; done) | (simp; omega))) only [↓CR, MC, ↓PR, MR, strK_length, bts_length, r1', r2']
  | succ r ih =>
    intro j k Q tg hj hk
    obtain ⟨k, rfl⟩ : ∃ m, k = m + 1 := ⟨k - 1, by omega⟩
    have hlt : j < l.length := by omega
    have e1 := succ_wrap (i := j) (by omega)
    have ih' := fun Q tg => ih (j + 1) k Q tg (by omega) (by omega)
    rw [P4_0_eq]
    simp (disch := (first | assumption | (simp only [Bool.and_eq_true, Bool.and_eq_false_iff, decide_eq_true_eq, decide_eq_false_iff_not, bne_iff_ne, beq_iff_eq, beq_eq_false_iff_ne, bne_eq_false_iff_eq, Bool.not_eq_true', Bool.not_eq_false', bys_length, List.length_append, List.length_cons, List.length_nil, List.length_map, List.length_drop, List.length_take, Int.natCast_add, wrap_i64_eq, wrap_u64, wrap_u8, ne_eq, not_true_eq_false, not_false_eq_true, Nat.zero_add, Nat.mul_one] <;> omega) | omega | (simp; done) | (simp; omega))) only [↓CR, MC, ↓PR, MR, strK_length, strK_getD hlt, prs_length, prs_getD hlt, cells_agg, str_beq_self, Bool.not_true, e1, ih']
theorem ffinds_true (f g : Bool) (L : List (List KOp)) (n : Int) (x : List KPair) (hL : L.length ≤ 140737488351232) (h : Heap) : ∃ d h', Ans (evFn Cw d 4 [.sl f 0 (bts false L), .int .i64 n, .sl g 3 (prs x)] h) ([.bool true], h') := by
  by_cases c : few30 L = true
  · have rf := fun (Q : Res → Prop) (tg : Hid Q) => few37_run (d := 4) (f := f) (b := false) hL (h := h) (Q := Q) (tg := tg)
    rw [c] at rf
    by_cases cx : x.length ≤ 100
    · have c2 := c
      unfold few30 at c2
      simp only [Bool.and_eq_true, decide_eq_true_eq, List.all_eq_true] at c2
      obtain ⟨h2, h1⟩ := c2
      have hrt := rtL_len L (l := []) List.Pairwise.nil h2
      have hrt : (rtL [] L).length ≤ 900 := by simp at hrt; omega
      have rT : ∀ (Q : Res → Prop) (tg : Hid Q), Run (evFn Cw 5 12 [.sl f 0 (bts false L)] h) Q tg = Q ([.sl false 0 (strK' (rtL [] L))], h) := fun Q tg => by
        have e : evFn Cw 5 12 [.sl f 0 (bts false L)] h = _ := touchedW 4 _ _
        have ek : (srtK (tkL [] (L.map fun o => (false, o)))).map AVal.str = strK' (rtL [] L) := by rw [keys_eq]; rfl
        rw [e, touched_run f false L h h1 h2, ek]
      have rt := fun (Q : Res → Prop) (tg : Hid Q) => rtouch_run (d := 2) (f := f) (b := false) h1 h2 (h := h) (Q := Q) (tg := tg)
      obtain ⟨k1, r1⟩ := find_run f false g L n x h h1 h2
      have r1' : ∀ (Q : Res → Prop) (tg : Hid Q), Run (evFn Cw 5 14 [.sl f 0 (bts false L), .int .i64 n, .sl g 3 (prs x)] h) Q tg = Q ([.int .i64 (fnd (max 0 (min n L.length)) x 0 [] L)], k1) := fun Q tg => by
        have e : evFn Cw 5 14 [.sl f 0 (bts false L), .int .i64 n, .sl g 3 (prs x)] h = _ := findW 4 _ _
        rw [e]; exact r1 Q tg
      have r2 := fun (Q : Res → Prop) (tg : Hid Q) => rfind_run (d := 0) (f := f) (b := false) (g := g) h1 h2 (x := x) (n := n) (h := k1) (Q := Q) (tg := tg)
      obtain ⟨v3, hv3, r3⟩ := raft_run 1 f false L h1 h2 n k1
      obtain ⟨fl, rs⟩ := isV_slK hv3
      have hl := foldst_len h1 h2 n.toNat
      have rE := fun (Q : Res → Prop) (tg : Hid Q) => equal_run (d := 3) (f := g) (g := fl) (a := x) (b := folds [] (L.take n.toNat)) (h := k1) (Q := Q) (tg := tg) (by omega)
      have rS := fun (Q : Res → Prop) (tg : Hid Q) => same31g_run (d := 4) (f := g) (g := fl) (a := x) (b := folds [] (L.take n.toNat)) (h := k1) (Q := Q) (tg := tg) (by omega)
      obtain ⟨h', r4⟩ := finds0_loop 3 f false false L h1 h2 (rtL [] L) (by omega) (sub_folds L (fun k hk => hk)) k1
      have r4' := fun (Q : Res → Prop) (tg : Hid Q) => r4 (rtL [] L).length 0 rounds Q tg (by omega) (rounds_gt' (by omega))
      rw [e0] at r4'
      have bi : ∀ y : Int, (y != y) = false := fun y => by simp
      have bb : ∀ y : Bool, (y == y) = true := fun y => by simp
      refine ⟨6, h', Run.ans ?_⟩
      rw [F4_eq]
      simp (disch := (first | assumption | (simp only [Bool.and_eq_true, Bool.and_eq_false_iff, decide_eq_true_eq, decide_eq_false_iff_not, bne_iff_ne, beq_iff_eq, beq_eq_false_iff_ne, bne_eq_false_iff_eq, Bool.not_eq_true', Bool.not_eq_false', bys_length, List.length_append, List.length_cons, List.length_nil, List.length_map, List.length_drop, List.length_take, Int.natCast_add, wrap_i64_eq, wrap_u64, wrap_u8, ne_eq, not_true_eq_false, not_false_eq_true, Nat.zero_add, Nat.mul_one] <;> omega) | omega | (simp; done) | (simp; omega))) only [↓CR, MC, ↓PR, MR, rf, Bool.not_true, prs_length, rT, rt, r1', r2, bi, strK_length, r3, rs, rE, rS, bb, r4']
    · obtain ⟨h', ra⟩ := awake37_run 3 h
      refine ⟨6, h', Run.ans ?_⟩
      rw [F4_eq]
      simp (disch := (first | assumption | (simp only [Bool.and_eq_true, Bool.and_eq_false_iff, decide_eq_true_eq, decide_eq_false_iff_not, bne_iff_ne, beq_iff_eq, beq_eq_false_iff_ne, bne_eq_false_iff_eq, Bool.not_eq_true', Bool.not_eq_false', bys_length, List.length_append, List.length_cons, List.length_nil, List.length_map, List.length_drop, List.length_take, Int.natCast_add, wrap_i64_eq, wrap_u64, wrap_u8, ne_eq, not_true_eq_false, not_false_eq_true, Nat.zero_add, Nat.mul_one] <;> omega) | omega | (simp; done) | (simp; omega))) only [↓CR, MC, ↓PR, MR, rf, Bool.not_true, prs_length, ra]
  · have c' : few30 L = false := by simpa using c
    obtain ⟨h', ra⟩ := awake37_run 0 h
    have rf := fun (Q : Res → Prop) (tg : Hid Q) => few37_run (d := 1) (f := f) (b := false) hL (h := h) (Q := Q) (tg := tg)
    rw [c'] at rf
    refine ⟨3, h', Run.ans ?_⟩
    rw [F4_eq]
    simp (disch := (first | assumption | (simp only [Bool.and_eq_true, Bool.and_eq_false_iff, decide_eq_true_eq, decide_eq_false_iff_not, bne_iff_ne, beq_iff_eq, beq_eq_false_iff_ne, bne_eq_false_iff_eq, Bool.not_eq_true', Bool.not_eq_false', bys_length, List.length_append, List.length_cons, List.length_nil, List.length_map, List.length_drop, List.length_take, Int.natCast_add, wrap_i64_eq, wrap_u64, wrap_u8, ne_eq, not_true_eq_false, not_false_eq_true, Nat.zero_add, Nat.mul_one] <;> omega) | omega | (simp; done) | (simp; omega))) only [↓CR, MC, ↓PR, MR, rf, Bool.not_false, ra]
end Go.Proofs.Ytbddfpakhealbaa.Wb
end

section
/- The contracts hold. -/
namespace Go.Proofs.Ytbddfpakhealbaa.Wb
open Go Go.Weave Go.Proofs.Ytbddfpakhealbaa.Wa
set_option maxRecDepth 100000
set_option linter.unusedSimpArgs false
set_option linter.unusedVariables false
set_option linter.unusedSectionVars false
theorem fold_exts4 {f : FuncId} {g : List AVal → Heap → Tr Res} {c0 : Ctx} (h : Cw.ext f = some g) : CallAt Cw f g c0 := by
  by_cases e1 : f = 8
  · subst e1
    have e : Cw.ext 8 = some afterG := rfl
    rw [e] at h
    obtain rfl := Option.some.inj h
    exact after_ext rfl ⟨rfl, rfl⟩
  · by_cases e2 : f = 10
    · subst e2
      have e : Cw.ext 10 = some statesG := rfl
      rw [e] at h
      obtain rfl := Option.some.inj h
      exact states_ext rfl ⟨rfl, rfl⟩
    · by_cases e3 : f = 14
      · subst e3
        have e : Cw.ext 14 = some findG := rfl
        rw [e] at h
        obtain rfl := Option.some.inj h
        exact find_ext rfl ⟨rfl, rfl⟩
      · by_cases e4 : f = 12
        · subst e4
          have e : Cw.ext 12 = some touchedG := rfl
          rw [e] at h
          obtain rfl := Option.some.inj h
          exact touched_ext rfl ⟨rfl, rfl⟩
        · have e : Cw.ext f = none := by
            show (match f with | 8 => some afterG | 10 => some statesG | 12 => some touchedG | 14 => some findG | _ => none) = none
            split
            · exact absurd rfl e1
            · exact absurd rfl e2
            · exact absurd rfl e4
            · exact absurd rfl e3
            · rfl
          rw [e] at h; cases h
end Go.Proofs.Ytbddfpakhealbaa.Wb
end
