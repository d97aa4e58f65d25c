/- Tables. -/
import Derived.Test.YtdlcjibefbnckaaVtg
import Derived.Test.YtdlcjibefbnckaaWk
namespace Go.Proofs.Ytdlcjibefbnckaa.Wa
open Go Go.Weave
set_option maxRecDepth 100000
set_option linter.unusedSimpArgs false
set_option linter.unusedVariables false
set_option linter.unusedSectionVars false

/-! ### Sorted pairs, plainly -/
def btot : List KPair → Nat
  | [] => 0
  | p :: l => p.key.length + p.val.length + btot l
theorem btot_append (a b : List KPair) : btot (a ++ b) = btot a + btot b := by
  induction a with
  | nil => simp [btot]
  | cons p a ih => simp only [List.cons_append, btot, ih]; omega
theorem btot_le {B : Nat} : ∀ {l : List KPair}, (∀ p ∈ l, p.key.length ≤ B ∧ p.val.length ≤ B) → btot l ≤ l.length * (2 * B)
  | [], _ => by simp [btot]
  | p :: l, h => by
    have h1 := h p List.mem_cons_self
    have h2 := btot_le fun q hq => h q (List.mem_cons_of_mem _ hq)
    simp only [btot, List.length_cons, Nat.add_mul, Nat.one_mul]
    omega
theorem btot_new {k v : List UInt8} {l : List KPair} (h : (lget k l).isSome = false) : btot (lput k v l) = btot l + v.length + k.length := by
  have h0 := lget_none h
  have : ∀ l : List KPair, (∀ p ∈ l, p.key ≠ k) → btot (l.filter (fun p => blt p.key k)) + btot (l.filter (fun p => blt k p.key)) = btot l := by
    intro l
    induction l with
    | nil => intro _; rfl
    | cons p l ih =>
      intro h
      have ih := ih fun q hq => h q (List.mem_cons_of_mem _ hq)
      have hp := h p List.mem_cons_self
      rw [List.filter_cons, List.filter_cons]
      by_cases c : blt p.key k = true
      · rw [if_pos c, if_neg (by rw [blt_asym c]; simp)]
        simp only [btot]; omega
      · have c2 : blt k p.key = true := by
          cases hh : blt k p.key
          · exact absurd (blt_tri (by simpa using c) hh) hp
          · rfl
        rw [if_neg c, if_pos c2]
        simp only [btot]; omega
  unfold lput
  rw [btot_append]
  simp only [btot]
  have := this l h0
  omega
theorem lget_split {k : List UInt8} {l : List KPair} (h : (lget k l).isSome = true) : ∃ a b, l = a ++ ⟨k, oVal (lget k l)⟩ :: b := by
  cases hp : lget k l with
  | none => rw [hp] at h; simp at h
  | some p =>
    unfold lget at hp
    have e : p.key = k := by simpa using List.find?_some hp
    obtain ⟨a, b, e2⟩ := List.append_of_mem (List.mem_of_find?_eq_some hp)
    exact ⟨a, b, by rw [e2, ← e]; rfl⟩
theorem btot_old {k v : List UInt8} {l : List KPair} (hs : Srt l) (h : (lget k l).isSome = true) : btot (lput k v l) + (oVal (lget k l)).length = btot l + v.length := by
  obtain ⟨a, b, e⟩ := lget_split h
  generalize oVal (lget k l) = x at e
  subst e
  rw [lput_eq hs, btot_append, btot_append]
  simp only [btot]; omega
theorem btot_del {k : List UInt8} {l : List KPair} (hs : Srt l) (h : (lget k l).isSome = true) : btot (ldel k l) + (k.length + (oVal (lget k l)).length) = btot l := by
  obtain ⟨a, b, e⟩ := lget_split h
  generalize oVal (lget k l) = x at e
  subst e
  have := ldel_eq hs
  simp only at this
  rw [this, btot_append, btot_append]
  simp only [btot]; omega
theorem oVal_new {k : List UInt8} {l : List KPair} (h : (lget k l).isSome = false) : oVal (lget k l) = [] := by cases hp : lget k l <;> simp_all [oVal]
theorem find_filter (p q : KPair → Bool) (l : List KPair) : (l.filter p).find? q = l.find? (fun a => p a && q a) := by
  induction l with
  | nil => rfl
  | cons a l ih =>
    rw [List.filter_cons, List.find?_cons]
    cases hp : p a
    · simp [ih]
    · simp only [if_true, Bool.true_and, List.find?_cons, ih]
theorem find_none {q : KPair → Bool} {l : List KPair} (h : ∀ a, q a = false) : l.find? q = none := by rw [List.find?_eq_none]; intro a _; simp [h a]
theorem find_congr {p q : KPair → Bool} {l : List KPair} (h : ∀ a, p a = q a) : l.find? p = l.find? q := by rw [show p = q from funext h]
theorem lget_put (k k' v : List UInt8) (l : List KPair) : lget k (lput k' v l) = if k = k' then some ⟨k, v⟩ else lget k l := by
  unfold lget lput
  rw [List.find?_append, find_filter, List.find?_cons, find_filter]
  by_cases e : k = k'
  · subst e
    rw [find_none (fun a => by
      cases h : blt a.key k
      · rfl
      · simpa using blt_ne h)]
    simp
  · rw [if_neg e]
    have e2 : ((⟨k', v⟩ : KPair).key == k) = false := by simpa using fun h => e h.symm
    rw [e2]
    simp only
    cases c : blt k k'
    · have c2 : blt k' k = true := by
        cases hh : blt k' k
        · exact absurd (blt_tri c hh) e
        · rfl
      rw [find_none (fun a => by
        cases h : a.key == k
        · simp
        · have : a.key = k := by simpa using h
          rw [this, c]; rfl)]
      rw [find_congr (p := fun a => blt k' a.key && (a.key == k)) (q := fun a => a.key == k) (fun a => by
        cases h : a.key == k
        · simp
        · have : a.key = k := by simpa using h
          rw [this, c2]; rfl)]
      simp
    · rw [find_congr (p := fun a => blt a.key k' && (a.key == k)) (q := fun a => a.key == k) (fun a => by
        cases h : a.key == k
        · simp
        · have : a.key = k := by simpa using h
          rw [this, c]; rfl)]
      rw [find_none (q := fun a => blt k' a.key && (a.key == k)) (fun a => by
        cases h : a.key == k
        · simp
        · have : a.key = k := by simpa using h
          rw [this, blt_asym c]; rfl)]
      simp
theorem lget_del (k k' : List UInt8) (l : List KPair) : lget k (ldel k' l) = if k = k' then none else lget k l := by
  unfold lget ldel
  rw [find_filter]
  by_cases e : k = k'
  · subst e
    rw [if_pos rfl, find_none (fun a => by cases h : a.key == k <;> simp [h, bne])]
  · rw [if_neg e]
    exact find_congr fun a => by
      cases h : a.key == k
      · simp
      · have : a.key = k := by simpa using h
        rw [this]; simp [e]
theorem lget_ne {k : List UInt8} {p : KPair} {l : List KPair} (h : ∀ q ∈ l, blt p.key q.key = true) (hk : k = p.key ∨ blt k p.key = true) : lget k l = none := by
  unfold lget
  rw [List.find?_eq_none]
  intro q hq
  have : blt k q.key = true := by
    rcases hk with rfl | hk
    · exact h q hq
    · exact blt_trans hk (h q hq)
  simpa using fun e => (blt_ne this) e.symm
theorem srt_ext : ∀ {a b : List KPair}, Srt a → Srt b → (∀ k, lget k a = lget k b) → a = b
  | [], [], _, _, _ => rfl
  | [], q :: b, _, _, h => by have := h q.key; rw [lget_cons, if_pos rfl] at this; simp [lget] at this
  | p :: a, [], _, _, h => by have := h p.key; rw [lget_cons, if_pos rfl] at this; simp [lget] at this
  | p :: a, q :: b, ha, hb, h => by
    have ⟨a1, a2⟩ := List.pairwise_cons.1 ha
    have ⟨b1, b2⟩ := List.pairwise_cons.1 hb
    have e : p = q := by
      cases c1 : blt p.key q.key
      · cases c2 : blt q.key p.key
        · have ek := blt_tri c1 c2
          have := h p.key
          rw [lget_cons, lget_cons, if_pos rfl, if_pos ek.symm] at this
          exact Option.some.inj this
        · have := h q.key
          rw [lget_cons q.key q b, if_pos rfl, lget_cons, if_neg (blt_ne c2).symm, lget_ne a1 (.inr c2)] at this
          cases this
      · have := h p.key
        rw [lget_cons p.key p a, if_pos rfl, lget_cons, if_neg (blt_ne c1).symm, lget_ne b1 (.inr c1)] at this
        cases this
    subst e
    rw [srt_ext a2 b2 fun k => ?_]
    by_cases e : p.key = k
    · rw [lget_ne a1 (.inl e.symm), lget_ne b1 (.inl e.symm)]
    · have := h k
      rw [lget_cons, lget_cons, if_neg e, if_neg e] at this
      exact this

/-! ### Operations, plainly -/
def rightO (o : KOp) : Bool := decide (1 ≤ o.key.length) && (decide (o.key.length ≤ 24) && ((o.kind == 1 && decide (o.val.length ≤ 128)) || (o.kind == 2 && (o.val == []))))
def apO (l : List KPair) (o : KOp) : List KPair := if o.kind = 1 then lput o.key o.val l else ldel o.key l
def aps (l : List KPair) (ops : List KOp) : List KPair := ops.foldl (fun l o => if rightO o then apO l o else l) l
def cntO (ops : List KOp) : Nat := (ops.filter rightO).length
theorem aps_nil (l : List KPair) : aps l [] = l := rfl
theorem aps_cons (l : List KPair) (o : KOp) (ops : List KOp) : aps l (o :: ops) = aps (if rightO o then apO l o else l) ops := rfl
theorem apO_srt {l : List KPair} {o : KOp} (h : Srt l) : Srt (apO l o) := by unfold apO; split; exact h.put; exact h.del
theorem aps_srt : ∀ {ops : List KOp} {l : List KPair}, Srt l → Srt (aps l ops)
  | [], _, h => h
  | o :: ops, l, h => by
    rw [aps_cons]
    exact aps_srt (by split; exact apO_srt h; exact h)
theorem aps_filter : ∀ (ops : List KOp) (l : List KPair), aps l (ops.filter rightO) = aps l ops
  | [], _ => rfl
  | o :: ops, l => by
    rw [List.filter_cons, aps_cons]
    cases h : rightO o
    · simp only [Bool.false_eq_true, if_false]; exact aps_filter ops l
    · simp only [if_true]; rw [aps_cons, h, if_pos rfl]; exact aps_filter ops _
def stepK (k : List UInt8) (r : Option KPair) (o : KOp) : Option KPair := if rightO o then (if o.kind = 1 then some ⟨k, o.val⟩ else none) else r
theorem lget_aps (k : List UInt8) : ∀ (ops : List KOp) (l : List KPair), lget k (aps l ops) = (ops.filter (fun o => o.key == k)).foldl (stepK k) (lget k l)
  | [], _ => rfl
  | o :: ops, l => by
    rw [aps_cons, lget_aps k ops, List.filter_cons]
    by_cases e : o.key = k
    · have e2 : (o.key == k) = true := by simp [e]
      rw [e2, if_pos rfl, List.foldl_cons]
      congr 1
      unfold stepK
      cases h : rightO o
      · simp
      · simp only [if_true]
        unfold apO
        split
        · rw [lget_put, if_pos e.symm]
        · rw [lget_del, if_pos e.symm]
    · have e2 : (o.key == k) = false := by simpa using e
      rw [e2]
      simp only [Bool.false_eq_true, if_false]
      congr 1
      cases h : rightO o
      · simp
      · simp only [if_true]
        unfold apO
        split
        · rw [lget_put, if_neg (fun h => e h.symm)]
        · rw [lget_del, if_neg (fun h => e h.symm)]
/-- One operation among those that count. -/
def insG (o : KOp) : Bool → List KOp → List KOp
  | true, [] => []
  | false, [] => [o]
  | false, p :: r => if blt p.key o.key then p :: insG o false r else (o :: if p.key = o.key then [] else [p]) ++ insG o true r
  | true, p :: r => (if p.key = o.key then [] else [p]) ++ insG o true r
theorem insG_filter (o : KOp) (k : List UInt8) : ∀ (b : Bool) (r : List KOp), (insG o b r).filter (fun x => x.key == k) = if o.key = k then (if b then [] else [o]) else r.filter (fun x => x.key == k)
  | true, [] => by unfold insG; split <;> rfl
  | false, [] => by
    unfold insG
    by_cases e : o.key = k
    · simp [e]
    · simp [e]
  | true, p :: r => by
    unfold insG
    rw [List.filter_append, insG_filter o k true r]
    by_cases e : o.key = k
    · subst e
      simp only [if_true]
      by_cases e2 : p.key = o.key <;> simp [e2]
    · rw [if_neg e, if_neg e, List.filter_cons]
      by_cases e2 : p.key = o.key
      · have : (p.key == k) = false := by rw [e2]; simpa using e
        simp [e2, e]
      · rw [if_neg e2, List.filter_cons, List.filter_nil]
        cases p.key == k <;> simp
  | false, p :: r => by
    unfold insG
    cases c : blt p.key o.key
    · simp only [Bool.false_eq_true, if_false]
      rw [List.filter_append, insG_filter o k true r, List.filter_cons]
      by_cases e : o.key = k
      · subst e
        simp only [beq_self_eq_true, if_true]
        by_cases e2 : p.key = o.key <;> simp [e2]
      · have e3 : (o.key == k) = false := by simpa using e
        rw [if_neg e, if_neg e, List.filter_cons, e3]
        by_cases e2 : p.key = o.key
        · have : (p.key == k) = false := by rw [e2]; exact e3
          simp [e2, e]
        · rw [if_neg e2, List.filter_cons, List.filter_nil]
          cases p.key == k <;> simp
    · simp only [if_true]
      rw [List.filter_cons, insG_filter o k false r, List.filter_cons]
      by_cases e : o.key = k
      · have e2 : (p.key == k) = false := by rw [← e]; simpa using blt_ne c
        rw [if_pos e, if_pos e, e2]; simp
      · rw [if_neg e, if_neg e]
def lastL (ops : List KOp) : List KOp := ops.foldl (fun acc o => insG o false acc) []
theorem insG_len (o : KOp) : ∀ (b : Bool) (r : List KOp), (insG o b r).length ≤ r.length + 1
  | true, [] => by simp [insG]
  | false, [] => by simp [insG]
  | true, p :: r => by
    unfold insG
    have := insG_len o true r
    rw [List.length_append]
    split <;> simp <;> omega
  | false, p :: r => by
    unfold insG
    have h1 := insG_len o true r
    have h2 := insG_len o false r
    have h3 : ∀ r, (insG o true r).length ≤ r.length := by
      intro r
      induction r with
      | nil => simp [insG]
      | cons p r ih => unfold insG; rw [List.length_append]; split <;> simp <;> omega
    have := h3 r
    split
    · simp; omega
    · rw [List.length_append]; split <;> simp <;> omega
theorem lastL_filter (k : List UInt8) : ∀ (L acc : List KOp), (L.foldl (fun acc o => insG o false acc) acc).filter (fun x => x.key == k) = L.foldl (fun r o => if o.key = k then [o] else r) (acc.filter (fun x => x.key == k))
  | [], _ => rfl
  | o :: L, acc => by
    rw [List.foldl_cons, List.foldl_cons, lastL_filter k L, insG_filter]
    rfl
theorem stepK_right {k : List UInt8} {o : KOp} (h : rightO o = true) (x y : Option KPair) : stepK k x o = stepK k y o := by unfold stepK; rw [h]; rfl
theorem last_fold (k : List UInt8) : ∀ (L r0 : List KOp) (x : Option KPair), (∀ o ∈ L, rightO o = true) → (L.foldl (fun r o => if o.key = k then [o] else r) r0).foldl (stepK k) x = (L.filter (fun o => o.key == k)).foldl (stepK k) (r0.foldl (stepK k) x)
  | [], _, _, _ => rfl
  | o :: L, r0, x, h => by
    have h1 := fun q hq => h q (List.mem_cons_of_mem o hq)
    rw [List.foldl_cons, last_fold k L _ x h1, List.filter_cons]
    by_cases e : o.key = k
    · have e2 : (o.key == k) = true := by simp [e]
      rw [if_pos e, e2, if_pos rfl, List.foldl_cons, List.foldl_cons, List.foldl_nil]
      congr 1
      exact stepK_right (h o List.mem_cons_self) _ _
    · have e2 : (o.key == k) = false := by simpa using e
      rw [if_neg e, e2]; rfl
/-- The last one on each key alone says so. -/
theorem aps_last (ops : List KOp) : aps [] (lastL (ops.filter rightO)) = aps [] ops := by
  have hn : Srt [] := List.Pairwise.nil
  refine srt_ext (aps_srt hn) (aps_srt hn) fun k => ?_
  rw [← aps_filter ops, lget_aps, lget_aps]
  unfold lastL
  rw [lastL_filter]
  exact last_fold k (ops.filter rightO) [] none fun o ho => (List.mem_filter.1 ho).2
theorem lastL_len : ∀ (L acc : List KOp), (L.foldl (fun acc o => insG o false acc) acc).length ≤ acc.length + L.length
  | [], _ => Nat.le_refl _
  | o :: L, acc => by
    rw [List.foldl_cons]
    have h1 := lastL_len L (insG o false acc)
    have h2 := insG_len o false acc
    simp only [List.length_cons]
    omega
end Go.Proofs.Ytdlcjibefbnckaa.Wa
