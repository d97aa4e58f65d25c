/- Balanced trees of texts, as plain Lean. -/
import Derived.Test.YtnhhmgcjbnocfaaDoorWvLc
import Derived.Test.YtnhhmgcjbnocfaaDoorVapi
namespace Go.Weave
set_option maxRecDepth 100000
set_option linter.unusedSimpArgs false
set_option linter.unusedVariables false
set_option linter.unusedSectionVars false

/-! ### The order of texts -/
abbrev blt (a b : List UInt8) : Bool := Go.Op.bytesLess a b
theorem u8_irr (a : UInt8) : decide (a < a) = false := by simp
theorem blt_irr : ∀ a : List UInt8, blt a a = false
  | [] => rfl
  | a :: x => by
    have := blt_irr x
    simp only [blt] at this
    simp [blt, Go.Op.bytesLess, this]
theorem blt_trans : ∀ {a b c : List UInt8}, blt a b = true → blt b c = true → blt a c = true
  | [], [], _, h, _ => by simp [blt, Go.Op.bytesLess] at h
  | [], _ :: _, [], _, h => by simp [blt, Go.Op.bytesLess] at h
  | [], _ :: _, _ :: _, _, _ => rfl
  | _ :: _, [], _, h, _ => by simp [blt, Go.Op.bytesLess] at h
  | _ :: _, _ :: _, [], _, h => by simp [blt, Go.Op.bytesLess] at h
  | a :: x, b :: y, c :: z, h1, h2 => by
    have ih := fun h1 h2 => blt_trans (a := x) (b := y) (c := z) h1 h2
    simp only [blt] at ih
    simp only [blt, Go.Op.bytesLess, Bool.or_eq_true, decide_eq_true_eq, Bool.and_eq_true, beq_iff_eq] at h1 h2 ⊢
    rcases h1 with h1 | ⟨h1, h1'⟩ <;> rcases h2 with h2 | ⟨h2, h2'⟩
    · exact .inl (UInt8.lt_trans h1 h2)
    · subst h2; exact .inl h1
    · subst h1; exact .inl h2
    · subst h1; subst h2; exact .inr ⟨rfl, ih h1' h2'⟩
theorem blt_tri : ∀ {a b : List UInt8}, blt a b = false → blt b a = false → a = b
  | [], [], _, _ => rfl
  | [], _ :: _, h, _ => by simp [blt, Go.Op.bytesLess] at h
  | _ :: _, [], _, h => by simp [blt, Go.Op.bytesLess] at h
  | a :: x, b :: y, h1, h2 => by
    simp only [blt, Go.Op.bytesLess, Bool.or_eq_false_iff, decide_eq_false_iff_not, Bool.and_eq_false_iff, beq_eq_false_iff_ne] at h1 h2
    have hab : a = b := by
      have h3 := h1.1; have h4 := h2.1
      exact UInt8.le_antisymm (UInt8.not_lt.1 h4) (UInt8.not_lt.1 h3)
    subst hab
    have e : x = y := blt_tri (by simpa [blt] using h1.2) (by simpa [blt] using h2.2)
    rw [e]
theorem blt_asym {a b : List UInt8} (h : blt a b = true) : blt b a = false := by
  cases hb : blt b a
  · rfl
  · have := blt_trans h hb
    rw [blt_irr] at this; simp at this
theorem blt_ne {a b : List UInt8} (h : blt a b = true) : a ≠ b := fun e => by rw [e, blt_irr] at h; simp at h

/-! ### Sorted pairs -/
def Srt (l : List KPair) : Prop := l.Pairwise fun a b => blt a.key b.key = true
def lput (k v : List UInt8) (l : List KPair) : List KPair := l.filter (fun p => blt p.key k) ++ ⟨k, v⟩ :: l.filter (fun p => blt k p.key)
def ldel (k : List UInt8) (l : List KPair) : List KPair := l.filter (fun p => p.key != k)
def lget (k : List UInt8) (l : List KPair) : Option KPair := l.find? (fun p => p.key == k)
def lseek (k : List UInt8) (l : List KPair) : Option KPair := l.find? (fun p => !blt p.key k)
def lbelow (k : List UInt8) (l : List KPair) : Option KPair := (l.filter (fun p => blt p.key k)).getLast?
theorem filter_none {p : KPair → Bool} {l : List KPair} (h : ∀ x ∈ l, p x = false) : l.filter p = [] := by
  rw [List.filter_eq_nil_iff]; intro x hx; rw [h x hx]; simp
theorem filter_all {p : KPair → Bool} {l : List KPair} (h : ∀ x ∈ l, p x = true) : l.filter p = l := List.filter_eq_self.2 h
theorem Srt.mid {a b : List KPair} {p : KPair} (h : Srt (a ++ p :: b)) : Srt a ∧ Srt b ∧ (∀ x ∈ a, blt x.key p.key = true) ∧ (∀ x ∈ b, blt p.key x.key = true) := by
  obtain ⟨h1, h2, h3⟩ := List.pairwise_append.1 h
  obtain ⟨h4, h5⟩ := List.pairwise_cons.1 h2
  exact ⟨h1, h5, fun x hx => h3 x hx p (by simp), h4⟩
theorem lput_lt {a b : List KPair} {p : KPair} {k v : List UInt8} (h : Srt (a ++ p :: b)) (hk : blt k p.key = true) : lput k v (a ++ p :: b) = lput k v a ++ p :: b := by
  obtain ⟨_, _, h3, h4⟩ := h.mid
  have e1 : (p :: b).filter (fun q => blt q.key k) = [] := filter_none fun x hx => by
    rcases List.mem_cons.1 hx with rfl | hx
    · exact blt_asym hk
    · exact blt_asym (blt_trans hk (h4 x hx))
  have e2 : (p :: b).filter (fun q => blt k q.key) = p :: b := filter_all fun x hx => by
    rcases List.mem_cons.1 hx with rfl | hx
    · exact hk
    · exact blt_trans hk (h4 x hx)
  unfold lput
  rw [List.filter_append, List.filter_append, e1, e2]
  simp
theorem lput_gt {a b : List KPair} {p : KPair} {k v : List UInt8} (h : Srt (a ++ p :: b)) (hk : blt p.key k = true) : lput k v (a ++ p :: b) = a ++ p :: lput k v b := by
  obtain ⟨_, _, h3, h4⟩ := h.mid
  have e1 : a.filter (fun q => blt q.key k) = a := filter_all fun x hx => blt_trans (h3 x hx) hk
  have e2 : a.filter (fun q => blt k q.key) = [] := filter_none fun x hx => blt_asym (blt_trans (h3 x hx) hk)
  unfold lput
  rw [List.filter_append, List.filter_append, e1, e2, List.filter_cons, List.filter_cons, if_pos hk, if_neg (by rw [blt_asym hk]; simp)]
  simp
theorem lput_eq {a b : List KPair} {k v w : List UInt8} (h : Srt (a ++ ⟨k, w⟩ :: b)) : lput k v (a ++ ⟨k, w⟩ :: b) = a ++ ⟨k, v⟩ :: b := by
  obtain ⟨_, _, h3, h4⟩ := h.mid
  have e1 : a.filter (fun q => blt q.key k) = a := filter_all fun x hx => h3 x hx
  have e2 : a.filter (fun q => blt k q.key) = [] := filter_none fun x hx => blt_asym (h3 x hx)
  have e3 : b.filter (fun q => blt q.key k) = [] := filter_none fun x hx => blt_asym (h4 x hx)
  have e4 : b.filter (fun q => blt k q.key) = b := filter_all fun x hx => h4 x hx
  unfold lput
  rw [List.filter_append, List.filter_append, e1, e2, List.filter_cons, List.filter_cons, if_neg (by simp [blt_irr]), if_neg (by simp [blt_irr]), e3, e4]
  simp
theorem ldel_none {k : List UInt8} {l : List KPair} (h : ∀ x ∈ l, x.key ≠ k) : ldel k l = l := filter_all fun x hx => by simpa using h x hx
theorem ldel_lt {a b : List KPair} {p : KPair} {k : List UInt8} (h : Srt (a ++ p :: b)) (hk : blt k p.key = true) : ldel k (a ++ p :: b) = ldel k a ++ p :: b := by
  obtain ⟨_, _, h3, h4⟩ := h.mid
  have e : ldel k (p :: b) = p :: b := ldel_none fun x hx => by
    rcases List.mem_cons.1 hx with rfl | hx
    · exact (blt_ne hk).symm
    · exact (blt_ne (blt_trans hk (h4 x hx))).symm
  unfold ldel at e ⊢
  rw [List.filter_append, e]
theorem ldel_gt {a b : List KPair} {p : KPair} {k : List UInt8} (h : Srt (a ++ p :: b)) (hk : blt p.key k = true) : ldel k (a ++ p :: b) = a ++ p :: ldel k b := by
  obtain ⟨_, _, h3, h4⟩ := h.mid
  have e : ldel k a = a := ldel_none fun x hx => blt_ne (blt_trans (h3 x hx) hk)
  unfold ldel at e ⊢
  rw [List.filter_append, e, List.filter_cons, if_pos (by simpa using blt_ne hk)]
theorem ldel_eq {a b : List KPair} {p : KPair} (h : Srt (a ++ p :: b)) : ldel p.key (a ++ p :: b) = a ++ b := by
  obtain ⟨_, _, h3, h4⟩ := h.mid
  have e1 : ldel p.key a = a := ldel_none fun x hx => blt_ne (h3 x hx)
  have e2 : ldel p.key b = b := ldel_none fun x hx => (blt_ne (h4 x hx)).symm
  unfold ldel at e1 e2 ⊢
  rw [List.filter_append, e1, List.filter_cons, if_neg (by simp), e2]
theorem Srt.put {k v : List UInt8} {l : List KPair} (h : Srt l) : Srt (lput k v l) := by
  unfold lput
  refine List.pairwise_append.2 ⟨h.sublist List.filter_sublist, List.pairwise_cons.2 ⟨fun x hx => (List.mem_filter.1 hx).2, h.sublist List.filter_sublist⟩, fun x hx y hy => ?_⟩
  have h1 := (List.mem_filter.1 hx).2
  rcases List.mem_cons.1 hy with rfl | hy
  · exact h1
  · exact blt_trans h1 (List.mem_filter.1 hy).2
theorem Srt.del {k : List UInt8} {l : List KPair} (h : Srt l) : Srt (ldel k l) := h.sublist List.filter_sublist

/-! ### Trees -/
inductive Nd where
  | nil
  | node (k v : List UInt8) (l r : Nd) (h : Int)
def Nd.A : Nd → AVal
  | .nil => .nilp
  | .node k v l r h => .elt (.agg [.str k, .str v, l.A, r.A, .int .i64 h]) true 5 0
def Nd.high : Nd → Int
  | .nil => 0
  | .node _ _ _ _ h => h
def Nd.toL : Nd → List KPair
  | .nil => []
  | .node k v l r _ => l.toL ++ ⟨k, v⟩ :: r.toL
def Nd.dep : Nd → Nat
  | .nil => 0
  | .node _ _ l r _ => 1 + max l.dep r.dep
def Nd.Avl : Nd → Prop
  | .nil => True
  | .node _ _ l r h => l.Avl ∧ r.Avl ∧ h = 1 + max l.high r.high ∧ l.high - r.high ≤ 1 ∧ r.high - l.high ≤ 1
def Nd.mk (k v : List UInt8) (l r : Nd) : Nd := .node k v l r (1 + max l.high r.high)
def Nd.level (k v : List UInt8) (l r : Nd) : Nd :=
  if l.high > r.high + 1 then
    match l with
    | .node lk lv ll lr _ => if ll.high ≥ lr.high then .mk lk lv ll (.mk k v lr r) else
        (match lr with
        | .node rk rv rl rr _ => .mk rk rv (.mk lk lv ll rl) (.mk k v rr r)
        | .nil => .mk k v l r)
    | .nil => .mk k v l r
  else if r.high > l.high + 1 then
    match r with
    | .node rk rv rl rr _ => if rr.high ≥ rl.high then .mk rk rv (.mk k v l rl) rr else
        (match rl with
        | .node lk lv ll lr _ => .mk lk lv (.mk k v l ll) (.mk rk rv lr rr)
        | .nil => .mk k v l r)
    | .nil => .mk k v l r
  else .mk k v l r
def Nd.put (k v : List UInt8) : Nd → Nd
  | .nil => .node k v .nil .nil 1
  | .node k' v' l r h => if blt k k' then .level k' v' (l.put k v) r else if blt k' k then .level k' v' l (r.put k v) else .node k v l r h
def Nd.least (k v : List UInt8) : Nd → List UInt8 × List UInt8
  | .nil => (k, v)
  | .node k' v' l _ _ => l.least k' v'
def Nd.without (k : List UInt8) : Nd → Nd
  | .nil => .nil
  | .node k' v' l r h => if blt k k' then .level k' v' (l.without k) r else if blt k' k then .level k' v' l (r.without k) else
      match l, r with
      | .nil, r => r
      | l, .nil => l
      | l, .node rk rv rl rr rh => .level (rl.least rk rv).1 (rl.least rk rv).2 l ((Nd.node rk rv rl rr rh).without (rl.least rk rv).1)

theorem Nd.toL_node (k v : List UInt8) (l r : Nd) (h : Int) : (Nd.node k v l r h).toL = l.toL ++ ⟨k, v⟩ :: r.toL := rfl
theorem Nd.toL_mk (k v : List UInt8) (l r : Nd) : (Nd.mk k v l r).toL = l.toL ++ ⟨k, v⟩ :: r.toL := rfl
theorem Nd.toL_level (k v : List UInt8) (l r : Nd) : (Nd.level k v l r).toL = l.toL ++ ⟨k, v⟩ :: r.toL := by
  unfold Nd.level
  split
  · split
    · split
      · simp [Nd.toL_mk, Nd.toL]
      · split
        · simp [Nd.toL_mk, Nd.toL]
        · rfl
    · rfl
  · split
    · split
      · split
        · simp [Nd.toL_mk, Nd.toL]
        · split
          · simp [Nd.toL_mk, Nd.toL]
          · rfl
      · rfl
    · rfl
theorem Nd.high_node (k v : List UInt8) (l r : Nd) (h : Int) : (Nd.node k v l r h).high = h := rfl
theorem Nd.high_nil : Nd.nil.high = 0 := rfl
theorem Nd.Avl.high_nn : ∀ {t : Nd}, t.Avl → 0 ≤ t.high
  | .nil, _ => Int.le_refl _
  | .node _ _ l r _, h => by
    have h1 := Nd.Avl.high_nn h.1
    have h2 := h.2.2.1
    simp only [Nd.high_node]; omega
theorem Nd.Avl.high_pos {k v : List UInt8} {l r : Nd} {h : Int} (a : (Nd.node k v l r h).Avl) : 1 ≤ h := by
  have h1 := Nd.Avl.high_nn a.1
  have h2 := a.2.2.1
  omega
theorem Nd.Avl.mk {k v : List UInt8} {l r : Nd} (hl : l.Avl) (hr : r.Avl) (h1 : l.high - r.high ≤ 1) (h2 : r.high - l.high ≤ 1) : (Nd.mk k v l r).Avl := ⟨hl, hr, rfl, h1, h2⟩
theorem Nd.high_mk (k v : List UInt8) (l r : Nd) : (Nd.mk k v l r).high = 1 + max l.high r.high := rfl
theorem Nd.level_avl {k v : List UInt8} {l r : Nd} (hl : l.Avl) (hr : r.Avl) (h1 : l.high - r.high ≤ 2) (h2 : r.high - l.high ≤ 2) :
    (Nd.level k v l r).Avl ∧ max l.high r.high ≤ (Nd.level k v l r).high ∧ (Nd.level k v l r).high ≤ 1 + max l.high r.high ∧ (l.high - r.high ≤ 1 → r.high - l.high ≤ 1 → (Nd.level k v l r).high = 1 + max l.high r.high) := by
  unfold Nd.level
  split
  · rename_i c1
    split
    · rename_i lk lv ll lr lh
      obtain ⟨a1, a2, a3, a4, a5⟩ := hl
      simp only [Nd.high_node, Nd.high_nil] at c1 h1 h2
      split
      · rename_i c2
        refine ⟨.mk a1 (.mk a2 hr ?_ ?_) ?_ ?_, ?_, ?_, ?_⟩ <;> (try simp only [Nd.high_mk, Nd.high_node]) <;> omega
      · rename_i c2
        split
        · rename_i rk rv rl rr rh
          obtain ⟨b1, b2, b3, b4, b5⟩ := a2
          simp only [Nd.high_node, Nd.high_nil] at c2 a3 a4 a5
          refine ⟨.mk (.mk a1 b1 ?_ ?_) (.mk b2 hr ?_ ?_) ?_ ?_, ?_, ?_, ?_⟩ <;> (try simp only [Nd.high_mk, Nd.high_node]) <;> omega
        · have := Nd.Avl.high_nn a1
          simp only [Nd.high_node, Nd.high_nil] at c2
          omega
    · have := Nd.Avl.high_nn hr
      simp only [Nd.high_node, Nd.high_nil] at c1
      omega
  · rename_i c1
    split
    · rename_i c2
      split
      · rename_i rk rv rl rr rh
        obtain ⟨a1, a2, a3, a4, a5⟩ := hr
        simp only [Nd.high_node, Nd.high_nil] at c1 c2 h1 h2
        split
        · rename_i c3
          refine ⟨.mk (.mk hl a1 ?_ ?_) a2 ?_ ?_, ?_, ?_, ?_⟩ <;> (try simp only [Nd.high_mk, Nd.high_node]) <;> omega
        · rename_i c3
          split
          · rename_i lk lv ll lr lh
            obtain ⟨b1, b2, b3, b4, b5⟩ := a1
            simp only [Nd.high_node, Nd.high_nil] at c3 a3 a4 a5
            refine ⟨.mk (.mk hl b1 ?_ ?_) (.mk b2 a2 ?_ ?_) ?_ ?_, ?_, ?_, ?_⟩ <;> (try simp only [Nd.high_mk, Nd.high_node]) <;> omega
          · have := Nd.Avl.high_nn a2
            simp only [Nd.high_node, Nd.high_nil] at c3
            omega
      · have := Nd.Avl.high_nn hl
        simp only [Nd.high_node, Nd.high_nil] at c2
        omega
    · rename_i c2
      refine ⟨.mk hl hr ?_ ?_, ?_, ?_, ?_⟩ <;> (try simp only [Nd.high_mk]) <;> first | omega | (intro _ _; trivial)
theorem Nd.put_avl {k v : List UInt8} : ∀ {t : Nd}, t.Avl → (t.put k v).Avl ∧ t.high ≤ (t.put k v).high ∧ (t.put k v).high ≤ t.high + 1
  | .nil, _ => by simp [Nd.put, Nd.Avl, Nd.high]
  | .node k' v' l r h, a => by
    obtain ⟨a1, a2, a3, a4, a5⟩ := a
    unfold Nd.put
    split
    · obtain ⟨b1, b2, b3⟩ := Nd.put_avl (k := k) (v := v) a1
      obtain ⟨c1, c2, c3, c4⟩ := Nd.level_avl (k := k') (v := v') b1 a2 (by omega) (by omega)
      refine ⟨c1, ?_, ?_⟩ <;> simp only [Nd.high_node] <;> omega
    · split
      · obtain ⟨b1, b2, b3⟩ := Nd.put_avl (k := k) (v := v) a2
        obtain ⟨c1, c2, c3, c4⟩ := Nd.level_avl (k := k') (v := v') a1 b1 (by omega) (by omega)
        refine ⟨c1, ?_, ?_⟩ <;> simp only [Nd.high_node] <;> omega
      · refine ⟨⟨a1, a2, a3, a4, a5⟩, ?_, ?_⟩ <;> simp only [Nd.high_node] <;> omega
theorem Nd.put_toL {k v : List UInt8} : ∀ {t : Nd}, Srt t.toL → (t.put k v).toL = lput k v t.toL
  | .nil, _ => rfl
  | .node k' v' l r h, hs => by
    unfold Nd.put
    rw [Nd.toL_node] at hs ⊢
    obtain ⟨s1, s2, _, _⟩ := hs.mid
    split
    · rename_i c
      rw [Nd.toL_level, Nd.put_toL s1]
      exact (lput_lt hs c).symm
    · rename_i c
      split
      · rename_i c2
        rw [Nd.toL_level, Nd.put_toL s2]
        exact (lput_gt hs c2).symm
      · rename_i c2
        have e : k = k' := blt_tri (by simpa using c) (by simpa using c2)
        subst e
        exact (lput_eq hs).symm
theorem Nd.least_toL : ∀ {t : Nd} {k v : List UInt8} (b : List KPair), ∃ rest, t.toL ++ ⟨k, v⟩ :: b = ⟨(t.least k v).1, (t.least k v).2⟩ :: rest
  | .nil, k, v, b => ⟨b, rfl⟩
  | .node k' v' l r h, k, v, b => by
    obtain ⟨rest, e⟩ := Nd.least_toL (t := l) (k := k') (v := v') (r.toL ++ ⟨k, v⟩ :: b)
    refine ⟨rest, ?_⟩
    rw [Nd.toL_node]; unfold Nd.least
    rw [← e]; simp
theorem Nd.without_ok {k : List UInt8} : ∀ {t : Nd}, t.Avl → Srt t.toL → (∃ p ∈ t.toL, p.key = k) → (t.without k).Avl ∧ t.high - 1 ≤ (t.without k).high ∧ (t.without k).high ≤ t.high ∧ (t.without k).toL = ldel k t.toL
  | .nil, _, _, h => by obtain ⟨p, hp, _⟩ := h; simp [Nd.toL] at hp
  | .node k' v' l r h, a, hs, hk => by
    obtain ⟨a1, a2, a3, a4, a5⟩ := a
    rw [Nd.toL_node] at hs ⊢
    simp only [Nd.toL_node] at hk
    obtain ⟨s1, s2, s3, s4⟩ := hs.mid
    unfold Nd.without
    split
    · rename_i c
      have hk1 : ∃ p ∈ l.toL, p.key = k := by
        obtain ⟨p, hp, e⟩ := hk
        rcases List.mem_append.1 hp with hp | hp
        · exact ⟨p, hp, e⟩
        · rcases List.mem_cons.1 hp with rfl | hp
          · subst e; rw [blt_irr] at c; simp at c
          · have := blt_asym (s4 p hp)
            rw [e] at this
            rw [this] at c; simp at c
      obtain ⟨b1, b2, b3, b4⟩ := Nd.without_ok a1 s1 hk1
      obtain ⟨c1, c2, c3, c4⟩ := Nd.level_avl (k := k') (v := v') b1 a2 (by omega) (by omega)
      refine ⟨c1, ?_, ?_, ?_⟩
      · simp only [Nd.high_node]; omega
      · simp only [Nd.high_node]; omega
      · rw [Nd.toL_level, b4]; exact (ldel_lt hs c).symm
    · rename_i c
      split
      · rename_i c2
        have hk1 : ∃ p ∈ r.toL, p.key = k := by
          obtain ⟨p, hp, e⟩ := hk
          rcases List.mem_append.1 hp with hp | hp
          · have := blt_asym (s3 p hp)
            rw [e] at this
            rw [this] at c2; simp at c2
          · rcases List.mem_cons.1 hp with rfl | hp
            · subst e; rw [blt_irr] at c2; simp at c2
            · exact ⟨p, hp, e⟩
        obtain ⟨b1, b2, b3, b4⟩ := Nd.without_ok a2 s2 hk1
        obtain ⟨c1, c2', c3, c4⟩ := Nd.level_avl (k := k') (v := v') a1 b1 (by omega) (by omega)
        refine ⟨c1, ?_, ?_, ?_⟩
        · simp only [Nd.high_node]; omega
        · simp only [Nd.high_node]; omega
        · rw [Nd.toL_level, b4]; exact (ldel_gt hs c2).symm
      · rename_i c2
        have e : k = k' := blt_tri (by simpa using c) (by simpa using c2)
        subst e
        have hd : ldel k (l.toL ++ ⟨k, v'⟩ :: r.toL) = l.toL ++ r.toL := ldel_eq (p := ⟨k, v'⟩) hs
        rw [hd]
        split
        · refine ⟨a2, ?_, ?_, rfl⟩ <;> (have h0 := Nd.high_nil; have h2 := a2.high_nn; rw [Nd.high_node]; omega)
        · refine ⟨a1, ?_, ?_, by simp [Nd.toL]⟩ <;> (have h0 := Nd.high_nil; have h2 := a1.high_nn; rw [Nd.high_node]; omega)
        · rename_i rk rv rl rr rh _
          obtain ⟨rest, hrest⟩ := Nd.least_toL (t := rl) (k := rk) (v := rv) rr.toL
          have hR : (Nd.node rk rv rl rr rh).toL = ⟨(rl.least rk rv).1, (rl.least rk rv).2⟩ :: rest := hrest
          obtain ⟨b1, b2, b3, b4⟩ := Nd.without_ok (k := (rl.least rk rv).1) a2 s2 ⟨_, by rw [hR]; exact List.mem_cons_self, rfl⟩
          obtain ⟨c1, c2', c3, c4⟩ := Nd.level_avl (k := (rl.least rk rv).1) (v := (rl.least rk rv).2) a1 b1 (by omega) (by omega)
          refine ⟨c1, ?_, ?_, ?_⟩
          · simp only [Nd.high_node, Nd.high_nil] at *; omega
          · simp only [Nd.high_node, Nd.high_nil] at *; omega
          · rw [Nd.toL_level, b4, hR]
            rw [hR] at s2
            have := ldel_eq (a := []) (p := ⟨(rl.least rk rv).1, (rl.least rk rv).2⟩) (b := rest) s2
            simp only [List.nil_append] at this
            rw [this]
theorem Nd.dep_le : ∀ t : Nd, t.dep ≤ t.toL.length
  | .nil => Nat.le_refl _
  | .node k v l r h => by
    have h1 := Nd.dep_le l
    have h2 := Nd.dep_le r
    simp only [Nd.dep, Nd.toL, List.length_append, List.length_cons]
    omega
theorem Nd.Avl.high_le : ∀ {t : Nd}, t.Avl → t.high ≤ t.toL.length
  | .nil, _ => Int.le_refl _
  | .node k v l r h, a => by
    have h1 := Nd.Avl.high_le a.1
    have h2 := Nd.Avl.high_le a.2.1
    have h3 := a.2.2.1
    simp only [Nd.high_node, Nd.toL, List.length_append, List.length_cons]
    omega
def Nd.kv : Nd → Option KPair
  | .nil => none
  | .node k v _ _ _ => some ⟨k, v⟩
theorem rounds_gt' {n : Nat} (h : n < 4611686018427387904) : n < rounds := Nat.lt_of_lt_of_le h rounds_ge
end Go.Weave
