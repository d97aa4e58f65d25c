/- UndoGoes. -/
import Derived.Test.YtkpjkaikeeldfaaVue
namespace Go.Proofs.Ytkpjkaikeeldfaa.Wa
open Go Go.Weave
set_option maxRecDepth 100000
set_option linter.unusedSimpArgs false
set_option linter.unusedVariables false
set_option linter.unusedSectionVars false

abbrev r0 : Rec := ⟨0, 0, 0, 0, false, []⟩
theorem firstR_some {L : List Rec} {x : Int} : ∀ (n i t : Nat), t < n → (∀ t', t' < t → (L.getD (i + t') r0).lsn ≠ x) → (L.getD (i + t) r0).lsn = x → firstR L x n i = some (i + t)
  | 0, _, _, h, _, _ => by omega
  | n + 1, i, 0, _, _, h => by rw [firstR_succ, Nat.add_zero] at *; rw [if_pos h]; rfl
  | n + 1, i, t + 1, ht, h1, h2 => by
    rw [firstR_succ, if_neg (by have := h1 0 (by omega); rwa [Nat.add_zero] at this)]
    have := firstR_some n (i + 1) t (by omega) (fun t' h => by have := h1 (t' + 1) (by omega); rwa [show i + 1 + t' = i + (t' + 1) by omega]) (by rwa [show i + 1 + t = i + (t + 1) by omega])
    rw [this]; congr 1; omega
theorem firstR_none {L : List Rec} {x : Int} : ∀ (n i : Nat), (∀ t, t < n → (L.getD (i + t) r0).lsn ≠ x) → firstR L x n i = none
  | 0, _, _ => rfl
  | n + 1, i, h => by
    rw [firstR_succ, if_neg (by have := h 0 (by omega); rwa [Nat.add_zero] at this)]
    exact firstR_none n (i + 1) fun t ht => by have := h (t + 1) (by omega); rwa [show i + 1 + t = i + (t + 1) by omega]
theorem firstR_before {L : List Rec} {x : Int} : ∀ (n i j : Nat), firstR L x n i = some j → ∀ t, i ≤ t → t < j → (L.getD t r0).lsn ≠ x
  | 0, _, _, h, _, _, _ => by simp [firstR] at h
  | n + 1, i, j, h, t, h1, h2 => by
    rw [firstR_succ] at h
    split at h
    · simp at h; omega
    · rename_i hne
      by_cases e : t = i
      · rw [e]; exact hne
      · exact firstR_before n (i + 1) j h t (by omega) h2
theorem firstR_all {L : List Rec} {x : Int} : ∀ (n i : Nat), firstR L x n i = none → ∀ t, i ≤ t → t < i + n → (L.getD t r0).lsn ≠ x
  | 0, _, _, _, _, _ => by omega
  | n + 1, i, h, t, h1, h2 => by
    rw [firstR_succ] at h
    split at h
    · cases h
    · rename_i hne
      by_cases e : t = i
      · rw [e]; exact hne
      · exact firstR_all n (i + 1) h t (by omega) (by omega)
theorem getD_app1 {l m : List Rec} {i : Nat} (h : i < l.length) : (l ++ m).getD i r0 = l.getD i r0 := by
  simp only [List.getD_eq_getElem?_getD]
  rw [List.getElem?_append_left h]
theorem getD_app2 {l m : List Rec} {i : Nat} : (l ++ m).getD (l.length + i) r0 = m.getD i r0 := by
  simp only [List.getD_eq_getElem?_getD]
  rw [List.getElem?_append_right (by omega)]
  congr 2
  omega
/-- What is told behind changes nothing for an LSN that is not told there. -/
theorem firstR_app {l m : List Rec} {x : Int} (hm : ∀ r ∈ m, r.lsn ≠ x) : firstR (l ++ m) x (l ++ m).length 0 = firstR l x l.length 0 := by
  cases h : firstR l x l.length 0 with
  | some j =>
    have h1 := firstR_spec l x _ _ _ h
    have h2 := firstR_before _ _ _ h
    have := firstR_some (L := l ++ m) (x := x) (l ++ m).length 0 j (by simp; omega) (fun t' ht => by rw [Nat.zero_add, getD_app1 (by omega)]; exact h2 t' (by omega) ht) (by rw [Nat.zero_add, getD_app1 (by omega)]; exact h1.2.2)
    rw [this, Nat.zero_add]
  | none =>
    have h2 := firstR_all _ _ h
    refine firstR_none _ _ fun t ht => ?_
    rw [Nat.zero_add]
    by_cases hl : t < l.length
    · rw [getD_app1 hl]; exact h2 t (by omega) (by omega)
    · have e : t = l.length + (t - l.length) := by omega
      have hl2 : t - l.length < m.length := by simp at ht; omega
      rw [e, getD_app2]
      have : m.getD (t - l.length) r0 = m[t - l.length] := by simp [hl2]
      rw [this]
      exact hm _ (List.getElem_mem hl2)
theorem getD_lsn {l : List Rec} {x : Int} {j : Nat} (h : firstR l x l.length 0 = some j) : ∃ hj : j < l.length, l[j].lsn = x := by
  have h1 := firstR_spec l x _ _ _ h
  have hj : j < l.length := by omega
  refine ⟨hj, ?_⟩
  have := h1.2.2
  rwa [getDr hj] at this
theorem ustep_app {l m : List Rec} {x : Int} (hm : ∀ r ∈ m, r.lsn ≠ x) : ustep (l ++ m) x = ustep l x := by
  cases h : firstR l x l.length 0 with
  | none => rw [ustep_none h, ustep_none (by rw [firstR_app hm]; exact h)]
  | some j =>
    obtain ⟨hj, _⟩ := getD_lsn h
    have hj2 : j < (l ++ m).length := by simp; omega
    rw [ustep_at h hj, ustep_at (by rw [firstR_app hm]; exact h) hj2]
    have e : (l ++ m)[j] = l[j] := List.getElem_append_left hj
    rw [e]
theorem ustep_lt {l : List Rec} {x : Int} : (∀ y, ustep l x = .back y → y < x) ∧ (∀ c y, ustep l x = .undo c y → y < x ∧ c.next = y) := by
  constructor
  · intro y h
    unfold ustep at h
    split at h
    · cases h
    · repeat' (split at h)
      all_goals (first | (cases h; done) | skip)
      all_goals (cases h; omega)
  · intro c y h
    unfold ustep at h
    split at h
    · cases h
    · repeat' (split at h)
      all_goals (first | (cases h; done) | skip)
      all_goals (cases h; exact ⟨by omega, rfl⟩)
theorem upl_app {l m : List Rec} {b : Int} (hm : ∀ r ∈ m, b < r.lsn) : ∀ (n : Nat) (x : Int), x ≤ b → upl (l ++ m) n x = upl l n x
  | 0, _, _ => rfl
  | n + 1, x, hx => by
    rw [upl_succ, upl_succ, ustep_app (fun r hr => by have := hm r hr; omega)]
    have hlt := ustep_lt (l := l) (x := x)
    cases hs : ustep l x with
    | bad => rfl
    | begins => rfl
    | back y => have := hlt.1 y hs; exact upl_app hm n y (by omega)
    | undo c y => have := hlt.2 c y hs; simp only; rw [upl_app hm n y (by omega)]
theorem upl_fuel (l : List Rec) : ∀ (n m : Nat) (x : Int), upto l x < n → upto l x < m → upl l n x = upl l m x
  | 0, _, _, h, _ => by omega
  | n + 1, 0, _, _, h => by omega
  | n + 1, m + 1, x, h1, h2 => by
    rw [upl_succ, upl_succ]
    cases hs : ustep l x with
    | bad => rfl
    | begins => rfl
    | back y => have := ustep_back hs; exact upl_fuel l n m y (by omega) (by omega)
    | undo c y => have := ustep_undo hs; simp only; rw [upl_fuel l n m y (by omega) (by omega)]
/-- The plan from a change of the plan on. -/
theorem upl_drop (l : List Rec) : ∀ (n : Nat) (x : Int) (a : List Change) (b : List Int) (g : Int), upto l x < n → upl l n x = some (a, b, g) → ∀ i (hi : i < a.length), a[i].next < x ∧ upl l n a[i].next = some (a.drop (i + 1), b.drop (i + 1), g)
  | 0, _, _, _, _, h, _, _, _ => by omega
  | n + 1, x, a, b, g, h, hu, i, hi => by
    rw [upl_succ] at hu
    have hlt := ustep_lt (l := l) (x := x)
    cases hs : ustep l x with
    | bad => rw [hs] at hu; cases hu
    | begins => rw [hs] at hu; simp at hu; obtain ⟨rfl, _⟩ := hu; simp at hi
    | back y =>
      rw [hs] at hu
      simp only at hu
      have h1 := ustep_back hs
      have h2 := hlt.1 y hs
      have h3 := upl_drop l n y a b g (by omega) hu i hi
      refine ⟨by omega, ?_⟩
      have h4 := upto_mono (l := l) (x := x) (y := a[i].next) (by omega)
      have h5 := upto_mono (l := l) (x := y) (y := a[i].next) (by omega)
      rw [← upl_fuel l n (n + 1) a[i].next (by omega) (by omega)]; exact h3.2
    | undo c y =>
      rw [hs] at hu
      simp only at hu
      have h1 := ustep_undo hs
      have h2 := hlt.2 c y hs
      cases ho : upl l n y with
      | none => rw [ho] at hu; cases hu
      | some p =>
        obtain ⟨a', b', g'⟩ := p
        rw [ho] at hu
        simp only [Option.some.injEq, Prod.mk.injEq] at hu
        obtain ⟨rfl, rfl, rfl⟩ := hu
        cases i with
        | zero =>
          simp only [List.getElem_cons_zero, h2.2, List.drop_succ_cons, List.drop_zero, Nat.zero_add]
          exact ⟨h2.1, by rw [← upl_fuel l n (n + 1) y (by omega) (by omega)]; exact ho⟩
        | succ i =>
          have hi' : i < a'.length := by simpa using hi
          have h3 := upl_drop l n y a' b' g' (by omega) ho i hi'
          simp only [List.getElem_cons_succ, List.drop_succ_cons]
          refine ⟨by omega, ?_⟩
          have h5 := upto_mono (l := l) (x := y) (y := a'[i].next) (by omega)
          rw [← upl_fuel l n (n + 1) a'[i].next (by omega) (by omega)]; exact h3.2
theorem upl_found {l : List Rec} {n : Nat} {x : Int} {p : List Change × List Int × Int} (h : upl l n x = some p) : ∃ j, ∃ hj : j < l.length, l[j].lsn = x := by
  cases n with
  | zero => cases h
  | succ n =>
    cases hf : firstR l x l.length 0 with
    | none => rw [upl_succ, ustep_none hf] at h; cases h
    | some j => obtain ⟨hj, e⟩ := getD_lsn hf; exact ⟨j, hj, e⟩
theorem cright_turn {k : List UInt8} {w i : Bool} {o n : List UInt8} {x y : Int} (h : cright k w i o n x = true) (hy : 0 ≤ y ∧ y ≤ 2147483647) : cright k i w n o y = true := by
  simp only [cright, decide_eq_true_eq] at h ⊢
  obtain ⟨h1, h2, h3, h4, h5, h6, _, _⟩ := h
  exact ⟨h1, h2, h4, h3, h6, h5, hy.1, hy.2⟩
/-- The changes of a plan are right. -/
theorem upl_right {l : List Rec} (hb : ∀ r ∈ l, 0 ≤ r.lsn ∧ r.lsn ≤ 2147483647) : ∀ (n : Nat) (x : Int) (a : List Change) (b : List Int) (g : Int), upl l n x = some (a, b, g) → ∀ c ∈ a, cright c.key c.was c.is c.old c.new c.next = true
  | 0, _, _, _, _, h, _, _ => by cases h
  | n + 1, x, a, b, g, hu, c', hc => by
    have hu0 := hu
    rw [upl_succ] at hu
    cases hs : ustep l x with
    | bad => rw [hs] at hu; cases hu
    | begins => rw [hs] at hu; simp at hu; obtain ⟨rfl, _⟩ := hu; cases hc
    | back y => rw [hs] at hu; exact upl_right hb n y a b g hu c' hc
    | undo c y =>
      rw [hs] at hu
      simp only at hu
      cases ho : upl l n y with
      | none => rw [ho] at hu; cases hu
      | some p =>
        obtain ⟨a', b', g'⟩ := p
        rw [ho] at hu
        simp only [Option.some.injEq, Prod.mk.injEq] at hu
        obtain ⟨rfl, rfl, rfl⟩ := hu
        rcases List.mem_cons.1 hc with rfl | hc
        · obtain ⟨j, hj, e⟩ := upl_found ho
          have hy := hb _ (List.getElem_mem hj)
          rw [e] at hy
          unfold ustep at hs
          split at hs
          · cases hs
          · rename_i j' _
            repeat' (split at hs)
            all_goals (first | (cases hs; done) | skip)
            all_goals (rename_i h2 _ _; simp only [ne_eq, Classical.not_not] at h2)
            all_goals (obtain ⟨k, w, i, o, nn, xx, e1, e2, _⟩ := cdec_spec h2)
            all_goals (cases hs)
            all_goals (rw [e1]; exact cright_turn e2 hy)
        · exact upl_right hb n y a' b' g' ho c' hc

/-! ### The undone ones told behind -/
noncomputable def cb (c : Change) : List UInt8 := cbytes c.key c.was c.is c.old c.new c.next
noncomputable def moreR : List Change → Int → List Rec
  | [], _ => []
  | c :: cs, s => ⟨7, 0, s, 0, false, cb c⟩ :: moreR cs (s + 1)
theorem moreR_length : ∀ (cs : List Change) (s : Int), (moreR cs s).length = cs.length
  | [], _ => rfl
  | c :: cs, s => by simp [moreR, moreR_length cs]
theorem moreR_snoc : ∀ (cs : List Change) (c : Change) (s : Int), moreR (cs ++ [c]) s = moreR cs s ++ [⟨7, 0, s + cs.length, 0, false, cb c⟩]
  | [], c, s => by simp [moreR]
  | x :: cs, c, s => by
    simp only [List.cons_append, moreR, moreR_snoc cs c (s + 1), List.length_cons, List.cons.injEq, true_and]
    congr 3
    omega
theorem moreR_getD : ∀ (cs : List Change) (s : Int) (j : Nat) (h : j < cs.length), (moreR cs s).getD j r0 = ⟨7, 0, s + j, 0, false, cb cs[j]⟩
  | [], _, _, h => by simp at h
  | c :: cs, s, 0, _ => by simp [moreR]
  | c :: cs, s, j + 1, h => by
    have := moreR_getD cs (s + 1) j (by simpa using h)
    simp only [moreR, List.getD_cons_succ, List.getElem_cons_succ, this]
    congr 1
    omega
theorem moreR_mem {cs : List Change} {s : Int} {r : Rec} (h : r ∈ moreR cs s) : s ≤ r.lsn ∧ ∃ c ∈ cs, r.data = cb c := by
  obtain ⟨j, hj, rfl⟩ := List.getElem_of_mem h
  rw [moreR_length] at hj
  have e : (moreR cs s)[j]'(by rw [moreR_length]; exact hj) = (moreR cs s).getD j r0 := by simp [hj, moreR_length]
  rw [e, moreR_getD cs s j hj]
  exact ⟨by simp only; omega, cs[j], List.getElem_mem hj, rfl⟩
theorem cb_len {c : Change} (hr : cright c.key c.was c.is c.old c.new c.next = true) : (cb c).length ≤ 1000 := by
  have h1 := cfields_pks hr
  have h2 := hr
  simp only [cright, decide_eq_true_eq] at h2
  have := (enc_length 9 c.next.toNat (lt_128_10 (by omega))).2
  unfold cb cbytes
  simp only [List.length_cons, List.length_append]; omega
/-- The plan, when the first ones of it were undone. -/
theorem upl_more {l : List Rec} {last x : Int} {a : List Change} {b : List Int} {g : Int} (hl : ∀ r ∈ l, 0 ≤ r.lsn ∧ r.lsn ≤ last) (hlast : last ≤ 2147483647) (hu : upl l (l.length + 1) x = some (a, b, g)) {n : Nat} (h1 : 1 ≤ n) (hn : n ≤ a.length) :
    upl (l ++ moreR (a.take n) (last + 1)) ((l ++ moreR (a.take n) (last + 1)).length + 1) (last + n) = some (a.drop n, b.drop n, g) := by
  have hb : ∀ r ∈ l, 0 ≤ r.lsn ∧ r.lsn ≤ 2147483647 := fun r hr => by have := hl r hr; omega
  have hi : n - 1 < a.length := by omega
  have htl : (a.take n).length = n := by rw [List.length_take]; omega
  have hml : (moreR (a.take n) (last + 1)).length = n := by rw [moreR_length, htl]
  obtain ⟨hc1, hc2⟩ := upl_drop l (l.length + 1) x a b g (by have := upto_le l x; omega) hu (n - 1) hi
  have hr := upl_right hb _ _ _ _ _ hu _ (List.getElem_mem hi)
  obtain ⟨jj, hjj, ejj⟩ := upl_found hc2
  have hcl : a[n - 1].next ≤ last := by have := hl _ (List.getElem_mem hjj); omega
  have hm : ∀ r ∈ moreR (a.take n) (last + 1), last < r.lsn := fun r hr => by have := (moreR_mem hr).1; omega
  have hf : firstR (l ++ moreR (a.take n) (last + 1)) (last + n) (l ++ moreR (a.take n) (last + 1)).length 0 = some (l.length + (n - 1)) := by
    have := firstR_some (L := l ++ moreR (a.take n) (last + 1)) (x := last + n) (l ++ moreR (a.take n) (last + 1)).length 0 (l.length + (n - 1)) (by rw [List.length_append, hml]; omega) (fun t ht => by
      rw [Nat.zero_add]
      by_cases hlt : t < l.length
      · rw [getD_app1 hlt, getDr hlt]
        have := hl _ (List.getElem_mem hlt)
        omega
      · have e : t = l.length + (t - l.length) := by omega
        rw [e, getD_app2, moreR_getD _ _ _ (by rw [htl]; omega)]
        simp only
        omega) (by
      rw [Nat.zero_add, getD_app2, moreR_getD _ _ _ (by rw [htl]; omega)]
      simp only
      omega)
    rw [this, Nat.zero_add]
  have hj : l.length + (n - 1) < (l ++ moreR (a.take n) (last + 1)).length := by rw [List.length_append, hml]; omega
  have eg : (l ++ moreR (a.take n) (last + 1))[l.length + (n - 1)] = ⟨7, 0, last + 1 + ((n - 1 : Nat) : Int), 0, false, cb a[n - 1]⟩ := by
    rw [← getDr hj, getD_app2, moreR_getD _ _ _ (by rw [htl]; omega), List.getElem_take]
  have hs : ustep (l ++ moreR (a.take n) (last + 1)) (last + n) = .back a[n - 1].next := by
    rw [ustep_at hf hj, eg]
    have hd := cdec_cbytes hr
    simp only [cb, hd]
    rw [if_neg (by omega), if_neg (by simp), if_neg (by omega), if_pos trivial, if_neg (by omega)]
  rw [upl_succ, hs]
  simp only
  rw [upl_app hm _ _ hcl, upl_fuel l _ (l.length + 1) _ (by have := upto_le l a[n - 1].next; rw [List.length_append, hml]; omega) (by have := upto_le l a[n - 1].next; omega), hc2]
  have e : n - 1 + 1 = n := by omega
  rw [e]

/-! ### The walk -/
def risL : List Rec → Int → Option Int
  | [], a => some a
  | r :: rs, a => if r.lsn ≤ a ∨ r.lsn > 1048576 then none else risL rs r.lsn
theorem risL_spec : ∀ (l : List Rec) (a last : Int), risL l a = some last → a ≤ last ∧ (∀ r ∈ l, a < r.lsn ∧ r.lsn ≤ last) ∧ (last ≤ 1048576 ∨ last = a)
  | [], a, last, h => by simp [risL] at h; subst h; exact ⟨Int.le_refl _, fun r hr => (by cases hr), .inr rfl⟩
  | r :: rs, a, last, h => by
    unfold risL at h
    split at h
    · cases h
    · rename_i hc
      obtain ⟨h1, h2, h3⟩ := risL_spec rs r.lsn last h
      refine ⟨by omega, fun r' hr => ?_, by omega⟩
      rcases List.mem_cons.1 hr with rfl | hr
      · omega
      · have := h2 r' hr; omega
theorem risL_len : ∀ (l : List Rec) (a last : Int), risL l a = some last → (l.length : Int) ≤ last - a
  | [], a, last, h => by simp [risL] at h; subst h; simp
  | r :: rs, a, last, h => by
    unfold risL at h
    split at h
    · cases h
    · rename_i hc
      have := risL_len rs r.lsn last h
      simp only [List.length_cons]
      omega
theorem ris_some (d : Nat) (f : Bool) (l : List Rec) (hl : l.length ≤ 2612000000000) (x2 x3 : Int) (h : Heap) (last : Int) : ∀ (n i k : Nat) (a : Int), l.length = i + n → n < k → risL (l.drop i) a = some last →
    ∃ k', ∀ (Q : Res → Prop) (tg : Hid Q), Run (P4_0 d k f (recs l) x2 x3 a i h) Q tg = Run (P4_0 d (k' + 1) f (recs l) x2 x3 last (l.length : Nat) h) Q ⟨⟩ := by
  intro n
  induction n with
  | zero =>
    intro i k a hi hk hr
    obtain ⟨k, rfl⟩ : ∃ m, k = m + 1 := ⟨k - 1, by omega⟩
    have e : l.drop i = [] := List.drop_eq_nil_of_le (by omega)
    rw [e] at hr
    simp only [risL, Option.some.injEq] at hr
    subst hr
    have ei : i = l.length := by omega
    subst ei
    exact ⟨k, fun Q tg => rfl⟩
  | succ n ih =>
    intro i k a hi hk hr
    obtain ⟨k, rfl⟩ : ∃ m, k = m + 1 := ⟨k - 1, by omega⟩
    have h1 : i < l.length := by omega
    have e1 := succ_wrap (i := i) (by omega)
    rw [List.drop_eq_getElem_cons h1] at hr
    unfold risL at hr
    split at hr
    · cases hr
    · rename_i hc
      have c1 : ¬ l[i].lsn ≤ a := fun h => hc (.inl h)
      have c2 : ¬ l[i].lsn > 1048576 := fun h => hc (.inr h)
      obtain ⟨k', r⟩ := ih (i + 1) k l[i].lsn (by omega) (by omega) hr
      refine ⟨k', fun Q tg => ?_⟩
      rw [P4_0_eq]
      simp (disch := (first | assumption | (simp only [Bool.and_eq_true, Bool.and_eq_false_iff, decide_eq_true_eq, decide_eq_false_iff_not, bne_iff_ne, beq_iff_eq, beq_eq_false_iff_ne, bne_eq_false_iff_eq, Bool.not_eq_true', Bool.not_eq_false', bys_length, List.length_append, List.length_cons, List.length_nil, List.length_map, List.length_drop, List.length_take, Int.natCast_add, wrap_i64_eq, wrap_u64, wrap_u8, ne_eq, not_true_eq_false, not_false_eq_true, Nat.zero_add, Nat.mul_one] <;> omega) | omega | (simp; done) | (simp; omega))) only [↓at_runK, ↓at_bind, ↓contQ_mk, ↓at_ret, ↓at_consK, ↓at_nilK, ↓at_optK, ↓at_intK, ↓at_boolK, ↓at_strK, ↓at_slK, ↓at_slOK, ↓at_slK0, ↓at_slOK0, ↓at_aggK, ↓at_cond_t, ↓at_cond_f, ↓at_sameL, ↓at_any1, ↓at_any, and_self, toBytes_bys, List.nil_append, List.append_nil, ↓at_nodeW, List.drop_zero, List.take_succ_cons, List.take_zero, List.getElem?_cons_succ, List.getElem?_cons_zero, cells_agg, eqCells_cons, eqCells_nil, eq1_int, eq1_bool, eq1_str, ↓at_ptr_whole, ↓at_ptr_cell, ↓at_ptr_obj, ↓at_ptr_objs, shift_obj, shift_elt, toA_val, toA_own, Int.toNat_natCast, List.cons_append, recs_length, recs_getD h1, c1, c2, e1, r]
theorem ris_none (d : Nat) (f : Bool) (l : List Rec) (hl : l.length ≤ 2612000000000) (x2 x3 : Int) (h h' : Heap) (ra : ∀ (Q : Res → Prop) (tg : Hid Q), Run (evFn Cw d 12 [] h) Q tg = Q ([.bool true], h')) (Q : Res → Prop) : ∀ (n i k : Nat) (a : Int) (tg : Hid Q), l.length = i + n → n < k → risL (l.drop i) a = none →
    Run (P4_0 d k f (recs l) x2 x3 a i h) Q tg = Q ([.bool true], h') := by
  intro n
  induction n with
  | zero =>
    intro i k a tg hi hk hr
    have e : l.drop i = [] := List.drop_eq_nil_of_le (by omega)
    rw [e] at hr
    cases hr
  | succ n ih =>
    intro i k a tg hi hk hr
    obtain ⟨k, rfl⟩ : ∃ m, k = m + 1 := ⟨k - 1, by omega⟩
    have h1 : i < l.length := by omega
    have e1 := succ_wrap (i := i) (by omega)
    rw [List.drop_eq_getElem_cons h1] at hr
    unfold risL at hr
    rw [P4_0_eq]
    split at hr
    · rename_i hc
      by_cases c1 : l[i].lsn ≤ a
      · simp (disch := (first | assumption | (simp only [Bool.and_eq_true, Bool.and_eq_false_iff, decide_eq_true_eq, decide_eq_false_iff_not, bne_iff_ne, beq_iff_eq, beq_eq_false_iff_ne, bne_eq_false_iff_eq, Bool.not_eq_true', Bool.not_eq_false', bys_length, List.length_append, List.length_cons, List.length_nil, List.length_map, List.length_drop, List.length_take, Int.natCast_add, wrap_i64_eq, wrap_u64, wrap_u8, ne_eq, not_true_eq_false, not_false_eq_true, Nat.zero_add, Nat.mul_one] <;> omega) | omega | (simp; done) | (simp; omega))) only [↓at_runK, ↓at_bind, ↓contQ_mk, ↓at_ret, ↓at_consK, ↓at_nilK, ↓at_optK, ↓at_intK, ↓at_boolK, ↓at_strK, ↓at_slK, ↓at_slOK, ↓at_slK0, ↓at_slOK0, ↓at_aggK, ↓at_cond_t, ↓at_cond_f, ↓at_sameL, ↓at_any1, ↓at_any, and_self, toBytes_bys, List.nil_append, List.append_nil, ↓at_nodeW, List.drop_zero, List.take_succ_cons, List.take_zero, List.getElem?_cons_succ, List.getElem?_cons_zero, cells_agg, eqCells_cons, eqCells_nil, eq1_int, eq1_bool, eq1_str, ↓at_ptr_whole, ↓at_ptr_cell, ↓at_ptr_obj, ↓at_ptr_objs, shift_obj, shift_elt, toA_val, toA_own, Int.toNat_natCast, List.cons_append, recs_length, recs_getD h1, c1, ra]
      · have c2 : l[i].lsn > 1048576 := by omega
        simp (disch := (first | assumption | (simp only [Bool.and_eq_true, Bool.and_eq_false_iff, decide_eq_true_eq, decide_eq_false_iff_not, bne_iff_ne, beq_iff_eq, beq_eq_false_iff_ne, bne_eq_false_iff_eq, Bool.not_eq_true', Bool.not_eq_false', bys_length, List.length_append, List.length_cons, List.length_nil, List.length_map, List.length_drop, List.length_take, Int.natCast_add, wrap_i64_eq, wrap_u64, wrap_u8, ne_eq, not_true_eq_false, not_false_eq_true, Nat.zero_add, Nat.mul_one] <;> omega) | omega | (simp; done) | (simp; omega))) only [↓at_runK, ↓at_bind, ↓contQ_mk, ↓at_ret, ↓at_consK, ↓at_nilK, ↓at_optK, ↓at_intK, ↓at_boolK, ↓at_strK, ↓at_slK, ↓at_slOK, ↓at_slK0, ↓at_slOK0, ↓at_aggK, ↓at_cond_t, ↓at_cond_f, ↓at_sameL, ↓at_any1, ↓at_any, and_self, toBytes_bys, List.nil_append, List.append_nil, ↓at_nodeW, List.drop_zero, List.take_succ_cons, List.take_zero, List.getElem?_cons_succ, List.getElem?_cons_zero, cells_agg, eqCells_cons, eqCells_nil, eq1_int, eq1_bool, eq1_str, ↓at_ptr_whole, ↓at_ptr_cell, ↓at_ptr_obj, ↓at_ptr_objs, shift_obj, shift_elt, toA_val, toA_own, Int.toNat_natCast, List.cons_append, recs_length, recs_getD h1, c1, c2, ra]
    · rename_i hc
      have c1 : ¬ l[i].lsn ≤ a := fun h => hc (.inl h)
      have c2 : ¬ l[i].lsn > 1048576 := fun h => hc (.inr h)
      have ih' := fun tg => ih (i + 1) k l[i].lsn tg (by omega) (by omega) hr
      simp (disch := (first | assumption | (simp only [Bool.and_eq_true, Bool.and_eq_false_iff, decide_eq_true_eq, decide_eq_false_iff_not, bne_iff_ne, beq_iff_eq, beq_eq_false_iff_ne, bne_eq_false_iff_eq, Bool.not_eq_true', Bool.not_eq_false', bys_length, List.length_append, List.length_cons, List.length_nil, List.length_map, List.length_drop, List.length_take, Int.natCast_add, wrap_i64_eq, wrap_u64, wrap_u8, ne_eq, not_true_eq_false, not_false_eq_true, Nat.zero_add, Nat.mul_one] <;> omega) | omega | (simp; done) | (simp; omega))) only [↓at_runK, ↓at_bind, ↓contQ_mk, ↓at_ret, ↓at_consK, ↓at_nilK, ↓at_optK, ↓at_intK, ↓at_boolK, ↓at_strK, ↓at_slK, ↓at_slOK, ↓at_slK0, ↓at_slOK0, ↓at_aggK, ↓at_cond_t, ↓at_cond_f, ↓at_sameL, ↓at_any1, ↓at_any, and_self, toBytes_bys, List.nil_append, List.append_nil, ↓at_nodeW, List.drop_zero, List.take_succ_cons, List.take_zero, List.getElem?_cons_succ, List.getElem?_cons_zero, cells_agg, eqCells_cons, eqCells_nil, eq1_int, eq1_bool, eq1_str, ↓at_ptr_whole, ↓at_ptr_cell, ↓at_ptr_obj, ↓at_ptr_objs, shift_obj, shift_elt, toA_val, toA_own, Int.toNat_natCast, List.cons_append, recs_length, recs_getD h1, c1, c2, e1, ih']
theorem goes_loop (d : Nat) (f fl : Bool) (l : List Rec) (hl : l.length ≤ 2000000) (x2 last : Int) (hlast : 0 ≤ last ∧ last ≤ 1048576) (a : List Change) (ha : a.length ≤ 1000000) (hr : ∀ c ∈ a, cright c.key c.was c.is c.old c.new c.next = true) (h : Heap) (m : Nat) (hm : m ≤ a.length) : ∀ (n i k : Nat), m = i + n → n < k →
    ∃ k', ∀ (Q : Res → Prop) (tg : Hid Q), Run (P4_1 (d + 3) k f (recs l) x2 (m : Nat) last fl (chs a) (recs (l ++ moreR (a.take i) (last + 1))) i h) Q tg = Run (P4_1 (d + 3) (k' + 1) f (recs l) x2 (m : Nat) last fl (chs a) (recs (l ++ moreR (a.take m) (last + 1))) (m : Nat) h) Q ⟨⟩ := by
  intro n
  induction n with
  | zero =>
    intro i k hi hk
    obtain ⟨k, rfl⟩ : ∃ m, k = m + 1 := ⟨k - 1, by omega⟩
    have ei : i = m := by omega
    subst ei
    exact ⟨k, fun Q tg => rfl⟩
  | succ n ih =>
    intro i k hi hk
    obtain ⟨k, rfl⟩ : ∃ m, k = m + 1 := ⟨k - 1, by omega⟩
    have h1 : i < a.length := by omega
    have e1 := succ_wrap (i := i) (by omega)
    have hri := hr _ (List.getElem_mem h1)
    have e2 : IntKind.i64.wrap (IntKind.i64.wrap (last + 1) + (i : Int)) = last + 1 + (i : Int) := by
      rw [wrap_i64_id (n := last + 1) (by omega) (by omega), wrap_i64_id (by omega) (by omega)]
    have hml : (moreR (a.take i) (last + 1)).length ≤ 1000000 := by
      rw [moreR_length, List.length_take]; omega
    obtain ⟨k', r⟩ := ih (i + 1) k (by omega) (by omega)
    have e3 : recs (l ++ moreR (a.take i) (last + 1)) ++ [AVal.agg [.int .i64 7, .int .i64 0, .int .i64 (last + 1 + (i : Int)), .int .i64 0, .sl false 0 (bys (cb a[i]))]] = recs (l ++ moreR (a.take (i + 1)) (last + 1)) := by
      rw [List.take_succ_eq_append_getElem h1, moreR_snoc, List.length_take, Nat.min_eq_left (by omega), ← List.append_assoc]
      exact recs_snoc _ ⟨7, 0, last + 1 + (i : Int), 0, false, cb a[i]⟩
    refine ⟨k', fun Q tg => ?_⟩
    have rb := fun (Q : Res → Prop) (tg : Hid Q) => bytes42_run (d := d) hri (h := h) (Q := Q) (tg := tg)
    have ec : cbytes a[i].key a[i].was a[i].is a[i].old a[i].new a[i].next = cb a[i] := rfl
    rw [ec] at rb
    rw [P4_1_eq]
    simp (disch := (first | assumption | (simp only [Bool.and_eq_true, Bool.and_eq_false_iff, decide_eq_true_eq, decide_eq_false_iff_not, bne_iff_ne, beq_iff_eq, beq_eq_false_iff_ne, bne_eq_false_iff_eq, Bool.not_eq_true', Bool.not_eq_false', bys_length, List.length_append, List.length_cons, List.length_nil, List.length_map, List.length_drop, List.length_take, Int.natCast_add, wrap_i64_eq, wrap_u64, wrap_u8, ne_eq, not_true_eq_false, not_false_eq_true, Nat.zero_add, Nat.mul_one] <;> omega) | omega | (simp; done) | (simp; omega))) only [↓at_runK, ↓at_bind, ↓contQ_mk, ↓at_ret, ↓at_consK, ↓at_nilK, ↓at_optK, ↓at_intK, ↓at_boolK, ↓at_strK, ↓at_slK, ↓at_slOK, ↓at_slK0, ↓at_slOK0, ↓at_aggK, ↓at_cond_t, ↓at_cond_f, ↓at_sameL, ↓at_any1, ↓at_any, and_self, toBytes_bys, List.nil_append, List.append_nil, ↓at_nodeW, List.drop_zero, List.take_succ_cons, List.take_zero, List.getElem?_cons_succ, List.getElem?_cons_zero, cells_agg, eqCells_cons, eqCells_nil, eq1_int, eq1_bool, eq1_str, ↓at_ptr_whole, ↓at_ptr_cell, ↓at_ptr_obj, ↓at_ptr_objs, shift_obj, shift_elt, toA_val, toA_own, Int.toNat_natCast, List.cons_append, chs_length, chs_getD h1, rcright_run, hri, Bool.not_true, rb, recs_length, e2, e3, e1, r]
theorem part_chs {l : List Change} {k : Nat} : Weave.part (k : Int) (l.length : Int) (chs l) = chs (l.drop k) := by
  have e : ((l.length : Int) - (k : Int)).toNat = l.length - k := by omega
  simp only [Weave.part, Int.toNat_natCast, e, chs, ← List.map_drop]
  rw [List.take_of_length_le (by simp)]
/-- UndoGoes. -/
theorem ugoes_true (f : Bool) (l : List Rec) (x2 x3 : Int) (hl : l.length ≤ 2612000000000) (hd : ∀ r ∈ l, r.data.length ≤ 140737488351232) (h : Heap) :
    ∃ d h', Ans (evFn Cw d 4 [.sl f 6 (recs l), .int .i64 x2, .int .i64 x3] h) ([.bool true], h') := by
  cases hris : risL l 0 with
  | none =>
    obtain ⟨h', E, r⟩ := awake44_run 0 h
    have := fun (Q : Res → Prop) (tg : Hid Q) => ris_none 7 f l hl x2 x3 h h' r Q l.length 0 rounds 0 tg (by omega) (Nat.lt_of_lt_of_le (by omega) rounds_ge) (by rw [List.drop_zero]; exact hris)
    rw [e0] at this
    refine ⟨8, h', Run.ans ?_⟩
    rw [F4_eq]
    exact (this _ _).mpr rfl
  | some last =>
    obtain ⟨s1, s2, s3⟩ := risL_spec l 0 last hris
    obtain ⟨k', rr⟩ := ris_some 7 f l hl x2 x3 h last l.length 0 rounds 0 (by omega) (Nat.lt_of_lt_of_le (by omega) rounds_ge) (by rw [List.drop_zero]; exact hris)
    rw [e0] at rr
    have hlast : 0 ≤ last ∧ last ≤ 1048576 := by omega
    have hll : l.length ≤ 2000000 := by have := risL_len l 0 last hris; omega
    · obtain ⟨h1, fl, E1, r1⟩ := uplan_run 1 f l hll hd x2 h
      have z0 : ((0 : Int) != 0) = false := rfl
      have z12 : ((12 : Int) != 0) = true := rfl
      have z00 : ((0 : Int) == 0) = true := rfl
      have z000 : (((0 : Nat) : Int) == 0) = true := rfl
      by_cases c200 : (l.length : Int) > 200
      · obtain ⟨h2, E2, r2⟩ := awake44_run 0 h1
        refine ⟨8, h2, Run.ans ?_⟩
        rw [F4_eq, rr, P4_0_eq]
        cases ho : upl l (l.length + 1) x2 with
        | none =>
          rw [ho] at r1
          simp only [uA, Option.isSome_none, Bool.false_eq_true, if_false, chs_nil] at r1
          simp (disch := (first | assumption | (simp only [Bool.and_eq_true, Bool.and_eq_false_iff, decide_eq_true_eq, decide_eq_false_iff_not, bne_iff_ne, beq_iff_eq, beq_eq_false_iff_ne, bne_eq_false_iff_eq, Bool.not_eq_true', Bool.not_eq_false', bys_length, List.length_append, List.length_cons, List.length_nil, List.length_map, List.length_drop, List.length_take, Int.natCast_add, wrap_i64_eq, wrap_u64, wrap_u8, ne_eq, not_true_eq_false, not_false_eq_true, Nat.zero_add, Nat.mul_one] <;> omega) | omega | (simp; done) | (simp; omega))) only [↓at_runK, ↓at_bind, ↓contQ_mk, ↓at_ret, ↓at_consK, ↓at_nilK, ↓at_optK, ↓at_intK, ↓at_boolK, ↓at_strK, ↓at_slK, ↓at_slOK, ↓at_slK0, ↓at_slOK0, ↓at_aggK, ↓at_cond_t, ↓at_cond_f, ↓at_sameL, ↓at_any1, ↓at_any, and_self, toBytes_bys, List.nil_append, List.append_nil, ↓at_nodeW, List.drop_zero, List.take_succ_cons, List.take_zero, List.getElem?_cons_succ, List.getElem?_cons_zero, cells_agg, eqCells_cons, eqCells_nil, eq1_int, eq1_bool, eq1_str, ↓at_ptr_whole, ↓at_ptr_cell, ↓at_ptr_obj, ↓at_ptr_objs, shift_obj, shift_elt, toA_val, toA_own, Int.toNat_natCast, List.cons_append, recs_length, r1, c200, r2]
        | some p =>
          rw [ho] at r1
          simp only [uA, Option.isSome_some, if_true] at r1
          simp (disch := (first | assumption | (simp only [Bool.and_eq_true, Bool.and_eq_false_iff, decide_eq_true_eq, decide_eq_false_iff_not, bne_iff_ne, beq_iff_eq, beq_eq_false_iff_ne, bne_eq_false_iff_eq, Bool.not_eq_true', Bool.not_eq_false', bys_length, List.length_append, List.length_cons, List.length_nil, List.length_map, List.length_drop, List.length_take, Int.natCast_add, wrap_i64_eq, wrap_u64, wrap_u8, ne_eq, not_true_eq_false, not_false_eq_true, Nat.zero_add, Nat.mul_one] <;> omega) | omega | (simp; done) | (simp; omega))) only [↓at_runK, ↓at_bind, ↓contQ_mk, ↓at_ret, ↓at_consK, ↓at_nilK, ↓at_optK, ↓at_intK, ↓at_boolK, ↓at_strK, ↓at_slK, ↓at_slOK, ↓at_slK0, ↓at_slOK0, ↓at_aggK, ↓at_cond_t, ↓at_cond_f, ↓at_sameL, ↓at_any1, ↓at_any, and_self, toBytes_bys, List.nil_append, List.append_nil, ↓at_nodeW, List.drop_zero, List.take_succ_cons, List.take_zero, List.getElem?_cons_succ, List.getElem?_cons_zero, cells_agg, eqCells_cons, eqCells_nil, eq1_int, eq1_bool, eq1_str, ↓at_ptr_whole, ↓at_ptr_cell, ↓at_ptr_obj, ↓at_ptr_objs, shift_obj, shift_elt, toA_val, toA_own, Int.toNat_natCast, List.cons_append, recs_length, r1, c200, r2]
      · cases ho : upl l (l.length + 1) x2 with
        | none =>
          obtain ⟨h2, E2, r2⟩ := awake44_run 0 h1
          rw [ho] at r1
          simp only [uA, Option.isSome_none, Bool.false_eq_true, if_false, chs_nil] at r1
          refine ⟨8, h2, Run.ans ?_⟩
          rw [F4_eq, rr, P4_0_eq]
          simp (disch := (first | assumption | (simp only [Bool.and_eq_true, Bool.and_eq_false_iff, decide_eq_true_eq, decide_eq_false_iff_not, bne_iff_ne, beq_iff_eq, beq_eq_false_iff_ne, bne_eq_false_iff_eq, Bool.not_eq_true', Bool.not_eq_false', bys_length, List.length_append, List.length_cons, List.length_nil, List.length_map, List.length_drop, List.length_take, Int.natCast_add, wrap_i64_eq, wrap_u64, wrap_u8, ne_eq, not_true_eq_false, not_false_eq_true, Nat.zero_add, Nat.mul_one] <;> omega) | omega | (simp; done) | (simp; omega))) only [↓at_runK, ↓at_bind, ↓contQ_mk, ↓at_ret, ↓at_consK, ↓at_nilK, ↓at_optK, ↓at_intK, ↓at_boolK, ↓at_strK, ↓at_slK, ↓at_slOK, ↓at_slK0, ↓at_slOK0, ↓at_aggK, ↓at_cond_t, ↓at_cond_f, ↓at_sameL, ↓at_any1, ↓at_any, and_self, toBytes_bys, List.nil_append, List.append_nil, ↓at_nodeW, List.drop_zero, List.take_succ_cons, List.take_zero, List.getElem?_cons_succ, List.getElem?_cons_zero, cells_agg, eqCells_cons, eqCells_nil, eq1_int, eq1_bool, eq1_str, ↓at_ptr_whole, ↓at_ptr_cell, ↓at_ptr_obj, ↓at_ptr_objs, shift_obj, shift_elt, toA_val, toA_own, Int.toNat_natCast, List.cons_append, recs_length, r1, c200, z12, r2]
        | some p =>
          obtain ⟨a, b, g⟩ := p
          have hlen := (upl_len l (l.length + 1) x2).1
          rw [ho] at r1 hlen
          simp only [uA, Option.isSome_some, if_true] at r1 hlen
          by_cases ca : a = []
          · subst ca
            obtain ⟨h2, E2, r2⟩ := awake44_run 0 h1
            refine ⟨8, h2, Run.ans ?_⟩
            rw [F4_eq, rr, P4_0_eq]
            simp (disch := (first | assumption | (simp only [Bool.and_eq_true, Bool.and_eq_false_iff, decide_eq_true_eq, decide_eq_false_iff_not, bne_iff_ne, beq_iff_eq, beq_eq_false_iff_ne, bne_eq_false_iff_eq, Bool.not_eq_true', Bool.not_eq_false', bys_length, List.length_append, List.length_cons, List.length_nil, List.length_map, List.length_drop, List.length_take, Int.natCast_add, wrap_i64_eq, wrap_u64, wrap_u8, ne_eq, not_true_eq_false, not_false_eq_true, Nat.zero_add, Nat.mul_one] <;> omega) | omega | (simp; done) | (simp; omega))) only [↓at_runK, ↓at_bind, ↓contQ_mk, ↓at_ret, ↓at_consK, ↓at_nilK, ↓at_optK, ↓at_intK, ↓at_boolK, ↓at_strK, ↓at_slK, ↓at_slOK, ↓at_slK0, ↓at_slOK0, ↓at_aggK, ↓at_cond_t, ↓at_cond_f, ↓at_sameL, ↓at_any1, ↓at_any, and_self, toBytes_bys, List.nil_append, List.append_nil, ↓at_nodeW, List.drop_zero, List.take_succ_cons, List.take_zero, List.getElem?_cons_succ, List.getElem?_cons_zero, cells_agg, eqCells_cons, eqCells_nil, eq1_int, eq1_bool, eq1_str, ↓at_ptr_whole, ↓at_ptr_cell, ↓at_ptr_obj, ↓at_ptr_objs, shift_obj, shift_elt, toA_val, toA_own, Int.toNat_natCast, List.cons_append, recs_length, r1, c200, z0, chs_nil, List.length_nil, z000, r2]
          · have hpos : 0 < a.length := List.length_pos_iff.2 ca
            obtain ⟨u, hu⟩ : ∃ u : Nat, IntKind.u64.wrap x3 = (u : Int) := ⟨(IntKind.u64.wrap x3).toNat, by rw [wrap_u64]; omega⟩
            have hw : IntKind.u64.wrap (a.length : Int) = ((a.length : Nat) : Int) := wrap_u64_id (by omega) (by omega)
            have hmod : u % a.length < a.length := Nat.mod_lt _ hpos
            have hn : IntKind.i64.wrap (1 + IntKind.i64.wrap (Int.tmod (u : Int) (a.length : Int))) = ((1 + u % a.length : Nat) : Int) := by
              have e : Int.tmod (u : Int) (a.length : Int) = ((u % a.length : Nat) : Int) := by rw [Int.tmod_eq_emod_of_nonneg (by omega)]; omega
              rw [e, wrap_i64_id (n := ((u % a.length : Nat) : Int)) (by omega) (by omega), wrap_i64_id (by omega) (by omega)]; omega
            obtain ⟨m, hm, hm1⟩ : ∃ m : Nat, 1 + u % a.length = m ∧ 1 ≤ m ∧ m ≤ a.length := ⟨_, rfl, by omega, by omega⟩
            rw [hm] at hn
            have hright := upl_right (l := l) (fun r hr => by have := s2 r hr; omega) _ _ _ _ _ ho
            obtain ⟨k2, rl⟩ := goes_loop 4 f fl l hll x2 last hlast a (by omega) hright h1 m hm1.2 m 0 rounds (by omega) (Nat.lt_of_lt_of_le (by omega) rounds_ge)
            have hmore := upl_more (l := l) (last := last) (fun r hr => by have := s2 r hr; omega) (by omega) ho hm1.1 hm1.2
            have hml : (moreR (a.take m) (last + 1)).length ≤ 1000 := by rw [moreR_length, List.length_take]; omega
            have hMl : (l ++ moreR (a.take m) (last + 1)).length ≤ 2000000 := by rw [List.length_append]; omega
            have hMd : ∀ r ∈ l ++ moreR (a.take m) (last + 1), r.data.length ≤ 140737488351232 := fun r hr => by
              rcases List.mem_append.1 hr with hr | hr
              · exact hd r hr
              · obtain ⟨_, c, hc, e⟩ := moreR_mem hr
                have := cb_len (hright c (List.mem_of_mem_take hc))
                rw [e]; omega
            generalize l ++ moreR (a.take m) (last + 1) = M at *
            obtain ⟨h2, fl2, E2, r2⟩ := uplan_run 1 false M hMl hMd (last + m) h1
            obtain ⟨h3, E3, r3⟩ := ubegins_run 1 false M hMl hMd (last + m) h2
            obtain ⟨h4, E4, r4⟩ := ubegins_run 1 f l hll hd x2 h3
            obtain ⟨h5, E5, r5⟩ := awake44_run 0 h4
            rw [hmore] at r2 r3
            rw [ho] at r4
            simp only [uA, uG, Option.isSome_some, if_true] at r2 r3 r4
            have ew : IntKind.i64.wrap (last + (m : Int)) = last + (m : Int) := wrap_i64_id (by omega) (by omega)
            have rs := fun (Q : Res → Prop) (tg : Hid Q) => same44_run (d := 6) (f := fl2) (g := fl) (l := a.drop m) (h := h2) (Q := Q) (tg := tg) (by simp; omega)
            have en : (((a.length : Nat) : Int) == 0) = false := by simp; omega
            have em : List.take 0 a = [] := rfl
            rw [em] at rl
            simp only [moreR, List.append_nil] at rl
            rw [e0] at rl
            have eb : ∀ x : Int, (x == x) = true := fun x => by simp
            refine ⟨8, h5, Run.ans ?_⟩
            rw [F4_eq, rr, P4_0_eq]
            simp (disch := (first | assumption | (simp only [Bool.and_eq_true, Bool.and_eq_false_iff, decide_eq_true_eq, decide_eq_false_iff_not, bne_iff_ne, beq_iff_eq, beq_eq_false_iff_ne, bne_eq_false_iff_eq, Bool.not_eq_true', Bool.not_eq_false', bys_length, List.length_append, List.length_cons, List.length_nil, List.length_map, List.length_drop, List.length_take, Int.natCast_add, wrap_i64_eq, wrap_u64, wrap_u8, ne_eq, not_true_eq_false, not_false_eq_true, Nat.zero_add, Nat.mul_one] <;> omega) | omega | (simp; done) | (simp; omega))) only [↓at_runK, ↓at_bind, ↓contQ_mk, ↓at_ret, ↓at_consK, ↓at_nilK, ↓at_optK, ↓at_intK, ↓at_boolK, ↓at_strK, ↓at_slK, ↓at_slOK, ↓at_slK0, ↓at_slOK0, ↓at_aggK, ↓at_cond_t, ↓at_cond_f, ↓at_sameL, ↓at_any1, ↓at_any, and_self, toBytes_bys, List.nil_append, List.append_nil, ↓at_nodeW, List.drop_zero, List.take_succ_cons, List.take_zero, List.getElem?_cons_succ, List.getElem?_cons_zero, cells_agg, eqCells_cons, eqCells_nil, eq1_int, eq1_bool, eq1_str, ↓at_ptr_whole, ↓at_ptr_cell, ↓at_ptr_obj, ↓at_ptr_objs, shift_obj, shift_elt, toA_val, toA_own, Int.toNat_natCast, List.cons_append, recs_length, r1, c200, z0, chs_length, en, hu, hw, hn, rl]
            rw [P4_1_eq]
            simp (disch := (first | assumption | (simp only [Bool.and_eq_true, Bool.and_eq_false_iff, decide_eq_true_eq, decide_eq_false_iff_not, bne_iff_ne, beq_iff_eq, beq_eq_false_iff_ne, bne_eq_false_iff_eq, Bool.not_eq_true', Bool.not_eq_false', bys_length, List.length_append, List.length_cons, List.length_nil, List.length_map, List.length_drop, List.length_take, Int.natCast_add, wrap_i64_eq, wrap_u64, wrap_u8, ne_eq, not_true_eq_false, not_false_eq_true, Nat.zero_add, Nat.mul_one] <;> omega) | omega | (simp; done) | (simp; omega))) only [↓at_runK, ↓at_bind, ↓contQ_mk, ↓at_ret, ↓at_consK, ↓at_nilK, ↓at_optK, ↓at_intK, ↓at_boolK, ↓at_strK, ↓at_slK, ↓at_slOK, ↓at_slK0, ↓at_slOK0, ↓at_aggK, ↓at_cond_t, ↓at_cond_f, ↓at_sameL, ↓at_any1, ↓at_any, and_self, toBytes_bys, List.nil_append, List.append_nil, ↓at_nodeW, List.drop_zero, List.take_succ_cons, List.take_zero, List.getElem?_cons_succ, List.getElem?_cons_zero, cells_agg, eqCells_cons, eqCells_nil, eq1_int, eq1_bool, eq1_str, ↓at_ptr_whole, ↓at_ptr_cell, ↓at_ptr_obj, ↓at_ptr_objs, shift_obj, shift_elt, toA_val, toA_own, Int.toNat_natCast, List.cons_append, ew, r2, z00, chs_length, part_chs, rs, r3, r4, eb, r5]
end Go.Proofs.Ytkpjkaikeeldfaa.Wa
