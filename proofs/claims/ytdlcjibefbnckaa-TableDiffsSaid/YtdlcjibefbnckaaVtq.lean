/- TableDiffs. -/
import Derived.Test.YtdlcjibefbnckaaVtp
namespace Go.Proofs.Ytdlcjibefbnckaa.Wa
open Go Go.Weave
set_option maxRecDepth 100000
set_option linter.unusedSimpArgs false
set_option linter.unusedVariables false
set_option linter.unusedSectionVars false

/-! ### Lists in the order of keys -/
theorem filter_gt {α : Type} (key : α → List UInt8) {k : List UInt8} {l : List α} (h : ∀ q ∈ l, blt k (key q) = true) : l.filter (fun x => key x == k) = [] := by
  rw [List.filter_eq_nil_iff]
  intro q hq
  have := blt_ne (h q hq)
  simpa using this.symm
theorem key_ext {α : Type} (key : α → List UInt8) : ∀ {a b : List α}, a.Pairwise (fun x y => blt (key x) (key y) = true) → b.Pairwise (fun x y => blt (key x) (key y) = true) →
    (∀ k, a.filter (fun x => key x == k) = b.filter (fun x => key x == k)) → a = b
  | [], [], _, _, _ => rfl
  | [], q :: b, _, _, h => by have := h (key q); simp at this
  | p :: a, [], _, _, h => by have := h (key p); simp at this
  | p :: a, q :: b, ha, hb, h => by
    have ⟨a1, a2⟩ := List.pairwise_cons.1 ha
    have ⟨b1, b2⟩ := List.pairwise_cons.1 hb
    have e : p = q ∧ key p = key q := by
      cases c1 : blt (key p) (key q)
      · cases c2 : blt (key q) (key p)
        · have ek := blt_tri c1 c2
          have := h (key p)
          rw [List.filter_cons_of_pos (by simp), List.filter_cons_of_pos (by simp [ek])] at this
          exact ⟨(List.cons.inj this).1, ek⟩
        · have := h (key q)
          rw [List.filter_cons_of_pos (a := q) (by simp), filter_gt key (l := p :: a) (fun x hx => by
            rcases List.mem_cons.1 hx with rfl | hx
            · exact c2
            · exact blt_trans c2 (a1 x hx))] at this
          cases this
      · have := h (key p)
        rw [List.filter_cons_of_pos (a := p) (by simp), filter_gt key (l := q :: b) (fun x hx => by
          rcases List.mem_cons.1 hx with rfl | hx
          · exact c1
          · exact blt_trans c1 (b1 x hx))] at this
        cases this
    obtain ⟨e, ek⟩ := e
    subst e
    rw [key_ext key a2 b2 fun k => ?_]
    by_cases e : key p = k
    · subst e
      rw [filter_gt key a1, filter_gt key b1]
    · have := h k
      rw [List.filter_cons_of_neg (by simpa using e), List.filter_cons_of_neg (by simpa using e)] at this
      exact this

def dget (x y : List KPair) (k : List UInt8) : List KOp :=
  match lget k x, lget k y with
  | none, none => []
  | some _, none => [delO k]
  | none, some q => [⟨1, k, q.val⟩]
  | some p, some q => if p.val = q.val then [] else [⟨1, k, q.val⟩]
theorem diffL_keys : ∀ (n : Nat) (x y : List KPair), x.length + y.length ≤ n → ∀ o ∈ diffL x y, (∃ p ∈ x, p.key = o.key) ∨ (∃ q ∈ y, q.key = o.key)
  | _, [], [], _, o, h => by rw [diffL_nn] at h; cases h
  | 0, p :: x, y, hn, _, _ => by simp at hn
  | 0, [], q :: y, hn, _, _ => by simp at hn
  | n + 1, p :: x, [], hn, o, h => by
    rw [diffL_cn] at h
    rcases List.mem_cons.1 h with rfl | h
    · exact .inl ⟨p, List.mem_cons_self, rfl⟩
    · rcases diffL_keys n x [] (by simp only [List.length_cons] at hn; omega) o h with ⟨r, h1, h2⟩ | ⟨r, h1, h2⟩
      · exact .inl ⟨r, List.mem_cons_of_mem _ h1, h2⟩
      · exact .inr ⟨r, h1, h2⟩
  | n + 1, [], q :: y, hn, o, h => by
    rw [diffL_nc] at h
    rcases List.mem_cons.1 h with rfl | h
    · exact .inr ⟨q, List.mem_cons_self, rfl⟩
    · rcases diffL_keys n [] y (by simp only [List.length_cons] at hn; omega) o h with ⟨r, h1, h2⟩ | ⟨r, h1, h2⟩
      · exact .inl ⟨r, h1, h2⟩
      · exact .inr ⟨r, List.mem_cons_of_mem _ h1, h2⟩
  | n + 1, p :: x, q :: y, hn, o, h => by
    simp only [List.length_cons] at hn
    have up : (∃ r ∈ x, r.key = o.key) ∨ (∃ r ∈ q :: y, r.key = o.key) → (∃ r ∈ p :: x, r.key = o.key) ∨ (∃ r ∈ q :: y, r.key = o.key) := fun h => by
      rcases h with ⟨r, h1, h2⟩ | h
      · exact .inl ⟨r, List.mem_cons_of_mem _ h1, h2⟩
      · exact .inr h
    have up2 : (∃ r ∈ x, r.key = o.key) ∨ (∃ r ∈ y, r.key = o.key) → (∃ r ∈ p :: x, r.key = o.key) ∨ (∃ r ∈ q :: y, r.key = o.key) := fun h => by
      rcases h with ⟨r, h1, h2⟩ | ⟨r, h1, h2⟩
      · exact .inl ⟨r, List.mem_cons_of_mem _ h1, h2⟩
      · exact .inr ⟨r, List.mem_cons_of_mem _ h1, h2⟩
    have up3 : (∃ r ∈ p :: x, r.key = o.key) ∨ (∃ r ∈ y, r.key = o.key) → (∃ r ∈ p :: x, r.key = o.key) ∨ (∃ r ∈ q :: y, r.key = o.key) := fun h => by
      rcases h with h | ⟨r, h1, h2⟩
      · exact .inl h
      · exact .inr ⟨r, List.mem_cons_of_mem _ h1, h2⟩
    rw [diffL_cc] at h
    split at h
    · rcases List.mem_cons.1 h with rfl | h
      · exact .inl ⟨p, List.mem_cons_self, rfl⟩
      · exact up (diffL_keys n x (q :: y) (by simp only [List.length_cons]; omega) o h)
    · split at h
      · rcases List.mem_cons.1 h with rfl | h
        · exact .inr ⟨q, List.mem_cons_self, rfl⟩
        · exact up3 (diffL_keys n (p :: x) y (by simp only [List.length_cons]; omega) o h)
      · split at h
        · exact up2 (diffL_keys n x y (by omega) o h)
        · rcases List.mem_cons.1 h with rfl | h
          · exact .inr ⟨q, List.mem_cons_self, rfl⟩
          · exact up2 (diffL_keys n x y (by omega) o h)
theorem diffL_gt {b : List UInt8} {x y : List KPair} (hx : ∀ p ∈ x, blt b p.key = true) (hy : ∀ q ∈ y, blt b q.key = true) : ∀ o ∈ diffL x y, blt b o.key = true := fun o ho => by
  rcases diffL_keys _ x y (Nat.le_refl _) o ho with ⟨p, h1, h2⟩ | ⟨p, h1, h2⟩
  · rw [← h2]; exact hx p h1
  · rw [← h2]; exact hy p h1
def SrtO (l : List KOp) : Prop := l.Pairwise fun a b => blt a.key b.key = true
theorem mem_gt {b : List UInt8} {p : KPair} {x : List KPair} (h1 : blt b p.key = true) (h2 : ∀ q ∈ x, blt p.key q.key = true) : ∀ q ∈ p :: x, blt b q.key = true := fun q hq => by
  rcases List.mem_cons.1 hq with rfl | hq
  · exact h1
  · exact blt_trans h1 (h2 q hq)
theorem lget_lt {k : List UInt8} {l : List KPair} (h : ∀ q ∈ l, blt k q.key = true) : lget k l = none := by
  unfold lget
  rw [List.find?_eq_none]
  intro q hq
  have := blt_ne (h q hq)
  simpa using this.symm
theorem diffL_ok : ∀ (n : Nat) (x y : List KPair), x.length + y.length ≤ n → Srt x → Srt y → SrtO (diffL x y) ∧ ∀ k, (diffL x y).filter (fun o => o.key == k) = dget x y k
  | _, [], [], _, _, _ => by rw [diffL_nn]; exact ⟨List.Pairwise.nil, fun k => rfl⟩
  | 0, p :: x, y, hn, _, _ => by simp at hn
  | 0, [], q :: y, hn, _, _ => by simp at hn
  | n + 1, p :: x, [], hn, hx, hy => by
    have ⟨x1, x2⟩ := List.pairwise_cons.1 hx
    obtain ⟨i1, i2⟩ := diffL_ok n x [] (by simp only [List.length_cons] at hn; omega) x2 hy
    have hg := diffL_gt x1 (y := []) (by simp)
    rw [diffL_cn]
    refine ⟨List.pairwise_cons.2 ⟨hg, i1⟩, fun k => ?_⟩
    by_cases e : p.key = k
    · subst e
      rw [List.filter_cons_of_pos (by simp [delO]), filter_gt KOp.key hg]
      unfold dget; rw [lget_cons, if_pos rfl]; rfl
    · rw [List.filter_cons_of_neg (by simpa [delO] using e), i2]
      unfold dget; rw [lget_cons, if_neg e]
  | n + 1, [], q :: y, hn, hx, hy => by
    have ⟨y1, y2⟩ := List.pairwise_cons.1 hy
    obtain ⟨i1, i2⟩ := diffL_ok n [] y (by simp only [List.length_cons] at hn; omega) hx y2
    have hg := diffL_gt (x := []) (by simp) y1
    rw [diffL_nc]
    refine ⟨List.pairwise_cons.2 ⟨hg, i1⟩, fun k => ?_⟩
    by_cases e : q.key = k
    · subst e
      rw [List.filter_cons_of_pos (by simp [putO]), filter_gt KOp.key hg]
      unfold dget; rw [lget_cons, if_pos rfl]; rfl
    · rw [List.filter_cons_of_neg (by simpa [putO] using e), i2]
      unfold dget; rw [lget_cons, if_neg e]
  | n + 1, p :: x, q :: y, hn, hx, hy => by
    have ⟨x1, x2⟩ := List.pairwise_cons.1 hx
    have ⟨y1, y2⟩ := List.pairwise_cons.1 hy
    simp only [List.length_cons] at hn
    rw [diffL_cc]
    cases c1 : blt p.key q.key
    · rw [if_neg (by simp)]
      cases c2 : blt q.key p.key
      · rw [if_neg (by simp)]
        have ek := blt_tri c1 c2
        obtain ⟨i1, i2⟩ := diffL_ok n x y (by omega) x2 y2
        have hg := diffL_gt x1 (fun r hr => by rw [ek]; exact y1 r hr)
        by_cases c3 : p.val = q.val
        · rw [if_pos c3]
          refine ⟨i1, fun k => ?_⟩
          by_cases e : p.key = k
          · subst e
            rw [filter_gt KOp.key hg]
            unfold dget; rw [lget_cons, if_pos rfl, lget_cons, if_pos ek.symm]
            simp only
            rw [if_pos c3]
          · rw [i2]
            unfold dget; rw [lget_cons, if_neg e, lget_cons, if_neg (by rw [← ek]; exact e)]
        · rw [if_neg c3]
          refine ⟨List.pairwise_cons.2 ⟨fun o ho => by show blt q.key o.key = true; rw [← ek]; exact hg o ho, i1⟩, fun k => ?_⟩
          by_cases e : p.key = k
          · subst e
            rw [List.filter_cons_of_pos (by simp [putO, ek]), filter_gt KOp.key hg]
            unfold dget; rw [lget_cons, if_pos rfl, lget_cons, if_pos ek.symm]
            simp only
            rw [if_neg c3, ek]; rfl
          · rw [List.filter_cons_of_neg (by simp only [putO, beq_iff_eq]; rw [← ek]; exact e), i2]
            unfold dget; rw [lget_cons, if_neg e, lget_cons, if_neg (by rw [← ek]; exact e)]
      · rw [if_pos rfl]
        obtain ⟨i1, i2⟩ := diffL_ok n (p :: x) y (by simp only [List.length_cons]; omega) hx y2
        have hg := diffL_gt (mem_gt c2 x1) y1
        refine ⟨List.pairwise_cons.2 ⟨hg, i1⟩, fun k => ?_⟩
        by_cases e : q.key = k
        · subst e
          rw [List.filter_cons_of_pos (by simp [putO]), filter_gt KOp.key hg]
          unfold dget
          rw [lget_lt (mem_gt c2 x1), lget_cons q.key q y, if_pos rfl]; rfl
        · rw [List.filter_cons_of_neg (by simpa [putO] using e), i2]
          unfold dget; rw [lget_cons k q y, if_neg e]
    · rw [if_pos rfl]
      obtain ⟨i1, i2⟩ := diffL_ok n x (q :: y) (by simp only [List.length_cons]; omega) x2 hy
      have hg := diffL_gt x1 (mem_gt c1 y1)
      refine ⟨List.pairwise_cons.2 ⟨hg, i1⟩, fun k => ?_⟩
      by_cases e : p.key = k
      · subst e
        rw [List.filter_cons_of_pos (by simp [delO]), filter_gt KOp.key hg]
        unfold dget
        rw [lget_cons p.key p x, if_pos rfl, lget_lt (mem_gt c1 y1)]
      · rw [List.filter_cons_of_neg (by simpa [delO] using e), i2]
        unfold dget; rw [lget_cons k p x, if_neg e]

/-! ### The reference's difference -/
def ofL (l : List KPair) : List KPair := l.foldl (fun acc p => lput p.key p.val acc) []
theorem ofs_srt : ∀ (l acc : List KPair), Srt acc → Srt (l.foldl (fun acc p => lput p.key p.val acc) acc)
  | [], _, h => h
  | p :: l, acc, h => ofs_srt l _ h.put
theorem ofL_srt (l : List KPair) : Srt (ofL l) := ofs_srt l [] List.Pairwise.nil
theorem ofs_some (k : List UInt8) : ∀ (l acc : List KPair), (lget k (l.foldl (fun acc p => lput p.key p.val acc) acc)).isSome = ((lget k acc).isSome || (lget k l).isSome)
  | [], acc => by simp [lget]
  | p :: l, acc => by
    rw [List.foldl_cons, ofs_some k l, lget_put, lget_cons]
    by_cases e : p.key = k
    · rw [if_pos e.symm, if_pos e]; simp
    · rw [if_neg (fun h => e h.symm), if_neg e]
theorem ofs_len : ∀ (l acc : List KPair), Srt acc → (l.foldl (fun acc p => lput p.key p.val acc) acc).length ≤ acc.length + l.length
  | [], _, _ => Nat.le_refl _
  | p :: l, acc, h => by
    rw [List.foldl_cons]
    have h1 := ofs_len l _ (h.put (k := p.key) (v := p.val))
    have h2 := lput_len_le (k := p.key) (v := p.val) h
    simp only [List.length_cons]; omega
theorem lget_append (k : List UInt8) (a b : List KPair) : (lget k (a ++ b)).isSome = ((lget k a).isSome || (lget k b).isSome) := by
  unfold lget
  rw [List.find?_append]
  cases a.find? (fun p => p.key == k) <;> simp
def dst (x y : List KPair) (k : List UInt8) : List KOp :=
  if (lget k x).isSome && !(lget k y).isSome then [delO k]
  else if !(lget k x).isSome || !(oVal (lget k x) == oVal (lget k y)) then [⟨1, k, oVal (lget k y)⟩] else []
theorem dst_key (x y : List KPair) (k : List UInt8) : ∀ o ∈ dst x y k, o.key = k := by
  intro o ho
  unfold dst at ho
  split at ho
  · rw [List.mem_singleton.1 ho]; rfl
  · split at ho
    · rw [List.mem_singleton.1 ho]
    · cases ho
theorem dst_one (x y : List KPair) (k : List UInt8) : (dst x y k).length ≤ 1 := by
  unfold dst
  split
  · simp
  · split <;> simp
theorem dst_dget {x y : List KPair} {k : List UInt8} (h : ((lget k x).isSome || (lget k y).isSome) = true) : dst x y k = dget x y k := by
  unfold dst dget
  cases hx : lget k x <;> cases hy : lget k y
  · rw [hx, hy] at h; simp at h
  · rfl
  · rfl
  · rename_i p q
    simp only [Option.isSome_some, Bool.not_true, Bool.and_false, Bool.false_or, oVal, Bool.false_eq_true, if_false]
    by_cases e : p.val = q.val
    · simp [e]
    · simp [e]
def rdiffL (x y : List KPair) (keys : List KPair) : List KOp := keys.flatMap fun p => dst x y p.key
theorem rdiff_mem {x y keys : List KPair} {o : KOp} (h : o ∈ rdiffL x y keys) : ∃ p ∈ keys, p.key = o.key := by
  obtain ⟨p, h1, h2⟩ := List.mem_flatMap.1 h
  exact ⟨p, h1, (dst_key x y p.key o h2).symm⟩
theorem rdiff_cons (x y : List KPair) (p : KPair) (keys : List KPair) : rdiffL x y (p :: keys) = dst x y p.key ++ rdiffL x y keys := rfl
theorem rdiff_ok (x y : List KPair) : ∀ {keys : List KPair}, Srt keys → SrtO (rdiffL x y keys) ∧ ∀ k, (rdiffL x y keys).filter (fun o => o.key == k) = if (lget k keys).isSome then dst x y k else []
  | [], _ => ⟨List.Pairwise.nil, fun k => rfl⟩
  | p :: keys, hs => by
    have ⟨h1, h2⟩ := List.pairwise_cons.1 hs
    obtain ⟨i1, i2⟩ := rdiff_ok x y h2
    have hg : ∀ o ∈ rdiffL x y keys, blt p.key o.key = true := fun o ho => by
      obtain ⟨r, r1, r2⟩ := rdiff_mem ho
      rw [← r2]; exact h1 r r1
    rw [rdiff_cons]
    refine ⟨List.pairwise_append.2 ⟨?_, i1, fun a ha b hb => by rw [dst_key x y p.key a ha]; exact hg b hb⟩, fun k => ?_⟩
    · have := dst_one x y p.key
      generalize dst x y p.key = l at this
      match l, this with
      | [], _ => exact List.Pairwise.nil
      | [a], _ => exact List.pairwise_singleton _ _
    · rw [List.filter_append, lget_cons]
      by_cases e : p.key = k
      · subst e
        rw [if_pos rfl, filter_gt KOp.key hg, List.append_nil]
        exact List.filter_eq_self.2 fun o ho => by simp [dst_key x y p.key o ho]
      · rw [if_neg e, i2, List.filter_eq_nil_iff.2 (fun o ho => by simpa [dst_key x y p.key o ho] using e), List.nil_append]
theorem rdiff_diff {x y : List KPair} (hx : Srt x) (hy : Srt y) : rdiffL x y (ofL (x ++ y)) = diffL x y := by
  obtain ⟨a1, a2⟩ := rdiff_ok x y (ofL_srt (x ++ y))
  obtain ⟨b1, b2⟩ := diffL_ok _ x y (Nat.le_refl _) hx hy
  refine key_ext KOp.key a1 b1 fun k => ?_
  rw [a2, b2]
  have : (lget k (ofL (x ++ y))).isSome = ((lget k x).isSome || (lget k y).isSome) := by
    unfold ofL
    rw [ofs_some, lget_append]; rfl
  rw [this]
  cases h : ((lget k x).isSome || (lget k y).isSome)
  · simp only [Bool.or_eq_false_iff] at h
    have e1 : lget k x = none := by cases hh : lget k x <;> simp_all
    have e2 : lget k y = none := by cases hh : lget k y <;> simp_all
    unfold dget
    rw [e1, e2]; rfl
  · rw [if_pos rfl, dst_dget h]
/-- They do so. -/
theorem lget_key {k : List UInt8} {l : List KPair} {p : KPair} (h : lget k l = some p) : p.key = k := by unfold lget at h; simpa using List.find?_some h
theorem aps_diff {x y : List KPair} (hx : Srt x) (hy : Srt y) (hr : ∀ o ∈ diffL x y, rightO o = true) : aps x (diffL x y) = y := by
  obtain ⟨b1, b2⟩ := diffL_ok _ x y (Nat.le_refl _) hx hy
  refine srt_ext (aps_srt hx) hy fun k => ?_
  have hr' : ∀ o ∈ dget x y k, rightO o = true := fun o ho => by rw [← b2] at ho; exact hr o (List.mem_filter.1 ho).1
  rw [lget_aps, b2]
  revert hr'
  unfold dget
  cases h1 : lget k x <;> cases h2 : lget k y <;> intro hr'
  · rfl
  · rename_i q
    have := hr' _ List.mem_cons_self
    have e := lget_key h2
    simp only [List.foldl_cons, List.foldl_nil]
    unfold stepK
    rw [this, if_pos rfl, if_pos rfl, ← e]
  · have := hr' _ List.mem_cons_self
    simp only [List.foldl_cons, List.foldl_nil]
    unfold stepK
    rw [this, if_pos rfl, if_neg (by show ¬ (2 : Int) = 1; decide)]
  · rename_i p q
    have e1 := lget_key h1
    have e2 := lget_key h2
    simp only at hr' ⊢
    by_cases e : p.val = q.val
    · rw [if_pos e]
      show some p = some q
      congr 1
      cases p; cases q; simp_all
    · rw [if_neg e] at hr' ⊢
      have := hr' _ List.mem_cons_self
      simp only [List.foldl_cons, List.foldl_nil]
      unfold stepK
      rw [this, if_pos rfl, if_pos rfl, ← e2]
theorem diffL_len : ∀ (n : Nat) (x y : List KPair), x.length + y.length ≤ n → (diffL x y).length ≤ x.length + y.length
  | _, [], [], _ => by rw [diffL_nn]; simp
  | 0, p :: x, y, hn => by simp at hn
  | 0, [], q :: y, hn => by simp at hn
  | n + 1, p :: x, [], hn => by
    have := diffL_len n x [] (by simp only [List.length_cons] at hn; omega)
    rw [diffL_cn]; simp only [List.length_cons] at *; omega
  | n + 1, [], q :: y, hn => by
    have := diffL_len n [] y (by simp only [List.length_cons] at hn; omega)
    rw [diffL_nc]; simp only [List.length_cons] at *; omega
  | n + 1, p :: x, q :: y, hn => by
    simp only [List.length_cons] at hn
    have h1 := diffL_len n x (q :: y) (by simp only [List.length_cons]; omega)
    have h2 := diffL_len n (p :: x) y (by simp only [List.length_cons]; omega)
    have h3 := diffL_len n x y (by omega)
    simp only [List.length_cons] at h1 h2
    rw [diffL_cc]
    split
    · simp only [List.length_cons]; omega
    · split
      · simp only [List.length_cons]; omega
      · split
        · simp only [List.length_cons]; omega
        · simp only [List.length_cons]; omega
end Go.Proofs.Ytdlcjibefbnckaa.Wa
