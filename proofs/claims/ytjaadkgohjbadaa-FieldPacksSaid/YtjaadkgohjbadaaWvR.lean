/- What is kept of a frame. -/
import Derived.Test.YtjaadkgohjbadaaWvQ
namespace Go.Weave
variable {P : Program} {w : World}

section
variable {S S' : Sc} {bs : List Nat} {ren : List (Nat × Nat)}

theorem weak_ok (hc : S'.c = S.c) (hlam : S'.lam = S.lam) (hsh : S'.sh = S.sh) (hbs : ∀ d ∈ bs, (look d S'.bx).isSome = true) {v : Value} {s : SV} (h : RepS S v s) : RepS S' v (s.weak bs) := by
  cases s with
  | unk => trivial
  | val x => simp only [SV.weak]; exact (show Rep S'.c v x by rw [hc]; exact h)
  | own g z es => exact (show Rep S'.c v _ by rw [hc]; exact h.1)
  | bor id off z es => exact (show Rep S'.c v _ by rw [hc]; exact h.1)
  | loc d off =>
    simp only [SV.weak]
    cases hb : bs.contains d
    · trivial
    · simp only [cond_true]
      exact ⟨hbs d (by simpa using hb), by rw [hlam]; exact h.2⟩
  | lsl d =>
    simp only [SV.weak]
    cases hb : bs.contains d
    · trivial
    · simp only [cond_true]
      exact ⟨hbs d (by simpa using hb), by rw [hlam, hsh]; exact h.2⟩

theorem ownAs_ok (hc : S'.c = S.c) (hβ : S'.β = renB ren S.β) (hn : (ren.map (·.1)).Nodup) {v : Value} {s : SV} {g z : Nat} (hr : ∀ p ∈ renS g s, p ∈ ren) (h : RepS S v s) : RepS S' v (ownAs g z s) := by
  unfold ownAs
  split
  · rename_i g' z' es
    cases hz : z' == z
    · trivial
    · simp only [cond_true]
      simp only [beq_iff_eq] at hz; subst hz
      refine ⟨by rw [hc]; exact h.1, ?_⟩
      have : look g ren = some g' := look_of_mem hn (hr _ (by simp [renS]))
      rw [hc, hβ]
      simp only [renB, this]
      exact h.2
  · rename_i z' es
    cases hz : (z' == z || es.isEmpty)
    · trivial
    · simp only [cond_true]
      have h' : Rep S.c v (.sl true z' es) := h
      have h2 := h'.slEmpty hz
      refine ⟨by rw [hc]; exact h2.weakSl, ?_⟩
      cases h2 with
      | slnil x => cases x <;> simp [OwnAt]
      | sl b off cap lim _ _ _ f hcap hf hk hl he hc' hr' => exact .inl (hf rfl).symm
  · trivial

theorem ownAsAt_ok (hc : S'.c = S.c) (hlam : S'.lam = S.lam) (hsh : S'.sh = S.sh) (hbs : ∀ d ∈ bs, (look d S'.bx).isSome = true) (hβ : S'.β = renB ren S.β) (hn : (ren.map (·.1)).Nodup) {s : Nat} {owns : List (Nat × Nat)} :
    ∀ (l : List SV) (j : Nat) (xs : List Value), (∀ p ∈ renAt s owns j l, p ∈ ren) → xs.length = l.length → (∀ i, i < l.length → RepS S (xs.getD i undef) (l.getD i .unk) ∧ Cellv (xs.getD i undef)) →
      (ownAsAt bs s owns j l).length = l.length ∧ ∀ i, i < l.length → RepS S' (xs.getD i undef) ((ownAsAt bs s owns j l).getD i .unk) ∧ Cellv (xs.getD i undef)
  | [], _, _, _, _, _ => ⟨rfl, fun i hi => by simp at hi⟩
  | c :: l, j, [], _, hl, _ => by simp at hl
  | c :: l, j, x :: xs, hr, hl, h => by
    have h0 := h 0 (by simp)
    simp only [List.getD_cons_zero] at h0
    obtain ⟨i1, i2⟩ := ownAsAt_ok hc hlam hsh hbs hβ hn l (j + 1) xs (fun p hp => hr p (by simp only [renAt]; exact List.mem_append_right _ hp)) (by simpa using hl)
      (fun i hi => by have := h (i + 1) (by simpa using hi); simpa only [List.getD_cons_succ] using this)
    refine ⟨by simp [ownAsAt, i1], fun i hi => ?_⟩
    cases i with
    | zero =>
      simp only [ownAsAt, List.getD_cons_zero]
      refine ⟨?_, h0.2⟩
      cases hlk : look j owns with
      | none => exact weak_ok hc hlam hsh hbs h0.1
      | some z => exact ownAs_ok hc hβ hn (fun p hp => hr p (by simp only [renAt, hlk]; exact List.mem_append_left _ hp)) h0.1
    | succ i =>
      simp only [ownAsAt, List.getD_cons_succ]
      exact i2 i (by simpa using hi)
end

theorem Rel.keepFr {base : Bs} {S : Sc} {fr : Fr} {a : Act} (r : Rel base S fr a w) (ks : List Keep) : ∃ S', S'.c = S.c ∧ S'.H = S.H ∧ Rel base S' (keepFr ks fr) a w := by
  unfold Weave.keepFr keepIn
  generalize hbs : ks.filterMap (boxOf fr) = bs
  generalize hren : ks.flatMap (keepRen fr) = ren
  cases hnd : nodup (ren.map (·.1)) && nodup (ren.map (·.2))
  · simp only [cond_false]
    refine ⟨{ S with bx := [] }, rfl, rfl, { r with bx := rfl, env := fun s e h => by simp [look] at h, box := fun d b h => by simp [look] at h, boxκ := fun d b h => by simp [look] at h, boxι := fun d b h => by simp [look] at h, boxinj := fun d d' b b' h => by simp [look] at h, boxbase := fun d b h => by simp [look] at h }⟩
  · simp only [cond_true]
    simp only [Bool.and_eq_true] at hnd
    have n1 := nodup_spec hnd.1
    have n2 := nodup_spec hnd.2
    let S' : Sc := { S with β := renB ren S.β, bx := ks.filterMap (keepBox bs fr) }
    have hbx : ∀ d b, (d, b) ∈ ks.filterMap (keepBox bs fr) → ∃ owns b0, Keep.box d owns ∈ ks ∧ look d fr.boxes = some b0 ∧ keepBox bs fr (.box d owns) = some (d, b) := fun d b h => by
      obtain ⟨k, hk, h⟩ := List.mem_filterMap.1 h
      cases k with
      | box s owns =>
        have h' := h
        simp only [keepBox] at h
        split at h
        · rename_i cs hcs; simp at h; obtain ⟨rfl, rfl⟩ := h; exact ⟨owns, _, hk, hcs, h'⟩
        · rename_i cs hcs; simp at h; obtain ⟨rfl, rfl⟩ := h; exact ⟨owns, _, hk, hcs, h'⟩
        · rename_i sz es hcs; simp at h; obtain ⟨rfl, rfl⟩ := h; exact ⟨owns, _, hk, hcs, h'⟩
        · simp at h
      | plain s => simp [keepBox] at h
      | own s z => simp [keepBox] at h
    have hsome : ∀ d ∈ bs, (look d S'.bx).isSome = true := fun d hd => by
      rw [← hbs] at hd
      obtain ⟨k, hk, hd⟩ := List.mem_filterMap.1 hd
      have hmem : ∃ b, (d, b) ∈ S'.bx := by
        cases k with
        | box s owns =>
          simp only [boxOf] at hd
          split at hd
          · rename_i b0 hb0
            simp at hd; subst hd
            cases b0 with
            | plain cs => exact ⟨.plain cs, List.mem_filterMap.2 ⟨_, hk, by simp [keepBox, hb0]⟩⟩
            | rich cs => exact ⟨.rich (ownAsAt bs s owns 0 cs), List.mem_filterMap.2 ⟨_, hk, by simp only [keepBox, hb0]⟩⟩
            | arr sz es => exact ⟨.arr sz es, List.mem_filterMap.2 ⟨_, hk, by simp [keepBox, hb0]⟩⟩
          · simp at hd
        | plain s => simp [boxOf] at hd
        | own s z => simp [boxOf] at hd
      obtain ⟨b, hb⟩ := hmem
      have : ∀ l : List (Nat × Box), (d, b) ∈ l → (look d l).isSome = true := by
        intro l
        induction l with
        | nil => intro h; simp at h
        | cons x l ih =>
          obtain ⟨k, y⟩ := x
          intro h
          simp only [look]
          cases hk : k == d
          · simp only [cond_false]
            rcases List.mem_cons.1 h with e | h
            · cases e; simp at hk
            · exact ih h
          · rfl
      exact this _ hb
    have hweak : ∀ v s, RepS S v s → RepS S' v (s.weak bs) := fun v s h => weak_ok (S := S) (S' := S') rfl rfl rfl hsome h
    have hwE : ∀ v e, RepE S v e → RepE S' v (e.mapS (SV.weak bs)) := fun v e h => by
      have hE : e.any (fun _ => false) = false := by
        have h1 : ∀ c : CV, c.any (fun _ => false) = false := fun c => by cases c <;> simp [CV.any]
        cases e <;> simp [EV.any, h1]
      exact RepE.mapS (p := fun _ => false) rfl (fun v s _ h => hweak v s h) hE h
    refine ⟨S', rfl, rfl, {
      w := r.w
      defers := r.defers
      heap := r.heap.ofCell fun _ _ => rfl
      own := r.own.ren n2
      baseLe := r.baseLe
      bx := rfl
      env := fun s e h => by
        obtain ⟨k, hk, h⟩ := List.mem_map.1 (look_mem h)
        cases k with
        | plain s' => simp only [keepOne, Prod.mk.injEq] at h; obtain ⟨rfl, rfl⟩ := h; exact hwE _ _ (eval_get r _)
        | box s' owns => simp only [keepOne, Prod.mk.injEq] at h; obtain ⟨rfl, rfl⟩ := h; exact hwE _ _ (eval_get r _)
        | own s' z =>
          simp only [keepOne, Prod.mk.injEq] at h; obtain ⟨rfl, rfl⟩ := h
          have hg := eval_get r s'
          split
          · rename_i v hv
            rw [hv] at hg
            exact ownAs_ok (S := S) (S' := S') (ren := ren) rfl rfl n1 (fun p hp => by rw [← hren]; exact List.mem_flatMap.2 ⟨_, hk, by simp only [keepRen, hv]; exact hp⟩) (show RepS S _ v from hg)
          · trivial
      box := fun d b h => by
        obtain ⟨owns, b0, hk, hb0, hkb⟩ := hbx d b (look_mem h)
        have hok := r.box d b0 hb0
        simp only [keepBox, hb0] at hkb
        cases b0 with
        | plain cs => simp at hkb; subst hkb; exact hok
        | arr sz es => simp at hkb; subst hkb; exact hok
        | rich cs =>
          simp at hkb; subst hkb
          obtain ⟨xs, el, h1, h2, h3⟩ := hok
          refine ⟨xs, el, h1, ?_⟩
          obtain ⟨i1, i2⟩ := ownAsAt_ok (S := S) (S' := S') (ren := ren) (bs := bs) rfl rfl rfl hsome rfl n1 (s := d) (owns := owns) cs 0 xs.toList
            (fun p hp => by rw [← hren]; exact List.mem_flatMap.2 ⟨_, hk, by simp only [keepRen, hb0]; exact hp⟩) (by simpa using h2) (fun i hi => by simpa using h3 i hi)
          exact ⟨by rw [i1]; exact h2, fun i hi => by simpa using i2 i (by omega)⟩
      boxκ := fun d b h => by obtain ⟨_, b0, _, hb0, _⟩ := hbx d b (look_mem h); exact r.boxκ d b0 hb0
      boxι := fun d b h => by obtain ⟨_, b0, _, hb0, _⟩ := hbx d b (look_mem h); exact r.boxι d b0 hb0
      boxinj := fun d d' b b' h h' => by
        obtain ⟨_, b0, _, hb0, _⟩ := hbx d b (look_mem h); obtain ⟨_, b1, _, hb1, _⟩ := hbx d' b' (look_mem h'); exact r.boxinj d d' b0 b1 hb0 hb1
      boxbase := fun d b h => by obtain ⟨_, b0, _, hb0, _⟩ := hbx d b (look_mem h); exact r.boxbase d b0 hb0
      tokbase := fun g b h => by
        simp only [S', renB] at h
        split at h
        · rename_i g' _; exact r.tokbase g' b h
        · simp at h
      mgd := r.mgd }⟩
end Go.Weave
