/- The evaluator's ghosts: tokens that go, come, and are handed on; new variables. -/
import Derived.Test.YtjaadkgohjbadaaWvH
namespace Go.Weave
variable {P : Program} {w : World} {R : Type} {Q : R → Prop}

def upd (β : Owner → Option Nat) (o : Owner) (x : Option Nat) : Owner → Option Nat := fun o' => if o' = o then x else β o'
theorem upd_eq {β : Owner → Option Nat} {o : Owner} {x : Option Nat} : upd β o x o = x := by simp [upd]
theorem upd_ne {β : Owner → Option Nat} {o o' : Owner} {x : Option Nat} (h : o' ≠ o) : upd β o x o' = β o' := by simp [upd, h]

theorem upd_cell {β : Owner → Option Nat} {g id o : Nat} {x : Option Nat} : upd β (.tok g) x (.cell id o) = β (.cell id o) := by simp [upd]

theorem upd_tok {β : Owner → Option Nat} {g g' : Nat} {x : Option Nat} (h : g' ≠ g) : upd β (.tok g) x (.tok g') = β (.tok g') := upd_ne (fun e => h (by cases e; rfl))

theorem mgd_tok {c : Ctx} {β : Owner → Option Nat} {g b : Nat} {x : Option Nat} (h : Mgd c (upd β (.tok g) x) b) : Mgd c β b := by
  rcases h with h | ⟨id, o, h⟩
  · exact .inl h
  · rw [upd_cell] at h; exact .inr ⟨id, o, h⟩

theorem any_env {p : SV → Bool} {fr : Fr} (h : fr.any p = false) {s : Nat} {e : EV} (he : look s fr.env = some e) : e.any p = false := by
  simp only [Fr.any, Bool.or_eq_false_iff] at h
  have : ∀ l : List (Nat × EV), (l.any fun x => x.2.any p) = false → look s l = some e → e.any p = false := by
    intro l
    induction l with
    | nil => intro _ h; simp [look] at h
    | cons x r ih =>
      obtain ⟨k, v⟩ := x
      intro h he
      simp only [List.any_cons, Bool.or_eq_false_iff] at h
      simp only [look] at he
      cases hk : k == s <;> simp only [hk, cond_true, cond_false] at he
      · exact ih h.2 he
      · simp at he; subst he; exact h.1
  exact this _ h.1 he

theorem any_box {p : SV → Bool} {fr : Fr} (h : fr.any p = false) {s : Nat} {b : Box} (he : look s fr.boxes = some b) : b.any p = false := by
  simp only [Fr.any, Bool.or_eq_false_iff] at h
  have : ∀ l : List (Nat × Box), (l.any fun x => x.2.any p) = false → look s l = some b → b.any p = false := by
    intro l
    induction l with
    | nil => intro _ h; simp [look] at h
    | cons x r ih =>
      obtain ⟨k, v⟩ := x
      intro h he
      simp only [List.any_cons, Bool.or_eq_false_iff] at h
      simp only [look] at he
      cases hk : k == s <;> simp only [hk, cond_true, cond_false] at he
      · exact ih h.2 he
      · simp at he; subst he; exact h.1
  exact this _ h.2 he

theorem any_getD {p : SV → Bool} {l : List SV} (h : l.any p = false) (hu : p .unk = false) (j : Nat) : p (l.getD j .unk) = false := by
  by_cases hj : j < l.length
  · have := List.any_eq_false.1 h l[j] (List.getElem_mem hj)
    simpa [hj] using this
  · simp only [List.getD_eq_getElem?_getD, List.getElem?_eq_none (Nat.le_of_not_lt hj), Option.getD_none]; exact hu

section
variable {S S' : Sc} {p : SV → Bool} {f : SV → SV}

theorem RepL.mapS (hu : p .unk = false) (hm : ∀ v s, p s = false → RepS S v s → RepS S' v (f s)) {xs : Array Value} {l : List SV} (hp : l.any p = false) (h : RepL S xs l) :
    RepL S' xs (l.map f) :=
  ⟨by simpa using h.1, fun j hj => by
    have hj' : j < l.length := by simpa using hj
    have e : (l.map f).getD j .unk = f (l.getD j .unk) := by simp [hj']
    rw [e]
    exact ⟨hm _ _ (any_getD hp hu j) (h.2 j hj').1, (h.2 j hj').2⟩⟩

theorem RepC.mapS (hu : p .unk = false) (hm : ∀ v s, p s = false → RepS S v s → RepS S' v (f s)) {v : Value} {c : CV} (hp : c.any p = false) (h : RepC S v c) : RepC S' v (c.mapS f) := by
  cases c with
  | one s => exact hm _ _ hp h
  | agg l => obtain ⟨xs, rfl, hl⟩ := h; exact ⟨xs, rfl, RepL.mapS hu hm hp hl⟩

theorem RepE.mapS (hu : p .unk = false) (hm : ∀ v s, p s = false → RepS S v s → RepS S' v (f s)) {v : Value} {e : EV} (hp : e.any p = false) (h : RepE S v e) : RepE S' v (e.mapS f) := by
  cases e with
  | cv c => exact RepC.mapS hu hm hp h
  | tup l =>
    obtain ⟨xs, rfl, hl, hr⟩ := h
    refine ⟨xs, rfl, by simpa using hl, fun j hj => ?_⟩
    have hj' : j < l.length := by simpa using hj
    have e : (l.map (CV.mapS f)).getD j (.one .unk) = (l.getD j (.one .unk)).mapS f := by simp [hj']
    rw [e]
    refine RepC.mapS hu hm ?_ (hr j hj')
    have := List.any_eq_false.1 hp l[j] (List.getElem_mem hj')
    simpa [hj'] using this

/-- The frame under another word for its values. -/
theorem Rel.mapS {base : Bs} {fr : Fr} {a : Act} (r : Rel base S fr a w) (hp : fr.any p = false) (hu : p .unk = false) (hc : S'.c = S.c) (hlam : S'.lam = S.lam) (hsh : S'.sh = S.sh) (hbx : S'.bx = (fr.mapS f).boxes)
    (hm : ∀ v s, p s = false → RepS S v s → RepS S' v (f s)) (heap : HRel S'.c S'.β S'.H) (own : BRel S'.c S'.β) (tok : ∀ g b, S'.β (.tok g) = some b → base.ok b) (mgd : ∀ b, Mgd S'.c S'.β b → base.ok b) :
    Rel base S' (fr.mapS f) a w := by
  have hb : ∀ d b, look d (fr.mapS f).boxes = some b → ∃ b0, look d fr.boxes = some b0 ∧ b = b0.mapS f := fun d b h => by
    simp only [Fr.mapS, look_map] at h
    cases h0 : look d fr.boxes with
    | none => simp [h0] at h
    | some b0 => simp [h0] at h; exact ⟨b0, rfl, h.symm⟩
  exact {
    w := by rw [hc]; exact r.w
    defers := r.defers
    heap := heap
    own := own
    baseLe := by rw [hc]; exact r.baseLe
    bx := hbx
    env := fun s e he => by
      simp only [Fr.mapS, look_map] at he
      cases h0 : look s fr.env with
      | none => simp [h0] at he
      | some e0 => simp [h0] at he; subst he; exact RepE.mapS hu hm (any_env hp h0) (r.env s e0 h0)
    box := fun d b h => by
      obtain ⟨b0, h0, rfl⟩ := hb d b h
      have := r.box d b0 h0
      have hpb := any_box hp h0
      cases b0 with
      | plain cs =>
        obtain ⟨xs, el, h1, h2⟩ := this
        exact ⟨xs, el, by rw [hc, hlam]; exact h1, by rw [hc]; exact h2⟩
      | rich l =>
        obtain ⟨xs, el, h1, h2⟩ := this
        exact ⟨xs, el, by rw [hc, hlam]; exact h1, RepL.mapS hu hm hpb h2⟩
      | arr sz es =>
        obtain ⟨xs, el, h1, h2, h3⟩ := this
        exact ⟨xs, el, by rw [hc, hlam]; exact h1, by rw [hc]; exact h2, by rw [hsh]; exact h3⟩
    boxκ := fun d b h => by obtain ⟨b0, h0, rfl⟩ := hb d b h; rw [hc, hlam]; exact r.boxκ d b0 h0
    boxι := fun d b h => by obtain ⟨b0, h0, rfl⟩ := hb d b h; rw [hc, hlam]; exact r.boxι d b0 h0
    boxinj := fun d d' b b' h h' => by obtain ⟨b0, h0, rfl⟩ := hb d b h; obtain ⟨b1, h1, rfl⟩ := hb d' b' h'; rw [hlam]; exact r.boxinj d d' b0 b1 h0 h1
    boxbase := fun d b h => by obtain ⟨b0, h0, rfl⟩ := hb d b h; rw [hlam]; exact r.boxbase d b0 h0
    tokbase := tok
    mgd := mgd }
end

theorem look_mapS_isSome {fr : Fr} {f : SV → SV} {d : Nat} : (look d (fr.mapS f).boxes).isSome = (look d fr.boxes).isSome := by
  simp [Fr.mapS, look_map]

theorem any_false (fr : Fr) : fr.any (fun _ => false) = false := by
  have h1 : ∀ c : CV, c.any (fun _ => false) = false := fun c => by cases c <;> simp [CV.any]
  have h2 : ∀ e : EV, e.any (fun _ => false) = false := fun e => by cases e <;> simp [EV.any, h1]
  have h3 : ∀ b : Box, b.any (fun _ => false) = false := fun b => by cases b <;> simp [Box.any]
  simp [Fr.any, h2, h3]

theorem HRel.ofCell {c : Ctx} {β β' : Owner → Option Nat} {H : Heap} (h : HRel c β H) (hb : ∀ id o, β' (.cell id o) = β (.cell id o)) : HRel c β' H :=
  ⟨h.n, fun id o ho => by
    have := h.obj id o ho
    unfold ObjOK at *
    cases o with
    | cells hs =>
      obtain ⟨xs, el, h1, h2, h3⟩ := this
      exact ⟨xs, el, h1, h2, fun j hj => by rw [hb]; exact h3 j hj⟩
    | map kt es ck => exact this, h.κ, h.inj⟩

theorem BRel.drop {c : Ctx} {β : Owner → Option Nat} (h : BRel c β) (o : Owner) : BRel c (upd β o none) := by
  have hh : ∀ o' b, upd β o none o' = some b → β o' = some b := fun o' b h' => by
    by_cases e : o' = o
    · subst e; simp [upd] at h'
    · rwa [upd_ne e] at h'
  exact ⟨fun o' b h' => h.blk o' b (hh o' b h'), fun o' b h' => h.κ o' b (hh o' b h'), fun o1 o2 b h1 h2 => h.inj o1 o2 b (hh _ _ h1) (hh _ _ h2), h.lim, fun id o b h' => h.cl id o b (hh _ b h')⟩

theorem BRel.give {c : Ctx} {β : Owner → Option Nat} (h : BRel c β) {o : Owner} {b : Nat} (hblk : ∃ xs el, c.w.heap[b]? = some (.cells xs el (0, 0))) (hk : c.κ b ≠ none) (hno : ∀ o', β o' ≠ some b) (hcl : ∀ id j, o = .cell id j → id < c.n) :
    BRel c (upd β o (some b)) := by
  have hh : ∀ o' b', upd β o (some b) o' = some b' → (o' = o ∧ b' = b) ∨ (o' ≠ o ∧ β o' = some b') := fun o' b' h' => by
    by_cases e : o' = o
    · subst e; rw [upd_eq] at h'; exact .inl ⟨rfl, by simpa using h'.symm⟩
    · rw [upd_ne e] at h'; exact .inr ⟨e, h'⟩
  refine ⟨fun o' b' h' => ?_, fun o' b' h' => ?_, fun o1 o2 b' h1 h2 => ?_, h.lim, fun id j b' h' => by
    rcases hh _ _ h' with ⟨e, _⟩ | ⟨_, h'⟩
    · exact hcl _ _ e.symm
    · exact h.cl _ _ _ h'⟩
  · rcases hh _ _ h' with ⟨_, rfl⟩ | ⟨_, h'⟩
    · exact hblk
    · exact h.blk _ _ h'
  · rcases hh _ _ h' with ⟨_, rfl⟩ | ⟨_, h'⟩
    · exact hk
    · exact h.κ _ _ h'
  · rcases hh _ _ h1 with ⟨e1, e2⟩ | ⟨_, k1⟩
    · rcases hh _ _ h2 with ⟨e3, _⟩ | ⟨_, k2⟩
      · rw [e1, e3]
      · rw [e2] at k2; exact absurd k2 (hno _)
    · rcases hh _ _ h2 with ⟨_, e4⟩ | ⟨_, k2⟩
      · rw [e4] at k1; exact absurd k1 (hno _)
      · exact h.inj _ _ _ k1 k2

theorem Box.mapS_id (b : Box) : b.mapS id = b := by cases b <;> simp [Box.mapS]
theorem CV.mapS_id (c : CV) : c.mapS id = c := by cases c <;> simp [CV.mapS]
theorem EV.mapS_id (e : EV) : e.mapS id = e := by
  cases e with
  | cv c => simp [EV.mapS, CV.mapS_id]
  | tup l =>
    have : l.map (CV.mapS id) = l := by
      rw [show (CV.mapS id) = id from funext CV.mapS_id]; simp
    simp [EV.mapS, this]
theorem Fr.mapS_id (fr : Fr) : fr.mapS id = fr := by cases fr; simp [Fr.mapS, EV.mapS_id, Box.mapS_id]

/-- A token goes. -/
theorem Rel.strip {base : Bs} {S : Sc} {fr : Fr} {a : Act} (r : Rel base S fr a w) (g : Nat) :
    Rel base { S with β := upd S.β (.tok g) none, bx := (fr.mapS (SV.strip g)).boxes } (fr.mapS (SV.strip g)) a w := by
  refine r.mapS (p := fun _ => false) (any_false fr) rfl rfl rfl rfl rfl (fun v s _ h => ?_) (r.heap.ofCell (β' := upd S.β (.tok g) none) fun id o => upd_cell) (r.own.drop _) (fun g' b h => ?_) (fun b h => r.mgd b (mgd_tok h))
  · cases s with
    | unk => trivial
    | val x => exact h
    | own g' sz es =>
      simp only [SV.strip]
      by_cases e : g' = g
      · subst e; simp; exact h.1
      · have : (g' == g) = false := by simpa using e
        simp only [this, cond_false]
        refine ⟨h.1, ?_⟩
        simp only
        rw [upd_tok e]
        exact h.2
    | bor id off sz es => exact h
    | loc d off =>
      refine ⟨?_, h.2⟩
      simp only
      rw [look_mapS_isSome, ← r.bx]
      exact h.1
    | lsl d =>
      refine ⟨?_, h.2⟩
      simp only
      rw [look_mapS_isSome, ← r.bx]
      exact h.1
  · by_cases e : g' = g
    · subst e; simp only [upd_eq] at h; simp at h
    · simp only [upd_tok e] at h; exact r.tokbase g' b h

/-- No look into a managed cell is remembered. -/
theorem Rel.unbor {base : Bs} {S : Sc} {fr : Fr} {a : Act} (r : Rel base S fr a w) (H : Heap) (β : Owner → Option Nat) (hβ : ∀ g, β (.tok g) = S.β (.tok g)) (hh : HRel S.c β H) (hb : BRel S.c β) (hmg : ∀ b, Mgd S.c β b → base.ok b) :
    Rel base { S with H := H, β := β, bx := (fr.mapS SV.unbor).boxes } (fr.mapS SV.unbor) a w := by
  refine r.mapS (p := fun _ => false) (any_false fr) rfl rfl rfl rfl rfl (fun v s _ h => ?_) hh hb (fun g b h => r.tokbase g b (by rw [← hβ]; exact h)) hmg
  cases s with
  | unk => trivial
  | val x => exact h
  | own g sz es => exact ⟨h.1, by simp only; rw [hβ]; exact h.2⟩
  | bor id off sz es => exact h.1
  | loc d off =>
    refine ⟨?_, h.2⟩
    simp only
    rw [look_mapS_isSome, ← r.bx]
    exact h.1
  | lsl d =>
    refine ⟨?_, h.2⟩
    simp only
    rw [look_mapS_isSome, ← r.bx]
    exact h.1

/-- A token comes: no value in the frame bears it. -/
theorem Rel.give {base : Bs} {S : Sc} {fr : Fr} {a : Act} (r : Rel base S fr a w) {g b : Nat} (hg : fr.any (SV.has g) = false) (hb : base.ok b)
    (hblk : ∃ xs el, S.c.w.heap[b]? = some (.cells xs el (0, 0))) (hk : S.c.κ b ≠ none) (hno : ∀ o, S.β o ≠ some b) : Rel base { S with β := upd S.β (.tok g) (some b) } fr a w := by
  have hm : ∀ v s, SV.has g s = false → RepS S v s → RepS { S with β := upd S.β (.tok g) (some b) } v s := fun v s hp h => by
    cases s with
    | unk => trivial
    | val x => exact h
    | own g' sz es =>
      have e : g' ≠ g := by simpa [SV.has] using hp
      refine ⟨h.1, ?_⟩
      simp only
      rw [upd_tok e]
      exact h.2
    | bor id off sz es => exact h
    | loc d off => exact h
    | lsl d => exact h
  have key : Rel base { S with β := upd S.β (.tok g) (some b), bx := (fr.mapS id).boxes } (fr.mapS id) a w := by
    refine r.mapS (p := SV.has g) (f := id) hg rfl rfl rfl rfl rfl (fun v s hp h => ?_) (r.heap.ofCell (β' := upd S.β (.tok g) (some b)) fun i o => upd_cell) (r.own.give hblk hk hno (fun _ _ h => by cases h)) (fun g' b' h => ?_) (fun b' h => r.mgd b' (mgd_tok h))
    · have := hm v s hp h
      rw [Fr.mapS_id, ← r.bx]
      exact this
    · by_cases e : g' = g
      · subst e; simp only [upd_eq] at h; simp at h; subst h; exact hb
      · simp only [upd_tok e] at h; exact r.tokbase g' b' h
  rw [Fr.mapS_id, ← r.bx] at key
  exact key

/-- A local variable comes. -/
theorem Rel.newBox0 {base : Bs} {S : Sc} {fr : Fr} {a : Act} (r : Rel base S fr a w) {d : Nat} {xs : Array Value} {el : TypeId} {b : Box} (shd : Nat × Nat) (hg : fr.any (SV.hasLoc d) = false)
    (hb : match b with | .plain cs => RepA S.c xs cs | .rich l => RepL S xs l ∧ l.any (SV.hasLoc d) = false | .arr sz es => Flat S.c xs sz es ∧ shd.1 = es.length ∧ es.length ≤ shd.2 ∧ shd.2 * cnt sz ≤ xs.size) :
    ∃ S', S'.H = S.H ∧ Pres base S.c S.β S'.c S'.β ∧ Rel base S' (fr.setBox d b) a (w.alloc (.cells xs el)) ∧ S'.lam d = w.heap.size ∧ S'.sh d = shd ∧ S'.bx = (fr.setBox d b).boxes := by
  have r1 := r.alloc (.cells xs el) none
  have hpres := Pres.alloc (β := S.β) (o := .cells xs el) (k := none) r.own.lim r.baseLe
  have hsz : S.c.w.heap.size = w.heap.size := by rw [r.w]
  let S' : Sc := { S.withC (S.c.alloc (.cells xs el) none) with lam := fun d' => if d' = d then w.heap.size else S.lam d', sh := fun d' => if d' = d then shd else S.sh d', bx := (fr.setBox d b).boxes }
  have hm : ∀ v s, SV.hasLoc d s = false → RepS (S.withC (S.c.alloc (.cells xs el) none)) v s → RepS S' v s := fun v s hp h => by
    cases s with
    | unk => trivial
    | val x => exact h
    | own g' sz es => exact h
    | bor id off sz es => exact h
    | loc d' off =>
      have e : d' ≠ d := by simpa [SV.hasLoc] using hp
      obtain ⟨h1, h2⟩ := h
      refine ⟨?_, ?_⟩
      · simp only [S', Fr.setBox]
        rw [look_ins, if_neg (Ne.symm e), ← r.bx]
        exact h1
      · simp only [S']; rw [if_neg e]; exact h2
    | lsl d' =>
      have e : d' ≠ d := by simpa [SV.hasLoc] using hp
      obtain ⟨h1, h2⟩ := h
      refine ⟨?_, ?_⟩
      · simp only [S', Fr.setBox]
        rw [look_ins, if_neg (Ne.symm e), ← r.bx]
        exact h1
      · simp only [S']; rw [if_neg e, if_neg e]; exact h2
  have hle : S.c.le (S.c.alloc (.cells xs el) none) := Ctx.le_alloc r.own.lim
  have hmk : ∀ v s, RepS S v s → RepS (S.withC (S.c.alloc (.cells xs el) none)) v s := fun v s => RepS.move hle
    (fun o b h => by
      obtain ⟨_, _, hh⟩ := r.own.blk o b h
      have := lt_of_heap hh
      exact ⟨by simp only [Ctx.alloc]; rw [if_neg (by omega)], alloc_old this⟩)
    (fun id o h => cell_of_heap (alloc_old (r.heap.lt h)))
  refine ⟨S', rfl, hpres, ?_, by simp [S'], by simp [S'], rfl⟩
  have hboxes : ∀ d' b', look d' (fr.setBox d b).boxes = some b' → (d' = d ∧ b' = b) ∨ (d' ≠ d ∧ look d' fr.boxes = some b') := fun d' b' h => look_setBox h
  have hany : ∀ {d' b'}, look d' fr.boxes = some b' → b'.any (SV.hasLoc d) = false := fun h => any_box hg h
  exact {
    w := r1.w
    defers := r.defers
    heap := r1.heap
    own := r1.own
    baseLe := r1.baseLe
    bx := rfl
    env := fun s e he => by
      have := RepE.mapS (p := SV.hasLoc d) (f := id) rfl hm (any_env hg he) (r1.env s e he)
      rw [EV.mapS_id] at this
      exact this
    box := fun d' b' h => by
      rcases hboxes d' b' h with ⟨rfl, rfl⟩ | ⟨hne, h⟩
      · cases b' with
        | plain cs => exact ⟨xs, el, by simp only [S', if_true]; rw [← hsz]; exact alloc_new, RepA.mono hle hb⟩
        | rich l =>
          refine ⟨xs, el, by simp only [S', if_true]; rw [← hsz]; exact alloc_new, ?_⟩
          have := RepL.mapS (p := SV.hasLoc d') (f := id) rfl (fun v s hp h => hm v s hp (hmk v s h)) hb.2 hb.1
          simpa using this
        | arr sz es => exact ⟨xs, el, by simp only [S', if_true]; rw [← hsz]; exact alloc_new, hb.1.mono hle, by simp only [S', if_true]; exact hb.2⟩
      · have h0 := r1.box d' b' h
        cases b' with
        | plain cs =>
          obtain ⟨ys, el', h1, h2⟩ := h0
          exact ⟨ys, el', by simp only [S']; rw [if_neg hne]; exact h1, h2⟩
        | rich l =>
          obtain ⟨ys, el', h1, h2⟩ := h0
          refine ⟨ys, el', by simp only [S']; rw [if_neg hne]; exact h1, ?_⟩
          have := RepL.mapS (p := SV.hasLoc d) (f := id) rfl hm (hany h) h2
          simpa using this
        | arr sz es =>
          obtain ⟨ys, el', h1, h2, h3⟩ := h0
          exact ⟨ys, el', by simp only [S']; rw [if_neg hne]; exact h1, h2, by simp only [S']; rw [if_neg hne]; exact h3⟩
    boxκ := fun d' b' h => by
      rcases hboxes d' b' h with ⟨rfl, rfl⟩ | ⟨hne, h⟩
      · simp only [S', if_true]; simp only [Sc.withC, Ctx.alloc]; rw [if_pos hsz.symm]
      · simp only [S']; rw [if_neg hne]; exact r1.boxκ d' b' h
    boxι := fun d' b' h id hid => by
      rcases hboxes d' b' h with ⟨rfl, rfl⟩ | ⟨hne, h⟩
      · simp only [S', if_true]
        have := r.heap.lt (id := id) hid
        simp only [Sc.withC, Ctx.alloc]
        omega
      · simp only [S']; rw [if_neg hne]; exact r1.boxι d' b' h id hid
    boxinj := fun d1 d2 b1 b2 h1 h2 e => by
      have hlam : ∀ d', d' ≠ d → S'.lam d' = S.lam d' := fun d' h => by simp only [S']; rw [if_neg h]
      have hlamd : S'.lam d = w.heap.size := by simp [S']
      rcases hboxes d1 b1 h1 with ⟨e1, _⟩ | ⟨hn1, k1⟩
      · rcases hboxes d2 b2 h2 with ⟨e2, _⟩ | ⟨hn2, k2⟩
        · rw [e1, e2]
        · rw [e1, hlamd, hlam d2 hn2] at e
          have := r.boxlt k2
          omega
      · rcases hboxes d2 b2 h2 with ⟨e2, _⟩ | ⟨hn2, k2⟩
        · rw [e2, hlamd, hlam d1 hn1] at e
          have := r.boxlt k1
          omega
        · rw [hlam d1 hn1, hlam d2 hn2] at e
          exact r.boxinj d1 d2 b1 b2 k1 k2 e
    boxbase := fun d' b' h => by
      rcases hboxes d' b' h with ⟨rfl, rfl⟩ | ⟨hne, h⟩
      · simp only [S', if_true]; have := r.baseLe; omega
      · simp only [S']; rw [if_neg hne]; exact r.boxbase d' b' h
    tokbase := r.tokbase
    mgd := r1.mgd }
theorem Rel.newBox {base : Bs} {S : Sc} {fr : Fr} {a : Act} (r : Rel base S fr a w) {d : Nat} {xs : Array Value} {el : TypeId} {b : Box} (hd : d < a.tmps.size) (hg : fr.any (SV.hasLoc d) = false)
    (hb : match b with | .plain cs => RepA S.c xs cs | .rich l => RepL S xs l ∧ l.any (SV.hasLoc d) = false | .arr _ _ => False) :
    ∃ S', S'.H = S.H ∧ Pres base S.c S.β S'.c S'.β ∧ Rel base S' ((fr.setBox d b).set d (.one (.loc d 0))) (a.put (some d) (.pointer (some ⟨w.heap.size, 0, none⟩))) (w.alloc (.cells xs el)) := by
  obtain ⟨S', h1, h2, core, h4, _, h6⟩ := r.newBox0 (el := el) (b := b) (xs := xs) (0, 0) hg (by
    cases b with
    | plain cs => exact hb
    | rich l => exact hb
    | arr sz es => exact hb.elim)
  refine ⟨S', h1, h2, core.put (dst := some d) (fun d' h => by simp at h; omega) ⟨?_, ?_⟩⟩
  · rw [h6]
    simp only [Fr.setBox]
    rw [look_ins]; simp
  · rw [h4]
end Go.Weave
