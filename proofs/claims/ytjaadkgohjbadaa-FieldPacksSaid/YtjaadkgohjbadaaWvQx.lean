/- Arrays that are a frame's own. -/
import Derived.Test.YtjaadkgohjbadaaWvR
namespace Go.Weave
variable {P : Program} {w : World} {R : Type}

theorem look_delB {d d' : Nat} : ∀ l : List (Nat × Box), look d' (delB d l) = if d' = d then none else look d' l
  | [] => by simp [delB, look]
  | (k, b) :: r => by
    simp only [delB]
    cases h : k == d
    · simp only [cond_false, look]
      cases h2 : k == d'
      · simp only [cond_false]; exact look_delB r
      · simp only [cond_true]
        have e1 : k ≠ d := by simpa using h
        have e2 : k = d' := by simpa using h2
        rw [if_neg (fun e => e1 (e2.trans e))]
    · simp only [cond_true, look]
      have e1 : k = d := by simpa using h
      rw [look_delB r]
      by_cases e : d' = d
      · rw [if_pos e, if_pos e]
      · rw [if_neg e, if_neg e]
        have : (k == d') = false := by simp; rw [e1]; exact fun h => e h.symm
        rw [this]; rfl

/-- What was the frame's own array is a slice that owns its end. -/
theorem Rel.frz {base : Bs} {S : Sc} {fr : Fr} {a : Act} (r : Rel base S fr a w) {d sz g : Nat} {es : List AVal} (hd : look d fr.boxes = some (.arr sz es)) (hg : fr.any (SV.has g) = false) :
    ∃ S', S'.H = S.H ∧ Pres base S.c S.β S'.c S'.β ∧ Rel base S' ((fr.del d).mapS (SV.frz d g sz es)) a w := by
  obtain ⟨xs, el, hx, hF, hs1, hs2, hs3⟩ := r.box d _ hd
  have hκd := r.boxκ d _ hd
  have hι := r.boxι d _ hd
  let c' : Ctx := { S.c with κ := fun b => if b = S.lam d then some (es.length * cnt sz) else S.c.κ b }
  have hκ : ∀ b, b ≠ S.lam d → c'.κ b = S.c.κ b := fun b h => by simp only [c']; rw [if_neg h]
  have hle : S.c.le c' := ⟨Nat.le_refl _, fun _ _ => rfl, fun b l h => ⟨l, by rw [hκ b (fun e => by rw [e, hκd] at h; cases h)]; exact h, Nat.le_refl _, fun _ _ => rfl⟩⟩
  have hno : ∀ o, S.β o ≠ some (S.lam d) := fun o ho => r.own.κ o _ ho hκd
  have hk : ∀ o b, S.β o = some b → c'.κ b = S.c.κ b ∧ c'.w.heap[b]? = S.c.w.heap[b]? := fun o b h => ⟨hκ b (fun e => hno o (by rw [← e]; exact h)), rfl⟩
  let fr' : Fr := (fr.del d).mapS (SV.frz d g sz es)
  let S' : Sc := { c := c', β := upd S.β (.tok g) (some (S.lam d)), lam := S.lam, sh := S.sh, H := S.H, bx := fr'.boxes }
  have hlook : ∀ d', look d' fr'.boxes = if d' = d then none else (look d' fr.boxes).map (Box.mapS (SV.frz d g sz es)) := fun d' => by
    simp only [fr', Fr.mapS, look_map]
    rw [show (fr.del d).boxes = delB d fr.boxes from rfl, look_delB]
    by_cases e : d' = d
    · rw [if_pos e, if_pos e]; rfl
    · rw [if_neg e, if_neg e]
  have hsome : ∀ d', d' ≠ d → (look d' S.bx).isSome = true → (look d' fr'.boxes).isSome = true := fun d' e h => by
    rw [hlook, if_neg e, Option.isSome_map, ← r.bx]; exact h
  have hm : ∀ v s, SV.has g s = false → RepS S v s → RepS S' v (SV.frz d g sz es s) := fun v s hp h => by
    cases s with
    | unk => trivial
    | val x => exact Rep.mono hle h
    | own g' z fs =>
      have e : g' ≠ g := by simpa [SV.has] using hp
      refine ⟨Rep.mono hle h.1, ?_⟩
      have := h.2.move (c' := c') (hk _)
      simp only [S']
      rw [upd_tok e]
      exact this
    | bor id off z fs => exact ⟨Rep.mono hle h.1, h.2⟩
    | loc d' off =>
      simp only [SV.frz]
      cases hdd : d' == d
      · have e : d' ≠ d := by simpa using hdd
        exact ⟨hsome d' e h.1, h.2⟩
      · trivial
    | lsl d' =>
      simp only [SV.frz]
      cases hdd : d' == d
      · have e : d' ≠ d := by simpa using hdd
        exact ⟨hsome d' e h.1, h.2⟩
      · have e : d' = d := by simpa using hdd
        subst e
        obtain ⟨_, rfl⟩ := h
        have hkd : c'.κ (S.lam d') = some (es.length * cnt sz) := by simp [c']
        refine ⟨?_, .inr ⟨by simp only [S', upd_eq], ?_, xs, el, hx, ?_⟩⟩
        · rw [hs1]
          exact (hF.mono hle).rep_slice (c := c') hx hkd (Nat.le_refl _) hs2 (by simp)
        · simp only [S']; rw [hkd, hs1, Nat.zero_add]
        · simp only [Nat.zero_add]; exact hs3
  have hB : BRel c' S.β := ⟨r.own.blk, fun o b h => by rw [(hk o b h).1]; exact r.own.κ o b h, r.own.inj, fun b l h => by
    by_cases e : b = S.lam d
    · rw [e]; exact r.boxlt hd
    · rw [hκ b e] at h; exact r.own.lim b l h, r.own.cl⟩
  have hrel : HRel c' S.β S.H := {
    n := r.heap.n
    obj := fun id o ho => by
      have hid : id < S.c.n := by rw [r.heap.n]; exact (List.getElem?_eq_some_iff.1 ho).1
      exact ObjOK.move hle hk hid rfl (r.heap.obj id o ho)
    κ := fun id hid => by rw [hκ _ (hι id hid)]; exact r.heap.κ id hid
    inj := r.heap.inj }
  have hbk : ∀ d' b', look d' fr'.boxes = some b' → d' ≠ d ∧ ∃ b0, look d' fr.boxes = some b0 ∧ b' = b0.mapS (SV.frz d g sz es) := fun d' b' h => by
    rw [hlook] at h
    by_cases e : d' = d
    · rw [if_pos e] at h; cases h
    · rw [if_neg e] at h
      cases h0 : look d' fr.boxes with
      | none => simp [h0] at h
      | some b0 => simp [h0] at h; exact ⟨e, b0, rfl, h.symm⟩
  have hbb := r.boxbase d _ hd
  refine ⟨S', rfl, ⟨hle, Nat.le_refl _, fun b hb => ⟨rfl, hκ b (fun e => hb (by rw [e]; exact .inl hbb))⟩, ⟨rfl, rfl⟩⟩, {
    w := r.w
    defers := r.defers
    heap := hrel.ofCell fun i o => upd_cell (β := S.β) (g := g) (x := some (S.lam d))
    own := hB.give ⟨xs, el, hx⟩ (by simp [c']) hno (fun _ _ h => by cases h)
    baseLe := r.baseLe
    bx := rfl
    env := fun s e he => by
      have he' : look s (fr.env.map fun p => (p.1, p.2.mapS (SV.frz d g sz es))) = some e := he
      rw [look_map] at he'
      cases h0 : look s fr.env with
      | none => simp [h0] at he'
      | some e0 => simp [h0] at he'; subst he'; exact RepE.mapS rfl hm (any_env hg h0) (r.env s e0 h0)
    box := fun d' b' h => by
      obtain ⟨e, b0, h0, rfl⟩ := hbk d' b' h
      have hb := r.box d' b0 h0
      cases b0 with
      | plain cs =>
        obtain ⟨ys, el', h1, h2⟩ := hb
        exact ⟨ys, el', h1, RepA.mono hle h2⟩
      | rich l =>
        obtain ⟨ys, el', h1, h2⟩ := hb
        exact ⟨ys, el', h1, RepL.mapS rfl hm (any_box hg h0) h2⟩
      | arr z fs =>
        obtain ⟨ys, el', h1, h2, h3⟩ := hb
        exact ⟨ys, el', h1, h2.mono hle, h3⟩
    boxκ := fun d' b' h => by
      obtain ⟨e, b0, h0, rfl⟩ := hbk d' b' h
      have := r.boxκ d' b0 h0
      rw [hκ _ (fun e2 => e (r.boxinj d' d b0 _ h0 hd e2))]; exact this
    boxι := fun d' b' h => by obtain ⟨e, b0, h0, rfl⟩ := hbk d' b' h; exact r.boxι d' b0 h0
    boxinj := fun d1 d2 b1 b2 h1 h2 => by
      obtain ⟨_, x1, k1, rfl⟩ := hbk d1 b1 h1
      obtain ⟨_, x2, k2, rfl⟩ := hbk d2 b2 h2
      exact r.boxinj d1 d2 x1 x2 k1 k2
    boxbase := fun d' b' h => by obtain ⟨e, b0, h0, rfl⟩ := hbk d' b' h; exact r.boxbase d' b0 h0
    tokbase := fun g' b h => by
      by_cases e : g' = g
      · subst e
        simp only [S', upd_eq, Option.some.injEq] at h
        rw [← h]; exact .inl hbb
      · simp only [S'] at h
        rw [upd_tok e] at h; exact r.tokbase g' b h
    mgd := fun b h => r.mgd b (mgd_tok (β := S.β) (g := g) (x := some (S.lam d)) h) }⟩

/-- No word of a variable is left. -/
theorem Rel.noLoc {base : Bs} {S : Sc} {fr : Fr} {a : Act} (r : Rel base S fr a w) (d : Nat) : Rel base { S with bx := (fr.mapS (SV.noLoc d)).boxes } (fr.mapS (SV.noLoc d)) a w := by
  refine r.mapS (p := fun _ => false) (any_false fr) rfl rfl rfl rfl rfl (fun v s _ h => ?_) r.heap r.own r.tokbase r.mgd
  cases s with
  | unk => trivial
  | val x => exact h
  | own g sz es => exact h
  | bor id off sz es => exact h
  | loc d' off =>
    simp only [SV.noLoc]
    cases hdd : d' == d
    · exact ⟨by simp only; rw [look_mapS_isSome, ← r.bx]; exact h.1, h.2⟩
    · trivial
  | lsl d' =>
    simp only [SV.noLoc]
    cases hdd : d' == d
    · exact ⟨by simp only; rw [look_mapS_isSome, ← r.bx]; exact h.1, h.2⟩
    · trivial
theorem noLoc_has (d : Nat) (fr : Fr) : (fr.mapS (SV.noLoc d)).any (SV.hasLoc d) = false := by
  have h0 : ∀ s : SV, (SV.noLoc d s).hasLoc d = false := fun s => by
    cases s with
    | loc d' off => simp only [SV.noLoc]; cases h : d' == d <;> simp [SV.hasLoc, h]
    | lsl d' => simp only [SV.noLoc]; cases h : d' == d <;> simp [SV.hasLoc, h]
    | _ => rfl
  have h1 : ∀ c : CV, (c.mapS (SV.noLoc d)).any (SV.hasLoc d) = false := fun c => by
    cases c with
    | one s => exact h0 s
    | agg l => simp [CV.mapS, CV.any, h0]
  have h2 : ∀ e : EV, (e.mapS (SV.noLoc d)).any (SV.hasLoc d) = false := fun e => by
    cases e with
    | cv c => exact h1 c
    | tup l => simp [EV.mapS, EV.any, h1]
  have h3 : ∀ b : Box, (b.mapS (SV.noLoc d)).any (SV.hasLoc d) = false := fun b => by
    cases b with
    | plain cs => rfl
    | rich l => simp [Box.mapS, Box.any, h0]
    | arr sz es => rfl
  simp [Fr.any, Fr.mapS, h2, h3]

/-- An array that nobody speaks of is written, and is longer. -/
theorem Rel.writeArr {base : Bs} {S : Sc} {fr : Fr} {a : Act} (r : Rel base S fr a w) {d sz : Nat} {es : List AVal} {b : Box} {xs xs' : Array Value} {el : TypeId} (shd : Nat × Nat) (hno : fr.any (SV.hasLoc d) = false)
    (hd : look d fr.boxes = some b) (hg : w.heap[S.lam d]? = some (.cells xs el (0, 0))) (hb : Flat S.c xs' sz es ∧ shd.1 = es.length ∧ es.length ≤ shd.2 ∧ shd.2 * cnt sz ≤ xs'.size) :
    ∃ S', S'.H = S.H ∧ Pres base S.c S.β S'.c S'.β ∧ Rel base S' (fr.setBox d (.arr sz es)) a (w.setRow (S.lam d) xs') ∧ S'.lam d = S.lam d ∧ S'.sh d = shd ∧ S'.bx = (fr.setBox d (.arr sz es)).boxes := by
  have hw := r.w
  have hother : ∀ k, k ≠ S.lam d → (w.setRow (S.lam d) xs').heap[k]? = S.c.w.heap[k]? := fun k h => by rw [setRow_other _ _ _ _ h, hw]
  have hnew : (w.setRow (S.lam d) xs').heap[S.lam d]? = some (.cells xs' el (0, 0)) := setRow_heap w _ xs xs' el (0, 0) hg
  let c' : Ctx := { S.c with w := w.setRow (S.lam d) xs' }
  have hκd : S.c.κ (S.lam d) = none := r.boxκ d b hd
  have hle : S.c.le c' := ⟨Nat.le_refl _, fun _ _ => rfl, fun k l hk => ⟨l, hk, Nat.le_refl _, fun o _ => cell_of_heap (hother k (fun e => by rw [e, hκd] at hk; cases hk))⟩⟩
  have hk : ∀ o k, S.β o = some k → c'.κ k = S.c.κ k ∧ c'.w.heap[k]? = S.c.w.heap[k]? := fun o k h => ⟨rfl, hother k (fun e => r.own.κ o k h (by rw [e]; exact hκd))⟩
  have hc : ∀ id o, id < S.c.n → c'.w.cell? ⟨S.c.ι id, o, none⟩ = S.c.w.cell? ⟨S.c.ι id, o, none⟩ := fun id o h => cell_of_heap (hother _ (r.boxι d b hd id h))
  let S' : Sc := { S with c := c', sh := fun d' => if d' = d then shd else S.sh d', bx := (fr.setBox d (.arr sz es)).boxes }
  have hsome : ∀ d', (look d' S.bx).isSome = true → (look d' (fr.setBox d (.arr sz es)).boxes).isSome = true := fun d' h => by
    simp only [Fr.setBox]
    rw [look_ins]
    by_cases e : d = d'
    · simp [e]
    · rw [if_neg e, ← r.bx]
      exact h
  have hm : ∀ v s, SV.hasLoc d s = false → RepS S v s → RepS S' v s := fun v s hp h => by
    have h1 := RepS.move hle hk hc h
    cases s with
    | unk => trivial
    | val x => exact h1
    | own g sz es => exact h1
    | bor id off sz es => exact h1
    | loc d' off => exact ⟨hsome d' h1.1, h1.2⟩
    | lsl d' =>
      have e : d' ≠ d := by simpa [SV.hasLoc] using hp
      exact ⟨hsome d' h1.1, by simp only [S']; rw [if_neg e]; exact h1.2⟩
  have hsz : c'.w.heap.size = S.c.w.heap.size := by simp [c', hw]
  refine ⟨S', rfl, ⟨hle, by rw [hsz]; exact Nat.le_refl _, fun k hk' => ⟨hother k (fun e => hk' (.inl (by rw [e]; exact r.boxbase d b hd))), rfl⟩, by simp only [S', c']; rw [hw]; exact ⟨rfl, rfl⟩⟩, {
    w := rfl
    defers := r.defers
    heap := {
      n := r.heap.n
      obj := fun id o ho => by
        have hid : id < S.c.n := by rw [r.heap.n]; exact (List.getElem?_eq_some_iff.1 ho).1
        exact ObjOK.move hle hk hid (hother _ (r.boxι d b hd id hid)) (r.heap.obj id o ho)
      κ := r.heap.κ
      inj := r.heap.inj }
    own := {
      blk := fun o k h => by
        obtain ⟨ys, el', hh⟩ := r.own.blk o k h
        exact ⟨ys, el', by rw [(hk o k h).2]; exact hh⟩
      κ := r.own.κ
      inj := r.own.inj
      lim := fun k l h => by rw [hsz]; exact r.own.lim k l h
      cl := r.own.cl }
    baseLe := by rw [hsz]; exact r.baseLe
    bx := rfl
    env := fun s e he => by
      have := RepE.mapS (p := SV.hasLoc d) (f := id) rfl hm (any_env hno he) (r.env s e he)
      rw [EV.mapS_id] at this
      exact this
    box := fun d' x hx => by
      rcases look_setBox hx with ⟨rfl, rfl⟩ | ⟨hne, hx⟩
      · exact ⟨xs', el, hnew, hb.1.mono hle, by simp only [S', if_true]; exact hb.2⟩
      · have h0 := r.box d' x hx
        have hne' : S.lam d' ≠ S.lam d := fun e => hne (r.boxinj d' d x b hx hd e)
        cases x with
        | plain cs =>
          obtain ⟨ys, el', h1, h2⟩ := h0
          exact ⟨ys, el', by simp only [S', c']; rw [hother _ hne']; exact h1, RepA.mono hle h2⟩
        | rich l =>
          obtain ⟨ys, el', h1, h2⟩ := h0
          refine ⟨ys, el', by simp only [S', c']; rw [hother _ hne']; exact h1, ?_⟩
          have := RepL.mapS (p := SV.hasLoc d) (f := id) rfl hm (any_box hno hx) h2
          simpa using this
        | arr z fs =>
          obtain ⟨ys, el', h1, h2, h3⟩ := h0
          exact ⟨ys, el', by simp only [S', c']; rw [hother _ hne']; exact h1, h2.mono hle, by simp only [S']; rw [if_neg hne]; exact h3⟩
    boxκ := fun d' x hx => by
      rcases look_setBox hx with ⟨rfl, rfl⟩ | ⟨hne, hx⟩
      · exact hκd
      · exact r.boxκ d' x hx
    boxι := fun d' x hx => by
      rcases look_setBox hx with ⟨rfl, rfl⟩ | ⟨hne, hx⟩
      · exact r.boxι d' b hd
      · exact r.boxι d' x hx
    boxinj := fun d1 d2 b1 b2 h1 h2 e => by
      have g1 : ∃ x, look d1 fr.boxes = some x := by
        rcases look_setBox h1 with ⟨rfl, _⟩ | ⟨_, h⟩
        · exact ⟨b, hd⟩
        · exact ⟨_, h⟩
      have g2 : ∃ x, look d2 fr.boxes = some x := by
        rcases look_setBox h2 with ⟨rfl, _⟩ | ⟨_, h⟩
        · exact ⟨b, hd⟩
        · exact ⟨_, h⟩
      obtain ⟨x1, g1⟩ := g1
      obtain ⟨x2, g2⟩ := g2
      exact r.boxinj d1 d2 x1 x2 g1 g2 e
    boxbase := fun d' x hx => by
      rcases look_setBox hx with ⟨rfl, rfl⟩ | ⟨hne, hx⟩
      · exact r.boxbase d' b hd
      · exact r.boxbase d' x hx
    tokbase := r.tokbase
    mgd := r.mgd }, rfl, by simp [S'], rfl⟩

theorem frzK_ok {base : Bs} {S : Sc} {fr : Fr} {a : Act} {Q : R → Prop} (r : Rel base S fr a w) {d : Nat} {K : Fr → Tr R} (h : (frzK d fr K).All Q) :
    ∃ S' fr', S'.H = S.H ∧ Pres base S.c S.β S'.c S'.β ∧ Rel base S' fr' a w ∧ (K fr').All Q := by
  unfold frzK at h
  split at h
  · rename_i sz es hd
    cases hb : fr.any (SV.has (tokOf d 1)) <;> simp only [hb, cond_true, cond_false] at h
    · obtain ⟨S', e, p, r'⟩ := r.frz hd hb
      exact ⟨S', _, e, p, r', h⟩
    · exact h.elim
  · exact h.elim
theorem frzL_ok {base : Bs} {a : Act} {Q : R → Prop} : ∀ (xs : List Operand) {S : Sc} {fr : Fr} {K : Fr → Tr R}, Rel base S fr a w → (frzL xs fr K).All Q →
    ∃ S' fr', S'.H = S.H ∧ Pres base S.c S.β S'.c S'.β ∧ Rel base S' fr' a w ∧ (K fr').All Q
  | [], S, fr, K, r, h => ⟨S, fr, rfl, Pres.refl _ _ _ _, r, h⟩
  | x :: xs, S, fr, K, r, h => by
    unfold frzL at h
    split at h
    · obtain ⟨S1, fr1, e1, p1, r1, h⟩ := frzK_ok r h
      obtain ⟨S2, fr2, e2, p2, r2, h⟩ := frzL_ok xs r1 h
      exact ⟨S2, fr2, e2.trans e1, p1.trans p2, r2, h⟩
    · exact frzL_ok xs r h

/-! ### Elements -/
theorem mul_div {off k : Nat} (h : alignC off k = true) (hk : 0 < k) : divC off k * k = off := by
  unfold alignC at h
  unfold divC
  cases h1 : k == 1 <;> simp only [h1, cond_true, cond_false] at h ⊢
  · simpa using h
  · have : k = 1 := by simpa using h1
    rw [this, Nat.mul_one]
theorem mulC_eq {n k : Nat} : mulC n k = n * k := by
  unfold mulC
  cases h1 : k == 1 <;> simp only [cond_true, cond_false]
  have : k = 1 := by simpa using h1
  rw [this, Nat.mul_one]

theorem Flat.load {c : Ctx} {xs : Array Value} {es : List AVal} {t : TypeId} {i off : Nat} (hF : Flat c xs (shp P t) es) (hel : elOk P t = true) (hi : i < es.length) (ho : i * szOf P t = off) :
    off + (bif aggT P t then szOf P t else 1) ≤ xs.size ∧ Rep c (bif aggT P t then .agg ((List.range (szOf P t)).map fun j => xs.getD (off + j) undef).toArray else xs.getD off undef) (es.getD i .undef) := by
  obtain ⟨hpos, hcnt⟩ := elOk_spec hel
  have hok := hF.ok (es.getD i .undef) (getD_mem hi)
  have hle : (i + 1) * szOf P t ≤ es.length * szOf P t := Nat.mul_le_mul_right _ hi
  rw [Nat.succ_mul] at hle
  have hlen := hF.len
  rw [hcnt] at hlen
  have hrep := hF.rep i
  rw [hcnt] at hrep
  cases ha : aggT P t <;> simp only [cond_true, cond_false]
  · refine ⟨by omega, ?_⟩
    have h1 := hrep 0 hi hpos
    rw [ho, Nat.add_zero] at h1
    have hag : (es.getD i .undef).isAgg = false := by rw [hok.1, shp_agg, ha]
    have e1 : (es.getD i .undef).cells = [es.getD i .undef] := by
      generalize es.getD i .undef = v at hag
      cases v <;> first | rfl | simp [AVal.isAgg] at hag
    rw [e1] at h1
    exact h1
  · refine ⟨by omega, ?_⟩
    have hag : (es.getD i .undef).isAgg = true := by rw [hok.1, shp_agg, ha]
    have e1 := isAgg_spec hag
    rw [e1]
    refine .agg _ _ (by rw [hok.2.1, hcnt]; simp) hok.2.2 (fun j hj => ?_)
    have hj' : j < szOf P t := by rw [hok.2.1, hcnt] at hj; exact hj
    rw [getD_range _ hj', ← ho]
    exact hrep j hi hj'

theorem Flat.put {c : Ctx} {xs zs ys : Array Value} {sz : Nat} {es : List AVal} {i : Nat} {v : AVal} (h : Flat c xs sz es) (hi : i < es.length) (hv : okEl sz v) (hr : RepA c ys v.cells)
    (hz : zs.toList = spliceAt (i * cnt sz) ys.toList xs.toList) : Flat c zs sz (es.set i v) ∧ zs.size = xs.size := by
  have hlen : ys.toList.length = cnt sz := by rw [Array.length_toList, hr.1, hv.2.1]
  have hfit : i * cnt sz + ys.toList.length ≤ xs.toList.length := by
    rw [hlen, Array.length_toList]
    have : (i + 1) * cnt sz ≤ es.length * cnt sz := Nat.mul_le_mul_right _ hi
    rw [Nat.succ_mul] at this
    have := h.len
    omega
  have hzs : zs.size = xs.size := by
    rw [← Array.length_toList, hz, spliceAt_length hfit, Array.length_toList]
  refine ⟨⟨by simp [hzs]; exact h.len, fun e he => ?_, fun i' j hi' hj => ?_⟩, hzs⟩
  · rcases List.mem_or_eq_of_mem_set he with he | rfl
    · exact h.ok e he
    · exact hv
  · simp only [List.length_set] at hi'
    rw [arr_getD, hz, spliceAt_getD _ hfit, hlen]
    by_cases e : i' = i
    · subst e
      rw [if_pos ⟨by omega, by omega⟩]
      have e2 : i' * cnt sz + j - i' * cnt sz = j := by omega
      have e3 : (es.set i' v).getD i' .undef = v := by simp [hi]
      rw [e2, e3, ← arr_getD]
      exact (hr.2 j (by rw [hv.2.1]; exact hj)).1
    · rw [if_neg (fun hh => ?_)]
      · have e3 : (es.set i v).getD i' .undef = es.getD i' .undef := by
          simp only [List.getD_eq_getElem?_getD]
          rw [List.getElem?_set_ne (fun h => e h.symm)]
        rw [e3, ← arr_getD]
        exact h.rep i' j hi' hj
      · have hlt : i' * cnt sz + j - i * cnt sz < cnt sz := by omega
        have := div_cell (i := i') (i' := i) hj hlt (by omega)
        exact e this.1

/-- append, to the frame's own array. -/
theorem appendArr_ok {base : Bs} {S : Sc} {fr : Fr} {a : Act} {t ty e tr : TypeId} {dy : TypeDesc} {d s : Nat} {vx vy : Value} {es ys : List AVal}
    (r : Rel base S fr a w) (hs : s < a.tmps.size) (ht : P.underlying t = some (.slice e)) (hty : P.underlying ty = some dy) (hni : ∀ k, dy ≠ .int k) (hel : elOk P e = true) (hb : 0 < bytesOf P e)
    (hmax : (es.length + ys.length) * bytesOf P e ≤ roomB (bytesOf P e)) (hd : look d fr.boxes = some (.arr (shp P e) es)) (rx : RepS S vx (.lsl d))
    (hsrc : ∃ news, (∀ w : World, w.heap = S.c.w.heap → (Builtin.firstCells (szOf P e) ys.length vy).run P w = .ok news w) ∧ (∀ w : World, (Builtin.lenOf vy).run P w = .ok ys.length w) ∧ news.size = ys.length * cnt (shp P e) ∧ Flat S.c news (shp P e) ys) :
    ∃ v w' S', (Builtin.append_ #[t, ty] tr #[vx, vy]).run P w = .ok v w' ∧ Pres base S.c S.β S'.c S'.β ∧ S'.H = S.H ∧
      Rel base S' (((fr.mapS (SV.noLoc d)).setBox d (.arr (shp P e) (es ++ ys))).set s (.one (.lsl d))) (a.put (some s) v) w' := by
  obtain ⟨hpos, hcnt⟩ := elOk_spec hel
  obtain ⟨news, hn1, hn2, hn3, hn4⟩ := hsrc
  obtain ⟨z, hz, hzs⟩ := zero_ok (P := P) hel S.c
  have hw := r.w
  obtain ⟨_, rfl⟩ := rx
  obtain ⟨xs, el, hx, hF, hs1, hs2, hs3⟩ := r.box d _ hd
  rw [hs1]
  have hx' : w.heap[S.lam d]? = some (.cells xs el (0, 0)) := by rw [← hw]; exact hx
  have r1 := r.noLoc d
  have hno := noLoc_has d fr
  have hd1 : look d (fr.mapS (SV.noLoc d)).boxes = some (.arr (shp P e) es) := by
    simp only [Fr.mapS, look_map, hd]; rfl
  have hlen : (es ++ ys).length = es.length + ys.length := List.length_append
  have hlenF := hF.len
  rw [hcnt] at hlenF hs3
  by_cases hfit : es.length + ys.length ≤ (S.sh d).2
  · have hnl : news.toList.length = ys.length * szOf P e := by rw [Array.length_toList, hn3, hcnt]
    have hfit' : es.length * szOf P e + ys.length * szOf P e ≤ xs.size := by
      have : (es.length + ys.length) * szOf P e ≤ (S.sh d).2 * szOf P e := Nat.mul_le_mul_right _ hfit
      rw [Nat.add_mul] at this
      omega
    have hones : ∀ v ∈ news.toList, v.oneCell' = true := fun v hv => by
      obtain ⟨k, hk, rfl⟩ := List.getElem_of_mem hv
      rw [hnl] at hk
      have h1 : k / szOf P e < ys.length := Nat.div_lt_of_lt_mul (by rw [Nat.mul_comm]; exact hk)
      have h2 : k % szOf P e < szOf P e := Nat.mod_lt _ hpos
      have := hn4.rep (k / szOf P e) (k % szOf P e) h1 (by rw [hcnt]; exact h2)
      rw [hcnt] at this
      have e1 : k / szOf P e * szOf P e + k % szOf P e = k := by rw [Nat.mul_comm]; exact Nat.div_add_mod _ _
      rw [e1] at this
      have hok := hn4.ok (ys.getD (k / szOf P e) .undef) (by simp [h1])
      have hk2 : k < news.size := by rw [← Array.length_toList, hnl]; exact hk
      have e2 : news.getD k undef = news.toList[k] := by simp [hk2]
      rw [e2] at this
      refine Rep.cellv this (hok.2.2 _ ?_)
      have hlt : k % szOf P e < (ys.getD (k / szOf P e) .undef).cells.length := by rw [hok.2.1, hcnt]; exact h2
      exact getD_mem hlt
    have hst0 := run_storeCells_at P (S.lam d) (es.length * szOf P e) el news.toList 0 xs w hx' (by rw [hnl]; omega) hones
    obtain ⟨spl, hsp⟩ : ∃ x : Array Value, x = (xs.toList.take (es.length * szOf P e) ++ news.toList ++ xs.toList.drop (es.length * szOf P e + news.toList.length)).toArray := ⟨_, rfl⟩
    have hst : (storeCells ⟨S.lam d, es.length * szOf P e, none⟩ news.toList).run P w = .ok () (w.setRow (S.lam d) spl) := by rw [hsp]; exact hst0
    have hrun := append_room (P := P) (w := w) (tr := tr) (base := some ⟨S.lam d, 0, none⟩) ht hty hni hpos (hn1 w (by rw [hw])) (hn2 w) hfit (fun a' ha' => by
      simp only [Option.some.injEq] at ha'
      subst ha'
      rw [add_at, Nat.zero_add]
      exact hst) (fun h => by cases h)
    have hspl : spl.toList = spliceAt (es.length * szOf P e) news.toList xs.toList := by rw [hsp]; rfl
    have hfl : es.length * szOf P e + news.toList.length ≤ xs.toList.length := by rw [hnl, Array.length_toList]; omega
    have hget : ∀ j, spl.getD j undef =
        if es.length * szOf P e ≤ j ∧ j < es.length * szOf P e + news.toList.length then news.getD (j - es.length * szOf P e) undef else xs.getD j undef := fun j => by
      rw [arr_getD, hspl, spliceAt_getD _ hfl, ← arr_getD, ← arr_getD]
    have hsize : spl.size = xs.size := by
      rw [← Array.length_toList, hspl, spliceAt_length hfl, Array.length_toList]
    have hFl : Flat S.c spl (shp P e) (es ++ ys) := by
      refine ⟨by rw [hlen, hcnt, hsize, Nat.add_mul]; exact hfit', fun x hxm => ?_, fun i j hi hj => ?_⟩
      · rcases List.mem_append.1 hxm with hxm | hxm
        · exact hF.ok x hxm
        · exact hn4.ok x hxm
      · rw [hlen] at hi
        rw [hget, hnl, hcnt]
        rw [hcnt] at hj
        by_cases h1 : i < es.length
        · have hlt := cell_lt h1 hj
          rw [if_neg (by omega)]
          have e2 : (es ++ ys).getD i .undef = es.getD i .undef := by
            simp only [List.getD_eq_getElem?_getD]
            rw [List.getElem?_append_left h1]
          rw [e2]
          have h5 := hF.rep i j h1 (by rw [hcnt]; exact hj)
          rw [hcnt] at h5
          exact h5
        · have h2 : i - es.length < ys.length := by omega
          have hlt := cell_lt h2 hj
          have hi' : (i - es.length) * szOf P e = i * szOf P e - es.length * szOf P e := Nat.sub_mul _ _ _
          have hge : es.length * szOf P e ≤ i * szOf P e := Nat.mul_le_mul_right _ (by omega)
          rw [if_pos ⟨by omega, by omega⟩]
          have e1 : i * szOf P e + j - es.length * szOf P e = (i - es.length) * szOf P e + j := by omega
          have e2 : (es ++ ys).getD i .undef = ys.getD (i - es.length) .undef := by
            simp only [List.getD_eq_getElem?_getD]
            rw [List.getElem?_append_right (by omega)]
          rw [e1, e2]
          have h5 := hn4.rep (i - es.length) j h2 (by rw [hcnt]; exact hj)
          rw [hcnt] at h5
          exact h5
    obtain ⟨S', e1, p1, r2, el1, es1, eb1⟩ := r1.writeArr (sz := shp P e) (es := es ++ ys) (xs' := spl) (es.length + ys.length, (S.sh d).2) hno hd1 hx' ⟨hFl, hlen.symm, by rw [hlen]; exact hfit, by rw [hcnt, hsize]; exact hs3⟩
    refine ⟨_, _, S', hrun, p1, e1, r2.put (dst := some s) (e := .one (.lsl d)) (fun d' h => by simp at h; omega) ⟨?_, ?_⟩⟩
    · rw [eb1]; simp only [Fr.setBox]; rw [look_ins]; simp
    · rw [el1, es1]
  · have holds : ∀ w' : World, w'.heap = w.heap → (Builtin.firstCells (szOf P e) es.length (.slice (some ⟨S.lam d, 0, none⟩) es.length (S.sh d).2)).run P w' = .ok ((List.range (es.length * szOf P e)).map fun k => xs.getD k undef).toArray w' := fun w' h' =>
      run_loadCells (P := P) w' ⟨S.lam d, 0, none⟩ (es.length * szOf P e) (fun k => xs.getD k undef) (fun k hk => by
        rw [add_at, Nat.zero_add]
        exact cellsAt (w := w') (by rw [h']; exact hx') (by omega))
    obtain ⟨rest, cap', hc', hrs, hrun⟩ := append_grow (P := P) (w := w) (tr := tr) ht hty hni hpos hb (fun w' h' => hn1 w' (by rw [h', hw])) holds (hn2 w) hfit hmax hz
    have ho3 : ((List.range (es.length * szOf P e)).map fun k => xs.getD k undef).toArray.size = es.length * cnt (shp P e) := by rw [hcnt]; simp
    have hFo : Flat S.c ((List.range (es.length * szOf P e)).map fun k => xs.getD k undef).toArray (shp P e) es := ⟨by rw [ho3]; exact Nat.le_refl _, hF.ok, fun i j hi hj => by
      have hlt := cell_lt hi hj
      rw [getD_range _ (by rw [← hcnt]; exact hlt)]
      exact hF.rep i j hi hj⟩
    have hfl := hFo.append (rest := rest) ho3 hn4
    obtain ⟨r2, p2⟩ := r1.sameHeap (w' := w.drew) rfl ⟨rfl, rfl⟩
    have hsz : (((List.range (es.length * szOf P e)).map fun k => xs.getD k undef).toArray ++ news ++ rest).size = cap' * cnt (shp P e) := by
      simp only [Array.size_append]
      rw [ho3, hn3, hrs, hzs, hcnt, ← Nat.add_mul, ← Nat.add_mul]
      congr 1
      omega
    obtain ⟨S', e1, p1, r3, el1, es1, eb1⟩ := r2.newBox0 (d := d) (el := e) (b := .arr (shp P e) (es ++ ys)) (xs := ((List.range (es.length * szOf P e)).map fun k => xs.getD k undef).toArray ++ news ++ rest)
      (es.length + ys.length, cap') hno ⟨hfl.mono p2.le, hlen.symm, by rw [hlen]; exact hc', by rw [hsz]; exact Nat.le_refl _⟩
    refine ⟨_, _, S', hrun, p2.trans p1, e1, r3.put (dst := some s) (e := .one (.lsl d)) (fun d' h => by simp at h; omega) ⟨?_, ?_⟩⟩
    · rw [eb1]; simp only [Fr.setBox]; rw [look_ins]; simp
    · rw [el1, es1]; rfl

/-- What was the frame's own array is a slice that nobody owns, and its row is marked. -/
theorem Rel.unbox {base : Bs} {S : Sc} {fr : Fr} {a : Act} (r : Rel base S fr a w) {d sz : Nat} {es : List AVal} {xs : Array Value} {el : TypeId} {fz : Nat × Nat} {w' : World} (hd : look d fr.boxes = some (.arr sz es)) (hx : w.heap[S.lam d]? = some (.cells xs el (0, 0)))
    (hw' : w'.heap = w.heap.setIfInBounds (S.lam d) (.cells xs el fz)) (hio : w'.os = w.os ∧ w'.output = w.output) :
    ∃ S', S'.H = S.H ∧ Pres base S.c S.β S'.c S'.β ∧ Rel base S' ((fr.del d).mapS (SV.noLoc d)) a w' ∧ Rep S'.c (.slice (some ⟨S.lam d, 0, none⟩) (S.sh d).1 (S.sh d).2) (.sl false sz es) := by
  obtain ⟨ys, el', hy, hF, hs1, hs2, hs3⟩ := r.box d _ hd
  have hw := r.w
  rw [hw] at hy
  rw [hx] at hy
  simp only [Option.some.injEq, Go.Obj.cells.injEq] at hy
  obtain ⟨rfl, rfl, _⟩ := hy
  have hκd := r.boxκ d _ hd
  have hι := r.boxι d _ hd
  have hlt : S.lam d < w.heap.size := lt_of_heap hx
  have hother : ∀ b, b ≠ S.lam d → w'.heap[b]? = S.c.w.heap[b]? := fun b h => by rw [hw', hw, Array.getElem?_setIfInBounds_ne (Ne.symm h)]
  have hnew : w'.heap[S.lam d]? = some (.cells xs el fz) := by rw [hw', Array.getElem?_setIfInBounds_self_of_lt hlt]
  have hsz : w'.heap.size = S.c.w.heap.size := by rw [hw', Array.size_setIfInBounds, hw]
  let c' : Ctx := { S.c with w := w', κ := fun b => if b = S.lam d then some (es.length * cnt sz) else S.c.κ b }
  have hκ : ∀ b, b ≠ S.lam d → c'.κ b = S.c.κ b := fun b h => by simp only [c']; rw [if_neg h]
  have hle : S.c.le c' := ⟨Nat.le_refl _, fun _ _ => rfl, fun b l h => by
    have hb : b ≠ S.lam d := fun e => by rw [e, hκd] at h; cases h
    exact ⟨l, by rw [hκ b hb]; exact h, Nat.le_refl _, fun o _ => cell_of_heap (hother b hb)⟩⟩
  have hno : ∀ o, S.β o ≠ some (S.lam d) := fun o ho => r.own.κ o _ ho hκd
  have hk : ∀ o b, S.β o = some b → c'.κ b = S.c.κ b ∧ c'.w.heap[b]? = S.c.w.heap[b]? := fun o b h => by
    have hb : b ≠ S.lam d := fun e => hno o (by rw [← e]; exact h)
    exact ⟨hκ b hb, hother b hb⟩
  have hc : ∀ id o, id < S.c.n → c'.w.cell? ⟨S.c.ι id, o, none⟩ = S.c.w.cell? ⟨S.c.ι id, o, none⟩ := fun id o h => cell_of_heap (hother _ (hι id h))
  let fr' : Fr := (fr.del d).mapS (SV.noLoc d)
  let S' : Sc := { S with c := c', bx := fr'.boxes }
  have hlook : ∀ d', look d' fr'.boxes = if d' = d then none else (look d' fr.boxes).map (Box.mapS (SV.noLoc d)) := fun d' => by
    simp only [fr', Fr.mapS, look_map]
    rw [show (fr.del d).boxes = delB d fr.boxes from rfl, look_delB]
    by_cases e : d' = d
    · rw [if_pos e, if_pos e]; rfl
    · rw [if_neg e, if_neg e]
  have hsome : ∀ d', d' ≠ d → (look d' S.bx).isSome = true → (look d' fr'.boxes).isSome = true := fun d' e h => by
    rw [hlook, if_neg e, Option.isSome_map, ← r.bx]; exact h
  have hm : ∀ v s, (fun _ : SV => false) s = false → RepS S v s → RepS S' v (SV.noLoc d s) := fun v s _ h => by
    have h1 := RepS.move hle hk hc h
    cases s with
    | unk => trivial
    | val x => exact h1
    | own g' z fs => exact h1
    | bor id off z fs => exact h1
    | loc d' off =>
      simp only [SV.noLoc]
      cases hdd : d' == d
      · have e : d' ≠ d := by simpa using hdd
        exact ⟨hsome d' e h.1, h.2⟩
      · trivial
    | lsl d' =>
      simp only [SV.noLoc]
      cases hdd : d' == d
      · have e : d' ≠ d := by simpa using hdd
        exact ⟨hsome d' e h.1, h.2⟩
      · trivial
  have hbk : ∀ d' b', look d' fr'.boxes = some b' → d' ≠ d ∧ ∃ b0, look d' fr.boxes = some b0 ∧ b' = b0.mapS (SV.noLoc d) := fun d' b' h => by
    rw [hlook] at h
    by_cases e : d' = d
    · rw [if_pos e] at h; cases h
    · rw [if_neg e] at h
      cases h0 : look d' fr.boxes with
      | none => simp [h0] at h
      | some b0 => simp [h0] at h; exact ⟨e, b0, rfl, h.symm⟩
  have hbb := r.boxbase d _ hd
  have hkd : c'.κ (S.lam d) = some (es.length * cnt sz) := by simp [c']
  have hbl : ∀ {d' b0}, look d' fr.boxes = some b0 → d' ≠ d → S.lam d' ≠ S.lam d := fun h0 e e2 => e (r.boxinj _ d _ _ h0 hd e2)
  refine ⟨S', rfl, ⟨hle, by simp only [S', c']; rw [hsz]; exact Nat.le_refl _, fun b hb => by
    have hb' : b ≠ S.lam d := fun e => hb (by rw [e]; exact .inl hbb)
    exact ⟨hother b hb', hκ b hb'⟩, by simp only [S', c']; rw [hw]; exact hio⟩, {
    w := rfl
    defers := r.defers
    heap := {
      n := r.heap.n
      obj := fun id o ho => by
        have hid : id < S.c.n := by rw [r.heap.n]; exact (List.getElem?_eq_some_iff.1 ho).1
        exact ObjOK.move hle hk hid (hother _ (hι id hid)) (r.heap.obj id o ho)
      κ := fun id hid => by rw [hκ _ (hι id hid)]; exact r.heap.κ id hid
      inj := r.heap.inj }
    own := {
      blk := fun o b h => by
        obtain ⟨zs, e2, h2⟩ := r.own.blk o b h
        exact ⟨zs, e2, by rw [(hk o b h).2]; exact h2⟩
      κ := fun o b h => by rw [(hk o b h).1]; exact r.own.κ o b h
      inj := r.own.inj
      lim := fun b l h => by
        simp only [S', c'] at h ⊢
        rw [hsz]
        by_cases e : b = S.lam d
        · rw [e, hw]; exact hlt
        · rw [if_neg e] at h; exact r.own.lim b l h
      cl := r.own.cl }
    baseLe := by simp only [S', c']; rw [hsz]; exact r.baseLe
    bx := rfl
    env := fun s e he => by
      have he' : look s (fr.env.map fun p => (p.1, p.2.mapS (SV.noLoc d))) = some e := he
      rw [look_map] at he'
      cases h0 : look s fr.env with
      | none => simp [h0] at he'
      | some e0 => simp [h0] at he'; subst he'; exact RepE.mapS rfl hm (any_env (any_false fr) h0) (r.env s e0 h0)
    box := fun d' b' h => by
      obtain ⟨e, b0, h0, rfl⟩ := hbk d' b' h
      have hb := r.box d' b0 h0
      have hne := hbl h0 e
      cases b0 with
      | plain cs =>
        obtain ⟨zs, e2, h1, h2⟩ := hb
        exact ⟨zs, e2, by simp only [S', c']; rw [hother _ hne]; exact h1, RepA.mono hle h2⟩
      | rich l =>
        obtain ⟨zs, e2, h1, h2⟩ := hb
        exact ⟨zs, e2, by simp only [S', c']; rw [hother _ hne]; exact h1, RepL.mapS rfl hm (any_box (any_false fr) h0) h2⟩
      | arr z fs =>
        obtain ⟨zs, e2, h1, h2, h3⟩ := hb
        exact ⟨zs, e2, by simp only [S', c']; rw [hother _ hne]; exact h1, h2.mono hle, h3⟩
    boxκ := fun d' b' h => by
      obtain ⟨e, b0, h0, rfl⟩ := hbk d' b' h
      simp only [S']
      rw [hκ _ (hbl h0 e)]; exact r.boxκ d' b0 h0
    boxι := fun d' b' h => by obtain ⟨e, b0, h0, rfl⟩ := hbk d' b' h; exact r.boxι d' b0 h0
    boxinj := fun d1 d2 b1 b2 h1 h2 => by
      obtain ⟨_, x1, k1, rfl⟩ := hbk d1 b1 h1
      obtain ⟨_, x2, k2, rfl⟩ := hbk d2 b2 h2
      exact r.boxinj d1 d2 x1 x2 k1 k2
    boxbase := fun d' b' h => by obtain ⟨e, b0, h0, rfl⟩ := hbk d' b' h; exact r.boxbase d' b0 h0
    tokbase := r.tokbase
    mgd := r.mgd }, ?_⟩
  rw [hs1]
  exact (hF.mono hle).rep_slice (c := c') (fz := fz) hnew hkd (Nat.le_refl _) hs2 (by simp)

theorem run_mark {src dst e : TypeId} {b len cap : Nat} {xs : Array Value} {el : TypeId} (hs : P.underlying src = some (.slice e)) (hd : src = dst) (he : P.underlying e = some (.int .u8)) (hx : w.heap[b]? = some (.cells xs el (0, 0))) :
    ∃ w', (convert src dst (.slice (some ⟨b, 0, none⟩) len cap)).run P w = .ok (.slice (some ⟨b, 0, none⟩) len cap) w' ∧ w'.heap = w.heap.setIfInBounds b (.cells xs el (xs.size, xs.size + 1)) ∧ w'.os = w.os ∧ w'.output = w.output := by
  subst hd
  have hsh : w.shape? b = some (el, xs.size) := by unfold World.shape?; rw [hx]
  refine ⟨w.freeze ⟨b, xs.size, none⟩ 1, by simp [convert, run_underlying hs, run_underlying he, markStringish, hsh], ?_, ?_⟩
  · unfold World.freeze
    rw [if_neg (by decide)]
    simp only
    apply Array.ext_getElem?
    intro i
    obtain ⟨hlt, hxx⟩ := Array.getElem?_eq_some_iff.1 hx
    by_cases h : i = b
    · subst h
      rw [Array.getElem?_modify, Array.getElem?_setIfInBounds_self_of_lt hlt]
      simp [hx]
    · rw [Array.getElem?_modify, Array.getElem?_setIfInBounds_ne (Ne.symm h)]
      simp [Ne.symm h]
  · unfold World.freeze
    rw [if_neg (by decide)]
    exact ⟨rfl, rfl⟩
end Go.Weave
