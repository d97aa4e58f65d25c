/- append; stores into local variables and managed objects. -/
import Derived.Test.YtjaadkgohjbadaaWvL
namespace Go.Weave
variable {P : Program} {w : World} {R : Type} {Q : R → Prop}

/-- A local variable is written. -/
theorem Rel.writeBox {base : Bs} {S : Sc} {fr : Fr} {a : Act} (r : Rel base S fr a w) {d : Nat} {b b' : Box} {xs xs' : Array Value} {el : TypeId} (hd : look d fr.boxes = some b) (hg : w.heap[S.lam d]? = some (.cells xs el (0, 0)))
    (hb : match b' with | .plain cs => RepA S.c xs' cs | .rich l => RepL S xs' l | .arr sz es => Flat S.c xs' sz es ∧ (S.sh d).1 = es.length ∧ es.length ≤ (S.sh d).2 ∧ (S.sh d).2 * cnt sz ≤ xs'.size) :
    ∃ S', S'.H = S.H ∧ Pres base S.c S.β S'.c S'.β ∧ Rel base S' (fr.setBox d b') a (w.setRow (S.lam d) xs') := by
  have hw := r.w
  have hother : ∀ k, k ≠ S.lam d → (w.setRow (S.lam d) xs').heap[k]? = S.c.w.heap[k]? := fun k h => by rw [setRow_other _ _ _ _ h, hw]
  have hnew : (w.setRow (S.lam d) xs').heap[S.lam d]? = some (.cells xs' el (0, 0)) := setRow_heap w _ xs xs' el (0, 0) hg
  let c' : Ctx := { S.c with w := w.setRow (S.lam d) xs' }
  have hκd : S.c.κ (S.lam d) = none := r.boxκ d b hd
  have hle : S.c.le c' := ⟨Nat.le_refl _, fun _ _ => rfl, fun k l hk => ⟨l, hk, Nat.le_refl _, fun o _ => cell_of_heap (hother k (fun e => by rw [e, hκd] at hk; cases hk))⟩⟩
  have hk : ∀ o k, S.β o = some k → c'.κ k = S.c.κ k ∧ c'.w.heap[k]? = S.c.w.heap[k]? := fun o k h => ⟨rfl, hother k (fun e => r.own.κ o k h (by rw [e]; exact hκd))⟩
  have hc : ∀ id o, id < S.c.n → c'.w.cell? ⟨S.c.ι id, o, none⟩ = S.c.w.cell? ⟨S.c.ι id, o, none⟩ := fun id o h => cell_of_heap (hother _ (r.boxι d b hd id h))
  let S' : Sc := { S with c := c', bx := (fr.setBox d b').boxes }
  have hsome : ∀ d', (look d' S.bx).isSome = true → (look d' (fr.setBox d b').boxes).isSome = true := fun d' h => by
    simp only [Fr.setBox]
    rw [look_ins]
    by_cases e : d = d'
    · simp [e]
    · rw [if_neg e, ← r.bx]
      exact h
  have hm : ∀ v s, RepS S v s → RepS S' v s := fun v s h => by
    have h1 := RepS.move hle hk hc h
    cases s with
    | unk => trivial
    | val x => exact h1
    | own g sz es => exact h1
    | bor id off sz es => exact h1
    | loc d' off => exact ⟨hsome d' h1.1, h1.2⟩
    | lsl d' => exact ⟨hsome d' h1.1, h1.2⟩
  have hsz : c'.w.heap.size = S.c.w.heap.size := by simp [c', hw]
  refine ⟨S', rfl, ⟨hle, by rw [hsz]; exact Nat.le_refl _, fun k hk' => ⟨hother k (fun e => hk' (.inl (by rw [e]; exact r.boxbase d b hd))), rfl⟩, by simp only [S', c']; rw [hw]; exact ⟨rfl, rfl⟩⟩, {
    w := rfl
    defers := r.defers
    heap := {
      n := r.heap.n
      obj := fun id o ho => by
        have hid : id < S.c.n := by rw [r.heap.n]; exact (List.getElem?_eq_some_iff.1 ho).1
        exact ObjOK.move hle hk hid (hother _ (r.boxι d b hd id hid)) (r.heap.obj id o ho)
      κ := r.heap.κ
      inj := r.heap.inj }
    own := {
      blk := fun o k h => by
        obtain ⟨ys, el', hh⟩ := r.own.blk o k h
        exact ⟨ys, el', by rw [(hk o k h).2]; exact hh⟩
      κ := r.own.κ
      inj := r.own.inj
      lim := fun k l h => by rw [hsz]; exact r.own.lim k l h
      cl := r.own.cl }
    baseLe := by rw [hsz]; exact r.baseLe
    bx := rfl
    env := fun s e he => RepE.map hm (r.env s e he)
    box := fun d' x hx => by
      rcases look_setBox hx with ⟨rfl, rfl⟩ | ⟨hne, hx⟩
      · cases x with
        | plain cs => exact ⟨xs', el, hnew, RepA.mono hle hb⟩
        | rich l => exact ⟨xs', el, hnew, RepL.map hm hb⟩
        | arr sz es => exact ⟨xs', el, hnew, hb.1.mono hle, hb.2⟩
      · have h0 := r.box d' x hx
        have hne' : S.lam d' ≠ S.lam d := fun e => hne (r.boxinj d' d x b hx hd e)
        cases x with
        | plain cs =>
          obtain ⟨ys, el', h1, h2⟩ := h0
          exact ⟨ys, el', by simp only [S', c']; rw [hother _ hne']; exact h1, RepA.mono hle h2⟩
        | rich l =>
          obtain ⟨ys, el', h1, h2⟩ := h0
          exact ⟨ys, el', by simp only [S', c']; rw [hother _ hne']; exact h1, RepL.map hm h2⟩
        | arr sz es =>
          obtain ⟨ys, el', h1, h2, h3⟩ := h0
          exact ⟨ys, el', by simp only [S', c']; rw [hother _ hne']; exact h1, h2.mono hle, h3⟩
    boxκ := fun d' x hx => by
      rcases look_setBox hx with ⟨rfl, rfl⟩ | ⟨hne, hx⟩
      · exact hκd
      · exact r.boxκ d' x hx
    boxι := fun d' x hx => by
      rcases look_setBox hx with ⟨rfl, rfl⟩ | ⟨hne, hx⟩
      · exact r.boxι d' b hd
      · exact r.boxι d' x hx
    boxinj := fun d1 d2 b1 b2 h1 h2 e => by
      have g1 : ∃ x, look d1 fr.boxes = some x := by
        rcases look_setBox h1 with ⟨rfl, _⟩ | ⟨_, h⟩
        · exact ⟨b, hd⟩
        · exact ⟨_, h⟩
      have g2 : ∃ x, look d2 fr.boxes = some x := by
        rcases look_setBox h2 with ⟨rfl, _⟩ | ⟨_, h⟩
        · exact ⟨b, hd⟩
        · exact ⟨_, h⟩
      obtain ⟨x1, g1⟩ := g1
      obtain ⟨x2, g2⟩ := g2
      exact r.boxinj d1 d2 x1 x2 g1 g2 e
    boxbase := fun d' x hx => by
      rcases look_setBox hx with ⟨rfl, rfl⟩ | ⟨hne, hx⟩
      · exact r.boxbase d' b hd
      · exact r.boxbase d' x hx
    tokbase := r.tokbase
    mgd := r.mgd }⟩

def SV.isBor : SV → Bool | .bor _ _ _ _ => true | _ => false

theorem unbor_noBor (fr : Fr) : (fr.mapS SV.unbor).any SV.isBor = false := by
  have h0 : ∀ s : SV, (SV.unbor s).isBor = false := fun s => by cases s <;> rfl
  have h1 : ∀ c : CV, (c.mapS SV.unbor).any SV.isBor = false := fun c => by
    cases c with
    | one s => exact h0 s
    | agg l => simp [CV.mapS, CV.any, h0]
  have h2 : ∀ e : EV, (e.mapS SV.unbor).any SV.isBor = false := fun e => by
    cases e with
    | cv c => exact h1 c
    | tup l => simp [EV.mapS, EV.any, h1]
  have h3 : ∀ b : Box, (b.mapS SV.unbor).any SV.isBor = false := fun b => by
    cases b with
    | plain cs => rfl
    | rich l => simp [Box.mapS, Box.any, h0]
    | arr sz es => rfl
  simp [Fr.any, Fr.mapS, h2, h3]

/-- A managed object is written: no look into one is remembered. -/
theorem Rel.writeObj {base : Bs} {S : Sc} {fr : Fr} {a : Act} (r : Rel base S fr a w) (hnb : fr.any SV.isBor = false) {id : Nat} {o o' : Obj} {go : Go.Obj} {w' : World} {β' : Owner → Option Nat}
    (ho : S.H.objs[id]? = some o) (hw' : w'.heap = w.heap.setIfInBounds (S.c.ι id) go) (hio : w'.os = w.os ∧ w'.output = w.output) (hβ : ∀ ow, (∀ j, ow ≠ .cell id j) → β' ow = S.β ow) (hB : BRel S.c β')
    (hO : ∀ c' : Ctx, S.c.le c' → (∀ k b, β' k = some b → c'.κ b = S.c.κ b ∧ c'.w.heap[b]? = S.c.w.heap[b]?) → c'.w.heap[c'.ι id]? = some go → ObjOK c' β' id o') (hmg : ∀ j b, β' (.cell id j) = some b → base.ok b) :
    Rel base { S with c := { S.c with w := w' }, β := β', H := ⟨S.H.objs.set id o'⟩ } fr a w' ∧ Pres base S.c S.β { S.c with w := w' } β' := by
  have hw := r.w
  have hid : id < S.c.n := by rw [r.heap.n]; exact (List.getElem?_eq_some_iff.1 ho).1
  have hlt : S.c.ι id < w.heap.size := by rw [← hw]; exact r.heap.lt hid
  have hother : ∀ k, k ≠ S.c.ι id → w'.heap[k]? = S.c.w.heap[k]? := fun k h => by rw [hw', Array.getElem?_setIfInBounds_ne (Ne.symm h), hw]
  have hnew : w'.heap[S.c.ι id]? = some go := by rw [hw', Array.getElem?_setIfInBounds_self_of_lt hlt]
  let c' : Ctx := { S.c with w := w' }
  have hκ0 : S.c.κ (S.c.ι id) = none := r.heap.κ id hid
  have hle : S.c.le c' := ⟨Nat.le_refl _, fun _ _ => rfl, fun k l hk => ⟨l, hk, Nat.le_refl _, fun o _ => cell_of_heap (hother k (fun e => by rw [e, hκ0] at hk; cases hk))⟩⟩
  have hk : ∀ o k, S.β o = some k → c'.κ k = S.c.κ k ∧ c'.w.heap[k]? = S.c.w.heap[k]? := fun o k h => ⟨rfl, hother k (fun e => r.own.κ o k h (by rw [e]; exact hκ0))⟩
  have hk' : ∀ o k, β' o = some k → c'.κ k = S.c.κ k ∧ c'.w.heap[k]? = S.c.w.heap[k]? := fun o k h => ⟨rfl, hother k (fun e => hB.κ o k h (by rw [e]; exact hκ0))⟩
  have hsz : w'.heap.size = S.c.w.heap.size := by rw [hw', Array.size_setIfInBounds, hw]
  have hm : ∀ v s, SV.isBor s = false → RepS S v s → RepS { S with c := c', β := β', H := ⟨S.H.objs.set id o'⟩ } v s := fun v s hp h => by
    cases s with
    | unk => trivial
    | val x => exact Rep.mono hle h
    | own g sz es => exact ⟨Rep.mono hle h.1, by simp only; rw [hβ _ (fun j => by simp)]; exact h.2.move (hk _)⟩
    | bor id' off sz es => simp [SV.isBor] at hp
    | loc d off => exact h
    | lsl d => exact h
  have hne : ∀ id', id' < S.c.n → id' ≠ id → S.c.ι id' ≠ S.c.ι id := fun id' h e h' => e (r.heap.inj id' id h hid h')
  have hbi : ∀ d b, look d fr.boxes = some b → S.lam d ≠ S.c.ι id := fun d b h => Ne.symm (r.boxι d b h id hid)
  refine ⟨{
    w := rfl
    defers := r.defers
    heap := {
      n := by simp only [List.length_set]; exact r.heap.n
      obj := fun id' ox hox => by
        simp only at hox
        by_cases e : id' = id
        · subst e
          rw [List.getElem?_set_self (by rw [← r.heap.n]; exact hid)] at hox
          simp only [Option.some.injEq] at hox
          subst hox
          exact hO c' hle hk' hnew
        · rw [List.getElem?_set_ne (Ne.symm e)] at hox
          have hid' : id' < S.c.n := by rw [r.heap.n]; exact (List.getElem?_eq_some_iff.1 hox).1
          have h0 := ObjOK.move hle hk hid' (hother _ (hne id' hid' e)) (r.heap.obj id' ox hox)
          unfold ObjOK at h0 ⊢
          cases ox with
          | cells hs =>
            obtain ⟨xs, el, h1, h2, h3⟩ := h0
            exact ⟨xs, el, h1, h2, fun j hj => by
              simp only
              rw [hβ _ (fun j' e' => by cases e'; exact e rfl)]
              exact h3 j hj⟩
          | map kt es ck => exact h0
      κ := r.heap.κ
      inj := r.heap.inj }
    own := {
      blk := fun o k h => by
        obtain ⟨ys, el', hh⟩ := hB.blk o k h
        exact ⟨ys, el', by simp only; rw [(hk' o k h).2]; exact hh⟩
      κ := hB.κ
      inj := hB.inj
      lim := fun k l h => by simp only; rw [hsz]; exact r.own.lim k l h
      cl := hB.cl }
    baseLe := by simp only; rw [hsz]; exact r.baseLe
    bx := r.bx
    env := fun s e he => by
      have := RepE.mapS (p := SV.isBor) (f := _root_.id) rfl hm (any_env hnb he) (r.env s e he)
      rw [EV.mapS_id] at this
      exact this
    box := fun d b h => by
      have h0 := r.box d b h
      cases b with
      | plain cs =>
        obtain ⟨ys, el', h1, h2⟩ := h0
        exact ⟨ys, el', by simp only; rw [hother _ (hbi d _ h)]; exact h1, RepA.mono hle h2⟩
      | rich l =>
        obtain ⟨ys, el', h1, h2⟩ := h0
        refine ⟨ys, el', by simp only; rw [hother _ (hbi d _ h)]; exact h1, ?_⟩
        have := RepL.mapS (p := SV.isBor) (f := _root_.id) rfl hm (any_box hnb h) h2
        simpa using this
      | arr sz es =>
        obtain ⟨ys, el', h1, h2, h3⟩ := h0
        exact ⟨ys, el', by simp only; rw [hother _ (hbi d _ h)]; exact h1, h2.mono hle, h3⟩
    boxκ := r.boxκ
    boxι := r.boxι
    boxinj := r.boxinj
    boxbase := r.boxbase
    tokbase := fun g b h => by simp only at h; rw [hβ _ (fun j => by simp)] at h; exact r.tokbase g b h
    mgd := fun b h => by
      rcases h with ⟨id', hid', rfl⟩ | ⟨id', j, h⟩
      · exact r.mgd _ (.inl ⟨id', hid', rfl⟩)
      · by_cases e : id' = id
        · subst e; exact hmg j b h
        · simp only at h
          rw [hβ _ (fun j' e' => by cases e'; exact e rfl)] at h
          exact r.mgd _ (.inr ⟨id', j, h⟩) }, hle, by simp only; rw [hsz]; exact Nat.le_refl _, fun k hk'' => ⟨hother k (fun e => hk'' (by rw [e]; exact r.mgd _ (.inl ⟨id, hid, rfl⟩))), rfl⟩, by simp only; rw [hw]; exact hio⟩

theorem repC_toCells {S : Sc} {v : Value} {x : EV} {a : AVal} (r : RepE S v x) (h : x.toA = some a) : RepA S.c v.cells a.cells := Rep.cells (RepE.toA r h)

theorem run_storeVar {t : TypeId} {v : Value} {b off : Nat} {cur : Array Value} {el : TypeId} (hpos : 0 < szOf P t) (hs : v.cells.size = szOf P t) (h1 : ∀ x ∈ v.cells.toList, x.oneCell' = true)
    (hg : w.heap[b]? = some (.cells cur el (0, 0))) (hn : off + szOf P t ≤ cur.size) :
    ∃ xs, xs.toList = spliceAt off v.cells.toList cur.toList ∧ (Instr.storeAt t (.pointer (some ⟨b, off, none⟩)) v).run P w = .ok () (w.setRow b xs) := by
  have hst := run_storeCells_at P b off el v.cells.toList 0 cur w hg (by simp; omega) h1
  refine ⟨(spliceAt off v.cells.toList cur.toList).toArray, rfl, ?_⟩
  unfold Instr.storeAt storeVar
  simp only [Instr.sureAddr, Sem.run_bind, Sem.run_pure, Result.andThen_ok, run_size0 hpos]
  rw [if_neg (by rw [hs]; simp)]
  exact hst

theorem RepA.ones {c : Ctx} {xs : Array Value} {l : List AVal} (h : RepA c xs l) : ∀ x ∈ xs.toList, x.oneCell' = true := fun x hx => by
  obtain ⟨k, hk, rfl⟩ := List.getElem_of_mem hx
  have hk' : k < xs.size := by simpa using hk
  have := h.2 k (by rw [← h.1]; exact hk')
  have e : xs.getD k undef = xs.toList[k] := by simp [hk']
  rw [e] at this
  exact Rep.cellv this.1 this.2
theorem RepL.ones {S : Sc} {xs : Array Value} {l : List SV} (h : RepL S xs l) : ∀ x ∈ xs.toList, x.oneCell' = true := fun x hx => by
  obtain ⟨k, hk, rfl⟩ := List.getElem_of_mem hx
  have hk' : k < xs.size := by simpa using hk
  have := h.2 k (by rw [← h.1]; exact hk')
  have e : xs.getD k undef = xs.toList[k] := by simp [hk']
  rw [e] at this
  exact this.2

theorem splice_one {α : Type} {off : Nat} {v : α} {l : List α} (h : off < l.length) : spliceAt off [v] l = l.set off v := by
  simp only [spliceAt, List.length_singleton]
  rw [List.set_eq_take_append_cons_drop, if_pos h]
  simp

theorem splice_all {α : Type} {m l : List α} (h : m.length = l.length) : spliceAt 0 m l = m := by
  simp [spliceAt, h]

theorem cells_scalar {v : AVal} (h : v.isAgg = false) : v.cells = [v] := by cases v <;> first | rfl | simp [AVal.isAgg] at h

theorem KeysOk.set {H : Heap} {id : Nat} {cs : List HCell} (h : KeysOk P H) : KeysOk P ⟨H.objs.set id (.cells cs)⟩ := by
  intro i kt es c ho
  by_cases e : i = id
  · subst e
    by_cases hl : i < H.objs.length
    · simp only [List.getElem?_set_self hl, Option.some.injEq, reduceCtorEq] at ho
    · rw [List.getElem?_eq_none (by simp; omega)] at ho; cases ho
  · simp only at ho
    rw [List.getElem?_set_ne (Ne.symm e)] at ho
    exact h i kt es c ho

theorem setRow_set {g : Nat} {xs ys : Array Value} {el : TypeId} {fz : Nat × Nat} (hg : w.heap[g]? = some (.cells xs el fz)) : (w.setRow g ys).heap = w.heap.setIfInBounds g (.cells ys el fz) := by
  apply Array.ext_getElem?
  intro i
  by_cases e : i = g
  · subst e
    rw [setRow_heap w i xs ys el fz hg, Array.getElem?_setIfInBounds_self_of_lt (lt_of_heap hg)]
  · rw [setRow_other _ _ _ _ e, Array.getElem?_setIfInBounds_ne (Ne.symm e)]

theorem storeK_ok {base : Bs} {S : Sc} {fr : Fr} {a : Act} {t : TypeId} {va vx : Value} {ax x : EV} {K : Fr → Heap → Tr R} (r : Rel base S fr a w) (hko : KeysOk P S.H) (ra : RepE S va ax) (rx : RepE S vx x)
    (h : (storeK P t ax x fr S.H K).All Q) :
    ∃ w' S' fr', (Instr.storeAt t va vx).run P w = .ok () w' ∧ Pres base S.c S.β S'.c S'.β ∧ Rel base S' fr' a w' ∧ KeysOk P S'.H ∧ (K fr' S'.H).All Q := by
  unfold storeK at h
  obtain ⟨hb0, h⟩ := all_bif h
  simp only [Bool.and_eq_true, decide_eq_true_eq, Bool.or_eq_true, beq_iff_eq] at hb0
  obtain ⟨hpos, hsz1⟩ := hb0
  split at h
  · rename_i d off _
    obtain ⟨_, rfl⟩ : _ ∧ va = _ := ra
    split at h
    · rename_i cs hbx
      obtain ⟨v, hv, h⟩ := all_optK h
      obtain ⟨hb, h⟩ := all_bif h
      simp only [Bool.and_eq_true, decide_eq_true_eq] at hb
      obtain ⟨hsh, hfit⟩ := hb
      have rc := repC_toCells rx hv
      obtain ⟨xs, el, hg, hr⟩ := r.box d _ hbx
      rw [r.w] at hg
      have hlen : v.cells.length = szOf P t := by
        cases ha : aggT P t <;> simp only [ha, cond_true, cond_false] at hsh
        · rw [cells_scalar (by simpa using hsh)]
          have := hsz1.resolve_left (by simp [ha])
          simp [this]
        · exact (isAggOf_spec hsh).2.1
      obtain ⟨ys, hys, hrun⟩ := run_storeVar (P := P) (w := w) (t := t) (v := vx) (off := off) hpos (by rw [rc.1, hlen]) rc.ones hg (by rw [hr.1]; exact hfit)
      have hsp : (bif aggT P t then (bif off == 0 && cs.length == szOf P t then v.cells else spliceAt off v.cells cs) else cs.set off v) = spliceAt off v.cells cs := by
        cases ha : aggT P t <;> simp only [ha, cond_true, cond_false] at hsh ⊢
        · rw [cells_scalar (by simpa using hsh), splice_one (by omega)]
        · cases hz : (off == 0 && cs.length == szOf P t) <;> simp only [cond_true, cond_false]
          simp only [Bool.and_eq_true, beq_iff_eq] at hz
          rw [hz.1, splice_all (by omega)]
      rw [hsp] at h
      obtain ⟨S', e, hp, hr'⟩ := r.writeBox (b' := .plain (spliceAt off v.cells cs)) (xs' := ys) hbx hg (hr.splice rc (by omega) hys)
      exact ⟨_, S', _, hrun, hp, hr', by rw [e]; exact hko, by rw [e]; exact h⟩
    · rename_i cs hbx
      split at h
      · rename_i c _
        obtain ⟨hb, h⟩ := all_bif h
        simp only [Bool.and_eq_true, decide_eq_true_eq, beq_iff_eq] at hb
        obtain ⟨⟨hu, hlen⟩, hfit⟩ := hb
        have rc := RepC.cellsS (S := S) rx (fun e => by subst e; simp [CV.notUnk] at hu)
        obtain ⟨xs, el, hg, hr⟩ := r.box d _ hbx
        rw [r.w] at hg
        obtain ⟨ys, hys, hrun⟩ := run_storeVar (P := P) (w := w) (t := t) (v := vx) (off := off) hpos (by rw [rc.1, hlen]) rc.ones hg (by rw [hr.1]; exact hfit)
        obtain ⟨S', e, hp, hr'⟩ := r.writeBox (b' := .rich (spliceAt off c.cellsS cs)) (xs' := ys) hbx hg (hr.splice rc (by omega) hys)
        exact ⟨_, S', _, hrun, hp, hr', by rw [e]; exact hko, by rw [e]; exact h⟩
      · exact h.elim
    · exact h.elim
    · exact h.elim
  · rename_i id off _
    have rp : Rep S.c va (.obj id off) := ra
    cases rp with
    | obj _ _ hid =>
    have hbx : S.bx = fr.boxes := r.bx
    -- the row
    have row : ∀ cs, S.H.objs[id]? = some (.cells cs) → ∃ xs el, w.heap[S.c.ι id]? = some (.cells xs el (0, 0)) ∧ xs.size = cs.length ∧ ∀ j, j < cs.length → RepH S.c (S.β (.cell id j)) (xs.getD j undef) (cs.getD j (.val .undef)) := fun cs ho => by
      obtain ⟨xs, el, hg, h1, h2⟩ := r.heap.obj id _ ho
      rw [r.w] at hg
      exact ⟨xs, el, hg, h1, h2⟩
    -- cells of plain data, over cells that own nothing
    have vals : ∀ (cs : List HCell) (l : List AVal), S.H.objs[id]? = some (.cells cs) → RepA S.c vx.cells l → l.length = szOf P t → off + szOf P t ≤ cs.length →
        (K (fr.mapS SV.unbor) ⟨S.H.objs.set id (.cells (spliceAt off (l.map .val) cs))⟩).All Q →
        ∃ w' S' fr', (Instr.storeAt t (.pointer (some ⟨S.c.ι id, off, none⟩)) vx).run P w = .ok () w' ∧ Pres base S.c S.β S'.c S'.β ∧ Rel base S' fr' a w' ∧ KeysOk P S'.H ∧ (K fr' S'.H).All Q := fun cs l ho hl hlen hfit h => by
      obtain ⟨xs, el, hg, hx, hh⟩ := row cs ho
      obtain ⟨ys, hys, hrun⟩ := run_storeVar (P := P) (w := w) (t := t) (v := vx) (off := off) hpos (by rw [hl.1, hlen]) hl.ones hg (by rw [hx]; exact hfit)
      have r1 := r.unbor S.H S.β (fun _ => rfl) r.heap r.own r.mgd
      obtain ⟨r2, p2⟩ := r1.writeObj (unbor_noBor fr) (o' := .cells (spliceAt off (l.map .val) cs)) (go := .cells ys el) (β' := S.β) ho (setRow_set hg) ⟨rfl, rfl⟩ (fun _ _ => rfl) r.own (fun c' hle hk hg' => by
        refine ⟨ys, el, hg', ?_, fun j hj => ?_⟩
        · rw [← Array.length_toList, hys, spliceAt_length (by rw [Array.length_toList, Array.length_toList, hl.1, hlen, hx]; exact hfit), spliceAt_length (by simp; omega), Array.length_toList, hx]
        · rw [spliceAt_length (by simp; omega)] at hj
          rw [arr_getD, hys, spliceAt_getD _ (by rw [Array.length_toList, Array.length_toList, hl.1, hlen, hx]; exact hfit), spliceAt_getD _ (by simp; omega)]
          rw [Array.length_toList, hl.1, List.length_map]
          split
          · rename_i hjj
            have hj2 : j - off < l.length := by omega
            have e : (l.map HCell.val).getD (j - off) (.val .undef) = .val (l.getD (j - off) .undef) := by simp [hj2]
            rw [e, ← arr_getD]
            exact ⟨Rep.mono hle (hl.2 _ hj2).1, (hl.2 _ hj2).2⟩
          · rw [← arr_getD]
            exact (hh j hj).move hle (hk _)) (fun j b hb => r.mgd b (.inr ⟨id, j, hb⟩))
      exact ⟨_, _, _, hrun, p2, r2, hko.set, h⟩
    cases ha : aggT P t <;> simp only [ha, cond_true, cond_false] at h
    · have hs1 : szOf P t = 1 := hsz1.resolve_left (by simp [ha])
      split at h
      · rename_i s
        obtain ⟨p, hp, h⟩ := all_optK h
        obtain ⟨hc, hcell, h⟩ := all_optK h
        obtain ⟨cs, ho, hcs⟩ := heap_cell hcell
        have hlt : off < cs.length := (List.getElem?_eq_some_iff.1 hcs).1
        have hset : ∀ x, S.H.setCell id off x = ⟨S.H.objs.set id (.cells (cs.set off x))⟩ := fun x => by simp [Heap.setCell, ho]
        rcases hcellOf_spec hp with ⟨v, rfl, hv, rfl⟩ | ⟨g, sz, es, rfl, rfl⟩ | ⟨id', off', sz, es, rfl, rfl⟩
        · refine vals cs [v] ho ?_ (by simp [hs1]) (by omega) ?_
          · have := Rep.cells (show Rep S.c vx v from rx)
            rw [cells_scalar hv] at this
            exact this
          · simp only [stripO, hset] at h
            simpa [splice_one hlt] using h
        · simp only [stripO, hset] at h
          obtain ⟨xs, el, hg, hx, hh⟩ := row cs ho
          have hone : Cellv vx := Rep.cellv rx.1 rfl
          have hc1 : vx.cells = #[vx] := cells_one hone
          obtain ⟨ys, hys, hrun⟩ := run_storeVar (P := P) (w := w) (t := t) (v := vx) (off := off) hpos (by rw [hc1, hs1]; rfl) (by rw [hc1]; intro x hx; simp at hx; rw [hx]; exact hone) hg (by rw [hx, hs1]; omega)
          rw [hc1] at hys
          have hys' : ys.toList = xs.toList.set off vx := by rw [hys]; exact splice_one (by rw [Array.length_toList, hx]; exact hlt)
          let β1 : Owner → Option Nat := upd S.β (.tok g) none
          let β' : Owner → Option Nat := upd β1 (.cell id off) (S.β (.tok g))
          have hB : BRel S.c β' := by
            have hB1 : BRel S.c β1 := r.own.drop _
            cases hg' : S.β (.tok g) with
            | none =>
              have : β' = upd β1 (.cell id off) none := by simp [β', hg']
              rw [this]
              exact hB1.drop _
            | some b =>
              have : β' = upd β1 (.cell id off) (some b) := by simp [β', hg']
              rw [this]
              refine hB1.give (r.own.blk _ _ hg') (r.own.κ _ _ hg') (fun o' ho' => ?_) (fun i j e => by cases e; exact hid)
              by_cases e : o' = .tok g
              · subst e; simp [β1, upd] at ho'
              · simp only [β1] at ho'
                rw [upd_ne e] at ho'
                exact e (r.own.inj _ _ _ ho' hg')
          have r1 := r.strip g
          have r2 := r1.unbor S.H β1 (fun _ => rfl) r1.heap r1.own r1.mgd
          obtain ⟨r3, p3⟩ := r2.writeObj (unbor_noBor _) (o' := .cells (cs.set off (.own sz es))) (go := .cells ys el) (β' := β') ho (setRow_set hg) ⟨rfl, rfl⟩ (fun ow how => upd_ne (how off)) hB (fun c' hle hk hg' => by
            refine ⟨ys, el, hg', by rw [← Array.length_toList, hys']; simp [hx], fun j hj => ?_⟩
            rw [List.length_set] at hj
            rw [arr_getD, hys']
            by_cases e : j = off
            · subst e
              have e1 : (xs.toList.set j vx).getD j undef = vx := by
                have : j < xs.toList.length := by rw [Array.length_toList, hx]; exact hlt
                simp only [List.getD_eq_getElem?_getD]
                rw [List.getElem?_set_self this]
                rfl
              have e2 : (cs.set j (HCell.own sz es)).getD j (.val .undef) = .own sz es := by
                simp only [List.getD_eq_getElem?_getD]
                rw [List.getElem?_set_self hlt]
                rfl
              rw [e1, e2]
              refine ⟨Rep.mono hle rx.1, ?_⟩
              have e3 : β' (.cell id j) = S.β (.tok g) := upd_eq
              rw [e3]
              exact rx.2.move (fun b hb => hk (.cell id j) b (by rw [e3]; exact hb))
            · have e1 : (xs.toList.set off vx).getD j undef = xs.getD j undef := by
                simp only [List.getD_eq_getElem?_getD]
                rw [List.getElem?_set_ne (Ne.symm e), arr_getD, List.getD_eq_getElem?_getD]
              have e2 : (cs.set off (HCell.own sz es)).getD j (.val .undef) = cs.getD j (.val .undef) := by
                simp only [List.getD_eq_getElem?_getD]
                rw [List.getElem?_set_ne (Ne.symm e)]
              rw [e1, e2]
              have e3 : β' (.cell id j) = S.β (.cell id j) := by
                simp only [β', β1]
                rw [upd_ne (fun h => by cases h; exact e rfl), upd_cell]
              rw [e3]
              exact (hh j hj).move hle (fun b hb => hk (.cell id j) b (by rw [e3]; exact hb))) (fun j b hb => by
            by_cases e : j = off
            · subst e
              have e3 : β' (.cell id j) = S.β (.tok g) := upd_eq
              rw [e3] at hb
              exact r.tokbase g b hb
            · have e3 : β' (.cell id j) = S.β (.cell id j) := by
                simp only [β', β1]
                rw [upd_ne (fun h => by cases h; exact e rfl), upd_cell]
              rw [e3] at hb
              exact r.mgd b (.inr ⟨id, j, hb⟩))
          exact ⟨_, _, _, hrun, Pres.mk p3.le p3.size p3.same p3.io, r3, hko.set, h⟩
        · refine vals cs [.sl false sz es] ho ?_ (by simp [hs1]) (by omega) ?_
          · exact Rep.cells (show Rep S.c vx (.sl false sz es) from rx.1)
          · simp only [stripO, hset] at h
            simpa [splice_one hlt] using h
      · exact h.elim
    · obtain ⟨v, hv, h⟩ := all_optK h
      obtain ⟨hvb, h⟩ := all_bif h
      obtain ⟨cs', hcs', h⟩ := all_optK h
      split at h
      · rename_i cs ho
        obtain ⟨_, h⟩ := all_bif h
        have hlen := (isAggOf_spec hvb).2.1
        have hfit : off + szOf P t ≤ cs.length := by
          unfold Heap.cells? at hcs'
          rw [ho] at hcs'
          simp only at hcs'
          cases hle : decide (off + szOf P t ≤ cs.length) <;> simp only [hle, cond_true, cond_false, Option.some.injEq, reduceCtorEq] at hcs'
          simpa using hle
        exact vals cs v.cells ho (repC_toCells rx hv) hlen hfit h
      · exact h.elim
  · exact h.elim
end Go.Weave
