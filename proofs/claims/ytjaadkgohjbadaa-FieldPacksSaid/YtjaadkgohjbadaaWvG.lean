/- The evaluator's scene outlasts the machine's steps in memory. -/
import Derived.Test.YtjaadkgohjbadaaWvF
namespace Go.Weave
variable {P : Program} {w : World} {R : Type} {Q : R → Prop}

def Sc.withC (S : Sc) (c : Ctx) : Sc := { S with c := c }

/-- Which blocks the scene leans on, cell by cell. -/
def Leans (S : Sc) (fr : Fr) (b : Nat) : Prop :=
  (∃ id, id < S.c.n ∧ S.c.ι id = b) ∨ (∃ o, S.β o = some b) ∨ ∃ d x, look d fr.boxes = some x ∧ S.lam d = b

theorem cell_of_heap {w w' : World} {b o : Nat} (h : w'.heap[b]? = w.heap[b]?) : w'.cell? ⟨b, o, none⟩ = w.cell? ⟨b, o, none⟩ := by
  simp [World.cell?, h]

theorem lt_of_heap {w : World} {b : Nat} {o : Go.Obj} (h : w.heap[b]? = some o) : b < w.heap.size := (Array.getElem?_eq_some_iff.1 h).1

theorem HRel.lt {c : Ctx} {β : Owner → Option Nat} {H : Heap} (h : HRel c β H) {id : Nat} (hid : id < c.n) : c.ι id < c.w.heap.size := by
  have hid' : id < H.objs.length := by rw [← h.n]; exact hid
  have := h.obj id _ (List.getElem?_eq_getElem hid')
  unfold ObjOK at this
  split at this
  · obtain ⟨xs, el, hg, _⟩ := this; exact lt_of_heap hg
  · obtain ⟨xs, hg, _⟩ := this; exact lt_of_heap hg

theorem Rel.boxlt {base : Bs} {S : Sc} {fr : Fr} {a : Act} (r : Rel base S fr a w) {d : Nat} {x : Box} (h : look d fr.boxes = some x) : S.lam d < S.c.w.heap.size := by
  have := r.box d x h
  unfold BoxOK at this
  split at this
  · obtain ⟨xs, el, hg, _⟩ := this; exact lt_of_heap hg
  · obtain ⟨xs, el, hg, _⟩ := this; exact lt_of_heap hg
  · obtain ⟨xs, el, hg, _⟩ := this; exact lt_of_heap hg

theorem Rel.leanslt {base : Bs} {S : Sc} {fr : Fr} {a : Act} (r : Rel base S fr a w) {b : Nat} (h : Leans S fr b) : b < S.c.w.heap.size := by
  rcases h with ⟨id, hid, rfl⟩ | ⟨o, ho⟩ | ⟨d, x, hx, rfl⟩
  · exact r.heap.lt hid
  · obtain ⟨xs, el, hg⟩ := r.own.blk o b ho; exact lt_of_heap hg
  · exact r.boxlt hx

theorem OwnAt.move {c c' : Ctx} {ob : Option Nat} {sz : Nat} {v : Value} (h : OwnAt c ob sz v) (hk : ∀ b, ob = some b → c'.κ b = c.κ b ∧ c'.w.heap[b]? = c.w.heap[b]?) : OwnAt c' ob sz v := by
  unfold OwnAt at *
  split
  · rename_i a len cap
    simp only at h
    rcases h with h | ⟨h1, h2, xs, el, h3, h4⟩
    · exact .inl h
    · exact .inr ⟨h1, by rw [(hk _ h1).1]; exact h2, xs, el, by rw [(hk _ h1).2]; exact h3, h4⟩
  · trivial

theorem RepS.move {S : Sc} {c' : Ctx} (hle : S.c.le c') (hk : ∀ o b, S.β o = some b → c'.κ b = S.c.κ b ∧ c'.w.heap[b]? = S.c.w.heap[b]?) (hc : ∀ id o, id < S.c.n → c'.w.cell? ⟨S.c.ι id, o, none⟩ = S.c.w.cell? ⟨S.c.ι id, o, none⟩)
    {v : Value} {s : SV} (h : RepS S v s) : RepS (S.withC c') v s := by
  cases s with
  | unk => trivial
  | val a => exact Rep.mono hle h
  | own g sz es => exact ⟨Rep.mono hle h.1, h.2.move (hk _)⟩
  | bor id off sz es =>
    refine ⟨Rep.mono hle h.1, Nat.lt_of_lt_of_le h.2.1 hle.n, fun x hx => ?_⟩
    simp only [Sc.withC] at hx ⊢
    rw [hle.ι id h.2.1, hc id off h.2.1]
    exact h.2.2 x hx
  | loc d off => exact h
  | lsl d => exact h

theorem RepC.map {S S' : Sc} (hm : ∀ v s, RepS S v s → RepS S' v s) {v : Value} {c : CV} (h : RepC S v c) : RepC S' v c := by
  cases c with
  | one s => exact hm _ _ h
  | agg l =>
    obtain ⟨xs, rfl, hl, hr⟩ := h
    exact ⟨xs, rfl, hl, fun j hj => ⟨hm _ _ (hr j hj).1, (hr j hj).2⟩⟩

theorem RepE.map {S S' : Sc} (hm : ∀ v s, RepS S v s → RepS S' v s) {v : Value} {e : EV} (h : RepE S v e) : RepE S' v e := by
  cases e with
  | cv c => exact RepC.map hm h
  | tup l =>
    obtain ⟨xs, rfl, hl, hr⟩ := h
    exact ⟨xs, rfl, hl, fun j hj => RepC.map hm (hr j hj)⟩

theorem RepL.map {S S' : Sc} (hm : ∀ v s, RepS S v s → RepS S' v s) {xs : Array Value} {l : List SV} (h : RepL S xs l) : RepL S' xs l :=
  ⟨h.1, fun j hj => ⟨hm _ _ (h.2 j hj).1, (h.2 j hj).2⟩⟩

theorem RepA.mono {c c' : Ctx} (hle : c.le c') {xs : Array Value} {l : List AVal} (h : RepA c xs l) : RepA c' xs l :=
  ⟨h.1, fun j hj => ⟨Rep.mono hle (h.2 j hj).1, (h.2 j hj).2⟩⟩

theorem RepH.move {c c' : Ctx} (hle : c.le c') {ob : Option Nat} (hk : ∀ b, ob = some b → c'.κ b = c.κ b ∧ c'.w.heap[b]? = c.w.heap[b]?) {v : Value} {x : HCell} (h : RepH c ob v x) : RepH c' ob v x := by
  cases x with
  | val a => exact ⟨Rep.mono hle h.1, h.2⟩
  | own sz es => exact ⟨Rep.mono hle h.1, h.2.move hk⟩

theorem ObjOK.move {c c' : Ctx} {β : Owner → Option Nat} (hle : c.le c') (hk : ∀ o b, β o = some b → c'.κ b = c.κ b ∧ c'.w.heap[b]? = c.w.heap[b]?) {id : Nat} (hid : id < c.n)
    (hg : c'.w.heap[c.ι id]? = c.w.heap[c.ι id]?) {o : Obj} (h : ObjOK c β id o) : ObjOK c' β id o := by
  unfold ObjOK at *
  rw [hle.ι id hid, hg]
  cases o with
  | cells hs =>
    obtain ⟨xs, el, h1, h2, h3⟩ := h
    exact ⟨xs, el, h1, h2, fun j hj => (h3 j hj).move hle (hk _)⟩
  | map kt es ck =>
    obtain ⟨ents, h1, h2, h3⟩ := h
    exact ⟨ents, h1, h2, fun j hj => ⟨Rep.mono hle (h3 j hj).1, Rep.mono hle (h3 j hj).2.1, (h3 j hj).2.2⟩⟩

theorem BoxOK.move {S : Sc} {c' : Ctx} (hle : S.c.le c') (hk : ∀ o b, S.β o = some b → c'.κ b = S.c.κ b ∧ c'.w.heap[b]? = S.c.w.heap[b]?) (hc : ∀ id o, id < S.c.n → c'.w.cell? ⟨S.c.ι id, o, none⟩ = S.c.w.cell? ⟨S.c.ι id, o, none⟩)
    {d : Nat} (hg : c'.w.heap[S.lam d]? = S.c.w.heap[S.lam d]?) {b : Box} (h : BoxOK S d b) : BoxOK (S.withC c') d b := by
  unfold BoxOK at *
  cases b with
  | plain cs =>
    obtain ⟨xs, el, h1, h2⟩ := h
    exact ⟨xs, el, by simp only [Sc.withC]; rw [hg]; exact h1, RepA.mono hle h2⟩
  | rich l =>
    obtain ⟨xs, el, h1, h2⟩ := h
    exact ⟨xs, el, by simp only [Sc.withC]; rw [hg]; exact h1, RepL.map (fun v s => RepS.move hle hk hc) h2⟩
  | arr sz es =>
    obtain ⟨xs, el, h1, h2, h3⟩ := h
    exact ⟨xs, el, by simp only [Sc.withC]; rw [hg]; exact h1, h2.mono hle, h3⟩

/-- The scene in another world that keeps what it leans on. -/
theorem Rel.move {base : Bs} {S : Sc} {fr : Fr} {a : Act} (r : Rel base S fr a w) {c' : Ctx} (hle : S.c.le c') (hn : c'.n = S.c.n)
    (hs : S.c.w.heap.size ≤ c'.w.heap.size) (hheap : ∀ b, Leans S fr b → c'.w.heap[b]? = S.c.w.heap[b]?) (hκ : ∀ b, Leans S fr b → c'.κ b = S.c.κ b)
    (hlim : ∀ b l, c'.κ b = some l → b < c'.w.heap.size) : Rel base (S.withC c') fr a c'.w := by
  have hk : ∀ o b, S.β o = some b → c'.κ b = S.c.κ b ∧ c'.w.heap[b]? = S.c.w.heap[b]? := fun o b h => ⟨hκ b (.inr (.inl ⟨o, h⟩)), hheap b (.inr (.inl ⟨o, h⟩))⟩
  have hc : ∀ id o, id < S.c.n → c'.w.cell? ⟨S.c.ι id, o, none⟩ = S.c.w.cell? ⟨S.c.ι id, o, none⟩ := fun id o h => cell_of_heap (hheap _ (.inl ⟨id, h, rfl⟩))
  exact {
    w := rfl
    defers := r.defers
    heap := {
      n := by simp only [Sc.withC]; rw [hn]; exact r.heap.n
      obj := fun id o ho => by
        have hid : id < S.c.n := by rw [r.heap.n]; exact (List.getElem?_eq_some_iff.1 ho).1
        exact ObjOK.move hle hk hid (hheap _ (.inl ⟨id, hid, rfl⟩)) (r.heap.obj id o ho)
      κ := fun id h => by
        simp only [Sc.withC] at h ⊢
        rw [hn] at h
        rw [hle.ι id h, hκ _ (.inl ⟨id, h, rfl⟩)]
        exact r.heap.κ id h
      inj := fun id id' h h' e => by
        simp only [Sc.withC] at h h' e
        rw [hn] at h h'
        rw [hle.ι id h, hle.ι id' h'] at e
        exact r.heap.inj id id' h h' e }
    own := {
      blk := fun o b h => by
        obtain ⟨xs, el, hg⟩ := r.own.blk o b h
        exact ⟨xs, el, by simp only [Sc.withC]; rw [hheap _ (.inr (.inl ⟨o, h⟩))]; exact hg⟩
      κ := fun o b h => by simp only [Sc.withC]; rw [(hk o b h).1]; exact r.own.κ o b h
      inj := r.own.inj
      lim := hlim
      cl := fun id o b h => by simp only [Sc.withC]; rw [hn]; exact r.own.cl id o b h }
    baseLe := Nat.le_trans r.baseLe hs
    bx := r.bx
    env := fun s e he => RepE.map (fun v s => RepS.move hle hk hc) (r.env s e he)
    box := fun d b hb => BoxOK.move hle hk hc (hheap _ (.inr (.inr ⟨d, b, hb, rfl⟩))) (r.box d b hb)
    boxκ := fun d b hb => by simp only [Sc.withC]; rw [hκ _ (.inr (.inr ⟨d, b, hb, rfl⟩))]; exact r.boxκ d b hb
    boxι := fun d b hb id hid => by
      simp only [Sc.withC] at hid ⊢
      rw [hn] at hid
      rw [hle.ι id hid]
      exact r.boxι d b hb id hid
    boxinj := r.boxinj
    boxbase := r.boxbase
    tokbase := r.tokbase
    mgd := fun b h => r.mgd b (by
      rcases h with ⟨id, hid, rfl⟩ | h
      · simp only [Sc.withC] at hid ⊢
        rw [hn] at hid
        rw [hle.ι id hid]
        exact .inl ⟨id, hid, rfl⟩
      · exact .inr h) }

/-- A new block. -/
def Ctx.alloc (c : Ctx) (o : Go.Obj) (k : Option Nat) : Ctx := { c with w := c.w.alloc o, κ := fun b => if b = c.w.heap.size then k else c.κ b }

theorem alloc_old {w : World} {o : Go.Obj} {b : Nat} (h : b < w.heap.size) : (w.alloc o).heap[b]? = w.heap[b]? := by
  simp only [World.alloc, Array.getElem?_push]
  rw [if_neg (by omega)]
theorem alloc_new {w : World} {o : Go.Obj} : (w.alloc o).heap[w.heap.size]? = some o := by
  show (w.heap.push o)[w.heap.size]? = some o
  simp

theorem Ctx.le_alloc {c : Ctx} {o : Go.Obj} {k : Option Nat} (hl : ∀ b l, c.κ b = some l → b < c.w.heap.size) : c.le (c.alloc o k) :=
  ⟨Nat.le_refl _, fun _ _ => rfl, fun b l h => ⟨l, by have := hl b l h; simp only [Ctx.alloc]; rw [if_neg (by omega)]; exact h, Nat.le_refl _, fun o' _ => cell_of_heap (alloc_old (hl b l h))⟩⟩

theorem Pres.alloc {base : Bs} {c : Ctx} {β : Owner → Option Nat} {o : Go.Obj} {k : Option Nat} (hl : ∀ b l, c.κ b = some l → b < c.w.heap.size) (hb : base.n ≤ c.w.heap.size) :
    Pres base c β (c.alloc o k) β :=
  ⟨Ctx.le_alloc hl, by simp [Ctx.alloc], fun b hb' => ⟨alloc_old (by have := Bs.lt hb'; omega), by have := Bs.lt hb'; simp only [Ctx.alloc]; rw [if_neg (by omega)]⟩, ⟨rfl, rfl⟩⟩

theorem Rel.alloc {base : Bs} {S : Sc} {fr : Fr} {a : Act} (r : Rel base S fr a w) (o : Go.Obj) (k : Option Nat) :
    Rel base (S.withC (S.c.alloc o k)) fr a (w.alloc o) := by
  have h := r.move (c' := S.c.alloc o k) (Ctx.le_alloc r.own.lim) rfl (by simp [Ctx.alloc]) (fun b hb => alloc_old (r.leanslt hb))
    (fun b hb => by have := r.leanslt hb; simp only [Ctx.alloc]; rw [if_neg (by omega)]) (fun b l hk => by
      simp only [Ctx.alloc] at hk ⊢
      split at hk
      · rename_i e; subst e; simp
      · have := r.own.lim b l hk; simp; omega)
  have e : (S.c.alloc o k).w = w.alloc o := by simp only [Ctx.alloc]; rw [r.w]
  rw [e] at h
  exact h

/-- Only the count of draws has moved. -/
theorem Rel.sameHeap {base : Bs} {S : Sc} {fr : Fr} {a : Act} (r : Rel base S fr a w) {w' : World} (h : w'.heap = w.heap) (hio : w'.os = w.os ∧ w'.output = w.output) :
    Rel base (S.withC { S.c with w := w' }) fr a w' ∧ Pres base S.c S.β { S.c with w := w' } S.β := by
  have hw : w'.heap = S.c.w.heap := by rw [r.w]; exact h
  have hle : S.c.le { S.c with w := w' } := ⟨Nat.le_refl _, fun _ _ => rfl, fun b l hk => ⟨l, hk, Nat.le_refl _, fun o _ => by simp [World.cell?, hw]⟩⟩
  exact ⟨r.move (c' := { S.c with w := w' }) hle rfl (by simp only; rw [hw]; exact Nat.le_refl _) (fun b _ => by simp only; rw [hw]) (fun b _ => rfl) (fun b l hk => by simp only; rw [hw]; exact r.own.lim b l hk),
    hle, by simp only; rw [hw]; exact Nat.le_refl _, fun b _ => ⟨by simp only; rw [hw], rfl⟩, by simp only; rw [r.w]; exact hio⟩
end Go.Weave
