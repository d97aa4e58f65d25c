/- New variables, literals and texts as bytes. -/
import Derived.Test.YtjaadkgohjbadaaWvI
import Derived.Lib.ConvBytes
namespace Go.Weave
variable {P : Program} {w : World} {R : Type} {Q : R → Prop}

def Ctx.grow (c : Ctx) (o : Go.Obj) : Ctx := { c.alloc o none with n := c.n + 1, ι := fun id => if id = c.n then c.w.heap.size else c.ι id }

theorem Heap.cell_push {H : Heap} {o : Obj} {id off : Nat} (h : id < H.objs.length) : (H.push o).cell? id off = H.cell? id off := by
  simp only [Heap.cell?, Heap.push]
  rw [List.getElem?_append_left h]

/-- A managed object comes. -/
theorem Rel.newObj {base : Bs} {S : Sc} {fr : Fr} {a : Act} (r : Rel base S fr a w) {o : Obj} {go : Go.Obj} {β' : Owner → Option Nat}
    (hβ : ∀ ow, (∀ j, ow ≠ .cell S.c.n j) → β' ow = S.β ow) (hB : BRel (S.c.grow go) β') (hO : ObjOK (S.c.grow go) β' S.c.n o) (hb : ∀ j b, β' (.cell S.c.n j) = some b → base.ok b) :
    Rel base { S with c := S.c.grow go, β := β', H := S.H.push o } fr a (w.alloc go) ∧ Pres base S.c S.β (S.c.grow go) β' := by
  have hle : S.c.le (S.c.grow go) := ⟨Nat.le_succ _, fun id h => by simp only [Ctx.grow]; rw [if_neg (by omega)], (Ctx.le_alloc (o := go) (k := none) r.own.lim).κ⟩
  have hold : ∀ b, b < S.c.w.heap.size → (S.c.grow go).w.heap[b]? = S.c.w.heap[b]? := fun b h => alloc_old h
  have hκ : ∀ b, b < S.c.w.heap.size → (S.c.grow go).κ b = S.c.κ b := fun b h => by simp only [Ctx.grow, Ctx.alloc]; rw [if_neg (by omega)]
  have hk : ∀ ow b, S.β ow = some b → (S.c.grow go).κ b = S.c.κ b ∧ (S.c.grow go).w.heap[b]? = S.c.w.heap[b]? := fun ow b h => by
    obtain ⟨_, _, hh⟩ := r.own.blk ow b h
    exact ⟨hκ b (lt_of_heap hh), hold b (lt_of_heap hh)⟩
  have hcell : ∀ id off, id < S.c.n → (S.c.grow go).w.cell? ⟨S.c.ι id, off, none⟩ = S.c.w.cell? ⟨S.c.ι id, off, none⟩ := fun id off h => cell_of_heap (hold _ (r.heap.lt h))
  have hm : ∀ v s, RepS S v s → RepS { S with c := S.c.grow go, β := β', H := S.H.push o } v s := fun v s h => by
    have h1 := RepS.move hle hk hcell h
    cases s with
    | unk => trivial
    | val x => exact h1
    | own g sz es => exact ⟨h1.1, by simp only; rw [hβ _ (fun j => by simp)]; exact h1.2⟩
    | bor id off sz es =>
      refine ⟨h1.1, h1.2.1, fun x hx => ?_⟩
      simp only at hx
      rw [Heap.cell_push (by rw [← r.heap.n]; exact h.2.1)] at hx
      exact h1.2.2 x hx
    | loc d off => exact h1
    | lsl d => exact h1
  have hι : ∀ id, id < S.c.n → (S.c.grow go).ι id = S.c.ι id := fun id h => hle.ι id h
  have hιn : (S.c.grow go).ι S.c.n = S.c.w.heap.size := by simp [Ctx.grow]
  refine ⟨{
    w := by simp only [Ctx.grow, Ctx.alloc]; rw [r.w]
    defers := r.defers
    heap := {
      n := by simp [Ctx.grow, Heap.push, r.heap.n]
      obj := fun id o' ho => by
        simp only [Heap.push] at ho
        by_cases hid : id < S.H.objs.length
        · rw [List.getElem?_append_left hid] at ho
          have hid' : id < S.c.n := by rw [r.heap.n]; exact hid
          have h0 := ObjOK.move hle hk hid' (hold _ (r.heap.lt hid')) (r.heap.obj id o' ho)
          unfold ObjOK at h0 ⊢
          cases o' with
          | cells hs =>
            obtain ⟨xs, el, h1, h2, h3⟩ := h0
            exact ⟨xs, el, h1, h2, fun j hj => by
              simp only
              rw [hβ _ (fun j' e => by cases e; omega)]
              exact h3 j hj⟩
          | map kt es ck => exact h0
        · have hid' : id = S.H.objs.length := by
            have := (List.getElem?_eq_some_iff.1 ho).1
            simp at this; omega
          subst hid'
          simp at ho
          subst ho
          rw [← r.heap.n]
          exact hO
      κ := fun id hid => by
        simp only [Ctx.grow] at hid
        by_cases e : id = S.c.n
        · subst e; rw [hιn]; simp [Ctx.grow, Ctx.alloc]
        · have : id < S.c.n := by omega
          rw [hι id this, hκ _ (r.heap.lt this)]
          exact r.heap.κ id this
      inj := fun id id' h1 h2 e => by
        simp only [Ctx.grow] at h1 h2
        by_cases e1 : id = S.c.n
        · by_cases e2 : id' = S.c.n
          · omega
          · have h2' : id' < S.c.n := by omega
            rw [e1, hιn, hι id' h2'] at e
            have := r.heap.lt h2'
            omega
        · have h1' : id < S.c.n := by omega
          by_cases e2 : id' = S.c.n
          · rw [e2, hιn, hι id h1'] at e
            have := r.heap.lt h1'
            omega
          · have h2' : id' < S.c.n := by omega
            rw [hι id h1', hι id' h2'] at e
            exact r.heap.inj id id' h1' h2' e }
    own := hB
    baseLe := by simp only [Ctx.grow, Ctx.alloc, World.size_alloc]; have := r.baseLe; omega
    bx := r.bx
    env := fun s e he => RepE.map hm (r.env s e he)
    box := fun d b hb' => by
      have h0 := r.box d b hb'
      unfold BoxOK at h0 ⊢
      cases b with
      | plain cs =>
        obtain ⟨xs, el, h1, h2⟩ := h0
        exact ⟨xs, el, by rw [hold _ (lt_of_heap h1)]; exact h1, RepA.mono hle h2⟩
      | rich l =>
        obtain ⟨xs, el, h1, h2⟩ := h0
        exact ⟨xs, el, by rw [hold _ (lt_of_heap h1)]; exact h1, RepL.map hm h2⟩
      | arr sz es =>
        obtain ⟨xs, el, h1, h2, h3⟩ := h0
        exact ⟨xs, el, by rw [hold _ (lt_of_heap h1)]; exact h1, h2.mono hle, h3⟩
    boxκ := fun d b hb' => by rw [hκ _ (r.boxlt hb')]; exact r.boxκ d b hb'
    boxι := fun d b hb' id hid => by
      simp only [Ctx.grow] at hid
      by_cases e : id = S.c.n
      · subst e; rw [hιn]; have := r.boxlt hb'; simp only; omega
      · rw [hι id (by omega)]; exact r.boxι d b hb' id (by omega)
    boxinj := r.boxinj
    boxbase := r.boxbase
    tokbase := fun g b h => by simp only at h; rw [hβ _ (fun j => by simp)] at h; exact r.tokbase g b h
    mgd := fun b h => ?_ }, hle, by simp [Ctx.grow, Ctx.alloc], fun b hb' => ⟨hold b (by have := Bs.lt hb'; have := r.baseLe; omega), hκ b (by have := Bs.lt hb'; have := r.baseLe; omega)⟩, ⟨rfl, rfl⟩⟩
  rcases h with ⟨id, hid, rfl⟩ | ⟨id, j, h⟩
  · simp only [Ctx.grow] at hid
    by_cases e : id = S.c.n
    · subst e; simp only [hιn]; exact .inl r.baseLe
    · simp only [hι id (by omega)]
      exact r.mgd _ (.inl ⟨id, by omega, rfl⟩)
  · by_cases e : id = S.c.n
    · subst e; exact hb j b h
    · simp only at h
      rw [hβ _ (fun j' e' => by cases e'; exact e rfl)] at h
      exact r.mgd _ (.inr ⟨id, j, h⟩)

theorem KeysOk.push {H : Heap} {cs : List HCell} (h : KeysOk P H) : KeysOk P (H.push (.cells cs)) := by
  intro id kt es c ho
  simp only [Heap.push] at ho
  by_cases hid : id < H.objs.length
  · rw [List.getElem?_append_left hid] at ho; exact h id kt es c ho
  · rw [List.getElem?_append_right (by omega)] at ho
    cases hk : id - H.objs.length with
    | zero => simp [hk] at ho
    | succ n => simp [hk] at ho

theorem cells_ite {ag : Bool} {n : Nat} {v : AVal} (h : (bif ag then v.isAggOf n else !v.isAgg) = true) : (bif ag then v.cells else [v]) = v.cells := by
  cases ag
  · simp only [cond_false] at h ⊢
    cases v <;> first | rfl | simp [AVal.isAgg] at h
  · rfl

theorem BRel.grow {c : Ctx} {β : Owner → Option Nat} {go : Go.Obj} (h : BRel c β) : BRel (c.grow go) β :=
  ⟨fun o b hb => by
    obtain ⟨xs, el, hg⟩ := h.blk o b hb
    exact ⟨xs, el, by rw [show (c.grow go).w.heap[b]? = c.w.heap[b]? from alloc_old (lt_of_heap hg)]; exact hg⟩, fun o b hb => by
    obtain ⟨xs, el, hg⟩ := h.blk o b hb
    have := lt_of_heap hg
    simp only [Ctx.grow, Ctx.alloc]
    rw [if_neg (by omega)]
    exact h.κ o b hb, h.inj, fun b l hk => by
    simp only [Ctx.grow, Ctx.alloc] at hk ⊢
    split at hk
    · simp at hk
    · have := h.lim b l hk; simp; omega, fun id o b hb => Nat.lt_succ_of_lt (h.cl id o b hb)⟩

theorem hcellOf_spec {s : SV} {p : HCell × Option Nat} (h : hcellOf s = some p) :
    (∃ v, s = .val v ∧ v.isAgg = false ∧ p = (.val v, none)) ∨ (∃ g sz es, s = .own g sz es ∧ p = (.own sz es, some g)) ∨ (∃ id off sz es, s = .bor id off sz es ∧ p = (.val (.sl false sz es), none)) := by
  cases s with
  | unk => simp [hcellOf] at h
  | val v =>
    simp only [hcellOf] at h
    cases hv : v.isAgg <;> simp only [hv, cond_true, cond_false, Option.some.injEq, reduceCtorEq] at h
    exact .inl ⟨v, rfl, hv, h.symm⟩
  | own g sz es => simp only [hcellOf, Option.some.injEq] at h; exact .inr (.inl ⟨g, sz, es, rfl, h.symm⟩)
  | bor id off sz es => simp only [hcellOf, Option.some.injEq] at h; exact .inr (.inr ⟨id, off, sz, es, rfl, h.symm⟩)
  | loc d off => simp [hcellOf] at h
  | lsl d => simp [hcellOf] at h

theorem grow_ptr {c : Ctx} {go : Go.Obj} : Rep (c.grow go) (.pointer (some ⟨c.w.heap.size, 0, none⟩)) (.obj c.n 0) := by
  have := Rep.obj (c := c.grow go) c.n 0 (Nat.lt_succ_self _)
  have e : (c.grow go).ι c.n = c.w.heap.size := by simp [Ctx.grow]
  rw [e] at this
  exact this

theorem cells_one {v : Value} (h : Cellv v) : v.cells = #[v] := by cases v <;> first | rfl | exact absurd h (by simp [Value.oneCell'])

theorem newK_ok {base : Bs} {S : Sc} {fr : Fr} {a : Act} {A : Ann} {t : TypeId} {dst : Option Nat} {vx : Value} {x : EV} {K : Fr → Heap → Tr R} (r : Rel base S fr a w) (hko : KeysOk P S.H)
    (hd : ∀ d, dst = some d → d < a.tmps.size) (rx : RepE S vx x) (h : (newK P A dst t x fr S.H K).All Q) :
    ∃ S' fr', Pres base S.c S.β S'.c S'.β ∧ Rel base S' fr' (a.put dst (.pointer (some ⟨w.heap.size, 0, none⟩))) (w.alloc (.cells vx.cells t)) ∧ KeysOk P S'.H ∧ (K fr' S'.H).All Q := by
  unfold newK at h
  split at h
  · exact h.elim
  · rename_i d
    have hd' := hd d rfl
    have hsz : S.c.w.heap.size = w.heap.size := by rw [r.w]
    cases hfz : A.frz.contains d <;> simp only [hfz, cond_true, cond_false] at h
    rotate_left
    · obtain ⟨v, hv, h⟩ := all_optK h
      obtain ⟨hb, h⟩ := all_bif h
      have hA := Rep.cells (RepE.toA rx hv)
      have hle : S.c.le (S.c.alloc (.cells vx.cells t) (some v.cells.length)) := Ctx.le_alloc r.own.lim
      have hw : (S.c.alloc (.cells vx.cells t) (some v.cells.length)).w = w.alloc (.cells vx.cells t) := by simp only [Ctx.alloc]; rw [r.w]
      have hag : v.isAgg = aggT P t := by
        cases ha : aggT P t <;> simp only [ha, cond_true, cond_false] at hb
        · simpa using hb
        · exact (isAggOf_spec hb).2.2
      have hrep : Rep (S.c.alloc (.cells vx.cells t) (some v.cells.length)) (.pointer (some ⟨w.heap.size, 0, none⟩)) (.elt v (aggT P t) v.cells.length 0) := by
        have := Rep.elt (c := S.c.alloc (.cells vx.cells t) (some v.cells.length)) w.heap.size 0 0 v.cells.length v (aggT P t) v.cells.length (fun j => vx.cells.getD j undef)
          (by simp only [Ctx.alloc]; rw [if_pos hsz.symm]) (by omega) rfl hag (fun x hx => by
            obtain ⟨j, hj, rfl⟩ := List.getElem_of_mem hx
            have := (hA.2 j hj).2
            simpa [hj] using this)
          (fun j hj => by
            have hlt : j < vx.cells.size := by rw [hA.1]; exact hj
            rw [hw]
            unfold World.cell?
            simp only [alloc_new]
            simp [hlt]) (fun j hj => Rep.mono hle (hA.2 j hj).1)
        simpa using this
      refine ⟨_, _, Pres.alloc r.own.lim r.baseLe, (r.alloc (.cells vx.cells t) (some v.cells.length)).put (dst := some d) (e := .one (.val (.elt v (aggT P t) v.cells.length 0))) hd hrep, hko, h⟩
    split at h
    · obtain ⟨v, hv, h⟩ := all_optK h
      obtain ⟨hb, h⟩ := all_bif h
      simp only [Bool.and_eq_true, Bool.not_eq_true'] at hb
      rw [cells_ite hb.1] at h
      obtain ⟨S', e, hp, hr⟩ := r.newBox (el := t) (b := .plain v.cells) hd' hb.2 (Rep.cells (RepE.toA rx hv))
      exact ⟨S', _, hp, hr, by rw [e]; exact hko, by rw [e]; exact h⟩
    · cases hb : (fr.any (SV.hasLoc d) || x.any (SV.hasLoc d)) <;> simp only [hb, cond_true, cond_false] at h
      · simp only [Bool.or_eq_false_iff] at hb
        split at h
        · rename_i l
          obtain ⟨_, h⟩ := all_bif h
          obtain ⟨xs, rfl, hl⟩ := rx
          obtain ⟨S', e, hp, hr⟩ := r.newBox (el := t) (b := .rich l) hd' hb.1 ⟨hl, hb.2⟩
          exact ⟨S', _, hp, hr, by rw [e]; exact hko, by rw [e]; exact h⟩
        · rename_i l
          obtain ⟨_, h⟩ := all_bif h
          have hl := RepA.toL (Rep.cells (show Rep S.c vx (.agg l) from rx))
          obtain ⟨S', e, hp, hr⟩ := r.newBox (el := t) (b := .rich (l.map .val)) hd' hb.1 ⟨hl, by simp [SV.hasLoc]⟩
          exact ⟨S', _, hp, hr, by rw [e]; exact hko, by rw [e]; exact h⟩
        · exact h.elim
        · rename_i s hs1 hs2
          cases ha : aggT P t <;> simp only [ha, cond_true, cond_false] at h
          · cases hag : (s.toA.getD .nilp).isAgg <;> simp only [hag, cond_true, cond_false] at h
            · have hone : Cellv vx := RepS.one (S := S) (s := s) rx (fun e => hs2 (by rw [e])) (fun l e => hs1 l (by rw [e]))
              have hl : RepL S vx.cells [s] := by
                rw [cells_one hone]
                refine ⟨rfl, fun j hj => ?_⟩
                have : j = 0 := Nat.lt_one_iff.1 hj
                subst this
                exact ⟨rx, hone⟩
              obtain ⟨S', e, hp, hr⟩ := r.newBox (el := t) (b := .rich [s]) hd' hb.1 ⟨hl, by simpa [EV.any, CV.any] using hb.2⟩
              exact ⟨S', _, hp, hr, by rw [e]; exact hko, by rw [e]; exact h⟩
            · exact h.elim
          · exact h.elim
        · exact h.elim
      · exact h.elim
    · have hlen : S.H.objs.length = S.c.n := r.heap.n.symm
      have hnew : ∀ go, (S.c.grow go).w.heap[(S.c.grow go).ι S.c.n]? = some go := fun go => by
        simp only [Ctx.grow, if_true]
        exact alloc_new
      have hle : ∀ go, S.c.le (S.c.grow go) := fun go => ⟨Nat.le_succ _, fun id h => by simp only [Ctx.grow]; rw [if_neg (by omega)], (Ctx.le_alloc (o := go) (k := none) r.own.lim).κ⟩
      have hnone : ∀ j, S.β (.cell S.c.n j) = none := fun j => by
        cases hj : S.β (.cell S.c.n j) with
        | none => rfl
        | some b => have := r.own.cl _ _ _ hj; omega
      -- a cell of plain data
      have vals : ∀ (l : List AVal), RepA S.c vx.cells l → (K (fr.set d (.one (.val (.obj S.H.objs.length 0)))) (S.H.push (.cells (l.map .val)))).All Q →
          ∃ S' fr', Pres base S.c S.β S'.c S'.β ∧ Rel base S' fr' (a.put (some d) (.pointer (some ⟨w.heap.size, 0, none⟩))) (w.alloc (.cells vx.cells t)) ∧ KeysOk P S'.H ∧ (K fr' S'.H).All Q := fun l hl h => by
        obtain ⟨h1, h2⟩ := r.newObj (o := .cells (l.map .val)) (go := .cells vx.cells t) (β' := S.β) (fun _ _ => rfl) r.own.grow ⟨vx.cells, t, hnew _, by simpa using hl.1, fun j hj => by
          have hj' : j < l.length := by simpa using hj
          have e : (l.map HCell.val).getD j (.val .undef) = .val (l.getD j .undef) := by simp [hj']
          rw [e]
          exact ⟨Rep.mono (hle _) (hl.2 j hj').1, (hl.2 j hj').2⟩⟩ (fun j b hb => by rw [hnone] at hb; cases hb)
        refine ⟨_, _, h2, h1.put (dst := some d) (e := .one (.val (.obj S.H.objs.length 0))) hd ?_, hko.push, h⟩
        rw [hlen, ← hsz]
        exact grow_ptr
      cases ha : aggT P t <;> simp only [ha, cond_true, cond_false] at h
      · split at h
        · rename_i s
          obtain ⟨p, hp, h⟩ := all_optK h
          rcases hcellOf_spec hp with ⟨v, rfl, hv, rfl⟩ | ⟨g, sz, es, rfl, rfl⟩ | ⟨id, off, sz, es, rfl, rfl⟩
          · refine vals [v] ?_ h
            have := Rep.cells (show Rep S.c vx v from rx)
            have e : v.cells = [v] := by cases v <;> first | rfl | simp [AVal.isAgg] at hv
            rw [e] at this
            exact this
          · -- an owned slice
            simp only [stripO] at h
            have r1 := r.strip g
            have hv : Cellv vx := Rep.cellv rx.1 rfl
            have hgo : Go.Obj.cells vx.cells t = .cells #[vx] t := by rw [cells_one hv]
            rw [hgo]
            let β1 : Owner → Option Nat := upd S.β (.tok g) none
            let β' : Owner → Option Nat := upd β1 (.cell S.c.n 0) (S.β (.tok g))
            have hβ' : ∀ ow, (∀ j, ow ≠ .cell S.c.n j) → β' ow = β1 ow := fun ow h => upd_ne (h 0)
            have hB : BRel (S.c.grow (.cells #[vx] t)) β' := by
              have hB1 : BRel (S.c.grow (.cells #[vx] t)) β1 := (r.own.drop _).grow
              cases hg : S.β (.tok g) with
              | none =>
                have : β' = upd β1 (.cell S.c.n 0) none := by simp [β', hg]
                rw [this]
                exact hB1.drop _
              | some b =>
                have : β' = upd β1 (.cell S.c.n 0) (some b) := by simp [β', hg]
                rw [this]
                obtain ⟨xs, el, hh⟩ := r.own.blk _ _ hg
                refine hB1.give ⟨xs, el, ?_⟩ ?_ (fun o' ho' => ?_) (fun id j e => by cases e; exact Nat.lt_succ_self _)
                · rw [show (S.c.grow (.cells #[vx] t)).w.heap[b]? = S.c.w.heap[b]? from alloc_old (lt_of_heap hh)]; exact hh
                · have := lt_of_heap hh
                  simp only [Ctx.grow, Ctx.alloc]
                  rw [if_neg (by omega)]
                  exact r.own.κ _ _ hg
                · by_cases e : o' = .tok g
                  · subst e; simp [β1, upd] at ho'
                  · simp only [β1] at ho'
                    rw [upd_ne e] at ho'
                    exact e (r.own.inj _ _ _ ho' hg)
            obtain ⟨h1, h2⟩ := r1.newObj (o := .cells [.own sz es]) (go := .cells #[vx] t) (β' := β') hβ' hB ⟨#[vx], t, hnew _, rfl, fun j hj => by
              have : j = 0 := Nat.lt_one_iff.1 hj
              subst this
              refine ⟨Rep.mono (hle _) rx.1, ?_⟩
              simp only [β', upd_eq]
              exact rx.2.move (fun b hb => by
                obtain ⟨_, _, hh⟩ := r.own.blk _ _ hb
                have := lt_of_heap hh
                refine ⟨?_, alloc_old this⟩
                simp only [Ctx.grow, Ctx.alloc]
                rw [if_neg (by omega)])⟩ (fun j b hb => by
              by_cases e : j = 0
              · subst e; simp only [β', upd_eq] at hb; exact r.tokbase g b hb
              · have hne : Owner.cell S.c.n j ≠ .cell S.c.n 0 := fun h => by cases h; exact e rfl
                simp only [β', β1] at hb
                rw [upd_ne hne, upd_ne (fun h => by cases h)] at hb
                have := r.own.cl _ _ _ hb
                omega)
            refine ⟨_, _, ?_, h1.put (dst := some d) (e := .one (.val (.obj S.H.objs.length 0))) hd ?_, hko.push, h⟩
            · exact Pres.trans (Pres.refl base S.c S.β S.β) h2
            · rw [hlen]
              rw [← hsz]
              exact grow_ptr
          · refine vals [.sl false sz es] ?_ h
            exact Rep.cells (show Rep S.c vx (.sl false sz es) from rx.1)
        · exact h.elim
      · obtain ⟨v, hv, h⟩ := all_optK h
        obtain ⟨hb, h⟩ := all_bif h
        exact vals v.cells (Rep.cells (RepE.toA rx hv)) h
end Go.Weave
