/- Texts of this proof, laid together: the evaluator, what it comes to, and the laws. No condition. -/
import Derived.Test.YtkpjkaikeeldfaaDoorM33
import Derived.Below
import Derived.WalkKit
import Derived.Sort.OwnSorted
import Derived.LoopTactic
import Derived.Maps.RangeWalk
import Derived.Maps.AppendAt
section
/- Split by definition: what the pieces' row is, and how it grows. -/
namespace Go.Proofs.YtkpjkaikeeldfaaDoor.Wb
open Go Go.RowKit Go.Weave Go.Proofs.YtkpjkaikeeldfaaDoor.Wa
set_option maxRecDepth 100000
set_option linter.unusedSimpArgs false
set_option linter.unusedVariables false
set_option linter.unusedSectionVars false

def OutRow (B : Nat) (w : World) (v : Value) (vs : List Value) : Prop :=
  (v = .slice none 0 0 ∧ vs = []) ∨ ∃ g cap xs el, v = .slice (some ⟨g, 0, none⟩) vs.length cap ∧ vs ≠ [] ∧ B ≤ g ∧ w.heap[g]? = some (.cells xs el (0, 0)) ∧ vs.length ≤ cap ∧ cap ≤ xs.size ∧ xs.toList.take vs.length = vs
theorem OutRow.of {B : Nat} {w w' : World} {v : Value} {vs : List Value} (h : OutRow B w v vs) (hs : ∀ g, v.ownBlock = some g → w'.heap[g]? = w.heap[g]?) : OutRow B w' v vs := by
  rcases h with h | ⟨g, cap, xs, el, rfl, h1, h2, h3, h4⟩
  · exact .inl h
  · exact .inr ⟨g, cap, xs, el, rfl, h1, h2, by rw [hs g rfl]; exact h3, h4⟩
theorem OutRow.lt {B : Nat} {w : World} {v : Value} {vs : List Value} (h : OutRow B w v vs) {g : Nat} (hg : v.ownBlock = some g) : B ≤ g ∧ g < w.heap.size := by
  rcases h with ⟨rfl, _⟩ | ⟨g', cap, xs, el, rfl, h1, h2, h3, h4⟩
  · cases hg
  · cases hg
    exact ⟨h2, (Array.getElem?_eq_some_iff.1 h3).1⟩
structure St0 (B : Nat) (c : Ctx) (v : Value) (P : List (List UInt8)) (vs : List Value) : Prop where
  n : c.n = 0
  own : BRel c tok0
  hB : B ≤ c.w.heap.size
  row : OutRow B c.w v vs
  κ : ∀ g, v.ownBlock = some g → c.κ g = none
  len : vs.length = P.length
  rep : ∀ k, k < P.length → Rep c (vs.getD k undef) (.sl false 0 (bys (P.getD k [])))
structure St (B : Nat) (c : Ctx) (v : Value) (P : List (List UInt8)) (vs : List Value) : Prop extends St0 B c v P vs where
  last : ∀ u, vs.getLast? = some u → Tight B c u
/-- What lay below is as it was. -/
structure Wk (B : Nat) (c c' : Ctx) : Prop where
  le : c.le c'
  size : c.w.heap.size ≤ c'.w.heap.size
  io : c'.w.os = c.w.os ∧ c'.w.output = c.w.output
  low : ∀ b, b < B → c'.w.heap[b]? = c.w.heap[b]? ∧ c'.κ b = c.κ b
theorem Wk.refl (B : Nat) (c : Ctx) : Wk B c c := ⟨Ctx.le_refl c, Nat.le_refl _, ⟨rfl, rfl⟩, fun _ _ => ⟨rfl, rfl⟩⟩
theorem Wk.trans {B : Nat} {a b c : Ctx} (h1 : Wk B a b) (h2 : Wk B b c) : Wk B a c :=
  ⟨Ctx.le_trans h1.le h2.le, Nat.le_trans h1.size h2.size, ⟨h2.io.1.trans h1.io.1, h2.io.2.trans h1.io.2⟩, fun x hx => ⟨(h2.low x hx).1.trans (h1.low x hx).1, (h2.low x hx).2.trans (h1.low x hx).2⟩⟩
theorem Kept.wk {B : Nat} {c c' : Ctx} (h : Kept c c' B) (hB : B ≤ c.w.heap.size) : Wk B c c' := ⟨h.le, h.size, h.io, fun b hb => h.same b (by omega) (.inl hb)⟩
theorem Tight.of {B : Nat} {c c' : Ctx} {u : Value} (hb : BRel c tok0) (h : Tight B c u) (hs : ∀ b, c.κ b ≠ none → c'.w.heap[b]? = c.w.heap[b]? ∧ c'.κ b = c.κ b) : Tight B c' u := by
  cases u with
  | slice x len cap =>
    cases x with
    | none => trivial
    | some a =>
      rcases h with h | ⟨h1, h2, xs, el, h3, h4⟩
      · exact .inl h
      · obtain ⟨e1, e2⟩ := hs a.block (by rw [h2]; simp)
        exact .inr ⟨h1, by rw [e2]; exact h2, xs, el, by rw [e1]; exact h3, h4⟩
  | _ => trivial
theorem St.pres {B : Nat} {c c' : Ctx} {v : Value} {P : List (List UInt8)} {vs : List Value} (h : St B c v P vs) (hp : Pres (bs c.w.heap.size) c tok0 c' tok0) (hn : c'.n = 0) (hb : BRel c' tok0) : St B c' v P vs := by
  have hs : ∀ b, b < c.w.heap.size → c'.w.heap[b]? = c.w.heap[b]? ∧ c'.κ b = c.κ b := fun b hbs => hp.same b fun h => h.elim (fun h => by have h : c.w.heap.size ≤ b := h; omega) id
  refine ⟨⟨hn, hb, Nat.le_trans h.hB hp.size, h.row.of fun g hg => (hs g (h.row.lt hg).2).1, fun g hg => by rw [(hs g (h.row.lt hg).2).2]; exact h.κ g hg, h.len, fun k hk => Rep.mono hp.le (h.rep k hk)⟩, fun u hu => (h.last u hu).of h.own fun b hk => ?_⟩
  cases e : c.κ b with
  | none => exact absurd e hk
  | some l => exact (by rw [← e]; exact hs b (h.own.lim b l e))
theorem le_world {c : Ctx} {w' : World} (hs : ∀ b, c.κ b ≠ none → w'.heap[b]? = c.w.heap[b]?) : c.le ⟨w', c.n, c.ι, c.κ⟩ :=
  ⟨Nat.le_refl _, fun _ _ => rfl, fun b l h => ⟨l, h, Nat.le_refl _, fun o _ => by
    simp only [World.cell?]; rw [hs b (by rw [h]; simp)]⟩⟩
theorem brel_world {c : Ctx} {w' : World} (h : BRel c tok0) (hs : c.w.heap.size ≤ w'.heap.size) : BRel ⟨w', c.n, c.ι, c.κ⟩ tok0 :=
  ⟨fun _ _ h => (by cases h), fun _ _ h => (by cases h), fun _ _ _ h => (by cases h), fun b l h' => Nat.lt_of_lt_of_le (h.lim b l h') hs, fun _ _ _ h => (by cases h)⟩
theorem elC : elOk Tryd.prog 43 = true := by kernel_rfl
theorem szC : szOf Tryd.prog 43 = 1 := by kernel_rfl
theorem bytesC : bytesOf Tryd.prog 43 = 24 := by kernel_rfl
theorem setCell_row {w : World} {g : Nat} {xs : Array Value} {el : TypeId} {fr : Nat × Nat} (h : w.heap[g]? = some (.cells xs el fr)) (k : Nat) (u : Value) : (w.setCell ⟨g, k, none⟩ u).heap[g]? = some (.cells (xs.setIfInBounds k u) el fr) := by
  obtain ⟨hlt, hk⟩ := Array.getElem?_eq_some_iff.1 h
  show (w.heap.modify g _)[g]? = _
  rw [Array.getElem?_eq_getElem (by rw [Array.size_modify]; exact hlt), Array.getElem_modify_self, hk]
  rfl
theorem setCell_size (w : World) (a : Addr) (u : Value) : (w.setCell a u).heap.size = w.heap.size := by show (w.heap.modify a.block _).size = _; rw [Array.size_modify]
/-- Another world, in which what lay is as it was, but for the pieces' row. -/
theorem St0.world {B : Nat} {c : Ctx} {v v' : Value} {P P' : List (List UInt8)} {vs vs' : List Value} (h : St0 B c v P vs) {w' : World} (hsz : c.w.heap.size ≤ w'.heap.size) (hio : w'.os = c.w.os ∧ w'.output = c.w.output)
    (hs : ∀ b, b < c.w.heap.size → v.ownBlock ≠ some b → w'.heap[b]? = c.w.heap[b]?) (hrow : OutRow B w' v' vs') (hκ : ∀ g, v'.ownBlock = some g → c.κ g = none) (hlen : vs'.length = P'.length)
    (hrep : ∀ k, k < P'.length → Rep ⟨w', c.n, c.ι, c.κ⟩ (vs'.getD k undef) (.sl false 0 (bys (P'.getD k [])))) (hlast : ∀ u, vs'.getLast? = some u → Tight B ⟨w', c.n, c.ι, c.κ⟩ u) :
    Wk B c ⟨w', c.n, c.ι, c.κ⟩ ∧ St B ⟨w', c.n, c.ι, c.κ⟩ v' P' vs' := by
  have hle : c.le ⟨w', c.n, c.ι, c.κ⟩ := le_world fun b hb => by
    cases e : c.κ b with
    | none => exact absurd e hb
    | some l => exact hs b (h.own.lim b l e) fun e' => hb (h.κ b e')
  refine ⟨⟨hle, hsz, hio, fun b hb => ⟨hs b (Nat.lt_of_lt_of_le hb h.hB) fun e => ?_, rfl⟩⟩, ⟨⟨h.n, brel_world h.own hsz, Nat.le_trans h.hB hsz, hrow, hκ, hlen, hrep⟩, hlast⟩⟩
  have := (h.row.lt e).1
  omega
theorem St0.hle {B : Nat} {c : Ctx} {v : Value} {P : List (List UInt8)} {vs : List Value} (h : St0 B c v P vs) {w' : World} (hs : ∀ b, b < c.w.heap.size → v.ownBlock ≠ some b → w'.heap[b]? = c.w.heap[b]?) :
    c.le ⟨w', c.n, c.ι, c.κ⟩ ∧ ∀ b, c.κ b ≠ none → w'.heap[b]? = c.w.heap[b]? := by
  have : ∀ b, c.κ b ≠ none → w'.heap[b]? = c.w.heap[b]? := fun b hb => by
    cases e : c.κ b with
    | none => exact absurd e hb
    | some l => exact hs b (h.own.lim b l e) fun e' => hb (h.κ b e')
  exact ⟨le_world this, this⟩
theorem push_rep {B : Nat} {c : Ctx} {v : Value} {P : List (List UInt8)} {vs : List Value} (h : St0 B c v P vs) {w' : World} (hle : c.le ⟨w', c.n, c.ι, c.κ⟩) {vb : Value} {q : List UInt8} (hq : Rep c vb (.sl false 0 (bys q))) :
    ∀ k, k < (P ++ [q]).length → Rep ⟨w', c.n, c.ι, c.κ⟩ ((vs ++ [vb]).getD k undef) (.sl false 0 (bys ((P ++ [q]).getD k []))) := fun k hk => by
  have hlen := h.len
  rw [List.length_append, List.length_singleton] at hk
  by_cases e : k < P.length
  · have e1 : (vs ++ [vb]).getD k undef = vs.getD k undef := by simp only [List.getD_eq_getElem?_getD]; rw [List.getElem?_append_left (by omega)]
    have e2 : (P ++ [q]).getD k [] = P.getD k [] := by simp only [List.getD_eq_getElem?_getD]; rw [List.getElem?_append_left e]
    rw [e1, e2]
    exact Rep.mono hle (h.rep k e)
  · have e1 : (vs ++ [vb]).getD k undef = vb := by simp only [List.getD_eq_getElem?_getD]; rw [List.getElem?_append_right (by omega), show k - vs.length = 0 by omega]; rfl
    have e2 : (P ++ [q]).getD k [] = q := by simp only [List.getD_eq_getElem?_getD]; rw [List.getElem?_append_right (by omega), show k - P.length = 0 by omega]; rfl
    rw [e1, e2]
    exact Rep.mono hle hq
theorem St.push {B : Nat} {c : Ctx} {v : Value} {P : List (List UInt8)} {vs : List Value} (h : St B c v P vs) {vb : Value} {q : List UInt8} (hq : Rep c vb (.sl false 0 (bys q))) (tq : Tight B c vb) {ad : Addr} {cp : Nat} (hc : c.w.cell? ad = some vb) (hone : vb.oneCell' = true) (hP : P.length ≤ 1000) (tr : TypeId) :
    ∃ v' w', (Builtin.append_ #[24, 24] tr #[v, .slice (some ad) 1 cp]).run Tryd.prog c.w = .ok v' w' ∧ Wk B c ⟨w', c.n, c.ι, c.κ⟩ ∧ St B ⟨w', c.n, c.ι, c.κ⟩ v' (P ++ [q]) (vs ++ [vb]) := by
  have hlen := h.len
  have hn1 : ∀ w' : World, w'.heap = c.w.heap → (Builtin.firstCells (szOf Tryd.prog 43) 1 (.slice (some ad) 1 cp)).run Tryd.prog w' = .ok #[vb] w' := fun w' hw => by
    rw [szC]
    exact run_firstCells_some w' 1 1 ad 1 cp [vb] rfl fun j u hu => by
      cases j with
      | zero =>
        cases hu
        have e : w'.cell? ad = c.w.cell? ad := by simp only [World.cell?, hw]
        have e0 : ad.add 0 = ad := by unfold Addr.add; simp
        rw [e0, e, hc]
      | succ j => cases hu
  have hn2 : (Builtin.lenOf (.slice (some ad) 1 cp)).run Tryd.prog c.w = .ok 1 c.w := rfl
  have last' : ∀ {w' : World}, (∀ b, c.κ b ≠ none → w'.heap[b]? = c.w.heap[b]?) → ∀ u, (vs ++ [vb]).getLast? = some u → Tight B ⟨w', c.n, c.ι, c.κ⟩ u := fun hs u hu => by
    simp at hu
    subst hu
    exact tq.of h.own fun b hb => ⟨hs b hb, rfl⟩
  -- in another place
  have grow : ∀ (base : Option Addr) (cap : Nat), v = .slice base vs.length cap → ¬ vs.length + 1 ≤ cap → (∀ w' : World, w'.heap = c.w.heap → (Builtin.firstCells (szOf Tryd.prog 43) vs.length (.slice base vs.length cap)).run Tryd.prog w' = .ok vs.toArray w') →
      ∃ v' w', (Builtin.append_ #[24, 24] tr #[v, .slice (some ad) 1 cp]).run Tryd.prog c.w = .ok v' w' ∧ Wk B c ⟨w', c.n, c.ι, c.κ⟩ ∧ St B ⟨w', c.n, c.ι, c.κ⟩ v' (P ++ [q]) (vs ++ [vb]) := fun base cap hv hfit hold => by
    obtain ⟨z, hz, hzs⟩ := zero_ok (P := Tryd.prog) elC c
    obtain ⟨rest, cap', h1, h2, hrun⟩ := append_grow (P := Tryd.prog) (w := c.w) (tr := tr) (t := 24) (ty := 24) (e := 43) (base := base) (len := vs.length) (cap := cap) (vy := .slice (some ad) 1 cp) (n := 1) (news := #[vb]) (olds := vs.toArray) Tryd.underlying24 Tryd.underlying24 (fun k h => by cases h) (by rw [szC]; omega) (by rw [bytesC]; omega) hn1 hold hn2 hfit (by rw [bytesC]; omega) hz
    rw [hzs, szC, Nat.mul_one] at h2
    have hs : ∀ b, b < c.w.heap.size → v.ownBlock ≠ some b → (c.w.drew.alloc (.cells (vs.toArray ++ #[vb] ++ rest) 43)).heap[b]? = c.w.heap[b]? := fun b hb _ => Below.heap_alloc c.w.drew _ b hb
    obtain ⟨hle, hsk⟩ := h.toSt0.hle hs
    refine ⟨_, _, by rw [hv]; exact hrun, h.toSt0.world (w' := c.w.drew.alloc (.cells (vs.toArray ++ #[vb] ++ rest) 43)) (v' := .slice (some ⟨c.w.heap.size, 0, none⟩) (vs.length + 1) cap') ((World.grownBy_alloc c.w.drew _ none).size) ⟨rfl, rfl⟩ hs (.inr ⟨c.w.heap.size, cap', vs.toArray ++ #[vb] ++ rest, 43, ?_, by simp, h.hB, heap_alloc_new c.w.drew _, ?_, ?_, ?_⟩) (fun g hg => ?_) (by simp [hlen]) (push_rep h.toSt0 hle hq) (last' hsk)⟩
    · rw [List.length_append, List.length_singleton]
    · rw [List.length_append, List.length_singleton]; exact h1
    · simp; omega
    · rw [List.length_append, List.length_singleton]
      have e : (vs.toArray ++ #[vb] ++ rest).toList = (vs ++ [vb]) ++ rest.toList := by simp
      rw [e, List.take_left' (by simp)]
    · cases hg
      cases e : c.κ c.w.heap.size with
      | none => rfl
      | some l => have := h.own.lim _ l e; omega
  rcases h.row with ⟨hv, hvs⟩ | ⟨g, cap, xs, el, hv, h1, h2, h3, h4, h5, h6⟩
  · subst hvs
    exact grow none 0 hv (by simp) fun w' _ => run_firstCells_none w' _ _ _ _
  · have hcells : ∀ w' : World, w'.heap = c.w.heap → ∀ j u, vs[j]? = some u → w'.cell? ((⟨g, 0, none⟩ : Addr).add j) = some u := fun w' hw j u hu => by
      have hadd : (⟨g, 0, none⟩ : Addr).add j = ⟨g, j, none⟩ := by unfold Addr.add; split <;> simp_all
      have hj : j < vs.length := (List.getElem?_eq_some_iff.1 hu).1
      rw [← h6, List.getElem?_take_of_lt hj, Array.getElem?_toList] at hu
      rw [hadd]
      simp only [World.cell?, hw, h3]
      exact hu
    by_cases hfit : vs.length + 1 ≤ cap
    · have hxs : vs.length < xs.size := by omega
      have hst : (storeCells ⟨g, vs.length, none⟩ [vb]).run Tryd.prog c.w = .ok () (c.w.setCell ⟨g, vs.length, none⟩ vb) := by
        have := run_storeCells_cells (P := Tryd.prog) g vs.length [vb] 0 c.w (fun j hj => by
          have hj0 : j = 0 := by simp at hj; omega
          subst hj0
          simp only [World.cell?, h3]
          simp [hxs]) (fun j hj => by
          simp only [World.frozen?, h3]
          simp) (fun u hu => by simp at hu; subst hu; exact hone)
        exact this
      have hs : ∀ b, b < c.w.heap.size → v.ownBlock ≠ some b → (c.w.setCell ⟨g, vs.length, none⟩ vb).heap[b]? = c.w.heap[b]? := fun b hb hne => Below.heap_setCell _ _ _ b fun e => hne (by rw [hv, e]; rfl)
      obtain ⟨hle, hsk⟩ := h.toSt0.hle hs
      have hrun := append_room (P := Tryd.prog) (w := c.w) (tr := tr) (t := 24) (ty := 24) (e := 43) (base := some ⟨g, 0, none⟩) (len := vs.length) (cap := cap) (vy := .slice (some ad) 1 cp) (n := 1) (news := #[vb]) (w' := c.w.setCell ⟨g, vs.length, none⟩ vb) Tryd.underlying24 Tryd.underlying24 (fun k h => by cases h) (by rw [szC]; omega) (hn1 c.w rfl) hn2 hfit (fun a ha => by
        cases ha
        have hadd : (⟨g, 0, none⟩ : Addr).add (vs.length * szOf Tryd.prog 43) = ⟨g, vs.length, none⟩ := by rw [szC, Nat.mul_one]; unfold Addr.add; split <;> simp_all
        rw [hadd]
        exact hst) (fun h => by cases h)
      refine ⟨_, _, by rw [hv]; exact hrun, h.toSt0.world (w' := c.w.setCell ⟨g, vs.length, none⟩ vb) (v' := .slice (some ⟨g, 0, none⟩) (vs.length + 1) cap) (by rw [setCell_size]; exact Nat.le_refl _) ⟨rfl, rfl⟩ hs (.inr ⟨g, cap, xs.setIfInBounds vs.length vb, el, ?_, by simp, h2, setCell_row h3 _ _, ?_, ?_, ?_⟩) (fun g' hg => ?_) (by simp [hlen]) (push_rep h.toSt0 hle hq) (last' hsk)⟩
      · rw [List.length_append, List.length_singleton]
      · rw [List.length_append, List.length_singleton]; exact hfit
      · simp; exact h5
      · rw [List.length_append, List.length_singleton, Array.toList_setIfInBounds, List.take_add_one]
        rw [List.take_set_of_le (Nat.le_refl _), h6]
        congr 1
        simp [hxs]
      · cases hg
        exact h.κ g (by rw [hv]; rfl)
    · exact grow _ cap hv hfit fun w' hw => by rw [szC]; exact run_firstCells_some w' 1 _ _ _ _ vs (by simp) (hcells w' hw)
theorem snoc_getD {α : Type} {l : List α} {x d : α} {k : Nat} (h : k < l.length) : (l ++ [x]).getD k d = l.getD k d := by simp only [List.getD_eq_getElem?_getD]; rw [List.getElem?_append_left h]
theorem snoc_getD' {α : Type} {l : List α} {x d : α} : (l ++ [x]).getD l.length d = x := by simp
theorem St.lastAt {B : Nat} {c : Ctx} {v : Value} {P : List (List UInt8)} {p : List UInt8} {vs : List Value} {vx : Value} (h : St B c v (P ++ [p]) (vs ++ [vx])) :
    ∃ g cap, v = .slice (some ⟨g, 0, none⟩) (vs.length + 1) cap ∧ c.w.cell? ⟨g, vs.length, none⟩ = some vx ∧ c.w.frozen? ⟨g, vs.length, none⟩ = false ∧ Rep c vx (.sl false 0 (bys p)) ∧ Tight B c vx ∧ vs.length = P.length := by
  have hlen := h.len
  simp only [List.length_append, List.length_singleton] at hlen
  have hlen' : vs.length = P.length := by omega
  rcases h.row with ⟨_, hvs⟩ | ⟨g, cap, xs, el, hv, h1, h2, h3, h4, h5, h6⟩
  · simp at hvs
  · simp only [List.length_append, List.length_singleton] at hv h4 h6
    refine ⟨g, cap, hv, ?_, by simp [World.frozen?, h3], ?_, h.last vx (by simp), hlen'⟩
    · have e : (xs.toList.take (vs.length + 1))[vs.length]? = some vx := by rw [h6]; simp
      rw [List.getElem?_take_of_lt (by omega), Array.getElem?_toList] at e
      simp only [World.cell?, h3]
      exact e
    · have := h.rep P.length (by simp)
      rw [snoc_getD', ← hlen', snoc_getD'] at this
      exact this
theorem St.longer {B : Nat} {c : Ctx} {v : Value} {P : List (List UInt8)} {p : List UInt8} {vs : List Value} {vx : Value} (h : St B c v (P ++ [p]) (vs ++ [vx])) {vb : Value} {q : List UInt8} (hq : Rep c vb (.sl false 0 (bys q))) (hl : p.length + q.length ≤ 1000) (tr : TypeId)
    {g cap : Nat} (hv : v = .slice (some ⟨g, 0, none⟩) (vs.length + 1) cap) :
    ∃ (u : Value) (c1 : Ctx), (Builtin.append_ #[43, 43] tr #[vx, vb]).run Tryd.prog c.w = .ok u c1.w ∧ c1.w.cell? ⟨g, vs.length, none⟩ = some vx ∧ c1.w.frozen? ⟨g, vs.length, none⟩ = false ∧ (∃ y n' cp', u = .slice y n' cp') ∧
      Wk B c ⟨c1.w.setCell ⟨g, vs.length, none⟩ u, c1.n, c1.ι, c1.κ⟩ ∧ St B ⟨c1.w.setCell ⟨g, vs.length, none⟩ u, c1.n, c1.ι, c1.κ⟩ v (P ++ [p ++ q]) (vs ++ [u]) := by
  obtain ⟨g', cap', hv', hcell, hfr, hrx, htx, hlen'⟩ := h.lastAt
  rw [hv] at hv'
  obtain ⟨rfl, rfl⟩ : g = g' ∧ cap = cap' := by cases hv'; exact ⟨rfl, rfl⟩
  obtain ⟨u, c1, hrun, hk, hu, tu⟩ := append_piece h.n h.own h.hB hrx htx hq hl tr
  have hg : v.ownBlock = some g := by rw [hv]; rfl
  have hgκ := h.κ g hg
  have hgl := (h.row.lt hg).2
  obtain ⟨e1, e2⟩ := hk.same g hgl (.inr hgκ)
  have h0 : St0 B c1 v (P ++ [p]) (vs ++ [vx]) := ⟨hk.n, hk.own, Nat.le_trans h.hB hk.size, h.row.of fun g' hg' => by rw [hg] at hg'; cases hg'; exact e1, fun g' hg' => by rw [hg] at hg'; cases hg'; rw [e2]; exact hgκ, h.len, fun k hk' => Rep.mono hk.le (h.rep k hk')⟩
  have hs : ∀ b, b < c1.w.heap.size → v.ownBlock ≠ some b → (c1.w.setCell ⟨g, vs.length, none⟩ u).heap[b]? = c1.w.heap[b]? := fun b hb hne => Below.heap_setCell _ _ _ b fun e => hne (by rw [hg, e])
  obtain ⟨hle, hsk⟩ := h0.hle hs
  have hrow : OutRow B (c1.w.setCell ⟨g, vs.length, none⟩ u) v (vs ++ [u]) := by
    rcases h0.row with ⟨_, hvs⟩ | ⟨g2, cap2, xs, el, hv2, h1, h2, h3, h4, h5, h6⟩
    · simp at hvs
    · rw [hv] at hv2
      simp only [List.length_append, List.length_singleton] at hv2
      obtain ⟨rfl, rfl⟩ : g = g2 ∧ cap = cap2 := by cases hv2; exact ⟨rfl, rfl⟩
      simp only [List.length_append, List.length_singleton] at h4 h6
      refine .inr ⟨g, cap, xs.setIfInBounds vs.length u, el, by rw [hv, List.length_append, List.length_singleton], by simp, h2, setCell_row h3 _ _, by rw [List.length_append, List.length_singleton]; exact h4, by simp; exact h5, ?_⟩
      rw [List.length_append, List.length_singleton, Array.toList_setIfInBounds, List.take_set, h6]
      simp
  have hrep : ∀ k, k < (P ++ [p ++ q]).length → Rep ⟨c1.w.setCell ⟨g, vs.length, none⟩ u, c1.n, c1.ι, c1.κ⟩ ((vs ++ [u]).getD k undef) (.sl false 0 (bys ((P ++ [p ++ q]).getD k []))) := fun k hk' => by
    rw [List.length_append, List.length_singleton] at hk'
    by_cases e : k < P.length
    · rw [snoc_getD (by omega), snoc_getD e]
      have := h0.rep k (by simp; omega)
      rw [snoc_getD (by omega), snoc_getD e] at this
      exact Rep.mono hle this
    · obtain rfl : k = P.length := by omega
      rw [snoc_getD', ← hlen', snoc_getD']
      exact Rep.mono hle hu
  obtain ⟨w1, w2⟩ := h0.world (w' := c1.w.setCell ⟨g, vs.length, none⟩ u) (v' := v) (P' := P ++ [p ++ q]) (vs' := vs ++ [u]) (by rw [setCell_size]; exact Nat.le_refl _) ⟨rfl, rfl⟩ hs hrow h0.κ (by simp [hlen']) hrep (fun y hy => by
    simp at hy
    subst hy
    exact tu.of hk.own fun b hb => ⟨hsk b hb, rfl⟩)
  refine ⟨u, c1, hrun, ?_, ?_, ?_, (hk.wk h.hB).trans w1, w2⟩
  · simp only [World.cell?, e1]; exact hcell
  · simp only [World.frozen?, e1]; exact hfr
  · rcases hu.slInv with ⟨x, rfl, _⟩ | ⟨b, off, cp, rfl, _⟩
    · exact ⟨_, _, _, rfl⟩
    · exact ⟨_, _, _, rfl⟩
end Go.Proofs.YtkpjkaikeeldfaaDoor.Wb
end

section
/- Split by definition: the walk. -/
namespace Go.Proofs.YtkpjkaikeeldfaaDoor.Wb
open Go Go.RowKit Go.Weave Go.Proofs.YtkpjkaikeeldfaaDoor.Wa
set_option maxRecDepth 100000
set_option linter.unusedSimpArgs false
set_option linter.unusedVariables false
set_option linter.unusedSectionVars false

theorem fr5 {a a' : Act} (h : FrOf ops5 a a') (s : Nat) (hs : (ops5.toList.all fun o => o.dst != some s) = true) : a'.tmps.getD s undef = a.tmps.getD s undef :=
  h.2 s fun o ho => by have := List.all_eq_true.1 hs o ho; simpa using this
theorem lstep1 {T : List Value} {n : Nat} (h : T.length = n + 1) : ∃ x T', T = x :: T' ∧ T'.length = n := by
  cases T with
  | nil => cases h
  | cons x T => exact ⟨x, T, rfl, by simpa using h⟩
theorem list57 (T : List Value) (h : T.length = 57) : ∃ x0 x1 x2 x3 x4 x5 x6 x7 x8 x9 x10 x11 x12 x13 x14 x15 x16 x17 x18 x19 x20 x21 x22 x23 x24 x25 x26 x27 x28 x29 x30 x31 x32 x33 x34 x35 x36 x37 x38 x39 x40 x41 x42 x43 x44 x45 x46 x47 x48 x49 x50 x51 x52 x53 x54 x55 x56, T = [x0, x1, x2, x3, x4, x5, x6, x7, x8, x9, x10, x11, x12, x13, x14, x15, x16, x17, x18, x19, x20, x21, x22, x23, x24, x25, x26, x27, x28, x29, x30, x31, x32, x33, x34, x35, x36, x37, x38, x39, x40, x41, x42, x43, x44, x45, x46, x47, x48, x49, x50, x51, x52, x53, x54, x55, x56] := by
  obtain ⟨x0, T0, rfl, h0⟩ := lstep1 h
  obtain ⟨x1, T1, rfl, h1⟩ := lstep1 h0
  obtain ⟨x2, T2, rfl, h2⟩ := lstep1 h1
  obtain ⟨x3, T3, rfl, h3⟩ := lstep1 h2
  obtain ⟨x4, T4, rfl, h4⟩ := lstep1 h3
  obtain ⟨x5, T5, rfl, h5⟩ := lstep1 h4
  obtain ⟨x6, T6, rfl, h6⟩ := lstep1 h5
  obtain ⟨x7, T7, rfl, h7⟩ := lstep1 h6
  obtain ⟨x8, T8, rfl, h8⟩ := lstep1 h7
  obtain ⟨x9, T9, rfl, h9⟩ := lstep1 h8
  obtain ⟨x10, T10, rfl, h10⟩ := lstep1 h9
  obtain ⟨x11, T11, rfl, h11⟩ := lstep1 h10
  obtain ⟨x12, T12, rfl, h12⟩ := lstep1 h11
  obtain ⟨x13, T13, rfl, h13⟩ := lstep1 h12
  obtain ⟨x14, T14, rfl, h14⟩ := lstep1 h13
  obtain ⟨x15, T15, rfl, h15⟩ := lstep1 h14
  obtain ⟨x16, T16, rfl, h16⟩ := lstep1 h15
  obtain ⟨x17, T17, rfl, h17⟩ := lstep1 h16
  obtain ⟨x18, T18, rfl, h18⟩ := lstep1 h17
  obtain ⟨x19, T19, rfl, h19⟩ := lstep1 h18
  obtain ⟨x20, T20, rfl, h20⟩ := lstep1 h19
  obtain ⟨x21, T21, rfl, h21⟩ := lstep1 h20
  obtain ⟨x22, T22, rfl, h22⟩ := lstep1 h21
  obtain ⟨x23, T23, rfl, h23⟩ := lstep1 h22
  obtain ⟨x24, T24, rfl, h24⟩ := lstep1 h23
  obtain ⟨x25, T25, rfl, h25⟩ := lstep1 h24
  obtain ⟨x26, T26, rfl, h26⟩ := lstep1 h25
  obtain ⟨x27, T27, rfl, h27⟩ := lstep1 h26
  obtain ⟨x28, T28, rfl, h28⟩ := lstep1 h27
  obtain ⟨x29, T29, rfl, h29⟩ := lstep1 h28
  obtain ⟨x30, T30, rfl, h30⟩ := lstep1 h29
  obtain ⟨x31, T31, rfl, h31⟩ := lstep1 h30
  obtain ⟨x32, T32, rfl, h32⟩ := lstep1 h31
  obtain ⟨x33, T33, rfl, h33⟩ := lstep1 h32
  obtain ⟨x34, T34, rfl, h34⟩ := lstep1 h33
  obtain ⟨x35, T35, rfl, h35⟩ := lstep1 h34
  obtain ⟨x36, T36, rfl, h36⟩ := lstep1 h35
  obtain ⟨x37, T37, rfl, h37⟩ := lstep1 h36
  obtain ⟨x38, T38, rfl, h38⟩ := lstep1 h37
  obtain ⟨x39, T39, rfl, h39⟩ := lstep1 h38
  obtain ⟨x40, T40, rfl, h40⟩ := lstep1 h39
  obtain ⟨x41, T41, rfl, h41⟩ := lstep1 h40
  obtain ⟨x42, T42, rfl, h42⟩ := lstep1 h41
  obtain ⟨x43, T43, rfl, h43⟩ := lstep1 h42
  obtain ⟨x44, T44, rfl, h44⟩ := lstep1 h43
  obtain ⟨x45, T45, rfl, h45⟩ := lstep1 h44
  obtain ⟨x46, T46, rfl, h46⟩ := lstep1 h45
  obtain ⟨x47, T47, rfl, h47⟩ := lstep1 h46
  obtain ⟨x48, T48, rfl, h48⟩ := lstep1 h47
  obtain ⟨x49, T49, rfl, h49⟩ := lstep1 h48
  obtain ⟨x50, T50, rfl, h50⟩ := lstep1 h49
  obtain ⟨x51, T51, rfl, h51⟩ := lstep1 h50
  obtain ⟨x52, T52, rfl, h52⟩ := lstep1 h51
  obtain ⟨x53, T53, rfl, h53⟩ := lstep1 h52
  obtain ⟨x54, T54, rfl, h54⟩ := lstep1 h53
  obtain ⟨x55, T55, rfl, h55⟩ := lstep1 h54
  obtain ⟨x56, T56, rfl, h56⟩ := lstep1 h55
  have e : T56 = [] := List.length_eq_zero_iff.1 h56
  subst e
  exact ⟨x0, x1, x2, x3, x4, x5, x6, x7, x8, x9, x10, x11, x12, x13, x14, x15, x16, x17, x18, x19, x20, x21, x22, x23, x24, x25, x26, x27, x28, x29, x30, x31, x32, x33, x34, x35, x36, x37, x38, x39, x40, x41, x42, x43, x44, x45, x46, x47, x48, x49, x50, x51, x52, x53, x54, x55, x56, rfl⟩
theorem R5_lit {c : Ctx} (hn : c.n = 0) (hb : BRel c tok0) {v0 v1 v2 v3 v56 y5 y6 y7 y8 y9 y10 y11 y12 y13 y14 y15 y16 y17 y18 y19 y20 y21 y22 y23 y24 y25 y26 y27 y28 y29 y30 y31 y32 y33 y34 y35 y36 y37 y38 y39 y40 y41 y42 y43 y44 y45 y46 y47 y48 y49 y50 y51 y52 y53 y54 y55 : Value} {f0 : Bool} {L : List KPair} (rl : Rep c v0 (.sl f0 3 (prs L))) {i : Nat} (hi : i < L.length) (hk : (L[i]).key.length ≤ 24) (hv : (L[i]).val.length ≤ 128)
    {ops : Array Oper} (ho : ops = ops5) {Qx : Exit → Act → World → Prop}
    (hQ : ∀ (c' : Ctx) (x5 x6 x7 x8 x9 x10 x11 x12 x13 x14 x15 x16 x17 x18 x19 x20 x21 x22 x23 x24 x25 x26 x27 x28 x29 x30 x31 x32 x33 x34 x35 x36 x37 x38 x39 x40 x41 x42 x43 x44 x45 x46 x47 x48 x49 x50 x51 x52 x53 x54 x55 : Value), Pres (bs c.w.heap.size) c tok0 c' tok0 → c'.n = 0 → BRel c' tok0 → Rep c' x5 (.sl false 0 (bys (pkP ((L[i]).key, (L[i]).val)))) → Tight c.w.heap.size c' x5 → Qx .normal ⟨#[v0, v1, v2, v3, .int .i64 i, x5, x6, x7, x8, x9, x10, x11, x12, x13, x14, x15, x16, x17, x18, x19, x20, x21, x22, x23, x24, x25, x26, x27, x28, x29, x30, x31, x32, x33, x34, x35, x36, x37, x38, x39, x40, x41, x42, x43, x44, x45, x46, x47, x48, x49, x50, x51, x52, x53, x54, x55, v56], []⟩ c'.w) :
    (Code.region 5 ops true).wp Tryd.prog Qx ⟨#[v0, v1, v2, v3, .int .i64 i, y5, y6, y7, y8, y9, y10, y11, y12, y13, y14, y15, y16, y17, y18, y19, y20, y21, y22, y23, y24, y25, y26, y27, y28, y29, y30, y31, y32, y33, y34, y35, y36, y37, y38, y39, y40, y41, y42, y43, y44, y45, y46, y47, y48, y49, y50, y51, y52, y53, y54, y55, v56], []⟩ c.w := by
  subst ho
  refine R5_wp hn hb rl hi hk hv rfl (by simp) rfl rfl fun c' a' v h1 h2 h3 h4 h5 h6 h7 h8 => ?_
  obtain ⟨⟨T⟩, df⟩ := a'
  have hs : T.length = 57 := h4.1
  obtain ⟨x0, x1, x2, x3, x4, x5, x6, x7, x8, x9, x10, x11, x12, x13, x14, x15, x16, x17, x18, x19, x20, x21, x22, x23, x24, x25, x26, x27, x28, x29, x30, x31, x32, x33, x34, x35, x36, x37, x38, x39, x40, x41, x42, x43, x44, x45, x46, x47, x48, x49, x50, x51, x52, x53, x54, x55, x56, rfl⟩ := list57 T hs
  have e0 : x0 = v0 := fr5 h4 0 (by kernel_rfl)
  have e1 : x1 = v1 := fr5 h4 1 (by kernel_rfl)
  have e2 : x2 = v2 := fr5 h4 2 (by kernel_rfl)
  have e3 : x3 = v3 := fr5 h4 3 (by kernel_rfl)
  have e4 : x4 = .int .i64 i := fr5 h4 4 (by kernel_rfl)
  have e56 : x56 = v56 := fr5 h4 56 (by kernel_rfl)
  have e5 : x5 = v := h6
  subst e0 e1 e2 e3 e4 e5 e56
  have hd : df = [] := h5
  subst hd
  exact hQ c' x5 x6 x7 x8 x9 x10 x11 x12 x13 x14 x15 x16 x17 x18 x19 x20 x21 x22 x23 x24 x25 x26 x27 x28 x29 x30 x31 x32 x33 x34 x35 x36 x37 x38 x39 x40 x41 x42 x43 x44 x45 x46 x47 x48 x49 x50 x51 x52 x53 x54 x55 h1 h2 h3 h7 h8
theorem wpList_run {P : Program} {w : World} {ops : Array Oper} {rest : List Oper} {o : Oper} {a : Act} {Q : Exit → Act → World → Prop} (hgd : o.guard = none) (s x : Operand) (t t' : TypeId)
    (ho : o.op = .call { callee := .builtin .append, args := #[s, x], argTypes := #[t, t'] }) {v u v' : Value} {w' : World} {tr : TypeId} (htr : o.type = tr) (hs : a.eval s = v) (hx : a.eval x = u)
    (hrun : (Builtin.append_ #[t, t'] tr #[v, u]).run P w = .ok v' w') (h : wpList P ops Q rest (a.put o.dst v') w') : wpList P ops Q (o :: rest) a w :=
  wpList_plain hgd fun _ hK => by
    unfold Oper.wp execOp
    subst htr
    simp only [ho, resolve, invoke, builtin, Sem.run_bind, Sem.run_pure, Result.andThen_ok, List.map_toArray, List.map_cons, List.map_nil, hs, hx, hrun]
    exact hK _ _ h
theorem St.alloc {B : Nat} {c : Ctx} {v : Value} {P : List (List UInt8)} {vs : List Value} (h : St B c v P vs) (o : Obj) : Wk B c ⟨c.w.alloc o, c.n, c.ι, c.κ⟩ ∧ St B ⟨c.w.alloc o, c.n, c.ι, c.κ⟩ v P vs := by
  have hs : ∀ b, b < c.w.heap.size → (c.w.alloc o).heap[b]? = c.w.heap[b]? := fun b hb => Below.heap_alloc _ _ b hb
  obtain ⟨hle, hsk⟩ := h.toSt0.hle fun b hb _ => hs b hb
  exact h.toSt0.world (w' := c.w.alloc o) (World.grownBy_alloc c.w o none).size ⟨rfl, rfl⟩ (fun b hb _ => hs b hb) (h.row.of fun g hg => hs g (h.row.lt hg).2) h.κ h.len (fun k hk => Rep.mono hle (h.rep k hk)) fun u hu => (h.last u hu).of h.own fun b hb => ⟨hsk b hb, rfl⟩
theorem Wk.of_pres {B : Nat} {c c' : Ctx} (h : Pres (bs c.w.heap.size) c tok0 c' tok0) (hB : B ≤ c.w.heap.size) : Wk B c c' :=
  ⟨h.le, h.size, h.io, fun b hb => h.same b fun h => h.elim (fun h => by have h : c.w.heap.size ≤ b := h; omega) id⟩
theorem St.pushA {B : Nat} {c : Ctx} {v : Value} {P : List (List UInt8)} {vs : List Value} (h : St B c v P vs) {y : Option Addr} {n cp : Nat} {q : List UInt8} (hq : Rep c (.slice y n cp) (.sl false 0 (bys q))) (tq : Tight B c (.slice y n cp)) (hP : P.length ≤ 1000) :
    ∃ v' w', (Builtin.append_ #[24, 24] 24 #[v, .slice (some ⟨c.w.heap.size, 0, none⟩) 1 1]).run Tryd.prog (c.w.alloc (.cells #[.slice y n cp] 43)) = .ok v' w' ∧ Wk B c ⟨w', c.n, c.ι, c.κ⟩ ∧ St B ⟨w', c.n, c.ι, c.κ⟩ v' (P ++ [q]) (vs ++ [.slice y n cp]) := by
  obtain ⟨h1, h2⟩ := h.alloc (.cells #[.slice y n cp] 43)
  have hs : ∀ b, c.κ b ≠ none → (c.w.alloc (.cells #[.slice y n cp] 43)).heap[b]? = c.w.heap[b]? := fun b hb => by
    cases e : c.κ b with
    | none => exact absurd e hb
    | some l => exact Below.heap_alloc _ _ b (h.own.lim b l e)
  obtain ⟨v', w', r, h3, h4⟩ := h2.push (vb := .slice y n cp) (q := q) (Rep.mono h1.le hq) (tq.of h.own fun b hb => ⟨hs b hb, rfl⟩) (ad := ⟨c.w.heap.size, 0, none⟩) (cp := 1) (by
    have := heap_alloc_new c.w (.cells #[.slice y n cp] 43)
    simp only [World.cell?, this]; rfl) rfl hP 24
  exact ⟨v', w', r, h1.trans h3, h4⟩
def prL (L : List KPair) : List (List UInt8 × List UInt8) := L.map fun p => (p.key, p.val)
theorem splitS_snoc (l : List (List UInt8 × List UInt8)) (p : List UInt8 × List UInt8) : splitS (l ++ [p]) = stepS (splitS l) (pkP p) := by simp [splitS]
theorem prL_take {L : List KPair} {j : Nat} (h : j < L.length) : prL (L.take (j + 1)) = prL (L.take j) ++ [((L[j]).key, (L[j]).val)] := by
  unfold prL; rw [List.take_succ_eq_append_getElem h, List.map_append]; rfl
theorem stepS_nil (b : List UInt8) : stepS [] b = [b] := rfl
theorem stepS_snoc (P : List (List UInt8)) (p b : List UInt8) : stepS (P ++ [p]) b = if p.length + b.length ≤ 400 then P ++ [p ++ b] else P ++ [p] ++ [b] := by
  unfold stepS
  simp
theorem splitS_len : ∀ (l : List (List UInt8 × List UInt8)), (splitS l).length ≤ l.length := fun l => by
  have : ∀ (n : Nat) (l : List (List UInt8 × List UInt8)), l.length = n → (splitS l).length ≤ n := fun n => by
    induction n with
    | zero => intro l hl; rw [List.length_eq_zero_iff.1 hl]; simp [splitS]
    | succ n ih =>
      intro l hl
      rcases List.eq_nil_or_concat l with rfl | ⟨l0, p, rfl⟩
      · simp at hl
      · rw [List.concat_eq_append] at hl ⊢
        have h := ih l0 (by simpa using hl)
        rw [splitS_snoc]
        rcases List.eq_nil_or_concat (splitS l0) with e | ⟨P, x, e⟩
        · rw [e, stepS_nil]; simp
        · rw [e, List.concat_eq_append, stepS_snoc]
          rw [e, List.concat_eq_append] at h
          simp only [List.length_append, List.length_singleton] at h
          split <;> simp <;> omega
  exact this _ l rfl
theorem splitS_le {l : List (List UInt8 × List UInt8)} (hl : ∀ p ∈ l, p.1.length ≤ 24 ∧ p.2.length ≤ 128) : ∀ x ∈ splitS l, x.length ≤ 400 ∧ 2 ≤ x.length := by
  have : ∀ (n : Nat) (l : List (List UInt8 × List UInt8)), l.length = n → (∀ p ∈ l, p.1.length ≤ 24 ∧ p.2.length ≤ 128) → ∀ x ∈ splitS l, x.length ≤ 400 ∧ 2 ≤ x.length := fun n => by
    induction n with
    | zero => intro l hl _ x hx; rw [List.length_eq_zero_iff.1 hl] at hx; simp [splitS] at hx
    | succ n ih =>
      intro l hl hk x hx
      rcases List.eq_nil_or_concat l with rfl | ⟨l0, p, rfl⟩
      · simp at hl
      · rw [List.concat_eq_append] at hl hk hx
        have h := ih l0 (by simpa using hl) fun p hp => hk p (by simp [hp])
        have hp := hk p (by simp)
        have hb := pkP_len hp.1 hp.2
        rw [splitS_snoc] at hx
        rcases List.eq_nil_or_concat (splitS l0) with e | ⟨P, y, e⟩
        · rw [e, stepS_nil] at hx
          simp at hx
          subst hx
          omega
        · rw [e, List.concat_eq_append, stepS_snoc] at hx
          rw [e, List.concat_eq_append] at h
          have hy := h y (by simp)
          split at hx
          · simp at hx
            rcases hx with hx | rfl
            · exact h x (by simp [hx])
            · simp; omega
          · simp at hx
            rcases hx with hx | rfl | rfl
            · exact h x (by simp [hx])
            · exact hy
            · omega
  exact this _ l rfl hl
end Go.Proofs.YtkpjkaikeeldfaaDoor.Wb
end

section
/- Points: pairs split into pieces, by the program. -/
namespace Go.Proofs.YtkpjkaikeeldfaaDoor.Wa
open Go Go.Weave
set_option maxRecDepth 100000
set_option linter.unusedSimpArgs false
set_option linter.unusedVariables false
set_option linter.unusedSectionVars false

def pO (e : HCell) : Weave.Obj := .cells [e]
def eOK (e : HCell) (es : List AVal) : Prop := e = .own 0 es ∨ (e = .val (.sl true 0 []) ∧ es = [])
theorem eOK.toA {e : HCell} {es : List AVal} (h : eOK e es) : ∃ f, e.toA = .sl f 0 es := by
  rcases h with rfl | ⟨rfl, rfl⟩
  · exact ⟨false, rfl⟩
  · exact ⟨true, rfl⟩
section
variable {h : Heap} {i : Nat} {e : HCell}
theorem pO_c0 (hm : h.objs[i]? = some (pO e)) : h.cell? i 0 = some e := by rw [Heap.cell_at hm]; rfl
theorem pO_s0 (hm : h.objs[i]? = some (pO e)) {c' : HCell} : h.setCell i 0 c' = h.put i (pO c') := by rw [Heap.set_at hm]; rfl
end
theorem lent_p {h : Heap} {i : Nat} {e : HCell} {es : List AVal} (hm : h.objs[i]? = some (pO e)) (he : eOK e es) {K : Heap → Tr Res} {Q : Res → Prop} {tg : Hid Q} {X : Prop}
    (hK : ∀ h2 : Heap, (∃ e', h2.objs[i]? = some (pO e')) → (∀ o, h2.put i o = h.put i o) → Run (K h2) Q ⟨⟩ = X) : Run (lentK h i 0 0 es K) Q tg = X := by
  have c0 := pO_c0 hm
  rcases he with rfl | ⟨rfl, e⟩
  · rw [at_lentK_own c0, pO_s0 hm]
    exact hK _ ⟨_, Heap.put_get hm⟩ (fun o => Heap.put_put _ _ _ _)
  · rw [at_lentK_full c0]
    exact hK _ ⟨_, hm⟩ (fun o => rfl)
def fin (out : List (List UInt8)) (p : List UInt8) : List (List UInt8) := if p = [] then out else out ++ [p]
theorem close_run {d pi oi : Nat} (hne : pi ≠ oi) {h : Heap} {ep eo : HCell} {p : List UInt8} {out : List (List UInt8)} (hp : h.objs[pi]? = some (pO ep)) (ep' : eOK ep (bys p)) (ho : h.objs[oi]? = some (pO eo)) (eo' : eOK eo (flds out)) (hl : out.length ≤ 1000) :
    ∃ e2, eOK e2 (flds (fin out p)) ∧ ∀ (Q : Res → Prop) (tg : Hid Q), Run (evFn Cw (d + 1) 14 [.obj pi 0, .obj oi 0] h) Q tg = Q ([], (h.put oi (pO e2)).put pi (pO (.val (.sl true 0 [])))) := by
  have c0 := pO_c0 hp
  obtain ⟨fp, hpA⟩ := ep'.toA
  obtain ⟨fo, hoA⟩ := eo'.toA
  unfold fin
  by_cases c : p = []
  · subst c
    have b1 : decide ((((bys ([] : List UInt8)).length : Nat) : Int) > 0) = false := by simp [bys]
    have s0 := pO_s0 hp (c' := .val (.sl true 0 []))
    have e0 : h.put oi (pO eo) = h := by
      unfold Heap.put
      congr 1
      obtain ⟨hlt, hg⟩ := List.getElem?_eq_some_iff.1 ho
      rw [← hg, List.set_getElem_self]
    refine ⟨eo, by rw [if_pos rfl]; exact eo', fun Q tg => ?_⟩
    rw [F14_eq]
    simp (disch := (first | assumption | (simp only [Bool.and_eq_true, Bool.and_eq_false_iff, decide_eq_true_eq, decide_eq_false_iff_not, bne_iff_ne, beq_iff_eq, beq_eq_false_iff_ne, bne_eq_false_iff_eq, Bool.not_eq_true', Bool.not_eq_false', bys_length, List.length_append, List.length_cons, List.length_nil, List.length_map, List.length_drop, List.length_take, Int.natCast_add, wrap_i64_eq, wrap_u64, wrap_u8, ne_eq, not_true_eq_false, not_false_eq_true, Nat.zero_add, Nat.mul_one] <;> omega) | omega | (simp; done) | (simp; omega))) only [↓CR, MC, ↓PR, MR, c0, hpA, b1, s0, e0]
  · have hpl : 1 ≤ p.length := by cases p with | nil => exact absurd rfl c | cons x r => simp
    have b1 : decide ((((bys p).length : Nat) : Int) > 0) = true := by simp [bys_length]; omega
    have co := pO_c0 ho
    refine ⟨.own 0 (flds (out ++ [p])), .inl (by rw [if_neg c]), fun Q tg => ?_⟩
    rw [F14_eq]
    simp (disch := (first | assumption | (simp only [Bool.and_eq_true, Bool.and_eq_false_iff, decide_eq_true_eq, decide_eq_false_iff_not, bne_iff_ne, beq_iff_eq, beq_eq_false_iff_ne, bne_eq_false_iff_eq, Bool.not_eq_true', Bool.not_eq_false', bys_length, List.length_append, List.length_cons, List.length_nil, List.length_map, List.length_drop, List.length_take, Int.natCast_add, wrap_i64_eq, wrap_u64, wrap_u8, ne_eq, not_true_eq_false, not_false_eq_true, Nat.zero_add, Nat.mul_one] <;> omega) | omega | (simp; done) | (simp; omega))) only [↓CR, MC, ↓PR, MR, c0, hpA, b1, co, hoA, flds_length, flds_snoc]
    refine lent_p ho eo' fun h2 hm2 hp2 => ?_
    obtain ⟨e2, hm2⟩ := hm2
    have c2 := pO_c0 hm2
    have s2 := pO_s0 hm2 (c' := .own 0 (flds (out ++ [p])))
    rw [hp2] at s2
    have hm3 : (h.put oi (pO (.own 0 (flds (out ++ [p]))))).objs[pi]? = some (pO ep) := by rw [Heap.put_ne (Ne.symm hne)]; exact hp
    have c3 := pO_c0 hm3
    have s3 := pO_s0 hm3 (c' := .val (.sl true 0 []))
    simp (disch := (first | assumption | (simp only [Bool.and_eq_true, Bool.and_eq_false_iff, decide_eq_true_eq, decide_eq_false_iff_not, bne_iff_ne, beq_iff_eq, beq_eq_false_iff_ne, bne_eq_false_iff_eq, Bool.not_eq_true', Bool.not_eq_false', bys_length, List.length_append, List.length_cons, List.length_nil, List.length_map, List.length_drop, List.length_take, Int.natCast_add, wrap_i64_eq, wrap_u64, wrap_u8, ne_eq, not_true_eq_false, not_false_eq_true, Nat.zero_add, Nat.mul_one] <;> omega) | omega | (simp; done) | (simp; omega))) only [↓CR, MC, ↓PR, MR, c2, s2, c3, s3]
theorem fin_step {out : List (List UInt8)} {p b : List UInt8} (hp : p = [] → out = []) (hb : b.length ≤ 260) (hb2 : b ≠ []) :
    stepS (fin out p) b = if p.length + b.length ≤ 400 then fin out (p ++ b) else fin (fin out p) b := by
  by_cases c : p = []
  · subst c
    have : out = [] := hp rfl
    subst this
    rw [if_pos (by simp; omega)]
    simp [fin, hb2]
    rfl
  · have e1 : fin out p = out ++ [p] := if_neg c
    rw [e1]
    unfold stepS
    simp only [List.getLast?_concat, List.dropLast_concat]
    split
    · simp [fin, c]
    · simp [fin, hb2]
theorem split_loop (d : Nat) (f : Bool) (l : List KPair) (hl : l.length ≤ 100) (hkv : ∀ p ∈ l, p.key.length ≤ 24 ∧ p.val.length ≤ 128) (oi pi : Nat) (hne : pi ≠ oi) :
    ∀ (n j k : Nat) (out : List (List UInt8)) (p : List UInt8) (eo ep : HCell) (h : Heap), h.objs[pi]? = some (pO ep) → eOK ep (bys p) → h.objs[oi]? = some (pO eo) → eOK eo (flds out) → splitS (Wb.prL (l.take j)) = fin out p → (p = [] → out = []) → p.length ≤ 400 → out.length ≤ 100 →
      l.length = j + n → n < k → ∃ h', ∀ (Q : Res → Prop) (tg : Hid Q), Run (P5_0 (d + 3) k oi pi pi oi f (prs l) (l.length : Nat) j h) Q tg = Q ([.sl false 0 (flds (splitS (Wb.prL l))), .int .i64 0], h') := by
  intro n
  induction n with
  | zero =>
    intro j k out p eo ep h hmp hep hmo heo hs hp0 hp4 hol hj hk
    obtain ⟨k, rfl⟩ : ∃ m, k = m + 1 := ⟨k - 1, by omega⟩
    obtain ⟨e2, he2, rc⟩ := close_run (d := d + 2) hne hmp hep hmo heo (by omega)
    have hm2 : ((h.put oi (pO e2)).put pi (pO (.val (.sl true 0 [])))).objs[oi]? = some (pO e2) := by rw [Heap.put_ne hne]; exact Heap.put_get hmo
    have c2 := pO_c0 hm2
    obtain ⟨fo, hoA⟩ := he2.toA
    rw [List.take_of_length_le (by omega)] at hs
    refine ⟨(h.put oi (pO e2)).put pi (pO (.val (.sl true 0 []))), fun Q tg => ?_⟩
    rw [P5_0_eq, hs]
    simp (disch := (first | assumption | (simp only [Bool.and_eq_true, Bool.and_eq_false_iff, decide_eq_true_eq, decide_eq_false_iff_not, bne_iff_ne, beq_iff_eq, beq_eq_false_iff_ne, bne_eq_false_iff_eq, Bool.not_eq_true', Bool.not_eq_false', bys_length, List.length_append, List.length_cons, List.length_nil, List.length_map, List.length_drop, List.length_take, Int.natCast_add, wrap_i64_eq, wrap_u64, wrap_u8, ne_eq, not_true_eq_false, not_false_eq_true, Nat.zero_add, Nat.mul_one] <;> omega) | omega | (simp; done) | (simp; omega))) only [↓CR, MC, ↓PR, MR, rc, c2, hoA]
  | succ n ih =>
    intro j k out p eo ep h hmp hep hmo heo hs hp0 hp4 hol hj hk
    obtain ⟨k, rfl⟩ : ∃ m, k = m + 1 := ⟨k - 1, by omega⟩
    have h1 : j < l.length := by omega
    have e1 := succ_wrap (i := j) (by omega)
    obtain ⟨hk1, hv1⟩ := hkv _ (List.getElem_mem h1)
    have hpk : pks [(l[j]).key, (l[j]).val] = pkP ((l[j]).key, (l[j]).val) := by
      have e : pks [(l[j]).key, (l[j]).val] = pk (l[j]).key ++ pk (l[j]).val := by simp [pks]
      rw [e, Wb.pkS_eq (by omega), Wb.pkS_eq hv1]; rfl
    have hbl := Wb.pkP_len (p := ((l[j]).key, (l[j]).val)) hk1 hv1
    have hst : splitS (Wb.prL (l.take (j + 1))) = stepS (fin out p) (pkP ((l[j]).key, (l[j]).val)) := by rw [Wb.prL_take h1, Wb.splitS_snoc, hs]
    have hlen' := Wb.splitS_len (Wb.prL (l.take (j + 1)))
    generalize hb : pkP ((l[j]).key, (l[j]).val) = b at *
    have hb2 : b ≠ [] := fun e => by rw [e] at hbl; simp at hbl
    rw [fin_step hp0 (by omega) hb2] at hst
    have rp := fun (h : Heap) (Q : Res → Prop) (tg : Hid Q) => pack_run (d := d) (f := true) (l := [(l[j]).key, (l[j]).val]) (h := h) (Q := Q) (tg := tg) (by rw [hpk]; omega) (by simp)
    have ef : flds [(l[j]).key, (l[j]).val] = [.sl false 0 ((l[j]).key.map ofByte), .sl false 0 ((l[j]).val.map ofByte)] := of_eq_true (eq_self _)
    rw [ef, hpk] at rp
    have qi : (decide ((0 : Int) ≤ (j : Nat)) && decide (((j : Nat) : Int) < ((prs l).length : Int))) = true := by rw [prs_length]; simp; omega
    have qj : decide (((j : Nat) : Int) < (l.length : Nat)) = true := by simp; omega
    have ew : IntKind.i64.wrap ((p.length : Int) + (b.length : Int)) = ((p.length + b.length : Nat) : Int) := by rw [wrap_i64_id (by omega) (by omega)]; omega
    have c0 := pO_c0 hmp
    obtain ⟨fp, hpA⟩ := hep.toA
    have hfl : (Wb.prL (l.take (j + 1))).length ≤ 100 := by simp [Wb.prL]; omega
    by_cases c : p.length + b.length ≤ 400
    · rw [if_pos c] at hst
      have b1 : decide (((p.length + b.length : Nat) : Int) > 400) = false := by simp; omega
      have hpb : p ++ b ≠ [] := fun e => hb2 (List.append_eq_nil_iff.1 e).2
      have hmo' : (h.put pi (pO (.own 0 (bys (p ++ b))))).objs[oi]? = some (pO eo) := by rw [Heap.put_ne hne]; exact hmo
      obtain ⟨h', r⟩ := ih (j + 1) k out (p ++ b) eo (.own 0 (bys (p ++ b))) (h.put pi (pO (.own 0 (bys (p ++ b))))) (Heap.put_get hmp) (.inl rfl) hmo' heo hst (fun e => absurd e hpb) (by simp; omega) hol (by omega) (by omega)
      refine ⟨h', fun Q tg => ?_⟩
      rw [P5_0_eq]
      simp (disch := (first | assumption | (simp only [Bool.and_eq_true, Bool.and_eq_false_iff, decide_eq_true_eq, decide_eq_false_iff_not, bne_iff_ne, beq_iff_eq, beq_eq_false_iff_ne, bne_eq_false_iff_eq, Bool.not_eq_true', Bool.not_eq_false', bys_length, List.length_append, List.length_cons, List.length_nil, List.length_map, List.length_drop, List.length_take, Int.natCast_add, wrap_i64_eq, wrap_u64, wrap_u8, ne_eq, not_true_eq_false, not_false_eq_true, Nat.zero_add, Nat.mul_one] <;> omega) | omega | (simp; done) | (simp; omega))) only [↓CR, MC, ↓PR, MR, qi, qj, prs_getD h1, rp, c0, hpA, bys_length, ew, b1]
      refine lent_p hmp hep fun h2 hm2 hp2 => ?_
      obtain ⟨e2, hm2⟩ := hm2
      have c2 := pO_c0 hm2
      have s2 := pO_s0 hm2 (c' := .own 0 (bys (p ++ b)))
      rw [hp2] at s2
      simp (disch := (first | assumption | (simp only [Bool.and_eq_true, Bool.and_eq_false_iff, decide_eq_true_eq, decide_eq_false_iff_not, bne_iff_ne, beq_iff_eq, beq_eq_false_iff_ne, bne_eq_false_iff_eq, Bool.not_eq_true', Bool.not_eq_false', bys_length, List.length_append, List.length_cons, List.length_nil, List.length_map, List.length_drop, List.length_take, Int.natCast_add, wrap_i64_eq, wrap_u64, wrap_u8, ne_eq, not_true_eq_false, not_false_eq_true, Nat.zero_add, Nat.mul_one] <;> omega) | omega | (simp; done) | (simp; omega))) only [↓CR, MC, ↓PR, MR, c2, ← bys_append, s2, e1, r]
    · rw [if_neg c] at hst
      have b1 : decide (((p.length + b.length : Nat) : Int) > 400) = true := by simp; omega
      obtain ⟨e2, he2, rc⟩ := close_run (d := d + 2) hne hmp hep hmo heo (by omega)
      obtain ⟨H, hH⟩ : ∃ H, H = (h.put oi (pO e2)).put pi (pO (.val (.sl true 0 []))) := ⟨_, rfl⟩
      rw [← hH] at rc
      have hmp2 : H.objs[pi]? = some (pO (.val (.sl true 0 []))) := by rw [hH]; exact Heap.put_get (by rw [Heap.put_ne (Ne.symm hne)]; exact hmp)
      have hmo2 : H.objs[oi]? = some (pO e2) := by rw [hH, Heap.put_ne hne]; exact Heap.put_get hmo
      have c3 := pO_c0 hmp2
      have c4 : (HCell.val (.sl true 0 [])).toA = .sl true 0 [] := rfl
      have hlf : (fin out p).length ≤ 100 := by
        rw [hst] at hlen'
        have e : fin (fin out p) b = fin out p ++ [b] := if_neg hb2
        rw [e] at hlen'
        simp only [List.length_append, List.length_singleton] at hlen'
        omega
      have hmo' : (H.put pi (pO (.own 0 (bys b)))).objs[oi]? = some (pO e2) := by rw [Heap.put_ne hne]; exact hmo2
      obtain ⟨h', r⟩ := ih (j + 1) k (fin out p) b e2 (.own 0 (bys b)) (H.put pi (pO (.own 0 (bys b)))) (Heap.put_get hmp2) (.inl rfl) hmo' he2 hst (fun e => absurd e hb2) (by omega) hlf (by omega) (by omega)
      have s3 := pO_s0 hmp2 (c' := .own 0 (bys b))
      refine ⟨h', fun Q tg => ?_⟩
      rw [P5_0_eq]
      simp (disch := (first | assumption | (simp only [Bool.and_eq_true, Bool.and_eq_false_iff, decide_eq_true_eq, decide_eq_false_iff_not, bne_iff_ne, beq_iff_eq, beq_eq_false_iff_ne, bne_eq_false_iff_eq, Bool.not_eq_true', Bool.not_eq_false', bys_length, List.length_append, List.length_cons, List.length_nil, List.length_map, List.length_drop, List.length_take, Int.natCast_add, wrap_i64_eq, wrap_u64, wrap_u8, ne_eq, not_true_eq_false, not_false_eq_true, Nat.zero_add, Nat.mul_one] <;> omega) | omega | (simp; done) | (simp; omega))) only [↓CR, MC, ↓PR, MR, qi, qj, prs_getD h1, rp, c0, hpA, bys_length, ew, b1, rc, c3, List.length_nil, at_lentK_full c3, s3, e1, r]
theorem psplit_run (d : Nat) (f : Bool) (l : List KPair) (hl : l.length ≤ 100) (hkv : ∀ p ∈ l, p.key.length ≤ 24 ∧ p.val.length ≤ 128) (hr : rightFrom l l.length 0 = true) (h : Heap) :
    ∃ h', ∀ (Q : Res → Prop) (tg : Hid Q), Run (evFn Cw (d + 4) 5 [.sl f 3 (prs l)] h) Q tg = Q ([.sl false 0 (flds (splitS (Wb.prL l))), .int .i64 0], h') := by
  have rr := fun (Q : Res → Prop) (tg : Hid Q) => pright_run (d := d + 2) (f := f) (l := l) (by omega) (h := h) (Q := Q) (tg := tg)
  rw [hr] at rr
  have e1 : (h.push pvA).objs.length = h.objs.length + 1 := Heap.push_len _ _
  have m1 : ((h.push pvA).push pvA).objs[h.objs.length]? = some pvA := (Heap.ext.push (h.push pvA) _).get (Heap.push_new h _)
  have m2 : ((h.push pvA).push pvA).objs[h.objs.length + 1]? = some pvA := by rw [← e1]; exact Heap.push_new _ _
  obtain ⟨h', r⟩ := split_loop d f l hl hkv h.objs.length (h.objs.length + 1) (by omega) l.length 0 rounds [] [] (.val (.sl true 0 [])) (.val (.sl true 0 [])) ((h.push pvA).push pvA) m2 (.inr ⟨rfl, rfl⟩) m1 (.inr ⟨rfl, rfl⟩) rfl (fun _ => rfl) (by simp) (by simp) (by omega) (Nat.lt_of_lt_of_le (by omega) rounds_ge)
  have eo : Weave.Obj.cells [HCell.val (.sl true 0 [])] = pvA := rfl
  rw [e0] at r
  refine ⟨h', fun Q tg => ?_⟩
  rw [F5_eq]
  simp (disch := (first | assumption | (simp only [Bool.and_eq_true, Bool.and_eq_false_iff, decide_eq_true_eq, decide_eq_false_iff_not, bne_iff_ne, beq_iff_eq, beq_eq_false_iff_ne, bne_eq_false_iff_eq, Bool.not_eq_true', Bool.not_eq_false', bys_length, List.length_append, List.length_cons, List.length_nil, List.length_map, List.length_drop, List.length_take, Int.natCast_add, wrap_i64_eq, wrap_u64, wrap_u8, ne_eq, not_true_eq_false, not_false_eq_true, Nat.zero_add, Nat.mul_one] <;> omega) | omega | (simp; done) | (simp; omega))) only [↓CR, MC, ↓PR, MR, rr, Bool.not_true, eo, e1, prs_length, r]
theorem psplit_bad (d : Nat) (f : Bool) (l : List KPair) (hl : l.length ≤ 100) (hr : rightFrom l l.length 0 = false) (h : Heap) (Q : Res → Prop) (tg : Hid Q) :
    Run (evFn Cw (d + 4) 5 [.sl f 3 (prs l)] h) Q tg = Q ([.sl true 0 [], .int .i64 13], h) := by
  have rr := fun (Q : Res → Prop) (tg : Hid Q) => pright_run (d := d + 2) (f := f) (l := l) (by omega) (h := h) (Q := Q) (tg := tg)
  rw [hr] at rr
  rw [F5_eq]
  simp (disch := (first | assumption | (simp only [Bool.and_eq_true, Bool.and_eq_false_iff, decide_eq_true_eq, decide_eq_false_iff_not, bne_iff_ne, beq_iff_eq, beq_eq_false_iff_ne, bne_eq_false_iff_eq, Bool.not_eq_true', Bool.not_eq_false', bys_length, List.length_append, List.length_cons, List.length_nil, List.length_map, List.length_drop, List.length_take, Int.natCast_add, wrap_i64_eq, wrap_u64, wrap_u8, ne_eq, not_true_eq_false, not_false_eq_true, Nat.zero_add, Nat.mul_one] <;> omega) | omega | (simp; done) | (simp; omega))) only [↓CR, MC, ↓PR, MR, rr, Bool.not_false]
end Go.Proofs.YtkpjkaikeeldfaaDoor.Wa
end

section
/- PointSplits. -/
namespace Go.Proofs.YtkpjkaikeeldfaaDoor.Wa
open Go Go.Weave
set_option maxRecDepth 100000
set_option linter.unusedSimpArgs false
set_option linter.unusedVariables false
set_option linter.unusedSectionVars false

theorem fget_pk34 {f rest : List UInt8} (h : f.length ≤ 65536) : fget (pk f ++ rest) = (f, (pk f).length, 0) := by
  have e : pk f = enc f.length ++ f := by unfold pk; rw [if_neg (by omega)]
  rw [fget_eq, e]
  unfold fgetW
  rw [List.append_assoc, get_enc0 f.length (f ++ rest) (by omega)]
  simp only [ne_eq, not_true_eq_false, if_false]
  rw [if_neg (by omega), if_neg (by simp), List.drop_left, List.take_left, List.length_append]
theorem pk_one {f : List UInt8} (h : f.length ≤ 65536) : 1 ≤ (pk f).length := by
  unfold pk
  rw [if_neg (by omega), List.length_append]
  have := (enc_length 9 f.length (lt_128_10 (by omega))).1
  omega
theorem pks_cons (f : List UInt8) (l : List (List UInt8)) : pks (f :: l) = pk f ++ pks l := by simp [pks]
theorem pks_app (a b : List (List UInt8)) : pks (a ++ b) = pks a ++ pks b := by simp [pks]
theorem unpF_pks : ∀ (fs : List (List UInt8)) (n : Nat) (acc : List (List UInt8)), (∀ f ∈ fs, f.length ≤ 65536) → (pks fs).length ≤ n → unpF n (pks fs) acc = (acc ++ fs, 0)
  | [], n, acc, _, _ => by
    have e : pks [] = [] := rfl
    rw [e, List.append_nil]
    cases n with
    | zero => exact unpF_zero _ _
    | succ n => rw [unpF_succ]; exact if_pos rfl
  | f :: fs, n, acc, hf, hn => by
    have h1 := pk_one (hf f (by simp))
    rw [pks_cons, List.length_append] at hn
    obtain ⟨n, rfl⟩ : ∃ m, n = m + 1 := ⟨n - 1, by omega⟩
    rw [pks_cons, unpF_succ, if_neg (by rw [List.length_append]; omega), fget_pk34 (hf f (by simp)), if_pos rfl, List.drop_left, unpF_pks fs n _ (fun x hx => hf x (by simp [hx])) (by omega)]
    simp
theorem unp_of {fs : List (List UInt8)} (hf : ∀ f ∈ fs, f.length ≤ 65536) : unp (pks fs) = (fs, 0) := by
  unfold unp
  rw [unpF_pks fs _ [] hf (Nat.le_refl _)]; rfl
def fsOf (g : List KPair) : List (List UInt8) := g.flatMap fun p => [p.key, p.val]
theorem fsOf_len (g : List KPair) : (fsOf g).length = 2 * g.length := by
  induction g with
  | nil => rfl
  | cons p g ih =>
    have e : fsOf (p :: g) = [p.key, p.val] ++ fsOf g := by simp [fsOf]
    rw [e, List.length_append, ih, List.length_cons]; simp; omega
theorem pairUp_fsOf : ∀ g : List KPair, pairUp (fsOf g) = g
  | [] => rfl
  | p :: g => by
    have e : fsOf (p :: g) = p.key :: p.val :: fsOf g := by simp [fsOf]
    rw [e]
    simp only [pairUp, pairUp_fsOf g]
theorem pcF_pks {g : List KPair} (hg : ∀ p ∈ g, p.key.length ≤ 24 ∧ p.val.length ≤ 128) (hl : (pks (fsOf g)).length ≤ 400) : pcF (pks (fsOf g)) = some g := by
  unfold pcF
  rw [unp_of (fun f hf => by
    simp only [fsOf, List.mem_flatMap] at hf
    obtain ⟨p, hp, hf⟩ := hf
    have := hg p hp
    simp at hf
    rcases hf with rfl | rfl <;> omega)]
  rw [if_neg, pairUp_fsOf]
  rw [fsOf_len]
  simp only [not_or]
  exact ⟨by simp, by omega, by omega⟩
/-- Pieces, as groups of pairs. -/
theorem split_groups : ∀ (n : Nat) (l : List KPair), l.length = n → (∀ p ∈ l, p.key.length ≤ 24 ∧ p.val.length ≤ 128) → ∃ G : List (List KPair), splitS (Wb.prL l) = G.map (fun g => pks (fsOf g)) ∧ G.flatten = l
  | 0, l, hl, _ => by rw [List.length_eq_zero_iff.1 hl]; exact ⟨[], rfl, rfl⟩
  | n + 1, l, hl, hk => by
    rcases List.eq_nil_or_concat l with rfl | ⟨l0, p, rfl⟩
    · simp at hl
    · rw [List.concat_eq_append] at hl hk ⊢
      obtain ⟨G, h1, h2⟩ := split_groups n l0 (by simpa using hl) fun p hp => hk p (by simp [hp])
      obtain ⟨a, b⟩ := hk p (by simp)
      have e : Wb.prL (l0 ++ [p]) = Wb.prL l0 ++ [(p.key, p.val)] := by simp [Wb.prL]
      have ep : pkP (p.key, p.val) = pks (fsOf [p]) := by
        have e2 : pks (fsOf [p]) = pk p.key ++ pk p.val := by simp [fsOf, pks]
        rw [e2, Wb.pkS_eq (by omega), Wb.pkS_eq b]; rfl
      rw [e, Wb.splitS_snoc, h1, ep]
      rcases List.eq_nil_or_concat G with rfl | ⟨G0, g, rfl⟩
      · refine ⟨[[p]], rfl, ?_⟩
        rw [← h2]; rfl
      · rw [List.concat_eq_append] at h1 h2 ⊢
        rw [List.map_append, List.map_singleton, Wb.stepS_snoc]
        split
        · refine ⟨G0 ++ [g ++ [p]], ?_, ?_⟩
          · have e3 : fsOf (g ++ [p]) = fsOf g ++ fsOf [p] := by simp [fsOf]
            rw [List.map_append, List.map_singleton, e3, pks_app]
          · rw [← h2]; simp
        · refine ⟨G0 ++ [g] ++ [[p]], ?_, ?_⟩
          · simp
          · rw [← h2]; simp
theorem pcsF_groups : ∀ (G : List (List KPair)) (acc : List KPair), (∀ g ∈ G, (∀ p ∈ g, p.key.length ≤ 24 ∧ p.val.length ≤ 128) ∧ (pks (fsOf g)).length ≤ 400) → pcsF (G.map fun g => pks (fsOf g)) acc = some (acc ++ G.flatten)
  | [], acc, _ => by simp [pcsF]
  | g :: G, acc, h => by
    obtain ⟨h1, h2⟩ := h g (by simp)
    rw [List.map_cons]
    unfold pcsF
    rw [pcF_pks h1 h2]
    simp only
    rw [pcsF_groups G (acc ++ g) (fun x hx => h x (by simp [hx]))]
    simp
theorem split_joins {l : List KPair} (hk : ∀ p ∈ l, p.key.length ≤ 24 ∧ p.val.length ≤ 128) : pcsF (splitS (Wb.prL l)) [] = some l := by
  obtain ⟨G, h1, h2⟩ := split_groups l.length l rfl hk
  have hs := Wb.splitS_le (l := Wb.prL l) (fun p hp => by
    obtain ⟨r, hr, rfl⟩ := List.mem_map.1 hp
    exact hk r hr)
  rw [h1] at hs ⊢
  rw [pcsF_groups G [] (fun g hg => ⟨fun p hp => hk p (by rw [← h2]; exact List.mem_flatten.2 ⟨g, hg, hp⟩), (hs _ (List.mem_map.2 ⟨g, hg, rfl⟩)).1⟩), h2]
  rfl
theorem right_kv {l : List KPair} (h : rightFrom l l.length 0 = true) : ∀ p ∈ l, p.key.length ≤ 24 ∧ p.val.length ≤ 128 := by
  have : ∀ (n i : Nat), i + n = l.length → rightFrom l n i = true → ∀ k, i ≤ k → k < l.length → okAt l k = true := fun n => by
    induction n with
    | zero => intro i hi _ k hk hk2; omega
    | succ n ih =>
      intro i hi hr k hk hk2
      unfold rightFrom at hr
      simp only [Bool.and_eq_true] at hr
      by_cases e : k = i
      · rw [e]; exact hr.1
      · exact ih (i + 1) (by omega) hr.2 k (by omega) hk2
  intro p hp
  obtain ⟨i, hi, rfl⟩ := List.getElem_of_mem hp
  have hok := this l.length 0 (by omega) h i (by omega) hi
  rw [okAt_at hi] at hok
  simp only [Bool.and_eq_true, decide_eq_true_eq] at hok
  exact ⟨hok.2.1, hok.2.2.1⟩

/-! ### The law -/
theorem decP2_prs : ∀ l : List KPair, decP2 (prs l) = some (Wb.prL l)
  | [] => rfl
  | p :: l => by
    show decP2 (.agg [.str p.key, .str p.val] :: prs l) = _
    unfold decP2
    rw [decP2_prs l]; rfl
theorem rsplit_run {d : Nat} {f : Bool} {l : List KPair} (hl : l.length ≤ 100) (hk : ∀ p ∈ l, p.key.length ≤ 24 ∧ p.val.length ≤ 128) {h : Heap} {Q : Res → Prop} {tg : Hid Q} :
    Run (evFn Cw (d + 1) 7 [.sl f 3 (prs l)] h) Q tg = Q ([.sl false 0 (flds (splitS (Wb.prL l)))], h) := by
  have e : evFn Cw (d + 1) 7 [.sl f 3 (prs l)] h = splitG [.sl f 3 (prs l)] h := rfl
  have hok : okP (Wb.prL l) = true := by
    unfold okP
    simp only [Bool.and_eq_true, decide_eq_true_eq, List.all_eq_true]
    refine ⟨fun x hx => ?_, by simp [Wb.prL]; exact hl⟩
    obtain ⟨p, hp, rfl⟩ := List.mem_map.1 hx
    exact hk p hp
  have e2 : splitG [.sl f 3 (prs l)] h = .ret ([.sl false 0 (flds (splitS (Wb.prL l)))], h) := by
    unfold splitG
    simp only [decP2_prs, hok, cond_true]
    rfl
  rw [e, e2]
  exact at_ret
/-- PointSplits. -/
theorem psplits_true (f : Bool) (l : List KPair) (hl : l.length ≤ 140737488351232) (h : Heap) :
    ∃ d h', Ans (evFn Cw d 3 [.sl f 3 (prs l)] h) ([.bool true], h') := by
  by_cases c0 : l.length ≤ 100
  · have b0 : decide (((l.length : Nat) : Int) > 100) = false := by simp; omega
    have rr := fun (h : Heap) (Q : Res → Prop) (tg : Hid Q) => rright34_run (d := 7) (f := f) (l := l) (by omega) (h := h) (Q := Q) (tg := tg)
    have z0 : ((0 : Int) == 0) = true := rfl
    have z1 : ((13 : Int) == 13) = true := rfl
    cases hr : rightFrom l l.length 0 with
    | false =>
      rw [hr] at rr
      obtain ⟨h', E, ra⟩ := awake34_run 1 h
      have rs := fun (Q : Res → Prop) (tg : Hid Q) => psplit_bad 4 f l c0 hr h Q tg
      refine ⟨9, h', Run.ans ?_⟩
      rw [F3_eq]
      simp (disch := (first | assumption | (simp only [Bool.and_eq_true, Bool.and_eq_false_iff, decide_eq_true_eq, decide_eq_false_iff_not, bne_iff_ne, beq_iff_eq, beq_eq_false_iff_ne, bne_eq_false_iff_eq, Bool.not_eq_true', Bool.not_eq_false', bys_length, List.length_append, List.length_cons, List.length_nil, List.length_map, List.length_drop, List.length_take, Int.natCast_add, wrap_i64_eq, wrap_u64, wrap_u8, ne_eq, not_true_eq_false, not_false_eq_true, Nat.zero_add, Nat.mul_one] <;> omega) | omega | (simp; done) | (simp; omega))) only [↓CR, MC, ↓PR, MR, prs_length, b0, rs, rr, Bool.not_false, z1, List.length_nil, ra]
    | true =>
      rw [hr] at rr
      have hk := right_kv hr
      obtain ⟨h1, rs⟩ := psplit_run 4 f l c0 hk hr h
      obtain ⟨h', E, ra⟩ := awake34_run 1 h1
      have hj := split_joins hk
      have hP := Wb.splitS_len (Wb.prL l)
      have hPl : (splitS (Wb.prL l)).length ≤ 100 := Nat.le_trans hP (by simp [Wb.prL]; exact c0)
      have hPs := Wb.splitS_le (l := Wb.prL l) (fun p hp => by
        obtain ⟨r, hr, rfl⟩ := List.mem_map.1 hp
        exact hk r hr)
      have r1 := fun (Q : Res → Prop) (tg : Hid Q) => rsplit_run (d := 7) (f := f) c0 hk (h := h1) (Q := Q) (tg := tg)
      generalize splitS (Wb.prL l) = P at *
      have hb4 : ∀ b ∈ P, b.length ≤ 40000000 := fun b hb => by have := (hPs b hb).1; omega
      have r2 := fun (Q : Res → Prop) (tg : Hid Q) => ptof_some (d := 2) (f := false) (ps := P) (by omega) hj (h := h1) (Q := Q) (tg := tg)
      have r3 := fun (Q : Res → Prop) (tg : Hid Q) => join_run (d := 2) (f := false) (x0 := (P.length : Int)) (x1 := (l.length : Int)) (x2 := sumN P 0) (ps := P) (by omega) hb4 (h := h1) (Q := Q) (tg := tg)
      have ej : jF (P.length : Int) (l.length : Int) (sumN P 0) P = (l, 0) := by
        unfold jF
        rw [if_neg (by omega), hj]
        simp only
        rw [if_neg (by rw [hr]; simp), if_neg (by simp)]
      have ev : jV (l, 0) = .sl false 3 (prs l) := if_pos rfl
      rw [ej, ev] at r3
      have r4 := fun (Q : Res → Prop) (tg : Hid Q) => same4_run (d := 7) (f := false) (g := false) (l := P) (h := h1) (Q := Q) (tg := tg) (by omega)
      have r5 := fun (Q : Res → Prop) (tg : Hid Q) => rptof_run (d := 3) (f := false) (ps := P) (by omega) hb4 hj (h := h1) (Q := Q) (tg := tg)
      have r6 := fun (Q : Res → Prop) (tg : Hid Q) => same31_run (d := 7) (f := false) (g := f) (l := l) (h := h1) (Q := Q) (tg := tg) (by omega)
      have qe : ∀ a b c : Int, eqCells [AVal.int .i64 a, AVal.int .i64 b, AVal.int .u32 c] [AVal.int .i64 a, AVal.int .i64 b, AVal.int .u32 c] = true := fun a b c => by simp [eqCells_cons, eqCells_nil, eq1_int]
      have z2 : (((0 : Nat) : Int) == 0) = true := rfl
      refine ⟨9, h', Run.ans ?_⟩
      rw [F3_eq]
      simp (disch := (first | assumption | (simp only [Bool.and_eq_true, Bool.and_eq_false_iff, decide_eq_true_eq, decide_eq_false_iff_not, bne_iff_ne, beq_iff_eq, beq_eq_false_iff_ne, bne_eq_false_iff_eq, Bool.not_eq_true', Bool.not_eq_false', bys_length, List.length_append, List.length_cons, List.length_nil, List.length_map, List.length_drop, List.length_take, Int.natCast_add, wrap_i64_eq, wrap_u64, wrap_u8, ne_eq, not_true_eq_false, not_false_eq_true, Nat.zero_add, Nat.mul_one] <;> omega) | omega | (simp; done) | (simp; omega))) only [↓CR, MC, ↓PR, MR, prs_length, b0, rs, rr, Bool.not_true, r1, r2, r3, z0, z2, r4, r5, plain38, qe, r6, ra]
  · have b0 : decide (((l.length : Nat) : Int) > 100) = true := by simp; omega
    obtain ⟨h', E, ra⟩ := awake34_run 1 h
    refine ⟨9, h', Run.ans ?_⟩
    rw [F3_eq]
    simp (disch := (first | assumption | (simp only [Bool.and_eq_true, Bool.and_eq_false_iff, decide_eq_true_eq, decide_eq_false_iff_not, bne_iff_ne, beq_iff_eq, beq_eq_false_iff_ne, bne_eq_false_iff_eq, Bool.not_eq_true', Bool.not_eq_false', bys_length, List.length_append, List.length_cons, List.length_nil, List.length_map, List.length_drop, List.length_take, Int.natCast_add, wrap_i64_eq, wrap_u64, wrap_u8, ne_eq, not_true_eq_false, not_false_eq_true, Nat.zero_add, Nat.mul_one] <;> omega) | omega | (simp; done) | (simp; omega))) only [↓CR, MC, ↓PR, MR, prs_length, b0, ra]
end Go.Proofs.YtkpjkaikeeldfaaDoor.Wa
end

section
/- Split by definition: the walk. -/
namespace Go.Proofs.YtkpjkaikeeldfaaDoor.Wb
open Go Go.RowKit Go.Weave Go.Proofs.YtkpjkaikeeldfaaDoor.Wa
set_option maxRecDepth 100000
set_option linter.unusedSimpArgs false
set_option linter.unusedVariables false
set_option linter.unusedSectionVars false

theorem sl_form {c : Ctx} {v : Value} {b : List UInt8} (h : Rep c v (.sl false 0 (bys b))) (hb : 1 ≤ b.length) : ∃ y cp, v = .slice (some y) b.length cp := by
  rcases h.slInv with ⟨x, rfl, e⟩ | ⟨g, off, cp, rfl, _⟩
  · have : b.length = 0 := by rw [← bys_length b, e]; rfl
    omega
  · exact ⟨_, _, by rw [bys_length]⟩
set_option maxHeartbeats 4000000 in
theorem split_any (c0 : Ctx) (hn : c0.n = 0) (hb0 : BRel c0 tok0) (x : Option Addr) (cap : Nat) (f0 : Bool) (L : List KPair) (rl : Rep c0 (.slice x L.length cap) (.sl f0 3 (prs L))) (hL : L.length ≤ 100) (hkv : ∀ p ∈ L, p.key.length ≤ 24 ∧ p.val.length ≤ 128) :
    Calls Tryd.prog 7 #[.slice x L.length cap] c0.w fun e w' => ∃ (v : Value) (c : Ctx) (vs : List Value), e = .returned v ∧ w' = c.w ∧ Wk c0.w.heap.size c0 c ∧ St c0.w.heap.size c v (splitS (prL L)) vs := by
  go_enter Tryd.func7, Tryd.ntmps7
  go_wp2
  try go_frame
  go_loopw [3, 4] (fun vo vi wr => ∃ (j : Nat) (c : Ctx) (vs : List Value), j ≤ L.length ∧ vi = .int .i64 j ∧ wr = c.w ∧ Wk c0.w.heap.size c0 c ∧ St c0.w.heap.size c vo (splitS (prL (L.take j))) vs)
    (fun _ vi _ => L.length - (RowKit.intOf vi).toNat)
  case atStart =>
    exact ⟨0, c0, [], Nat.zero_le _, rfl, rfl, Wk.refl _ _, ⟨⟨hn, hb0, Nat.le_refl _, .inl ⟨rfl, rfl⟩, fun g h => (by cases h), rfl, fun k h => (by cases h)⟩, fun u h => (by cases h)⟩⟩
  case round =>
    obtain ⟨j, c, vs, hj, rfl, rfl, hW, hS⟩ := hrel
    have hPl := splitS_len (prL (L.take j))
    have hPs := splitS_le (l := prL (L.take j)) (fun p hp => by
      obtain ⟨r, hr, rfl⟩ := List.mem_map.1 hp
      exact hkv r (List.mem_of_mem_take hr))
    have hstep : ∀ h : j < L.length, splitS (prL (L.take (j + 1))) = stepS (splitS (prL (L.take j))) (pkP ((L[j]).key, (L[j]).val)) := fun h => by rw [prL_take h, splitS_snoc]
    have hPl1 : (splitS (prL (L.take j))).length ≤ 100 := by
      refine Nat.le_trans hPl ?_
      simp [prL]; omega
    have hend : j = L.length → splitS (prL L) = splitS (prL (L.take j)) := fun h => by rw [h, List.take_length]
    generalize splitS (prL (L.take j)) = P at hS hPl hPs hstep hPl1 hend
    rcases List.eq_nil_or_concat vs with hvs | ⟨vs0, vx, hvs⟩
    · subst hvs
      have hu : u3 = .slice none 0 0 := by
        rcases hS.row with ⟨h, _⟩ | ⟨g, cap, xs, el, h, h1, _⟩
        · exact h
        · exact absurd rfl h1
      have hP0 : P = [] := List.length_eq_zero_iff.1 hS.len.symm
      subst hu hP0
      have hS' : RowKit.Hid (St c0.w.heap.size c (.slice none 0 0) [] []) := hS
      have hW' : RowKit.Hid (Wk c0.w.heap.size c0 c) := hW
      have hstep' : RowKit.Hid (∀ h : j < L.length, splitS (prL (L.take (j + 1))) = stepS [] (pkP ((L[j]).key, (L[j]).val))) := hstep
      have hend' : RowKit.Hid (j = L.length → splitS (prL L) = []) := hend
      clear hS hW hPs hPl hPl1 hstep hend
      go_wp2
      · have hlt : j < L.length := by assumption
        refine R5_lit hS'.out.n hS'.out.own (Rep.mono hW'.out.le rl) hlt (hkv _ (List.getElem_mem hlt)).1 (hkv _ (List.getElem_mem hlt)).2 (by kernel_rfl) ?_
        intro c' x5 x6 x7 x8 x9 x10 x11 x12 x13 x14 x15 x16 x17 x18 x19 x20 x21 x22 x23 x24 x25 x26 x27 x28 x29 x30 x31 x32 x33 x34 x35 x36 x37 x38 x39 x40 x41 x42 x43 x44 x45 x46 x47 x48 x49 x50 x51 x52 x53 x54 x55 hp hn' hb' hrq htq
        obtain ⟨y5, cp5, hx5⟩ := sl_form hrq (by have := pkP_len (p := ((L[j]).key, (L[j]).val)) (hkv _ (List.getElem_mem hlt)).1 (hkv _ (List.getElem_mem hlt)).2; omega)
        subst hx5
        have hS1 := hS'.out.pres hp hn' hb'
        have hW1 := hW'.out.trans (Wk.of_pres hp hS'.out.hB)
        obtain ⟨v', w', hrun, hWk, hSt⟩ := hS1.pushA hrq (htq.mono hS'.out.hB) (by simp)
        have HR : RowKit.Hid _ := hrun
        have HW : RowKit.Hid _ := hW1.trans hWk
        have HS : RowKit.Hid _ := hSt
        clear hS1 hW1 hrun hWk hSt hp hn' hb' hrq htq
        simp only [Exit.then]
        apply_assumption
        go_wp2_with (at_builtin; refine wpList_run rfl _ _ 24 24 rfl rfl rfl rfl HR.out ?_)
        go_roundw
        case rel =>
          refine ⟨j + 1, ⟨w', c'.n, c'.ι, c'.κ⟩, [] ++ [.slice (some y5) (pkP ((L[j]).key, (L[j]).val)).length cp5], by omega, by go_num, rfl, HW.out, ?_⟩
          rw [hstep'.out hlt, stepS_nil]
          exact HS.out
        case measure => simp [RowKit.intOf]; omega
      · go_ret
        have hjL : j = L.length := by omega
        subst hjL
        exact ⟨.slice none 0 0, c, [], rfl, rfl, hW'.out, by rw [hend'.out rfl]; exact hS'.out⟩
    · rw [List.concat_eq_append] at hvs
      subst hvs
      obtain ⟨P0, p, hP⟩ : ∃ P0 p, P = P0 ++ [p] := by
        rcases List.eq_nil_or_concat P with h | ⟨P0, p, h⟩
        · have := hS.len; rw [h] at this; simp at this
        · exact ⟨P0, p, by rw [h, List.concat_eq_append]⟩
      subst hP
      obtain ⟨g, cap3, hv, hcell, hfr, hrx, htx, hlen'⟩ := hS.lastAt
      obtain ⟨hp4, hp2⟩ := hPs p (by simp)
      obtain ⟨n, hnn⟩ : ∃ n, vs0.length = n := ⟨_, rfl⟩
      rw [hnn] at hv
      subst hv
      have hn3 : n ≤ 99 := by have := hPl1; simp at this; omega
      have hnn' : RowKit.Hid (vs0.length = n) := hnn
      have hS' : RowKit.Hid (St c0.w.heap.size c (.slice (some ⟨g, 0, none⟩) (n + 1) cap3) (P0 ++ [p]) (vs0 ++ [vx])) := hS
      have hW' : RowKit.Hid (Wk c0.w.heap.size c0 c) := hW
      have hstep' : RowKit.Hid (∀ h : j < L.length, splitS (prL (L.take (j + 1))) = stepS (P0 ++ [p]) (pkP ((L[j]).key, (L[j]).val))) := hstep
      have hend' : RowKit.Hid (j = L.length → splitS (prL L) = P0 ++ [p]) := hend
      have hP1' : RowKit.Hid ((P0 ++ [p]).length ≤ 100) := hPl1
      clear hS hW hPs hPl hPl1 hstep hend hcell hfr htx hrx hlen' hnn
      go_wp2
      · have hlt : j < L.length := by assumption
        refine R5_lit hS'.out.n hS'.out.own (Rep.mono hW'.out.le rl) hlt (hkv _ (List.getElem_mem hlt)).1 (hkv _ (List.getElem_mem hlt)).2 (by kernel_rfl) ?_
        intro c' x5 x6 x7 x8 x9 x10 x11 x12 x13 x14 x15 x16 x17 x18 x19 x20 x21 x22 x23 x24 x25 x26 x27 x28 x29 x30 x31 x32 x33 x34 x35 x36 x37 x38 x39 x40 x41 x42 x43 x44 x45 x46 x47 x48 x49 x50 x51 x52 x53 x54 x55 hp hn' hb' hrq htq
        have hq2 := pkP_len (p := ((L[j]).key, (L[j]).val)) (hkv _ (List.getElem_mem hlt)).1 (hkv _ (List.getElem_mem hlt)).2
        obtain ⟨y5, cp5, hx5⟩ := sl_form hrq (by omega)
        subst hx5
        have hS1 := hS'.out.pres hp hn' hb'
        have hW1 := hW'.out.trans (Wk.of_pres hp hS'.out.hB)
        obtain ⟨v', w', hrun, hWk, hSt⟩ := hS1.pushA hrq (htq.mono hS'.out.hB) (by have := hP1'.out; omega)
        obtain ⟨u, c1, hrun2, hc2, hf2, hu2, hWk2, hSt2⟩ := hS1.longer hrq (by omega) 43 (by rw [hnn'.out])
        obtain ⟨g', cap', hv', hcell, hfr, hrx, htx, h9⟩ := hS1.lastAt
        obtain ⟨rfl, rfl⟩ : g = g' ∧ cap3 = cap' := by cases hv'; exact ⟨rfl, rfl⟩
        rw [hnn'.out] at hcell hfr hc2 hf2 hWk2 hSt2
        obtain ⟨yx, cpx, hvx⟩ := sl_form hrx (by omega)
        subst hvx
        obtain ⟨yu, nu, cpu, hu2⟩ := hu2
        subst hu2
        have HR : RowKit.Hid _ := hrun
        have HW : RowKit.Hid _ := hW1.trans hWk
        have HS : RowKit.Hid _ := hSt
        have HR2 : RowKit.Hid _ := hrun2
        have HW2 : RowKit.Hid _ := hW1.trans hWk2
        have HS2 : RowKit.Hid _ := hSt2
        clear hS1 hW1 hrun hWk hSt hp hn' hb' hrq htq hrx htx hv' hrun2 hWk2 hSt2 h9
        simp only [Exit.then]
        apply_assumption
        go_wp2_with (first
          | (at_builtin; refine wpList_run rfl _ _ 24 24 rfl rfl rfl rfl HR.out ?_)
          | (at_builtin; refine wpList_run rfl _ _ 43 43 rfl rfl rfl rfl HR2.out ?_))
        · go_roundw
          case rel =>
            refine ⟨j + 1, ⟨c1.w.setCell ⟨g, n, none⟩ (.slice yu nu cpu), c1.n, c1.ι, c1.κ⟩, vs0 ++ [.slice yu nu cpu], by omega, by go_num, rfl, HW2.out, ?_⟩
            rw [hstep'.out hlt, stepS_snoc, if_pos (by omega)]
            exact HS2.out
          case measure => simp [RowKit.intOf]; omega
        · go_roundw
          case rel =>
            refine ⟨j + 1, ⟨w', c'.n, c'.ι, c'.κ⟩, (vs0 ++ [.slice (some yx) p.length cpx]) ++ [.slice (some y5) (pkP ((L[j]).key, (L[j]).val)).length cp5], by omega, by go_num, rfl, HW.out, ?_⟩
            rw [hstep'.out hlt, stepS_snoc, if_neg (by omega)]
            exact HS.out
          case measure => simp [RowKit.intOf]; omega
      · go_ret
        have hjL : j = L.length := by omega
        subst hjL
        exact ⟨.slice (some ⟨g, 0, none⟩) (n + 1) cap3, c, vs0 ++ [vx], rfl, rfl, hW'.out, by rw [hend'.out rfl]; exact hS'.out⟩
end Go.Proofs.YtkpjkaikeeldfaaDoor.Wb
end

section
/- Split by definition, as a contract. -/
namespace Go.Proofs.YtkpjkaikeeldfaaDoor.Wa
open Go Go.RowKit Go.Weave Go.Proofs.YtkpjkaikeeldfaaDoor.Wb
set_option maxRecDepth 100000
set_option linter.unusedSimpArgs false
set_option linter.unusedVariables false
set_option linter.unusedSectionVars false

def kpr (p : List UInt8 × List UInt8) : KPair := ⟨p.1, p.2⟩
theorem decP2_spec : ∀ {es : List AVal} {L : List (List UInt8 × List UInt8)}, decP2 es = some L → es = prs (L.map kpr)
  | [], L, h => by simp only [decP2, Option.some.injEq] at h; subst h; rfl
  | e :: r, L, h => by
    unfold decP2 at h
    split at h
    · rename_i h0; cases h0
    · rename_i k v r' h0
      cases h0
      split at h
      · rename_i l hl
        simp only [Option.some.injEq] at h
        subst h
        rw [decP2_spec hl]; rfl
      · cases h
    · cases h
theorem prL_kpr (L : List (List UInt8 × List UInt8)) : prL (L.map kpr) = L := by
  unfold prL
  rw [List.map_map]
  exact List.map_id' L
theorem rep_str {c c' : Ctx} {v : Value} {s : List UInt8} (h : Rep c v (.str s)) : Rep c' v (.str s) := by
  generalize hq : AVal.str s = q at h
  cases h with
  | str s' => exact .str s'
  | _ => cases hq
theorem rep_prs {c : Ctx} {v : Value} {f : Bool} {L : List KPair} (h : Rep c v (.sl f 3 (prs L))) : Rep ⟨c.w, 0, c.ι, c.κ⟩ v (.sl f 3 (prs L)) ∧ ∃ x cap, v = .slice x L.length cap := by
  rcases h.slInv with ⟨x, rfl, e⟩ | ⟨b, off, cap, rfl, hat⟩
  · have e0 : L = [] := by cases L with | nil => rfl | cons a l => cases e
    subst e0
    exact ⟨Rep.slnil _ _ _, x, 0, rfl⟩
  · rw [prs_length]
    refine ⟨?_, _, _, rfl⟩
    obtain ⟨hcap, hf, lim, g, hk, hl, he, hc, hr⟩ := hat
    have := Rep.sl (c := ⟨c.w, 0, c.ι, c.κ⟩) b off cap lim f 3 (prs L) g hcap hf hk hl he hc (fun i j hi hj => by
      have h1 := hr i j hi hj
      rw [prs_length] at hi
      rw [prs_getD hi] at h1 ⊢
      match j, hj with
      | 0, _ => exact rep_str h1
      | 1, _ => exact rep_str h1)
    rw [prs_length] at this
    exact this
theorem split_ext {c0 : Ctx} (hann : (Wa.Cw.ann 7).pown = [] ∧ (Wa.Cw.ann 7).rown = []) : CallAt Wa.Cw 7 splitG c0 := by
  intro args H Q hq c β vs hle hh hb hk hs hr
  have hokE : ∀ b, Mgd c β b → (callBs c β).ok b := fun b h => .inr (.inl h)
  have hokT : ∀ g b, β (.tok g) = some b → (callBs c β).ok b := fun g b h => .inr (.inr ⟨g, h⟩)
  unfold splitG at hq
  split at hq
  · rename_i f es
    split at hq
    · rename_i L hL0
      have hes := decP2_spec hL0
      subst hes
      cases hok : okP L with
      | false => rw [hok] at hq; exact hq.elim
      | true =>
      rw [hok] at hq
      unfold okP at hok
      simp only [Bool.and_eq_true, decide_eq_true_eq, List.all_eq_true] at hok
      have h0 := hr 0 (by simp)
      simp only [hann.1, List.contains_nil, cvIn, cond_false, List.getD_cons_zero] at h0
      have hs1 : vs.size = 1 := by simpa using hs
      obtain ⟨vl, rfl⟩ : ∃ v, vs = #[v] := Array.size_eq_one_iff.1 hs1
      have h0' : Rep c vl (.sl f 3 (prs (L.map kpr))) := h0
      obtain ⟨hrep, x, cap, rfl⟩ := rep_prs h0'
      have hlim : ∀ o b, β o = some b → b < c.w.heap.size := fun o b h => by
        obtain ⟨ys, el', h'⟩ := hb.blk o b h
        exact (Array.getElem?_eq_some_iff.1 h').1
      refine (split_any ⟨c.w, 0, c.ι, c.κ⟩ rfl ⟨fun _ _ h => (by cases h), fun _ _ h => (by cases h), fun _ _ _ h => (by cases h), hb.lim, fun _ _ _ h => (by cases h)⟩ x cap f (L.map kpr) hrep (by simp; exact hok.2) (fun p hp => by
        obtain ⟨r, hr', rfl⟩ := List.mem_map.1 hp
        exact hok.1 r hr')).mono ?_
      rintro e w' ⟨v, c1, ws, rfl, rfl, hW, hS⟩
      rw [prL_kpr] at hS
      generalize hP : splitS L = P at *
      have hlow := hW.low
      -- from a context that keeps what was there
      have fin : ∀ κ' : Nat → Option Nat, (∀ b, b < c.w.heap.size → κ' b = c.κ b) → (∀ b l, c1.κ b = some l → κ' b = some l) → (∀ b l, κ' b = some l → b < c1.w.heap.size) → Rep ⟨c1.w, c.n, c.ι, κ'⟩ v (.sl false 0 (P.map fun b => .sl false 0 (bysA b))) →
          ∃ xs c' β' r, Ending.returned v = .returned (resultOf xs) ∧ c'.w = c1.w ∧ Out Wa.Cw.P (Wa.Cw.ann 7) c β c' β' xs r ∧ Q r := fun κ' hκ hκ1 hκl hrepv => by
        have hle' : c.le ⟨c1.w, c.n, c.ι, κ'⟩ := ⟨Nat.le_refl _, fun _ _ => rfl, fun b l h => ⟨l, by show κ' b = _; rw [hκ b (hb.lim b l h)]; exact h, Nat.le_refl _, fun o ho => by
          simp only [World.cell?]; rw [(hlow b (hb.lim b l h)).1]⟩⟩
        refine ⟨#[v], ⟨c1.w, c.n, c.ι, κ'⟩, β, ([.sl false 0 (P.map fun b => .sl false 0 (bysA b))], H), rfl, rfl, ⟨?_, ?_, hk, ⟨hle', hW.size, fun b hbn => ?_, hW.io⟩, fun b h => hokE b h, hokT, rfl, fun i hi => ?_⟩, hq⟩
        · refine ⟨hh.n, fun id' o ho' => ?_, fun id' hid' => ?_, hh.inj⟩
          · have hid' : id' < c.n := by rw [hh.n]; exact (List.getElem?_eq_some_iff.1 ho').1
            exact (hh.obj id' o ho').move hle' (fun o' b h => ⟨hκ b (hlim o' b h), (hlow b (hlim o' b h)).1⟩) hid' (hlow _ (hh.lt hid')).1
          · show κ' (c.ι id') = none
            rw [hκ _ (hh.lt hid')]; exact hh.κ id' hid'
        · refine ⟨fun o b h => ?_, fun o b h => ?_, hb.inj, hκl, hb.cl⟩
          · obtain ⟨ys, el', h'⟩ := hb.blk o b h
            exact ⟨ys, el', by show c1.w.heap[b]? = _; rw [(hlow b (hlim o b h)).1]; exact h'⟩
          · show κ' b ≠ none
            rw [hκ b (hlim o b h)]; exact hb.κ o b h
        · have : b < c.w.heap.size := Bs.lt hbn
          exact ⟨(hlow b this).1, hκ b this⟩
        · match i, hi with
          | 0, _ =>
            simp only [hann.2, List.contains_nil, cvIn, cond_false, List.getD_cons_zero]
            exact hrepv
      have hlen := hS.len
      rcases hS.row with ⟨rfl, hws⟩ | ⟨g, cap', xs, el, rfl, h1, h2, h3, h4, h5, h6⟩
      · subst hws
        have hP0 : P = [] := List.length_eq_zero_iff.1 hlen.symm
        subst hP0
        exact fin c1.κ (fun b hbs => (hlow b hbs).2) (fun b l h => h) hS.own.lim (Rep.slnil _ _ _)
      · have hg := hS.κ g rfl
        have hgl : g < c1.w.heap.size := (Array.getElem?_eq_some_iff.1 h3).1
        have hκ1 : ∀ b l, c1.κ b = some l → (fun b => if b = g then some ws.length else c1.κ b) b = some l := fun b l h => by
          have : b ≠ g := fun e => by rw [e, hg] at h; cases h
          simp only
          rw [if_neg this]; exact h
        refine fin (fun b => if b = g then some ws.length else c1.κ b) (fun b hbs => ?_) hκ1 (fun b l h => ?_) ?_
        · have hne : b ≠ g := fun e => by have h2 : c.w.heap.size ≤ g := h2; omega
          show (if b = g then some ws.length else c1.κ b) = c.κ b
          rw [if_neg hne]; exact (hlow b hbs).2
        · have h : (if b = g then some ws.length else c1.κ b) = some l := h
          split at h
          · rename_i e; rw [e]; exact hgl
          · exact hS.own.lim b l h
        · have hle2 : c1.le ⟨c1.w, c.n, c.ι, fun b => if b = g then some ws.length else c1.κ b⟩ := ⟨by rw [hS.n]; exact Nat.zero_le _, fun id hid => by rw [hS.n] at hid; omega, fun b l h => ⟨l, hκ1 b l h, Nat.le_refl _, fun _ _ => rfl⟩⟩
          have hcell : ∀ i (hi : i < ws.length), c1.w.cell? ⟨g, i, none⟩ = some (ws.getD i undef) := fun i hi => by
            have h7 : (xs.toList.take ws.length)[i]? = ws[i]? := by rw [h6]
            rw [List.getElem?_take_of_lt hi, Array.getElem?_toList] at h7
            simp only [World.cell?, h3]
            simp only [Option.isSome_none, Bool.false_eq_true, if_false]
            rw [h7]
            simp [hi]
          have hls : (P.map fun b => AVal.sl false 0 (bysA b)).length = ws.length := by rw [List.length_map, hlen]
          have := Rep.sl (c := ⟨c1.w, c.n, c.ι, fun b => if b = g then some ws.length else c1.κ b⟩) g 0 cap' ws.length false 0 (P.map fun b => AVal.sl false 0 (bysA b)) (fun i _ => ws.getD i undef) (by rw [hls]; exact h4) (by simp) (by simp)
            (by rw [hls]; show 0 + ws.length * 1 ≤ ws.length; omega) (fun e he => by
              obtain ⟨y, _, rfl⟩ := List.mem_map.1 he
              exact ⟨rfl, rfl, fun z hz => by simp [AVal.cells] at hz; subst hz; rfl⟩) (fun i j hi hj => by
              have hj0 : j = 0 := by have : cnt 0 = 1 := rfl; omega
              subst hj0
              have hi' : i < ws.length := by rw [← hls]; exact hi
              show c1.w.cell? ⟨g, 0 + i * 1 + 0, none⟩ = _
              rw [show 0 + i * 1 + 0 = i by omega, hcell i hi']) (fun i j hi hj => by
              have hj0 : j = 0 := by have : cnt 0 = 1 := rfl; omega
              subst hj0
              have hi' : i < P.length := by simpa using hi
              have e5 : ((P.map fun b => AVal.sl false 0 (bysA b)).getD i .undef).cells.getD 0 .undef = AVal.sl false 0 (bysA (P.getD i [])) := by simp [hi', AVal.cells]
              rw [e5]
              exact Rep.mono hle2 (hS.rep i hi'))
          rw [hls] at this
          exact this
    · exact hq.elim
  · exact hq.elim
theorem ext_of34 {f : FuncId} {g : List AVal → Heap → Tr Res} (h : Wa.Cw.ext f = some g) : f = 7 ∧ g = splitG := by
  by_cases e : f = 7
  · subst e
    have e1 : Wa.Cw.ext 7 = some splitG := rfl
    rw [e1] at h
    exact ⟨rfl, (Option.some.inj h).symm⟩
  · have e1 : Wa.Cw.ext f = none := by
      show (match f with | 7 => some splitG | _ => none) = none
      split
      · exact absurd rfl e
      · rfl
    rw [e1] at h; cases h
end Go.Proofs.YtkpjkaikeeldfaaDoor.Wa
end
