/- The evaluator's values stand for the machine's: the relation, and that it outlasts what only grows. -/
import Derived.Test.YtjaadkgohjbadaaWvB
import Derived.Laws.Sem
import Derived.Laws.Cells
import Derived.Laws.CopyRow
import Derived.Laws.World
import Derived.Laws.Strings
import Derived.Laws.StructEq
import Derived.DeepKeys
namespace Go.Weave

structure Ctx where
  w : World
  n : Nat
  ι : Nat → Nat
  κ : Nat → Option Nat

def okEl (s : Nat) (e : AVal) : Prop := e.isAgg = !(s == 0) ∧ e.cells.length = cnt s ∧ ∀ x ∈ e.cells, x.isAgg = false

/-- 'v' stands for 'a'. -/
inductive Rep (c : Ctx) : Value → AVal → Prop where
  | bool (b : Bool) : Rep c (.bool b) (.bool b)
  | int (k : IntKind) (n : Int) : Rep c (.int k n) (.int k n)
  | str (s : ByteArray) : Rep c (.string s) (.str s.data.toList)
  | nilp : Rep c (.pointer none) .nilp
  | obj (id off : Nat) (h : id < c.n) : Rep c (.pointer (some ⟨c.ι id, off, none⟩)) (.obj id off)
  | elt (b base off lim : Nat) (e : AVal) (ag : Bool) (sz : Nat) (f : Nat → Value) (hk : c.κ b = some lim) (hl : base + sz ≤ lim)
      (hs : e.cells.length = sz) (ha : e.isAgg = ag) (hn : ∀ x ∈ e.cells, x.isAgg = false)
      (hc : ∀ j, j < sz → c.w.cell? ⟨b, base + j, none⟩ = some (f j))
      (hr : ∀ j, j < sz → Rep c (f j) (e.cells.getD j .undef)) : Rep c (.pointer (some ⟨b, base + off, none⟩)) (.elt e ag sz off)
  | slnil (x : Option Addr) (full : Bool) (sz : Nat) : Rep c (.slice x 0 0) (.sl full sz [])
  | sl (b off cap lim : Nat) (full : Bool) (sz : Nat) (es : List AVal) (f : Nat → Nat → Value) (hcap : es.length ≤ cap) (hf : full = true → cap = es.length)
      (hk : c.κ b = some lim) (hl : off + es.length * cnt sz ≤ lim) (he : ∀ e ∈ es, okEl sz e)
      (hc : ∀ i j, i < es.length → j < cnt sz → c.w.cell? ⟨b, off + i * cnt sz + j, none⟩ = some (f i j))
      (hr : ∀ i j, i < es.length → j < cnt sz → Rep c (f i j) ((es.getD i .undef).cells.getD j .undef)) :
      Rep c (.slice (some ⟨b, off, none⟩) es.length cap) (.sl full sz es)
  | nilmap : Rep c (.map none) .nilmap
  | map (id : Nat) (h : id < c.n) : Rep c (.map (some (c.ι id))) (.map id)
  | fn (f : FuncId) (xs ys : Array Value) (first cap : List AVal) (h1 : xs.size = first.length) (h2 : ys.size = cap.length)
      (r1 : ∀ j, j < first.length → Rep c (xs.getD j undef) (first.getD j .undef)) (r2 : ∀ j, j < cap.length → Rep c (ys.getD j undef) (cap.getD j .undef)) :
      Rep c (.func (.func f) xs ys) (.fn f first cap)
  | nilfn : Rep c .nilFunc .nilfn
  | agg (xs : Array Value) (cs : List AVal) (h : xs.size = cs.length) (hn : ∀ x ∈ cs, x.isAgg = false)
      (hr : ∀ j, j < cs.length → Rep c (xs.getD j undef) (cs.getD j .undef)) : Rep c (.agg xs) (.agg cs)
  | nilif : Rep c .nilIface .nilif
  | iface (t : TypeId) (x : Value) (v : AVal) (h : Rep c x v) : Rep c (.iface t x) (.iface t v)

structure Ctx.le (c c' : Ctx) : Prop where
  n : c.n ≤ c'.n
  ι : ∀ id, id < c.n → c'.ι id = c.ι id
  κ : ∀ b l, c.κ b = some l → ∃ l', c'.κ b = some l' ∧ l ≤ l' ∧ ∀ o, o < l → c'.w.cell? ⟨b, o, none⟩ = c.w.cell? ⟨b, o, none⟩

theorem Ctx.le_refl (c : Ctx) : c.le c := ⟨Nat.le_refl _, fun _ _ => rfl, fun _ l h => ⟨l, h, Nat.le_refl _, fun _ _ => rfl⟩⟩
theorem Ctx.le_trans {a b c : Ctx} (h1 : a.le b) (h2 : b.le c) : a.le c :=
  ⟨Nat.le_trans h1.n h2.n, fun id h => (h2.ι id (Nat.lt_of_lt_of_le h h1.n)).trans (h1.ι id h), fun b l h => by
    obtain ⟨l1, k1, le1, e1⟩ := h1.κ b l h
    obtain ⟨l2, k2, le2, e2⟩ := h2.κ b l1 k1
    exact ⟨l2, k2, Nat.le_trans le1 le2, fun o ho => (e2 o (Nat.lt_of_lt_of_le ho le1)).trans (e1 o ho)⟩⟩

theorem cell_lt {k n i j : Nat} (hi : i < n) (hj : j < k) : i * k + j < n * k := by
  have h : (i + 1) * k ≤ n * k := Nat.mul_le_mul_right k hi
  rw [Nat.succ_mul] at h
  omega

theorem Rep.mono {c c' : Ctx} (h : c.le c') {v : Value} {a : AVal} (r : Rep c v a) : Rep c' v a := by
  induction r with
  | bool b => exact .bool b
  | int k n => exact .int k n
  | str s => exact .str s
  | nilp => exact .nilp
  | obj id off hid => rw [← h.ι id hid]; exact .obj id off (Nat.lt_of_lt_of_le hid h.n)
  | elt b base off lim e ag sz f hk hl hs ha hn hc _ ih =>
    obtain ⟨l', k', le', e'⟩ := h.κ b lim hk
    exact .elt b base off l' e ag sz f k' (Nat.le_trans hl le') hs ha hn (fun j hj => by rw [e' _ (by omega)]; exact hc j hj) ih
  | slnil x full sz => exact .slnil x full sz
  | sl b off cap lim full sz es f hcap hf hk hl he hc _ ih =>
    obtain ⟨l', k', le', e'⟩ := h.κ b lim hk
    exact .sl b off cap l' full sz es f hcap hf k' (Nat.le_trans hl le') he
      (fun i j hi hj => by rw [e' _ (by have := cell_lt hi hj; omega)]; exact hc i j hi hj) ih
  | nilmap => exact .nilmap
  | map id hid => rw [← h.ι id hid]; exact .map id (Nat.lt_of_lt_of_le hid h.n)
  | fn f xs ys first cap h1 h2 _ _ i1 i2 => exact .fn f xs ys first cap h1 h2 i1 i2
  | nilfn => exact .nilfn
  | agg xs cs hs hn _ ih => exact .agg xs cs hs hn ih
  | nilif => exact .nilif
  | iface t x v _ ih => exact .iface t x v ih

/-- A value that one cell holds. -/
abbrev Cellv (v : Value) : Prop := v.oneCell' = true

theorem Rep.cellv {c : Ctx} {v : Value} {a : AVal} (r : Rep c v a) (h : a.isAgg = false) : Cellv v := by
  cases r <;> first | rfl | simp [AVal.isAgg] at h

theorem Rep.weakSl {c : Ctx} {v : Value} {full : Bool} {sz : Nat} {es : List AVal} (r : Rep c v (.sl full sz es)) : Rep c v (.sl false sz es) := by
  cases r with
  | slnil => exact .slnil _ _ _
  | sl b off cap lim _ _ _ f hcap hf hk hl he hc hr => exact .sl b off cap lim false sz es f hcap (by simp) hk hl he hc hr

/-- Another shape's word for nothing. -/
theorem Rep.slEmpty {c : Ctx} {v : Value} {full : Bool} {sz sz' : Nat} {es : List AVal} (r : Rep c v (.sl full sz es)) (h : (sz == sz' || es.isEmpty) = true) :
    Rep c v (.sl full sz' es) := by
  simp only [Bool.or_eq_true, beq_iff_eq, List.isEmpty_iff] at h
  rcases h with rfl | rfl
  · exact r
  · cases r with
    | slnil => exact .slnil _ _ _
    | sl b off cap lim _ _ _ f hcap hf hk hl he hc hr =>
      exact .sl b off cap lim full sz' [] f hcap hf hk (by simpa using hl) (by simp) (fun i j hi => by simp at hi) (fun i j hi => by simp at hi)

/-! ### Owners -/
inductive Owner where
  | tok (g : Nat)
  | cell (id off : Nat)
  deriving DecidableEq

/-- The scene in which a frame's values stand for the machine's. -/
structure Sc where
  c : Ctx
  β : Owner → Option Nat
  lam : Nat → Nat
  sh : Nat → Nat × Nat
  H : Heap
  bx : List (Nat × Box)

def OwnAt (c : Ctx) (ob : Option Nat) (sz : Nat) : Value → Prop
  | .slice (some a) len cap => len = cap ∨ (ob = some a.block ∧ c.κ a.block = some (a.off + len * cnt sz) ∧ ∃ xs el, c.w.heap[a.block]? = some (.cells xs el (0, 0)) ∧ a.off + cap * cnt sz ≤ xs.size)
  | _ => True

def RepS (S : Sc) (v : Value) : SV → Prop
  | .unk => True
  | .val a => Rep S.c v a
  | .own g sz es => Rep S.c v (.sl false sz es) ∧ OwnAt S.c (S.β (.tok g)) sz v
  | .bor id off sz es => Rep S.c v (.sl false sz es) ∧ id < S.c.n ∧ ∀ hc, S.H.cell? id off = some hc → S.c.w.cell? ⟨S.c.ι id, off, none⟩ = some v
  | .loc d off => (look d S.bx).isSome = true ∧ v = .pointer (some ⟨S.lam d, off, none⟩)
  | .lsl d => (look d S.bx).isSome = true ∧ v = .slice (some ⟨S.lam d, 0, none⟩) (S.sh d).1 (S.sh d).2

/-- Cells, one by one. -/
def RepL (S : Sc) (xs : Array Value) (l : List SV) : Prop :=
  xs.size = l.length ∧ ∀ j, j < l.length → RepS S (xs.getD j undef) (l.getD j .unk) ∧ Cellv (xs.getD j undef)
def RepA (c : Ctx) (xs : Array Value) (l : List AVal) : Prop :=
  xs.size = l.length ∧ ∀ j, j < l.length → Rep c (xs.getD j undef) (l.getD j .undef) ∧ (l.getD j .undef).isAgg = false

def RepC (S : Sc) (v : Value) : CV → Prop
  | .one s => RepS S v s
  | .agg l => ∃ xs, v = .agg xs ∧ RepL S xs l

def RepE (S : Sc) (v : Value) : EV → Prop
  | .cv c => RepC S v c
  | .tup l => ∃ xs : Array Value, v = .tuple xs ∧ xs.size = l.length ∧ ∀ j, j < l.length → RepC S (xs.getD j undef) (l.getD j (.one .unk))

def RepH (c : Ctx) (ob : Option Nat) (v : Value) : HCell → Prop
  | .val a => Rep c v a ∧ a.isAgg = false
  | .own sz es => Rep c v (.sl false sz es) ∧ OwnAt c ob sz v

def RepM (c : Ctx) (e : MapEntry) (p : AVal × AVal × Nat) : Prop := Rep c e.key p.1 ∧ Rep c e.val p.2.1 ∧ e.born = p.2.2

def ObjOK (c : Ctx) (β : Owner → Option Nat) (id : Nat) : Obj → Prop
  | .cells hs => ∃ xs el, c.w.heap[c.ι id]? = some (.cells xs el (0, 0)) ∧ xs.size = hs.length ∧
      ∀ j, j < hs.length → RepH c (β (.cell id j)) (xs.getD j undef) (hs.getD j (.val .undef))
  | .map _ es clock => ∃ ents, c.w.heap[c.ι id]? = some (.map ents clock) ∧ ents.size = es.length ∧
      ∀ j, j < es.length → RepM c (ents.getD j default) (es.getD j (.undef, .undef, 0))

/-- A map's keys are plain data of its key's type. -/
def KeysOk (P : Program) (H : Heap) : Prop := ∀ (id : Nat) (kt : TypeId) (es : List (AVal × AVal × Nat)) (c : Nat), H.objs[id]? = some (Weave.Obj.map kt es c) → ∀ e ∈ es, plainOk P kt e.1 = true

structure HRel (c : Ctx) (β : Owner → Option Nat) (H : Heap) : Prop where
  n : c.n = H.objs.length
  obj : ∀ id o, H.objs[id]? = some o → ObjOK c β id o
  κ : ∀ id, id < c.n → c.κ (c.ι id) = none
  inj : ∀ id id', id < c.n → id' < c.n → c.ι id = c.ι id' → id = id'

/-- What is owned is whole, unfrozen, and no managed object's. -/
structure BRel (c : Ctx) (β : Owner → Option Nat) : Prop where
  blk : ∀ o b, β o = some b → ∃ xs el, c.w.heap[b]? = some (.cells xs el (0, 0))
  κ : ∀ o b, β o = some b → c.κ b ≠ none
  inj : ∀ o o' b, β o = some b → β o' = some b → o = o'
  lim : ∀ b l, c.κ b = some l → b < c.w.heap.size
  cl : ∀ id o b, β (.cell id o) = some b → id < c.n

/-- A row whose first cells are a slice's elements. -/
structure Flat (c : Ctx) (xs : Array Value) (sz : Nat) (es : List AVal) : Prop where
  len : es.length * cnt sz ≤ xs.size
  ok : ∀ e ∈ es, okEl sz e
  rep : ∀ i j, i < es.length → j < cnt sz → Rep c (xs.getD (i * cnt sz + j) undef) ((es.getD i .undef).cells.getD j .undef)

theorem Flat.mono {c c' : Ctx} (hle : c.le c') {xs : Array Value} {sz : Nat} {es : List AVal} (h : Flat c xs sz es) : Flat c' xs sz es :=
  ⟨h.len, h.ok, fun i j hi hj => Rep.mono hle (h.rep i j hi hj)⟩

def BoxOK (S : Sc) (d : Nat) : Box → Prop
  | .plain cs => ∃ xs el, S.c.w.heap[S.lam d]? = some (.cells xs el (0, 0)) ∧ RepA S.c xs cs
  | .rich l => ∃ xs el, S.c.w.heap[S.lam d]? = some (.cells xs el (0, 0)) ∧ RepL S xs l
  | .arr sz es => ∃ xs el, S.c.w.heap[S.lam d]? = some (.cells xs el (0, 0)) ∧ Flat S.c xs sz es ∧ (S.sh d).1 = es.length ∧ es.length ≤ (S.sh d).2 ∧ (S.sh d).2 * cnt sz ≤ xs.size

def Mgd (c : Ctx) (β : Owner → Option Nat) (b : Nat) : Prop := (∃ id, id < c.n ∧ c.ι id = b) ∨ ∃ id o, β (.cell id o) = some b

/-- A call's own memory: what is new since it began, and what was managed then. -/
structure Bs where
  n : Nat
  E : Nat → Prop
def Bs.ok (B : Bs) (b : Nat) : Prop := B.n ≤ b ∨ B.E b
theorem Bs.lt {B : Bs} {b : Nat} (h : ¬ B.ok b) : b < B.n := Nat.lt_of_not_le fun h' => h (.inl h')

structure Rel (base : Bs) (S : Sc) (fr : Fr) (a : Act) (w : World) : Prop where
  w : S.c.w = w
  defers : a.defers = []
  heap : HRel S.c S.β S.H
  own : BRel S.c S.β
  baseLe : base.n ≤ S.c.w.heap.size
  bx : S.bx = fr.boxes
  env : ∀ s e, look s fr.env = some e → RepE S (a.tmps.getD s undef) e
  box : ∀ d b, look d fr.boxes = some b → BoxOK S d b
  boxκ : ∀ d b, look d fr.boxes = some b → S.c.κ (S.lam d) = none
  boxι : ∀ d b, look d fr.boxes = some b → ∀ id, id < S.c.n → S.c.ι id ≠ S.lam d
  boxinj : ∀ d d' b b', look d fr.boxes = some b → look d' fr.boxes = some b' → S.lam d = S.lam d' → d = d'
  boxbase : ∀ d b, look d fr.boxes = some b → base.n ≤ S.lam d
  tokbase : ∀ g b, S.β (.tok g) = some b → base.ok b
  mgd : ∀ b, Mgd S.c S.β b → base.ok b

/-- What is not a call's own memory is as it was. -/
structure Pres (base : Bs) (c : Ctx) (β : Owner → Option Nat) (c' : Ctx) (β' : Owner → Option Nat) : Prop where
  le : c.le c'
  size : c.w.heap.size ≤ c'.w.heap.size
  same : ∀ b, ¬ base.ok b → c'.w.heap[b]? = c.w.heap[b]? ∧ c'.κ b = c.κ b
  io : c'.w.os = c.w.os ∧ c'.w.output = c.w.output

theorem Pres.refl (base : Bs) (c : Ctx) (β β' : Owner → Option Nat) : Pres base c β c β' := ⟨c.le_refl, Nat.le_refl _, fun _ _ => ⟨rfl, rfl⟩, ⟨rfl, rfl⟩⟩
theorem Pres.trans {base : Bs} {c c' c'' : Ctx} {β β' β1 β'' : Owner → Option Nat} (h1 : Pres base c β c' β') (h2 : Pres base c' β1 c'' β'') : Pres base c β c'' β'' :=
  ⟨Ctx.le_trans h1.le h2.le, Nat.le_trans h1.size h2.size, fun b hb => by
    obtain ⟨e1, k1⟩ := h1.same b hb
    obtain ⟨e2, k2⟩ := h2.same b hb
    exact ⟨e2.trans e1, k2.trans k1⟩, ⟨h2.io.1.trans h1.io.1, h2.io.2.trans h1.io.2⟩⟩
theorem Pres.sub {base base' : Bs} {c c' : Ctx} {β β' : Owner → Option Nat} (h : Pres base c β c' β') (hb : ∀ b, ¬ base'.ok b → ¬ base.ok b) : Pres base' c β c' β' :=
  ⟨h.le, h.size, fun b h' => h.same b (hb b h'), h.io⟩

/-! ### Slots -/
theorem look_ins {α : Type} {s t : Nat} {v : α} : ∀ l : List (Nat × α), look t (ins s v l) = if s = t then some v else look t l
  | [] => by
    simp only [ins, look]
    by_cases h : s = t
    · simp [h]
    · have : (s == t) = false := by simpa using h
      simp [h, this]
  | (k, x) :: r => by
    simp only [ins]
    cases h1 : Nat.blt s k
    · cases h2 : k == s
      · simp only [cond_false, look]
        rw [look_ins r]
        by_cases h : s = t
        · subst h; simp [h2]
        · simp [h]
      · simp only [cond_true, cond_false, look]
        have : k = s := by simpa using h2
        subst this
        by_cases h : k = t
        · subst h; simp
        · have h' : (k == t) = false := by simpa using h
          simp [h, h']
    · simp only [cond_true, look]
      by_cases h : s = t
      · subst h; simp
      · have h' : (s == t) = false := by simpa using h
        simp [h, h']

theorem look_set {s t : Nat} {fr : Fr} {v e : EV} (h : look t (fr.set s v).env = some e) : (t = s ∧ e = v) ∨ (t ≠ s ∧ look t fr.env = some e) := by
  simp only [Fr.set] at h
  rw [look_ins] at h
  by_cases hk : s = t
  · subst hk; simp at h; exact .inl ⟨rfl, h.symm⟩
  · simp only [hk, if_false] at h
    exact .inr ⟨fun e => hk e.symm, h⟩

theorem look_setBox {d d' : Nat} {fr : Fr} {b b' : Box} (h : look d' (fr.setBox d b).boxes = some b') : (d' = d ∧ b' = b) ∨ (d' ≠ d ∧ look d' fr.boxes = some b') := by
  simp only [Fr.setBox] at h
  rw [look_ins] at h
  by_cases hk : d = d'
  · subst hk; simp at h; exact .inl ⟨rfl, h.symm⟩
  · simp only [hk, if_false] at h
    exact .inr ⟨fun e => hk e.symm, h⟩

theorem look_map {α β : Type} (f : α → β) (s : Nat) : ∀ l : List (Nat × α), look s (l.map fun p => (p.1, f p.2)) = (look s l).map f
  | [] => rfl
  | (k, v) :: r => by
    simp only [List.map_cons, look]
    cases k == s
    · simpa using look_map f s r
    · rfl

theorem getD_set_eq {xs : Array Value} {i : Nat} {v : Value} (h : i < xs.size) : (xs.setIfInBounds i v).getD i undef = v := by simp [h]
theorem getD_set_ne {xs : Array Value} {i j : Nat} {v : Value} (h : j ≠ i) : (xs.setIfInBounds i v).getD j undef = xs.getD j undef := by
  simp only [Array.getD_eq_getD_getElem?]
  rw [Array.getElem?_setIfInBounds_ne (Ne.symm h)]

theorem eval_get {base : Bs} {S : Sc} {fr : Fr} {a : Act} {w : World} (r : Rel base S fr a w) (s : Nat) : RepE S (a.tmps.getD s undef) (fr.get s) := by
  unfold Fr.get
  cases h : look s fr.env with
  | none => exact True.intro
  | some e => exact r.env s e h

theorem Rel.put {base : Bs} {S : Sc} {fr : Fr} {a : Act} {w : World} (r : Rel base S fr a w) {dst : Option Nat} {v : Value} {e : EV}
    (hd : ∀ d, dst = some d → d < a.tmps.size) (h : RepE S v e) : Rel base S (fr.put dst e) (a.put dst v) w := by
  cases dst with
  | none => exact r
  | some d =>
    have hdd := hd d rfl
    refine { r with env := fun s e' he => ?_ }
    rcases look_set he with ⟨rfl, rfl⟩ | ⟨hne, he⟩
    · simp only [Act.put]; rw [getD_set_eq hdd]; exact h
    · simp only [Act.put]; rw [getD_set_ne hne]; exact r.env s e' he

theorem ofValue1_rep (c : Ctx) {v : Value} {a : AVal} (h : ofValue1 v = some a) : Rep c v a ∧ a.isAgg = false := by
  unfold ofValue1 at h
  split at h <;> simp at h <;> subst h
  · exact ⟨.bool _, rfl⟩
  · exact ⟨.int _ _, rfl⟩
  · exact ⟨.str _, rfl⟩
  · exact ⟨.nilp, rfl⟩
  · exact ⟨.slnil _ _ _, rfl⟩
  · exact ⟨.nilmap, rfl⟩
  · exact ⟨.nilfn, rfl⟩
  · exact ⟨.nilif, rfl⟩

theorem optAll_some {α : Type} : ∀ {l : List (Option α)} {r : List α}, optAll l = some r → l = r.map some
  | [], r, h => by simp [optAll] at h; subst h; rfl
  | none :: _, r, h => by simp [optAll] at h
  | some a :: t, r, h => by
    simp only [optAll] at h
    split at h
    · rename_i l hl; simp at h; subst h; simp [optAll_some hl]
    · simp at h

theorem ofZero1_rep (c : Ctx) {n : Nat} {v : Value} {a : AVal} (h : ofZero1 n v = some a) : Rep c v a ∧ a.isAgg = false := by
  unfold ofZero1 at h
  split at h
  · simp at h; subst h; exact ⟨.slnil _ _ _, rfl⟩
  · exact ofValue1_rep c h
theorem ofZeros_at : ∀ (sh : List Nat) (l : List Value) (j : Nat) (h : j < l.length), ∃ n, (ofZeros sh l)[j]? = some (ofZero1 n l[j])
  | sh, v :: r, 0, _ => ⟨sh.headD 0, rfl⟩
  | sh, v :: r, j + 1, h => by
    obtain ⟨n, hn⟩ := ofZeros_at sh.tail r j (by simpa using h)
    exact ⟨n, by simpa [ofZeros] using hn⟩
theorem ofZeros_length : ∀ (sh : List Nat) (l : List Value), (ofZeros sh l).length = l.length
  | _, [] => rfl
  | sh, v :: r => by simp [ofZeros, ofZeros_length sh.tail r]
theorem ofZero_rep (c : Ctx) {sh : List Nat} {v : Value} {a : AVal} (h : ofZero sh v = some a) : Rep c v a := by
  unfold ofZero at h
  split at h
  · rename_i cs
    split at h
    · rename_i l hl
      simp at h; subst h
      have hm := optAll_some hl
      have hlen : cs.size = l.length := by have := congrArg List.length hm; simpa [ofZeros_length] using this
      have hj : ∀ j, j < l.length → ∃ n, ofZero1 n (cs.getD j undef) = some (l.getD j .undef) := fun j hj => by
        have h2 : j < cs.size := by omega
        obtain ⟨n, hn⟩ := ofZeros_at sh cs.toList j (by simpa using h2)
        rw [hm, List.getElem?_map, List.getElem?_eq_getElem hj] at hn
        refine ⟨n, ?_⟩
        simp at hn
        have e1 : cs.getD j undef = cs[j] := by simp [h2]
        have e2 : l.getD j .undef = l[j] := by simp [hj]
        rw [e1, e2, ← hn]
      refine .agg cs l hlen (fun x hx => ?_) (fun j hj' => (ofZero1_rep c (hj j hj').choose_spec).1)
      obtain ⟨j, hj', rfl⟩ := List.getElem_of_mem hx
      have := (ofZero1_rep c (hj j hj').choose_spec).2
      simpa [hj'] using this
    · simp at h
  · exact (ofZero1_rep c h).1

theorem ofValue_rep (c : Ctx) {v : Value} {a : AVal} (h : ofValue v = some a) : Rep c v a := by
  unfold ofValue at h
  split at h
  · rename_i cs
    split at h
    · rename_i l hl
      simp at h; subst h
      have hm := optAll_some hl
      have hlen : cs.size = l.length := by have := congrArg List.length hm; simpa using this
      have hj : ∀ j, j < l.length → ofValue1 (cs.getD j undef) = some (l.getD j .undef) := fun j hj => by
        have h1 := congrArg (·[j]?) hm
        simp only [List.getElem?_map] at h1
        rw [List.getElem?_eq_getElem hj, List.getElem?_eq_getElem (by simpa [hlen] using hj)] at h1
        simp at h1
        have h2 : j < cs.size := by omega
        simp [h2, hj, h1]
      refine .agg cs l hlen (fun x hx => ?_) (fun j hj' => (ofValue1_rep c (hj j hj')).1)
      obtain ⟨j, hj', rfl⟩ := List.getElem_of_mem hx
      have := (ofValue1_rep c (hj j hj')).2
      simpa [hj'] using this
    · simp at h
  · exact (ofValue1_rep c h).1

theorem eval_opnd {base : Bs} {S : Sc} {fr : Fr} {a : Act} {w : World} (r : Rel base S fr a w) (x : Operand) : RepE S (a.eval x) (fr.opnd x) := by
  cases x with
  | tmp t => exact eval_get r t
  | const v =>
    simp only [Act.eval, Fr.opnd]
    split
    · rename_i a' h; exact ofValue_rep S.c h
    · exact True.intro
  | global g => exact True.intro
  | func f => exact .fn f #[] #[] [] [] rfl rfl (fun j h => by simp at h) (fun j h => by simp at h)

theorem RepS.toA {S : Sc} {v : Value} {s : SV} {a : AVal} (r : RepS S v s) (h : s.toA = some a) : Rep S.c v a := by
  cases s <;> simp [SV.toA] at h
  · subst h; exact r
  · subst h; exact r.1
  · subst h; exact r.1

theorem RepC.toA {S : Sc} {v : Value} {s : CV} {a : AVal} (r : RepC S v s) (h : s.toA = some a) : Rep S.c v a := by
  cases s with
  | one s => exact RepS.toA r h
  | agg l =>
    simp only [CV.toA] at h
    split at h
    · rename_i cs hcs
      simp at h; subst h
      obtain ⟨xs, rfl, hlen, hr⟩ := r
      have hm := optAll_some hcs
      have hl : l.length = cs.length := by have := congrArg List.length hm; simpa using this
      have hj : ∀ j, j < cs.length → (l.getD j .unk).toA = some (cs.getD j .undef) := fun j hj => by
        have h1 := congrArg (·[j]?) hm
        simp only [List.getElem?_map] at h1
        rw [List.getElem?_eq_getElem hj, List.getElem?_eq_getElem (by omega)] at h1
        simp at h1
        have : j < l.length := by omega
        simp [this, hj, h1]
      refine .agg xs cs (by omega) (fun x hx => ?_) (fun j hj' => RepS.toA (hr j (by omega)).1 (hj j hj'))
      obtain ⟨j, hj', rfl⟩ := List.getElem_of_mem hx
      have h1 := (hr j (by omega)).2
      have h2 := RepS.toA (hr j (by omega)).1 (hj j hj')
      have h3 : cs.getD j .undef = cs[j] := by simp [hj']
      rw [h3] at h2
      generalize xs.getD j undef = v at h1 h2
      generalize cs[j] = a at h2
      cases h2 <;> first | rfl | exact absurd h1 (by simp [Value.oneCell'])
    · simp at h

theorem RepE.toA {S : Sc} {v : Value} {e : EV} {a : AVal} (r : RepE S v e) (h : e.toA = some a) : Rep S.c v a := by
  cases e with
  | cv c => exact RepC.toA r h
  | tup l => simp [EV.toA] at h

/-! ### Answers -/
theorem Tr.All.mono {α : Type} {Q Q' : α → Prop} (h : ∀ a, Q a → Q' a) : ∀ {t : Tr α}, t.All Q → t.All Q'
  | .ret a, r => h a r
  | .fail, r => r
  | .any _ _, r => ⟨r.1, fun i hi => Tr.All.mono h (r.2 i hi)⟩
theorem Tr.All.bind {α β : Type} {Q : β → Prop} {f : α → Tr β} : ∀ {t : Tr α}, (t.bind f).All Q → t.All fun a => (f a).All Q
  | .ret _, r => r
  | .fail, r => r
  | .any _ _, r => ⟨r.1, fun i hi => Tr.All.bind (r.2 i hi)⟩

theorem all_optK {α R : Type} {Q : R → Prop} {o : Option α} {K : α → Tr R} (h : (optK o K).All Q) : ∃ a, o = some a ∧ (K a).All Q := by
  cases o with
  | none => exact h.elim
  | some a => exact ⟨a, rfl, h⟩
theorem all_bif {R : Type} {Q : R → Prop} {b : Bool} {t : Tr R} (h : (bif b then t else .fail).All Q) : b = true ∧ t.All Q := by
  cases b
  · exact h.elim
  · exact ⟨rfl, h⟩
end Go.Weave
