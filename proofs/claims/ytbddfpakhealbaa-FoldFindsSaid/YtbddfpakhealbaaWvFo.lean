/- A walk by hand around calls that the evaluator tells of: what stays through a call, and through the walk's own steps. -/
import Derived.Test.YtbddfpakhealbaaWvU
namespace Go.Weave
open Go

def noTok (β : Owner → Option Nat) : Owner → Option Nat
  | .tok _ => none
  | .cell i o => β (.cell i o)
structure Live (P : Program) (c : Ctx) (β : Owner → Option Nat) (H : Heap) : Prop where
  heap : HRel c β H
  own : BRel c β
  keys : KeysOk P H
  tok : ∀ g, β (.tok g) = none
/-- A block that is no managed one's. -/
def Outs (c : Ctx) (β : Owner → Option Nat) (b : Nat) : Prop := b < c.w.heap.size ∧ ¬ Mgd c β b
structure Kp (B : Nat) (c : Ctx) (β : Owner → Option Nat) (c' : Ctx) (β' : Owner → Option Nat) : Prop where
  le : c.le c'
  size : c.w.heap.size ≤ c'.w.heap.size
  io : c'.w.os = c.w.os ∧ c'.w.output = c.w.output
  same : ∀ b, b < B → Outs c β b → c'.w.heap[b]? = c.w.heap[b]? ∧ c'.κ b = c.κ b ∧ ¬ Mgd c' β' b
theorem Kp.refl (B : Nat) (c : Ctx) (β : Owner → Option Nat) : Kp B c β c β := ⟨c.le_refl, Nat.le_refl _, ⟨rfl, rfl⟩, fun _ _ h => ⟨rfl, rfl, h.2⟩⟩
theorem Kp.trans {B : Nat} {c c' c'' : Ctx} {β β' β'' : Owner → Option Nat} (h1 : Kp B c β c' β') (h2 : Kp B c' β' c'' β'') : Kp B c β c'' β'' :=
  ⟨Ctx.le_trans h1.le h2.le, Nat.le_trans h1.size h2.size, ⟨h2.io.1.trans h1.io.1, h2.io.2.trans h1.io.2⟩, fun b hb ho => by
    obtain ⟨e1, k1, m1⟩ := h1.same b hb ho
    obtain ⟨e2, k2, m2⟩ := h2.same b hb ⟨Nat.lt_of_lt_of_le ho.1 h1.size, m1⟩
    exact ⟨e2.trans e1, k2.trans k1, m2⟩⟩
/-- A call keeps every block that is no managed one's. -/
structure CKp (c : Ctx) (β : Owner → Option Nat) (c' : Ctx) (β' : Owner → Option Nat) : Prop where
  le : c.le c'
  size : c.w.heap.size ≤ c'.w.heap.size
  io : c'.w.os = c.w.os ∧ c'.w.output = c.w.output
  same : ∀ b, Outs c β b → c'.w.heap[b]? = c.w.heap[b]? ∧ c'.κ b = c.κ b ∧ ¬ Mgd c' β' b
theorem CKp.kp {B : Nat} {c c' : Ctx} {β β' : Owner → Option Nat} (h : CKp c β c' β') : Kp B c β c' β' := ⟨h.le, h.size, h.io, fun b _ ho => h.same b ho⟩
/-- The walk's own block: nobody's, nothing of it is told. -/
structure Pv (c : Ctx) (β : Owner → Option Nat) (b : Nat) : Prop where
  out : Outs c β b
  κ : c.κ b = none
theorem Pv.call {c c' : Ctx} {β β' : Owner → Option Nat} (h : CKp c β c' β') {b : Nat} (p : Pv c β b) : Pv c' β' b ∧ c'.w.heap[b]? = c.w.heap[b]? := by
  obtain ⟨e, k, m⟩ := h.same b p.out
  exact ⟨⟨⟨Nat.lt_of_lt_of_le p.out.1 h.size, m⟩, by rw [k]; exact p.κ⟩, e⟩
/-- Where the context is in another world. -/
abbrev Ctx.at (c : Ctx) (w' : World) : Ctx := ⟨w', c.n, c.ι, c.κ⟩
/-- The walk's own step: new blocks, and some of its own. -/
theorem own_step {P : Program} {c : Ctx} {β : Owner → Option Nat} {H : Heap} (L : Live P c β H) {w' : World} (hsz : c.w.heap.size ≤ w'.heap.size)
    (hs : ∀ b, b < c.w.heap.size → ¬ Pv c β b → w'.heap[b]? = c.w.heap[b]?) :
    Live P (c.at w') β H ∧ c.le (c.at w') ∧ (∀ b, Pv c β b → Pv (c.at w') β b) ∧ (∀ b, c.w.heap.size ≤ b → b < w'.heap.size → Pv (c.at w') β b) := by
  have hm : ∀ b, Mgd c β b → b < c.w.heap.size := fun b h => by
    rcases h with ⟨id, h1, rfl⟩ | ⟨id, o, h1⟩
    · exact L.heap.lt h1
    · obtain ⟨xs, el, h'⟩ := L.own.blk _ _ h1
      exact (Array.getElem?_eq_some_iff.1 h').1
  have hk : ∀ b, c.κ b ≠ none → w'.heap[b]? = c.w.heap[b]? := fun b hb => by
    cases e : c.κ b with
    | none => exact absurd e hb
    | some l => exact hs b (L.own.lim b l e) fun p => hb p.κ
  have hmg : ∀ b, Mgd c β b → w'.heap[b]? = c.w.heap[b]? := fun b h => hs b (hm b h) fun p => p.out.2 h
  have hle : c.le (c.at w') := ⟨Nat.le_refl _, fun _ _ => rfl, fun b l h => ⟨l, h, Nat.le_refl _, fun o _ => by
    simp only [World.cell?]; rw [hk b (by rw [h]; simp)]⟩⟩
  have hβ : ∀ o b, β o = some b → (c.at w').κ b = c.κ b ∧ (c.at w').w.heap[b]? = c.w.heap[b]? := fun o b h => ⟨rfl, by
    cases o with
    | tok g => rw [L.tok g] at h; cases h
    | cell i o => exact hmg b (.inr ⟨i, o, h⟩)⟩
  refine ⟨⟨⟨L.heap.n, fun id o ho => ?_, L.heap.κ, L.heap.inj⟩, ⟨fun o b h => ?_, L.own.κ, L.own.inj, fun b l h => Nat.lt_of_lt_of_le (L.own.lim b l h) hsz, L.own.cl⟩, L.keys, L.tok⟩, hle, fun b p => ⟨⟨Nat.lt_of_lt_of_le p.out.1 hsz, p.out.2⟩, p.κ⟩, fun b h1 h2 => ⟨⟨h2, fun h => ?_⟩, ?_⟩⟩
  · have hid : id < c.n := by rw [L.heap.n]; exact (List.getElem?_eq_some_iff.1 ho).1
    exact (L.heap.obj id o ho).move hle hβ hid (hmg _ (.inl ⟨id, hid, rfl⟩))
  · obtain ⟨xs, el, h'⟩ := L.own.blk o b h
    exact ⟨xs, el, by rw [(hβ o b h).2]; exact h'⟩
  · have := hm b h
    omega
  · show c.κ b = none
    cases e : c.κ b with
    | none => rfl
    | some l => have := L.own.lim b l e; omega
theorem own_kp {B : Nat} {c : Ctx} {β : Owner → Option Nat} {w' : World} (hle : c.le (c.at w')) (hsz : c.w.heap.size ≤ w'.heap.size) (hio : w'.os = c.w.os ∧ w'.output = c.w.output) (hs : ∀ b, b < B → b < c.w.heap.size → w'.heap[b]? = c.w.heap[b]?) : Kp B c β (c.at w') β :=
  ⟨hle, hsz, hio, fun b hb ho => ⟨hs b hb ho.1, rfl, ho.2⟩⟩
theorem Mgd.noTok {c : Ctx} {β : Owner → Option Nat} {b : Nat} (h : Mgd c (noTok β) b) : Mgd c β b := h
/-- A call, by the evaluator. -/
theorem call_live {C : Cfg} {call : FuncId → List AVal → Heap → Tr Res} {c0 : Ctx} (hC : CallOK C call c0) {f : FuncId} {args : List AVal} {H : Heap} {Q : Res → Prop} (hq : (call f args H).All Q) {c : Ctx} {β : Owner → Option Nat} (hc : c0.le c) (L : Live C.P c β H) (hp : (C.ann f).pown = [])
    {vs : Array Value} (hs : vs.size = args.length) (hr : ∀ j, j < args.length → Rep c (vs.getD j undef) (args.getD j .undef)) :
    Calls C.P f vs c.w fun e w' => ∃ (xs : Array Value) (c' : Ctx) (β' : Owner → Option Nat) (r : Res), e = .returned (resultOf xs) ∧ w' = c'.w ∧ Live C.P c' β' r.2 ∧ CKp c β c' β' ∧ xs.size = r.1.length ∧ (∀ i, i < r.1.length → Rep c' (xs.getD i undef) (r.1.getD i .undef)) ∧ Q r := by
  refine (hC.2 f args H Q hq c β vs hc L.heap L.own L.keys hs (fun j hj => by rw [hp]; exact hr j hj)).mono ?_
  rintro e w' ⟨xs, c', β', r, rfl, rfl, o, hQ⟩
  have hok : ∀ b, Outs c β b → ¬ (callBs c β).ok b := fun b ho h => by
    rcases h with h | h | ⟨g, h⟩
    · have h : c.w.heap.size ≤ b := h
      have := ho.1
      omega
    · exact ho.2 h
    · rw [L.tok g] at h; cases h
  refine ⟨xs, c', noTok β', r, rfl, rfl, ⟨o.heap.ofCell fun _ _ => rfl, ⟨fun ow b h => ?_, fun ow b h => ?_, fun ow ow' b h h' => ?_, o.own.lim, o.own.cl⟩, o.keys, fun g => rfl⟩, ⟨o.pres.le, o.pres.size, o.pres.io, fun b ho => ?_⟩, o.len, fun i hi => ?_, hQ⟩
  · cases ow with
    | tok g => cases h
    | cell i j => exact o.own.blk (.cell i j) b h
  · cases ow with
    | tok g => cases h
    | cell i j => exact o.own.κ (.cell i j) b h
  · cases ow with
    | tok g => cases h
    | cell i j =>
      cases ow' with
      | tok g => cases h'
      | cell i' j' => exact o.own.inj _ _ b h h'
  · obtain ⟨h1, h2⟩ := o.pres.same b (hok b ho)
    exact ⟨h1, h2, fun h => hok b ho (o.mgd b h)⟩
  · have := o.res i hi
    cases hb : (C.ann f).rown.contains i with
    | false => rw [hb] at this; exact this
    | true =>
      rw [hb] at this
      simp only [cvIn, cond_true] at this
      split at this
      · rename_i e; rw [e]; exact this.1
      · exact this
end Go.Weave
