/- One operation. -/
import Derived.Test.YtjaadkgohjbadaaWvPw
namespace Go.Weave
variable {P : Program} {w : World} {R : Type}
theorem capsOf_eq {f : FuncId} {first : List AVal} : ∀ (n i : Nat) {cap : List AVal}, cap.length = i + n → capsOf (.fn f first cap) i n = cap.drop i
  | 0, i, cap, h => by simp [capsOf, List.drop_eq_nil_of_le (by omega : cap.length ≤ i)]
  | n + 1, i, cap, h => by
    have hi : i < cap.length := by omega
    unfold capsOf
    rw [capsOf_eq n (i + 1) (by omega), List.drop_eq_getElem_cons hi]
    simp [AVal.capAt, hi]
theorem fnsK_ok {R' : Type} {Q' : R' → Prop} : ∀ {l : List (FuncId × Nat)} {v : AVal} {K : FuncId → List AVal → List AVal → Tr R'}, (fnsK l v K).All Q' → ∃ f first cap, v = .fn f first cap ∧ (K f first cap).All Q'
  | [], v, K, h => h.elim
  | (f, n) :: r, v, K, h => by
    unfold fnsK at h
    cases hb : v.isFnOf f n with
    | false => rw [hb] at h; exact fnsK_ok h
    | true =>
      rw [hb] at h
      cases v with
      | fn g first cap =>
        simp only [AVal.isFnOf, Bool.and_eq_true, beq_iff_eq, List.isEmpty_iff] at hb
        obtain ⟨rfl, rfl, hc⟩ := hb
        refine ⟨g, [], cap, rfl, ?_⟩
        have e := capsOf_eq (f := g) (first := []) n 0 (cap := cap) (by omega)
        rw [e] at h
        exact h
      | _ => simp [AVal.isFnOf] at hb
theorem fnK_ok {R' : Type} {Q' : R' → Prop} {l : List (FuncId × Nat)} {v : AVal} {K : FuncId → List AVal → List AVal → Tr R'} (h : (fnK l v K).All Q') : ∃ f first cap, v = .fn f first cap ∧ (K f first cap).All Q' := by
  unfold fnK at h
  split at h
  · unfold fnOne at h
    split at h
    · exact ⟨_, _, _, rfl, h⟩
    · exact h.elim
  · exact fnsK_ok h

theorem evs_ok {base : Bs} {S : Sc} {fr : Fr} {a : Act} (r : Rel base S fr a w) (xs : Array Operand) :
    (xs.map a.eval).size = (evList fr xs).length ∧ ∀ j, j < (evList fr xs).length → RepE S ((xs.map a.eval).getD j undef) ((evList fr xs).getD j (.one .unk)) := by
  refine ⟨by simp [evList], fun j hj => ?_⟩
  have hj' : j < xs.size := by simpa [evList] using hj
  have e1 : (xs.map a.eval).getD j undef = a.eval xs[j] := by simp [hj']
  have e2 : (evList fr xs).getD j (.one .unk) = fr.opnd xs[j] := by simp [evList, hj']
  rw [e1, e2]
  exact eval_opnd r _

theorem optAll_toA {S : Sc} {es : List EV} {vs : List AVal} {xs : Array Value} (h : optAll (es.map EV.toA) = some vs) (hl : xs.size = es.length) (hr : ∀ j, j < es.length → RepE S (xs.getD j undef) (es.getD j (.one .unk))) :
    xs.size = vs.length ∧ ∀ j, j < vs.length → Rep S.c (xs.getD j undef) (vs.getD j .undef) := by
  have hm := optAll_some h
  have hlen : es.length = vs.length := by have := congrArg List.length hm; simpa using this
  refine ⟨by omega, fun j hj => RepE.toA (hr j (by omega)) ?_⟩
  have h1 := congrArg (·[j]?) hm
  simp only [List.getElem?_map] at h1
  rw [List.getElem?_eq_getElem (show j < es.length by omega), List.getElem?_eq_getElem hj] at h1
  simp at h1
  have : j < es.length := by omega
  simp [this, hj, h1]

theorem repO_map {base : Bs} {S : Sc} {fr : Fr} {a : Act} (r : Rel base S fr a w) (x : Option Operand) : RepO S (x.map a.eval) (x.map fr.opnd) := by
  cases x with
  | none => trivial
  | some x => exact eval_opnd r x

theorem repP_map {base : Bs} {S : Sc} {fr : Fr} {a : Act} (r : Rel base S fr a w) : ∀ (l : List (Nat × Operand)), RepP S (l.map fun p => (p.1, a.eval p.2)) (l.map fun p => (p.1, fr.opnd p.2))
  | [] => trivial
  | (_, x) :: l => ⟨rfl, eval_opnd r x, repP_map r l⟩

theorem upon_v {o : Oper} {a : Act} {next : Act → World → Prop} {Qx : Exit → Act → World → Prop} {s : Sem Value} {v : Value} {w' : World} (h : s.run P w = .ok v w') :
    o.upon P a next Qx ((do pure (.value (← s)) : Sem Next).run P w) = next (a.put o.dst v) w' := by
  simp only [Sem.run_bind, h, Result.andThen_ok, Sem.run_pure]; rfl
theorem upon_u {o : Oper} {a : Act} {next : Act → World → Prop} {Qx : Exit → Act → World → Prop} {s : Sem Unit} {w' : World} (h : s.run P w = .ok () w') :
    o.upon P a next Qx ((do s; pure .skip : Sem Next).run P w) = next (a.put o.dst undef) w' := by
  simp only [Sem.run_bind, h, Result.andThen_ok, Sem.run_pure]; rfl

theorem repE_undef {S : Sc} : RepE S undef (.tup []) := ⟨#[], rfl, rfl, fun j hj => by simp at hj⟩

theorem put_size {a : Act} {dst : Option Nat} {v : Value} : (a.put dst v).tmps.size = a.tmps.size := by cases dst <;> simp [Act.put]

def Reps (S : Sc) (xs : Array Value) (es : List EV) : Prop := xs.size = es.length ∧ ∀ j, j < es.length → RepE S (xs.getD j undef) (es.getD j (.one .unk))

theorem Reps.append {S : Sc} {xs ys : Array Value} {es fs : List EV} (h1 : Reps S xs es) (h2 : Reps S ys fs) : Reps S (xs ++ ys) (es ++ fs) := by
  obtain ⟨l1, r1⟩ := h1
  obtain ⟨l2, r2⟩ := h2
  refine ⟨by simp [l1, l2], fun j hj => ?_⟩
  simp only [List.length_append] at hj
  by_cases hlt : j < es.length
  · have := r1 j hlt
    simp only [Array.getD_eq_getD_getElem?, List.getD_eq_getElem?_getD] at this ⊢
    rw [Array.getElem?_append_left (by omega), List.getElem?_append_left hlt]
    exact this
  · have := r2 (j - es.length) (by omega)
    simp only [Array.getD_eq_getD_getElem?, List.getD_eq_getElem?_getD] at this ⊢
    rw [Array.getElem?_append_right (by omega), List.getElem?_append_right (by omega), l1]
    exact this

theorem Reps.vals {S : Sc} {xs : Array Value} {vs : List AVal} (hl : xs.size = vs.length) (hr : ∀ j, j < vs.length → Rep S.c (xs.getD j undef) (vs.getD j .undef)) : Reps S xs (vs.map fun v => EV.one (.val v)) := by
  refine ⟨by simp [hl], fun j hj => ?_⟩
  have hj' : j < vs.length := by simpa using hj
  have := hr j hj'
  have e : (vs.map fun v => EV.one (.val v)).getD j (.one .unk) = .one (.val (vs.getD j .undef)) := by simp [hj']
  rw [e]; exact this

theorem args_cons {base : Bs} {S : Sc} {fr : Fr} {a : Act} {xs : Array Operand} {x : EV} {l : List EV} (r : Rel base S fr a w) (h : evList fr xs = x :: l) :
    ∃ v vs, xs.map a.eval = (v :: vs).toArray ∧ RepE S v x ∧ vs.length = l.length ∧ ∀ j, j < l.length → RepE S (vs.getD j undef) (l.getD j (.one .unk)) := by
  obtain ⟨l1, r1⟩ := evs_ok r xs
  rw [h] at l1 r1
  generalize hy : xs.map a.eval = ys at l1 r1
  obtain ⟨ys⟩ := ys
  cases ys with
  | nil => simp at l1
  | cons v vs =>
    refine ⟨v, vs, rfl, by simpa using r1 0 (by simp), by simpa using l1, fun j hj => ?_⟩
    have := r1 (j + 1) (by simpa using hj)
    simpa using this

/-- What a mild operation, and a quiet one, leave as it was. -/
def Calm (m q : Bool) (S S' : Sc) (fr fr' : Fr) : Prop := (m = true → Boxed S S' fr fr') ∧ (q = true → S'.c.w = S.c.w)

/-- What one operation leaves. -/
def Goes (C : Cfg) (base : Bs) (S : Sc) (fr : Fr) (m q : Bool) (a : Act) (Q : Res → Prop) (K : Fr → Heap → Tr Res) (next : Act → World → Prop) : Prop :=
  ∀ S' fr' a' w', Pres base S.c S.β S'.c S'.β → Rel base S' fr' a' w' → KeysOk C.P S'.H → a'.tmps.size = a.tmps.size → Calm m q S S' fr fr' → (K fr' S'.H).All Q → next a' w'

theorem put_boxes (fr : Fr) (dst : Option Nat) (e : EV) : (fr.put dst e).boxes = fr.boxes := by cases dst <;> rfl

theorem Goes.put {C : Cfg} {base : Bs} {S S' : Sc} {fr fr1 : Fr} {m q : Bool} {a : Act} {Q : Res → Prop} {K : Fr → Heap → Tr Res} {next : Act → World → Prop} {w' : World} (hn : Goes C base S fr m q a Q K next)
    (hp : Pres base S.c S.β S'.c S'.β) (r : Rel base S' fr1 a w') (hko : KeysOk C.P S'.H) (hb : Calm m q S S' fr fr1) {dst : Option Nat} (hd : ∀ d, dst = some d → d < a.tmps.size) {v : Value} {e : EV} (he : RepE S' v e) (h : (K (fr1.put dst e) S'.H).All Q) :
    next (a.put dst v) w' := hn S' _ _ _ hp (r.put hd he) hko put_size ⟨fun hm d b h => by rw [put_boxes]; exact hb.1 hm d b h, hb.2⟩ h

theorem opK_ok {C : Cfg} {A : Ann} {call : FuncId → List AVal → Heap → Tr Res} {c0 : Ctx} (hC : CallOK C call c0) {base : Bs} {S : Sc} (hle : c0.le S.c) {fr : Fr} {a : Act} {o : Oper} {Q : Res → Prop} {K : Fr → Heap → Tr Res} (r : Rel base S fr a w)
    (hko : KeysOk C.P S.H) (hd : ∀ d, o.dst = some d → d < a.tmps.size) (h : (opK C A call o fr S.H K).All Q) {next : Act → World → Prop} {Qx : Exit → Act → World → Prop} (hn : Goes C base S fr (mildOp C.P o) (quietOp C.P o) a Q K next) : o.wp C.P a w next Qx := by
  have hE := eval_opnd r
  have p0 : Pres base S.c S.β S.c S.β := Pres.refl _ _ _ _
  unfold Oper.wp
  unfold execOp
  unfold opK at h
  split at h
  · rename_i x ho
    simp only [ho]
    exact hn.put p0 r hko ⟨fun _ => Boxed.refl S fr, fun _ => rfl⟩ hd (hE x) h
  · rename_i x ho
    simp only [ho]
    exact hn.put p0 r hko ⟨fun _ => Boxed.refl S fr, fun _ => rfl⟩ hd (hE x) h
  · rename_i c x y ho
    simp only [ho]
    split at h
    · rename_i b hc
      have hcv : a.eval c = .bool b := by
        have := hE c; rw [hc] at this
        have : Rep S.c (a.eval c) (.bool b) := this
        generalize a.eval c = v at this
        cases this; rfl
      simp only [hcv]
      cases b <;> simp only [cond_true, cond_false] at h
      · exact hn.put p0 r hko ⟨fun _ => Boxed.refl S fr, fun _ => rfl⟩ hd (hE y) h
      · exact hn.put p0 r hko ⟨fun _ => Boxed.refl S fr, fun _ => rfl⟩ hd (hE x) h
    · exact h.elim
  · rename_i t ho
    simp only [ho]
    obtain ⟨z, hz, h⟩ := all_optK h
    obtain ⟨zv, hzr, hzz⟩ := run_zero (w := w) hz S.c
    obtain ⟨S', fr', p1, r1, k1, h⟩ := newK_ok r hko hd (x := .one (.val z)) hzz h
    rw [upon_v (v := .pointer (some ⟨w.heap.size, 0, none⟩)) (w' := w.alloc (.cells zv.cells t)) (by simp [Instr.alloc, hzr, newVar]; rfl)]
    exact hn S' fr' _ _ p1 r1 k1 put_size ⟨fun hm => absurd hm (by simp [mildOp, stillOp, isRead, isCall, isGrow, ho]), fun hm => absurd hm (by simp [quietOp, stillOp, isRead, isLook, ho])⟩ h
  · rename_i t x ho
    simp only [ho]
    obtain ⟨S', fr', p1, r1, k1, h⟩ := newK_ok r hko hd (hE x) h
    rw [upon_v (v := .pointer (some ⟨w.heap.size, 0, none⟩)) (w' := w.alloc (.cells (a.eval x).cells t)) (by simp [Instr.box, newVar]; rfl)]
    exact hn S' fr' _ _ p1 r1 k1 put_size ⟨fun hm => absurd hm (by simp [mildOp, stillOp, isRead, isCall, isGrow, ho]), fun hm => absurd hm (by simp [quietOp, stillOp, isRead, isLook, ho])⟩ h
  · rename_i t parts ho
    simp only [ho]
    have hp : RepP S (parts.map fun p => (p.1, a.eval p.2)).toList (parts.toList.map fun p => (p.1, fr.opnd p.2)) := by simpa using repP_map r parts.toList
    obtain ⟨v, e, hv, he, h⟩ := buildK_ok hp (buildK'_all h)
    rw [upon_v (hv _)]
    exact hn.put p0 r hko ⟨fun _ => Boxed.refl S fr, fun _ => rfl⟩ hd he h
  · rename_i t len parts ho
    simp only [ho]
    have hp : RepP S (parts.map fun p => (p.1, a.eval p.2)).toList (parts.toList.map fun p => (p.1, fr.opnd p.2)) := by simpa using repP_map r parts.toList
    rw [buildSliceK'_eq] at h
    obtain ⟨v, e, w', c', hv, r1, p1, he, hbx, h⟩ := buildSliceK_ok r hp h
    rw [upon_v hv]
    exact hn.put (S' := S.withC c') p1 r1 hko ⟨fun _ d b hb => ⟨⟨b, hb⟩, rfl, by
      have hlt : S.lam d < w.heap.size := by
        have hx : ∃ o, w.heap[S.lam d]? = some o := by
          have hbox := r.box d b hb
          rw [← r.w]
          cases b with
          | plain cs => obtain ⟨xs, el, hg, _⟩ := hbox; exact ⟨_, hg⟩
          | rich l => obtain ⟨xs, el, hg, _⟩ := hbox; exact ⟨_, hg⟩
          | arr sz es => obtain ⟨xs, el, hg, _⟩ := hbox; exact ⟨_, hg⟩
        obtain ⟨o, ho⟩ := hx
        exact (Array.getElem?_eq_some_iff.1 ho).1
      show c'.w.heap[S.lam d]? = _
      rw [hbx _ hlt, r.w]⟩, fun hm => absurd hm (by simp [quietOp, stillOp, isRead, isLook, ho])⟩ hd he h
  · rename_i t x ho
    simp only [ho]
    obtain ⟨v, e, hv, he, h⟩ := loadK_ok r (hE x) (loadK'_all h)
    rw [upon_v hv]
    exact hn.put p0 r hko ⟨fun _ => Boxed.refl S fr, fun _ => rfl⟩ hd he h
  · rename_i t x y ho
    simp only [ho]
    rw [storeK'_eq] at h
    obtain ⟨w', S', fr', hv, p1, r1, k1, h⟩ := storeK_ok r hko (hE x) (hE y) h
    rw [upon_u hv]
    exact hn.put p1 r1 k1 ⟨fun hm => absurd hm (by simp [mildOp, stillOp, isRead, isCall, isGrow, ho]), fun hm => absurd hm (by simp [quietOp, stillOp, isRead, isLook, ho])⟩ hd repE_undef h
  · rename_i x ho
    simp only [ho]
    have hx := hE x
    replace h := nodeK_all h
    unfold nilCheckK at h
    split at h
    · rename_i d off hx2
      rw [hx2] at hx
      have hx' := hx
      obtain ⟨_, e1⟩ : _ ∧ a.eval x = _ := hx
      rw [e1]
      rw [e1] at hx'
      exact hn.put p0 r hko ⟨fun _ => Boxed.refl S fr, fun _ => rfl⟩ hd hx' h
    · rename_i v hx2
      rw [hx2] at hx
      have hx' : Rep S.c (a.eval x) v := hx
      obtain ⟨hf, h'⟩ := all_bif h
      clear h
      generalize a.eval x = u at hx'
      have hx2 := hx'
      cases hx' <;> simp [AVal.isFn, AVal.isAddr] at hf
      · exact hn.put (v := .pointer _) p0 r hko ⟨fun _ => Boxed.refl S fr, fun _ => rfl⟩ hd (e := .one (.val _)) hx2 h'
      · exact hn.put (v := .pointer _) p0 r hko ⟨fun _ => Boxed.refl S fr, fun _ => rfl⟩ hd (e := .one (.val _)) hx2 h'
      · exact hn.put (v := .func _ _ _) p0 r hko ⟨fun _ => Boxed.refl S fr, fun _ => rfl⟩ hd (e := .one (.val _)) hx2 h'
    · exact h.elim
  · rename_i op t x y ty ho
    simp only [ho]
    obtain ⟨u, hu, h⟩ := all_optK h
    obtain ⟨v, hv, h⟩ := all_optK h
    obtain ⟨z, e, hz, he, h⟩ := binK_ok (ox := x) (oy := y) (RepE.toA (hE x) hu) (RepE.toA (hE y) hv) (binK'_all h)
    rw [upon_v (hz _)]
    exact hn.put (e := .one (.val e)) p0 r hko ⟨fun _ => Boxed.refl S fr, fun _ => rfl⟩ hd he h
  · rename_i op t x ho
    simp only [ho]
    obtain ⟨u, hu, h⟩ := all_optK h
    obtain ⟨z, e, hz, he, h⟩ := unK_ok (P := C.P) (RepE.toA (hE x) hu) h
    rw [upon_v (hz _)]
    exact hn.put (e := .one (.val e)) p0 r hko ⟨fun _ => Boxed.refl S fr, fun _ => rfl⟩ hd he h
  · rename_i t1 t2 x ho
    simp only [ho]
    obtain ⟨u, hu, h⟩ := all_optK h
    obtain ⟨z, w', S', e, hz, p1, r1, eh, hS, he, h⟩ := convK_ok r (RepE.toA (hE x) hu) h
    rw [upon_v hz]
    refine hn.put (e := .one (.val e)) p1 r1 (by rw [eh]; exact hko) ⟨fun hm => ?_, fun hm => ?_⟩ hd he (by rw [eh]; exact h)
    · rcases hS with ⟨e', hd'⟩ | rfl
      · simp [mildOp, stillOp, isRead, isCall, isGrow, ho, hd'] at hm
      · exact Boxed.refl S' fr
    · rcases hS with ⟨e', hd'⟩ | rfl
      · simp [quietOp, stillOp, isRead, isLook, ho, hd'] at hm
      · rfl
  · rename_i f first cap ho
    simp only [ho]
    obtain ⟨us, hus, h⟩ := all_optK h
    obtain ⟨ws, hws, h⟩ := all_optK h
    obtain ⟨l1, r1⟩ := evs_ok r first
    obtain ⟨l2, r2⟩ := evs_ok r cap
    obtain ⟨l3, r3⟩ := optAll_toA hus l1 r1
    obtain ⟨l4, r4⟩ := optAll_toA hws l2 r2
    rw [upon_v (v := .func (.func f) (first.map a.eval) (cap.map a.eval)) (w' := w) rfl]
    exact hn.put (e := .one (.val (.fn f us ws))) p0 r hko ⟨fun _ => Boxed.refl S fr, fun _ => rfl⟩ hd (Rep.fn f _ _ us ws l3 l4 r3 r4) h
  · rename_i t ho
    simp only [ho]
    simp only at h
    split at h
    · rename_i kt et hu
      obtain ⟨S', r1, p1, k1, eh, hm⟩ := makeMap_ok r hko kt
      rw [upon_v (v := .map (some w.heap.size)) (w' := w.alloc (.map #[] 0)) (by simp [Instr.makeMap])]
      exact hn.put (e := .one (.val (.map S.H.objs.length))) p1 r1 k1 ⟨fun hm => absurd hm (by simp [mildOp, stillOp, isRead, isCall, isGrow, ho]), fun hm => absurd hm (by simp [quietOp, stillOp, isRead, isLook, ho])⟩ hd hm (by rw [eh]; exact h)
    · exact h.elim
  · rename_i t x lo hi mx ho
    simp only [ho]
    obtain ⟨v, e, hv, he, h⟩ := sliceK_ok (hE x) (repO_map r lo) (repO_map r hi) (repO_map r mx) h
    rw [upon_v (hv _)]
    exact hn.put p0 r hko ⟨fun _ => Boxed.refl S fr, fun _ => rfl⟩ hd he h
  · rename_i s x f ho
    simp only [ho]
    obtain ⟨v, e, hv, he, h⟩ := fieldAddrK_ok (hE x) (fieldAddrK'_all h)
    rw [upon_v (hv _)]
    exact hn.put p0 r hko ⟨fun _ => Boxed.refl S fr, fun _ => rfl⟩ hd he h
  · rename_i t x f ho
    simp only [ho]
    obtain ⟨v, e, hv, he, h⟩ := fieldK_ok (hE x) h
    rw [upon_v (hv _)]
    exact hn.put p0 r hko ⟨fun _ => Boxed.refl S fr, fun _ => rfl⟩ hd he h
  · rename_i t x i ho
    simp only [ho]
    obtain ⟨v, e, hv, he, h⟩ := indexAddrK_ok (globE hC.1 hle r x) (hE i) h
    rw [upon_v (hv _)]
    exact hn.put p0 r hko ⟨fun _ => Boxed.refl S fr, fun _ => rfl⟩ hd he h
  · rename_i t x i ho
    simp only [ho]
    obtain ⟨v, e, hv, he, h⟩ := indexK_ok (hE x) (hE i) h
    rw [upon_v (hv _)]
    exact hn.put p0 r hko ⟨fun _ => Boxed.refl S fr, fun _ => rfl⟩ hd he h
  · rename_i t x k ok ho
    simp only [ho]
    obtain ⟨v, e, hv, he, h⟩ := lookupK_ok r hko (hE x) (hE k) (lookupK'_all h)
    rw [upon_v hv]
    exact hn.put p0 r hko ⟨fun _ => Boxed.refl S fr, fun _ => rfl⟩ hd he h
  · rename_i t m k v ho
    simp only [ho]
    obtain ⟨w', S', hv, p1, r1, k1, h⟩ := mapUpdateK_ok r hko (hE m) (hE k) (hE v) h
    rw [upon_u hv]
    exact hn.put p1 r1 k1 ⟨fun hm => absurd hm (by simp [mildOp, stillOp, isRead, isCall, isGrow, ho]), fun hm => absurd hm (by simp [quietOp, stillOp, isRead, isLook, ho])⟩ hd repE_undef h
  · rename_i t m k v ho
    simp only [ho]
    obtain ⟨w', S', hv, p1, r1, k1, h⟩ := mapUpdateK_ok r hko (hE m) (hE k) (hE v) h
    rw [upon_u hv]
    exact hn.put p1 r1 k1 ⟨fun hm => absurd hm (by simp [mildOp, stillOp, isRead, isCall, isGrow, ho]), fun hm => absurd hm (by simp [quietOp, stillOp, isRead, isLook, ho])⟩ hd repE_undef h
  · rename_i t m k ho
    simp only [ho]
    obtain ⟨v, e, w', S', hv, p1, r1, he, k1, h⟩ := mapEntryK_ok r hko (hE m) (hE k) (mapEntryK'_all h)
    rw [upon_v hv]
    exact hn.put p1 r1 k1 ⟨fun hm => absurd hm (by simp [mildOp, stillOp, isRead, isCall, isGrow, ho]), fun hm => absurd hm (by simp [quietOp, stillOp, isRead, isLook, ho])⟩ hd he h
  · rename_i t m s v ho
    simp only [ho]
    obtain ⟨w', S', hv, p1, r1, k1, h⟩ := entryStoreK_ok (t := t) r hko (hE m) (hE s) (hE v) h
    rw [upon_u hv]
    exact hn.put p1 r1 k1 ⟨fun hm => absurd hm (by simp [mildOp, stillOp, isRead, isCall, isGrow, ho]), fun hm => absurd hm (by simp [quietOp, stillOp, isRead, isLook, ho])⟩ hd repE_undef h
  · rename_i x i ho
    simp only [ho]
    split at h
    · rename_i l hx
      obtain ⟨c, hc, h⟩ := all_optK h
      have hx' := hE x
      rw [hx] at hx'
      obtain ⟨xs, e1, hsz, hr⟩ : ∃ xs : Array Value, a.eval x = .tuple xs ∧ xs.size = l.length ∧ ∀ j, j < l.length → RepC S (xs.getD j undef) (l.getD j (.one .unk)) := hx'
      obtain ⟨hlt, hgd⟩ := getElem?_getD (d := .one .unk) hc
      have hlt' : i < xs.size := by omega
      rw [upon_v (v := xs.getD i undef) (w' := w) (by simp [e1, Instr.extract, hlt'])]
      have := hr i hlt
      rw [hgd] at this
      exact hn.put (e := .cv c) p0 r hko ⟨fun _ => Boxed.refl S fr, fun _ => rfl⟩ hd this h
    · exact h.elim
  · rename_i c ho
    simp only [ho]
    obtain ⟨l1, r1⟩ := evs_ok r c.args
    split at h
    · rename_i f hc
      split at h
      · rename_i fv hf
        have h' : (fnK A.fns fv fun f first cap => callK C call f ((first.map fun v => .one (.val v)) ++ evList fr c.args ++ cap.map fun v => .one (.val v)) o.dst fr S.H K).All Q := h
        clear h
        obtain ⟨f', first, cap, rfl, h⟩ := fnK_ok h'
        have hf' := hE f
        rw [hf] at hf'
        have hf' : Rep S.c (a.eval f) (.fn f' first cap) := hf'
        generalize hv : a.eval f = v at hf'
        cases hf' with
        | fn _ xs ys _ _ h1 h2 h3 h4 =>
          have hlen : (xs ++ c.args.map a.eval ++ ys).size = ((first.map fun v => EV.one (.val v)) ++ evList fr c.args ++ cap.map fun v => EV.one (.val v)).length := by simp [h1, h2, evList]
          have hrep : ∀ j, j < ((first.map fun v => EV.one (.val v)) ++ evList fr c.args ++ cap.map fun v => EV.one (.val v)).length →
              RepE S ((xs ++ c.args.map a.eval ++ ys).getD j undef) (((first.map fun v => EV.one (.val v)) ++ evList fr c.args ++ cap.map fun v => EV.one (.val v)).getD j (.one .unk)) :=
            (((Reps.vals h1 h3).append ⟨l1, r1⟩).append (Reps.vals h2 h4)).2
          obtain ⟨⟨fn, g1, g2, g3⟩, hcall⟩ := callK_ok hC hle r hko hd hlen hrep h
          have hrun : (do let d ← resolve a.eval c o.type; invoke d.target d.args : Sem Next).run C.P w = .ok (.enter f' (xs ++ c.args.map a.eval ++ ys)) w := by
            have hb : fn.body ≠ none := by intro hb; simp [hb] at g2
            simp [resolve, hc, hv, Deferred.ofValue, invoke, callFunc, g1, g3, hb]
          rw [hrun, Oper.upon_enter]
          refine hcall.mono ?_
          rintro e w' ⟨v, S', fr', rfl, p1, r1, k1, bx, h⟩
          exact hn S' fr' _ _ p1 r1 k1 put_size ⟨fun _ => bx, fun hm => absurd hm (by simp [quietOp, stillOp, isRead, isLook, ho, hc])⟩ h
      · exact h.elim
    · rename_i hc
      split at h
      · rename_i t ts x l ht hx
        obtain ⟨v, vs, hv, hr, _⟩ := args_cons r hx
        obtain ⟨u, e, hu, he, h⟩ := lenK_ok (ts := ts) (ty := o.type) (vs := vs) r hr (lenK'_all h)
        have hrun : (do let d ← resolve a.eval c o.type; invoke d.target d.args : Sem Next).run C.P w = .ok (.value u) w := by
          have ht' : c.argTypes = (t :: ts).toArray := by rw [← ht]
          simp [resolve, hc, invoke, builtin, hv, ht', hu]
        rw [hrun, Oper.upon_value]
        exact hn.put p0 r hko ⟨fun _ => Boxed.refl S fr, fun _ => rfl⟩ hd he h
      · exact h.elim
    · rename_i hc
      split at h
      · rename_i x y hx
        obtain ⟨v, vs, hv, hr, hl, hr2⟩ := args_cons r hx
        have hl1 : vs.length = 1 := by simpa using hl
        match vs, hl1 with
        | [u], _ =>
          have hru : RepE S u y := by simpa using hr2 0 (by simp)
          obtain ⟨z, w', S', fr', hz, p1, r1, k1, bx, h⟩ := appendK_ok (tr := o.type) r hko hd hr hru h
          have hrun : (do let d ← resolve a.eval c o.type; invoke d.target d.args : Sem Next).run C.P w = .ok (.value z) w' := by
            have ht' : c.argTypes = c.argTypes.toList.toArray := rfl
            rw [← ht'] at hz
            simp [resolve, hc, invoke, builtin, hv, hz]
          rw [hrun, Oper.upon_value]
          exact hn S' fr' _ _ p1 r1 k1 put_size ⟨fun _ => bx, fun hm => absurd hm (by simp [quietOp, stillOp, isRead, isLook, ho, hc])⟩ h
      · exact h.elim
    · rename_i hc
      obtain ⟨v, e, hv, he, h⟩ := minK_ok (P := C.P) (ts := c.argTypes) (ty := o.type) (vs := (c.args.map a.eval).toList) (by simpa using l1) (fun j hj => by simpa using r1 j hj) h
      have hrun : (do let d ← resolve a.eval c o.type; invoke d.target d.args : Sem Next).run C.P w = .ok (.value v) w := by
        simp only [cond_false] at hv
        have hv' : (Builtin.min_ c.argTypes o.type (c.args.map a.eval)).run C.P w = .ok v w := hv w
        simp [resolve, hc, invoke, builtin, hv']
      rw [hrun, Oper.upon_value]
      exact hn.put p0 r hko ⟨fun _ => Boxed.refl S fr, fun _ => rfl⟩ hd he h
    · rename_i hc
      obtain ⟨v, e, hv, he, h⟩ := minK_ok (P := C.P) (ts := c.argTypes) (ty := o.type) (vs := (c.args.map a.eval).toList) (by simpa using l1) (fun j hj => by simpa using r1 j hj) h
      have hrun : (do let d ← resolve a.eval c o.type; invoke d.target d.args : Sem Next).run C.P w = .ok (.value v) w := by
        simp only [cond_true] at hv
        have hv' : (Builtin.max_ c.argTypes o.type (c.args.map a.eval)).run C.P w = .ok v w := hv w
        simp [resolve, hc, invoke, builtin, hv']
      rw [hrun, Oper.upon_value]
      exact hn.put p0 r hko ⟨fun _ => Boxed.refl S fr, fun _ => rfl⟩ hd he h
    · rename_i hc
      split at h
      · rename_i t ts x y ht hx
        obtain ⟨v, vs, hv, hr, hl, hr2⟩ := args_cons r hx
        have hl1 : vs.length = 1 := by simpa using hl
        match vs, hl1 with
        | [u], _ =>
          have hru : RepE S u y := by simpa using hr2 0 (by simp)
          obtain ⟨w', S', hz, p1, r1, k1, h⟩ := deleteK_ok (ts := ts) (ty := o.type) r hko hr hru h
          have hrun : (do let d ← resolve a.eval c o.type; invoke d.target d.args : Sem Next).run C.P w = .ok (.value (.tuple #[])) w' := by
            have ht' : c.argTypes = (t :: ts).toArray := by rw [← ht]
            simp [resolve, hc, invoke, builtin, hv, ht', hz]
          rw [hrun, Oper.upon_value]
          exact hn.put p1 r1 k1 ⟨fun hm => absurd hm (by simp [mildOp, stillOp, isRead, isCall, isGrow, ho, hc]), fun hm => absurd hm (by simp [quietOp, stillOp, isRead, isLook, ho, hc])⟩ hd repE_undef h
      · exact h.elim
    · exact h.elim
  · exact h.elim
end Go.Weave
