/- Operations that neither look at the memory nor change it: the same value in every world. -/
import Derived.Test.YthebimbdijkiiaaWvQ
import Derived.Orders
namespace Go.Weave
variable {P : Program} {w : World}

theorem next_v {s : Sem Value} {v : Value} (h : ∀ w, s.run P w = .ok v w) : ∀ w, (do pure (.value (← s)) : Sem Next).run P w = .ok (.value v) w := fun w => by
  simp only [Sem.run_bind, h w, Result.andThen_ok, Sem.run_pure]

theorem lenS_ok {S : Sc} {t ty : TypeId} {ts : List TypeId} {vx : Value} {x : EV} {vs : List Value} {R : Type} {Q : R → Prop} {K : EV → Tr R} {H : Heap} (rx : RepE S vx x)
    (ht : (∃ e, P.underlying t = some (.slice e)) ∨ P.underlying t = some .string)
    (h : (lenK P t x H K).All Q) : ∃ v e, (∀ w, (Builtin.len_ (t :: ts).toArray ty (vx :: vs).toArray).run P w = .ok v w) ∧ RepE S v e ∧ (K e).All Q := by
  unfold lenK at h
  rcases ht with ⟨e, hu⟩ | hu
  · simp only [hu] at h
    split at h
    · rename_i full sz es hA
      have rA := RepE.toA rx hA
      refine ⟨_, _, fun w => ?_, repE_val (.int .i64 (es.length : Int)), h⟩
      rcases rA.slInv with ⟨_, rfl, rfl⟩ | ⟨b, off, cap, rfl, hat⟩
      · simp [Builtin.len_, run_underlying hu, goInt]
      · simp [Builtin.len_, run_underlying hu, goInt]
    · exact h.elim
  · simp only [hu] at h
    split at h
    · obtain ⟨b, rfl, rfl⟩ := Rep.strInv (show Rep S.c vx (.str _) from rx)
      refine ⟨_, _, fun w => ?_, repE_val (.int .i64 (b.data.toList.length : Int)), h⟩
      simp [Builtin.len_, run_underlying hu, goInt]
    · exact h.elim

theorem still_ok {C : Cfg} {A : Ann} {call : FuncId → List AVal → Heap → Tr Res} {base : Bs} {S : Sc} {fr : Fr} {a : Act} {o : Oper} {Q : Res → Prop} {K : Fr → Heap → Tr Res} (hs : stillOp C.P o = true)
    (r : Rel base S fr a w) (h : (opK C A call o fr S.H K).All Q) :
    ∃ v e, (∀ w, (execOp a.eval o).run C.P w = .ok (.value v) w) ∧ RepE S v e ∧ (K (fr.put o.dst e) S.H).All Q := by
  have hE := eval_opnd r
  unfold execOp
  unfold opK at h
  split at h
  · rename_i x ho
    simp only [ho]
    exact ⟨_, _, fun _ => rfl, hE x, h⟩
  · rename_i x ho
    simp only [ho]
    exact ⟨_, _, fun _ => rfl, hE x, h⟩
  · rename_i c x y ho
    simp only [ho]
    split at h
    · rename_i b hc
      have hcv : a.eval c = .bool b := by
        have := hE c; rw [hc] at this
        have : Rep S.c (a.eval c) (.bool b) := this
        generalize a.eval c = v at this
        cases this; rfl
      simp only [hcv]
      cases b <;> simp only [cond_true, cond_false] at h
      · exact ⟨_, _, fun _ => rfl, hE y, h⟩
      · exact ⟨_, _, fun _ => rfl, hE x, h⟩
    · exact h.elim
  · rename_i t ho
    simp [stillOp, ho] at hs
  · rename_i t x ho
    simp [stillOp, ho] at hs
  · rename_i t parts ho
    simp only [ho]
    have hp : RepP S (parts.map fun p => (p.1, a.eval p.2)).toList (parts.toList.map fun p => (p.1, fr.opnd p.2)) := by simpa using repP_map r parts.toList
    obtain ⟨v, e, hv, he, h⟩ := buildK_ok hp h
    exact ⟨v, e, next_v hv, he, h⟩
  · rename_i t len parts ho
    simp [stillOp, ho] at hs
  · rename_i t x ho
    simp [stillOp, ho] at hs
  · rename_i t x y ho
    simp [stillOp, ho] at hs
  · rename_i x ho
    simp only [ho]
    have hx := hE x
    split at h
    · rename_i d off hx2
      rw [hx2] at hx
      have hx' := hx
      obtain ⟨_, e1⟩ : _ ∧ a.eval x = _ := hx
      rw [e1]
      rw [e1] at hx'
      exact ⟨_, _, fun _ => rfl, hx', h⟩
    · rename_i v hx2
      rw [hx2] at hx
      have hx' : Rep S.c (a.eval x) v := hx
      cases ho2 : v.isObj <;> simp only [ho2, cond_true, cond_false] at h
      · obtain ⟨hf, h'⟩ := all_bif h
        clear h
        generalize a.eval x = u at hx'
        have hx2 := hx'
        cases hx' <;> simp [AVal.isFn, AVal.isElt] at hf
        · exact ⟨.pointer _, .one (.val _), fun _ => rfl, hx2, h'⟩
        · exact ⟨.func _ _ _, .one (.val _), fun _ => rfl, hx2, h'⟩
      · generalize a.eval x = u at hx'
        cases hx' <;> simp [AVal.isObj] at ho2
        rename_i id off hid
        exact ⟨.pointer (some ⟨S.c.ι id, off, none⟩), .one (.val (.obj id off)), fun _ => rfl, Rep.obj id off hid, h⟩
    · exact h.elim
  · rename_i op t x y ty ho
    simp only [ho]
    obtain ⟨u, hu, h⟩ := all_optK h
    obtain ⟨v, hv, h⟩ := all_optK h
    obtain ⟨z, e, hz, he, h⟩ := binK_ok (ox := x) (oy := y) (RepE.toA (hE x) hu) (RepE.toA (hE y) hv) h
    exact ⟨z, .one (.val e), next_v hz, he, h⟩
  · rename_i op t x ho
    simp only [ho]
    obtain ⟨u, hu, h⟩ := all_optK h
    obtain ⟨z, e, hz, he, h⟩ := unK_ok (P := C.P) (RepE.toA (hE x) hu) h
    exact ⟨z, .one (.val e), next_v hz, he, h⟩
  · rename_i t1 t2 x ho
    simp only [ho]
    obtain ⟨u, hu, h⟩ := all_optK h
    have rx := RepE.toA (hE x) hu
    generalize a.eval x = vx at rx
    unfold convK at h
    split at h
    · rename_i ds k n hs1 hd1
      cases rx
      exact ⟨_, .one (.val _), next_v fun w => by cases ds <;> simp [convert, run_underlying hs1, run_underlying hd1, Conv.intToInt], Rep.int _ _, h⟩
    · rename_i ds s hs1 hd1
      obtain ⟨b, rfl, rfl⟩ := Rep.strInv rx
      exact ⟨_, .one (.val _), next_v fun w => by cases ds <;> simp [convert, run_underlying hs1, run_underlying hd1], Rep.str b, h⟩
    · rename_i hs1 hd1
      simp [stillOp, ho, hs1, hd1] at hs
    · rename_i hs1 hd1
      simp [stillOp, ho, hd1] at hs
    · exact h.elim
  · rename_i f first cap ho
    simp only [ho]
    obtain ⟨us, hus, h⟩ := all_optK h
    obtain ⟨ws, hws, h⟩ := all_optK h
    obtain ⟨l1, r1⟩ := evs_ok r first
    obtain ⟨l2, r2⟩ := evs_ok r cap
    obtain ⟨l3, r3⟩ := optAll_toA hus l1 r1
    obtain ⟨l4, r4⟩ := optAll_toA hws l2 r2
    exact ⟨.func (.func f) (first.map a.eval) (cap.map a.eval), .one (.val (.fn f us ws)), fun _ => rfl, Rep.fn f _ _ us ws l3 l4 r3 r4, h⟩
  · rename_i t ho
    simp [stillOp, ho] at hs
  · rename_i t x lo hi mx ho
    simp only [ho]
    obtain ⟨v, e, hv, he, h⟩ := sliceK_ok (hE x) (repO_map r lo) (repO_map r hi) (repO_map r mx) h
    exact ⟨v, e, next_v hv, he, h⟩
  · rename_i s x f ho
    simp only [ho]
    obtain ⟨v, e, hv, he, h⟩ := fieldAddrK_ok (hE x) h
    exact ⟨v, e, next_v hv, he, h⟩
  · rename_i t x f ho
    simp only [ho]
    obtain ⟨v, e, hv, he, h⟩ := fieldK_ok (hE x) h
    exact ⟨v, e, next_v hv, he, h⟩
  · rename_i t x i ho
    simp only [ho]
    obtain ⟨v, e, hv, he, h⟩ := indexAddrK_ok (hE x) (hE i) h
    exact ⟨v, e, next_v hv, he, h⟩
  · rename_i t x i ho
    simp only [ho]
    obtain ⟨v, e, hv, he, h⟩ := indexK_ok (hE x) (hE i) h
    exact ⟨v, e, next_v hv, he, h⟩
  all_goals first | (rename_i ho; simp [stillOp, ho] at hs; done) | skip
  · rename_i x i ho
    simp only [ho]
    split at h
    · rename_i l hl
      obtain ⟨c, hc, h⟩ := all_optK h
      have rx := hE x
      rw [hl] at rx
      obtain ⟨xs, hxs, hsz, hr⟩ := rx
      obtain ⟨hlt, hgd⟩ := getElem?_getD (d := .one .unk) hc
      have := hr i hlt
      rw [hgd] at this
      exact ⟨_, .cv c, next_v fun w => by simp [Instr.extract, hxs, hsz, hlt], this, h⟩
    · exact h.elim
  · rename_i c ho
    simp only [ho]
    obtain ⟨l1, r1⟩ := evs_ok r c.args
    split at h
    · rename_i f hc
      simp [stillOp, ho, hc] at hs
    · rename_i hc
      split at h
      · rename_i t ts x l ht hx
        obtain ⟨v, vs, hv, hr, _⟩ := args_cons r hx
        have hu : (∃ e, C.P.underlying t = some (.slice e)) ∨ C.P.underlying t = some .string := by
          simp only [stillOp, ho, hc, ht] at hs
          split at hs
          · exact .inl ⟨_, ‹_›⟩
          · exact .inr ‹_›
          · simp at hs
        obtain ⟨u, e, hu, he, h⟩ := lenS_ok (ts := ts) (ty := o.type) (vs := vs) hr hu h
        refine ⟨u, e, fun w => ?_, he, h⟩
        have ht' : c.argTypes = (t :: ts).toArray := by rw [← ht]
        simp [resolve, hc, invoke, builtin, hv, ht', hu]
      · exact h.elim
    · rename_i hc
      simp [stillOp, ho, hc] at hs
    · rename_i hc
      obtain ⟨v, e, hv, he, h⟩ := minK_ok (P := C.P) (ts := c.argTypes) (ty := o.type) (vs := (c.args.map a.eval).toList) (by simpa using l1) (fun j hj => by simpa using r1 j hj) h
      refine ⟨v, e, fun w => ?_, he, h⟩
      have hv' : (Builtin.min_ c.argTypes o.type (c.args.map a.eval)).run C.P w = .ok v w := hv w
      simp [resolve, hc, invoke, builtin, hv']
    · rename_i hc
      obtain ⟨v, e, hv, he, h⟩ := minK_ok (P := C.P) (ts := c.argTypes) (ty := o.type) (vs := (c.args.map a.eval).toList) (by simpa using l1) (fun j hj => by simpa using r1 j hj) h
      refine ⟨v, e, fun w => ?_, he, h⟩
      have hv' : (Builtin.max_ c.argTypes o.type (c.args.map a.eval)).run C.P w = .ok v w := hv w
      simp [resolve, hc, invoke, builtin, hv']
    · rename_i hc
      simp [stillOp, ho, hc] at hs
    · exact h.elim
  all_goals exact h.elim
end Go.Weave
