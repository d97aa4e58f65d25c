/- Operations that neither look at the memory nor change it: the same value in every world. -/
import Derived.Test.YtjaadkgohjbadaaWvQ
import Derived.Orders
namespace Go.Weave
variable {P : Program} {w : World}

theorem next_v {s : Sem Value} {v : Value} (h : ∀ w, s.run P w = .ok v w) : ∀ w, (do pure (.value (← s)) : Sem Next).run P w = .ok (.value v) w := fun w => by
  simp only [Sem.run_bind, h w, Result.andThen_ok, Sem.run_pure]

theorem lenS_ok {S : Sc} {t ty : TypeId} {ts : List TypeId} {vx : Value} {x : EV} {vs : List Value} {R : Type} {Q : R → Prop} {K : EV → Tr R} {H : Heap} (rx : RepE S vx x)
    (ht : (∃ e, P.underlying t = some (.slice e)) ∨ P.underlying t = some .string)
    (h : (lenK P t x H K).All Q) : ∃ v e, (∀ w, (Builtin.len_ (t :: ts).toArray ty (vx :: vs).toArray).run P w = .ok v w) ∧ RepE S v e ∧ (K e).All Q := by
  unfold lenK at h
  rcases ht with ⟨e, hu⟩ | hu
  · simp only [hu] at h
    split at h
    · rename_i full sz es hA
      have rA := RepE.toA rx hA
      refine ⟨_, _, fun w => ?_, repE_val (.int .i64 (es.length : Int)), h⟩
      rcases rA.slInv with ⟨_, rfl, rfl⟩ | ⟨b, off, cap, rfl, hat⟩
      · simp [Builtin.len_, run_underlying hu, goInt]
      · simp [Builtin.len_, run_underlying hu, goInt]
    · exact h.elim
  · simp only [hu] at h
    split at h
    · obtain ⟨b, rfl, rfl⟩ := Rep.strInv (show Rep S.c vx (.str _) from rx)
      refine ⟨_, _, fun w => ?_, repE_val (.int .i64 (b.data.toList.length : Int)), h⟩
      simp [Builtin.len_, run_underlying hu, goInt]
    · exact h.elim

theorem still_ok {C : Cfg} {c0 : Ctx} (hG : GlobOK C c0) {A : Ann} {call : FuncId → List AVal → Heap → Tr Res} {base : Bs} {S : Sc} {fr : Fr} {a : Act} {o : Oper} {Q : Res → Prop} {K : Fr → Heap → Tr Res} (hle : c0.le S.c) (hs : stillOp C.P o = true)
    (r : Rel base S fr a w) (h : (opK C A call o fr S.H K).All Q) :
    ∃ v e, (∀ w, (execOp a.eval o).run C.P w = .ok (.value v) w) ∧ RepE S v e ∧ (K (fr.put o.dst e) S.H).All Q := by
  have hE := eval_opnd r
  unfold execOp
  unfold opK at h
  split at h
  · rename_i x ho
    simp only [ho]
    exact ⟨_, _, fun _ => rfl, hE x, h⟩
  · rename_i x ho
    simp only [ho]
    exact ⟨_, _, fun _ => rfl, hE x, h⟩
  · rename_i c x y ho
    simp only [ho]
    split at h
    · rename_i b hc
      have hcv : a.eval c = .bool b := by
        have := hE c; rw [hc] at this
        have : Rep S.c (a.eval c) (.bool b) := this
        generalize a.eval c = v at this
        cases this; rfl
      simp only [hcv]
      cases b <;> simp only [cond_true, cond_false] at h
      · exact ⟨_, _, fun _ => rfl, hE y, h⟩
      · exact ⟨_, _, fun _ => rfl, hE x, h⟩
    · exact h.elim
  · rename_i t ho
    simp [stillOp, ho] at hs
  · rename_i t x ho
    simp [stillOp, ho] at hs
  · rename_i t parts ho
    simp only [ho]
    have hp : RepP S (parts.map fun p => (p.1, a.eval p.2)).toList (parts.toList.map fun p => (p.1, fr.opnd p.2)) := by simpa using repP_map r parts.toList
    obtain ⟨v, e, hv, he, h⟩ := buildK_ok hp (buildK'_all h)
    exact ⟨v, e, next_v hv, he, h⟩
  · rename_i t len parts ho
    simp [stillOp, ho] at hs
  · rename_i t x ho
    simp [stillOp, ho] at hs
  · rename_i t x y ho
    simp [stillOp, ho] at hs
  · rename_i x ho
    simp only [ho]
    have hx := hE x
    replace h := nodeK_all h
    unfold nilCheckK at h
    split at h
    · rename_i d off hx2
      rw [hx2] at hx
      have hx' := hx
      obtain ⟨_, e1⟩ : _ ∧ a.eval x = _ := hx
      rw [e1]
      rw [e1] at hx'
      exact ⟨_, _, fun _ => rfl, hx', h⟩
    · rename_i v hx2
      rw [hx2] at hx
      have hx' : Rep S.c (a.eval x) v := hx
      obtain ⟨hf, h'⟩ := all_bif h
      clear h
      generalize a.eval x = u at hx'
      have hx2 := hx'
      cases hx' <;> simp [AVal.isFn, AVal.isAddr] at hf
      · exact ⟨.pointer _, .one (.val _), fun _ => rfl, hx2, h'⟩
      · exact ⟨.pointer _, .one (.val _), fun _ => rfl, hx2, h'⟩
      · exact ⟨.func _ _ _, .one (.val _), fun _ => rfl, hx2, h'⟩
    · exact h.elim
  · rename_i op t x y ty ho
    simp only [ho]
    obtain ⟨u, hu, h⟩ := all_optK h
    obtain ⟨v, hv, h⟩ := all_optK h
    obtain ⟨z, e, hz, he, h⟩ := binK_ok (ox := x) (oy := y) (RepE.toA (hE x) hu) (RepE.toA (hE y) hv) (binK'_all h)
    exact ⟨z, .one (.val e), next_v hz, he, h⟩
  · rename_i op t x ho
    simp only [ho]
    obtain ⟨u, hu, h⟩ := all_optK h
    obtain ⟨z, e, hz, he, h⟩ := unK_ok (P := C.P) (RepE.toA (hE x) hu) h
    exact ⟨z, .one (.val e), next_v hz, he, h⟩
  · rename_i t1 t2 x ho
    simp only [ho]
    obtain ⟨u, hu, h⟩ := all_optK h
    have rx := RepE.toA (hE x) hu
    generalize a.eval x = vx at rx
    unfold convK at h
    split at h
    · rename_i ds k n hs1 hd1
      cases rx
      exact ⟨_, .one (.val _), next_v fun w => by cases ds <;> simp [convert, run_underlying hs1, run_underlying hd1, Conv.intToInt], Rep.int _ _, h⟩
    · rename_i ds s hs1 hd1
      obtain ⟨b, rfl, rfl⟩ := Rep.strInv rx
      exact ⟨_, .one (.val _), next_v fun w => by cases ds <;> simp [convert, run_underlying hs1, run_underlying hd1], Rep.str b, h⟩
    · rename_i hs1 hd1
      simp [stillOp, ho, hs1, hd1] at hs
    · rename_i hs1 hd1
      simp [stillOp, ho, hd1] at hs
    · exact h.elim
  · rename_i f first cap ho
    simp only [ho]
    obtain ⟨us, hus, h⟩ := all_optK h
    obtain ⟨ws, hws, h⟩ := all_optK h
    obtain ⟨l1, r1⟩ := evs_ok r first
    obtain ⟨l2, r2⟩ := evs_ok r cap
    obtain ⟨l3, r3⟩ := optAll_toA hus l1 r1
    obtain ⟨l4, r4⟩ := optAll_toA hws l2 r2
    exact ⟨.func (.func f) (first.map a.eval) (cap.map a.eval), .one (.val (.fn f us ws)), fun _ => rfl, Rep.fn f _ _ us ws l3 l4 r3 r4, h⟩
  · rename_i t ho
    simp [stillOp, ho] at hs
  · rename_i t x lo hi mx ho
    simp only [ho]
    obtain ⟨v, e, hv, he, h⟩ := sliceK_ok (hE x) (repO_map r lo) (repO_map r hi) (repO_map r mx) h
    exact ⟨v, e, next_v hv, he, h⟩
  · rename_i s x f ho
    simp only [ho]
    obtain ⟨v, e, hv, he, h⟩ := fieldAddrK_ok (hE x) (fieldAddrK'_all h)
    exact ⟨v, e, next_v hv, he, h⟩
  · rename_i t x f ho
    simp only [ho]
    obtain ⟨v, e, hv, he, h⟩ := fieldK_ok (hE x) h
    exact ⟨v, e, next_v hv, he, h⟩
  · rename_i t x i ho
    simp only [ho]
    obtain ⟨v, e, hv, he, h⟩ := indexAddrK_ok (globE hG hle r x) (hE i) h
    exact ⟨v, e, next_v hv, he, h⟩
  · rename_i t x i ho
    simp only [ho]
    obtain ⟨v, e, hv, he, h⟩ := indexK_ok (hE x) (hE i) h
    exact ⟨v, e, next_v hv, he, h⟩
  all_goals first | (rename_i ho; simp [stillOp, ho] at hs; done) | skip
  · rename_i x i ho
    simp only [ho]
    split at h
    · rename_i l hl
      obtain ⟨c, hc, h⟩ := all_optK h
      have rx := hE x
      rw [hl] at rx
      obtain ⟨xs, hxs, hsz, hr⟩ := rx
      obtain ⟨hlt, hgd⟩ := getElem?_getD (d := .one .unk) hc
      have := hr i hlt
      rw [hgd] at this
      exact ⟨_, .cv c, next_v fun w => by simp [Instr.extract, hxs, hsz, hlt], this, h⟩
    · exact h.elim
  · rename_i c ho
    simp only [ho]
    obtain ⟨l1, r1⟩ := evs_ok r c.args
    split at h
    · rename_i f hc
      simp [stillOp, ho, hc] at hs
    · rename_i hc
      split at h
      · rename_i t ts x l ht hx
        obtain ⟨v, vs, hv, hr, _⟩ := args_cons r hx
        have hu : (∃ e, C.P.underlying t = some (.slice e)) ∨ C.P.underlying t = some .string := by
          simp only [stillOp, ho, hc, ht] at hs
          split at hs
          · exact .inl ⟨_, ‹_›⟩
          · exact .inr ‹_›
          · simp at hs
        obtain ⟨u, e, hu, he, h⟩ := lenS_ok (ts := ts) (ty := o.type) (vs := vs) hr hu (lenK'_all h)
        refine ⟨u, e, fun w => ?_, he, h⟩
        have ht' : c.argTypes = (t :: ts).toArray := by rw [← ht]
        simp [resolve, hc, invoke, builtin, hv, ht', hu]
      · exact h.elim
    · rename_i hc
      simp [stillOp, ho, hc] at hs
    · rename_i hc
      obtain ⟨v, e, hv, he, h⟩ := minK_ok (P := C.P) (ts := c.argTypes) (ty := o.type) (vs := (c.args.map a.eval).toList) (by simpa using l1) (fun j hj => by simpa using r1 j hj) h
      refine ⟨v, e, fun w => ?_, he, h⟩
      have hv' : (Builtin.min_ c.argTypes o.type (c.args.map a.eval)).run C.P w = .ok v w := hv w
      simp [resolve, hc, invoke, builtin, hv']
    · rename_i hc
      obtain ⟨v, e, hv, he, h⟩ := minK_ok (P := C.P) (ts := c.argTypes) (ty := o.type) (vs := (c.args.map a.eval).toList) (by simpa using l1) (fun j hj => by simpa using r1 j hj) h
      refine ⟨v, e, fun w => ?_, he, h⟩
      have hv' : (Builtin.max_ c.argTypes o.type (c.args.map a.eval)).run C.P w = .ok v w := hv w
      simp [resolve, hc, invoke, builtin, hv']
    · rename_i hc
      simp [stillOp, ho, hc] at hs
    · exact h.elim
  all_goals exact h.elim

/-- A world in which what is frozen, and the local variables, are as they were. -/
def Kept (S : Sc) (fr : Fr) (w' : World) : Prop := ∃ c' : Ctx, c'.w = w' ∧ S.c.le c' ∧ ∀ d b, look d fr.boxes = some b → w'.heap[S.lam d]? = S.c.w.heap[S.lam d]?

theorem readLoad_ok {R : Type} {Q : R → Prop} {base : Bs} {S : Sc} {fr : Fr} {a : Act} {t : TypeId} {va : Value} {x : EV} {K : EV → Tr R} (r : Rel base S fr a w) (rx : RepE S va x) (hn : notObj x = true)
    (h : (loadK P t x fr S.H K).All Q) : ∃ v e, (∀ w', Kept S fr w' → (Instr.loadAt t va).run P w' = .ok v w') ∧ RepE S v e ∧ (K e).All Q := by
  unfold loadK at h
  split at h
  · rename_i d off
    obtain ⟨_, rfl⟩ : _ ∧ va = _ := rx
    split at h
    · rename_i cs hb
      obtain ⟨xs, el, hg, hr⟩ := r.box d _ hb
      have hgk : ∀ w', Kept S fr w' → w'.heap[S.lam d]? = some (.cells xs el (0, 0)) := fun w' ⟨_, _, _, hk⟩ => (hk d _ hb).trans hg
      cases ha : aggT P t <;> simp only [ha, cond_true, cond_false] at h
      · obtain ⟨v, hv, h⟩ := all_optK h
        obtain ⟨hlt, hgd⟩ := getElem?_getD (d := .undef) hv
        obtain ⟨du, hu⟩ := und_of_coerce h
        have hrr := (hr.2 off hlt).1
        rw [hgd] at hrr
        obtain ⟨a', ra, _, _, h⟩ := coerce_ok hrr h
        refine ⟨_, _, fun w' hk => loadAt_row hu (hgk w' hk) (by simp [ha]; rw [hr.1]; omega), ?_, h⟩
        simpa [ha] using repE_val ra
      · obtain ⟨hle, h⟩ := all_bif h
        have hle' : off + szOf P t ≤ cs.length := by simpa using hle
        obtain ⟨du, hu⟩ := aggT_und ha
        refine ⟨_, _, fun w' hk => loadAt_row hu (hgk w' hk) (by simp [ha]; rw [hr.1]; omega), ?_, h⟩
        simp only [ha, cond_true]
        exact repE_val (sub_agg hr hle')
    · rename_i cs hb
      obtain ⟨xs, el, hg, hr⟩ := r.box d _ hb
      have hgk : ∀ w', Kept S fr w' → w'.heap[S.lam d]? = some (.cells xs el (0, 0)) := fun w' ⟨_, _, _, hk⟩ => (hk d _ hb).trans hg
      cases ha : aggT P t <;> simp only [ha, cond_true, cond_false] at h
      · obtain ⟨hu, h⟩ := all_bif h
        obtain ⟨du, hu⟩ := Option.isSome_iff_exists.1 hu
        obtain ⟨s, hv, h⟩ := all_optK h
        obtain ⟨hlt, hgd⟩ := getElem?_getD (d := .unk) hv
        have hrr := (hr.2 off hlt).1
        rw [hgd] at hrr
        obtain ⟨s', rs, h⟩ := coerceS_ok hrr h
        refine ⟨_, _, fun w' hk => loadAt_row hu (hgk w' hk) (by simp [ha]; rw [hr.1]; omega), ?_, h⟩
        simpa [ha] using (show RepE S _ (.one s') from rs)
      · obtain ⟨hle, h⟩ := all_bif h
        have hle' : off + szOf P t ≤ cs.length := by simpa using hle
        obtain ⟨du, hu⟩ := aggT_und ha
        refine ⟨_, _, fun w' hk => loadAt_row hu (hgk w' hk) (by simp [ha]; rw [hr.1]; omega), ?_, h⟩
        simp only [ha, cond_true]
        exact ⟨_, rfl, sub_aggS hr hle'⟩
    · exact h.elim
    · exact h.elim
  · simp [notObj] at hn
  · have rx' : Rep S.c va _ := rx
    cases hu : P.underlying t with
    | none =>
      exfalso
      rename_i e ag sz off
      unfold eltLoad at h
      have ha : aggT P t = false := by simp [aggT, hu]
      simp only [ha] at h
      cases h1 : (sz == szOf P t && (ag == false) && off == 0) <;> simp only [h1, cond_true, cond_false] at h
      · cases h2 : ag <;> simp only [h2, cond_true, cond_false] at h
        · exact h.elim
        · obtain ⟨_, _, h⟩ := all_optK h
          simp [coerce, hu, Tr.All] at h
      · simp [coerce, hu, Tr.All] at h
    | some d =>
      obtain ⟨v', a', h1, h2, h⟩ := eltLoad_ok hu rx' h
      obtain ⟨a'', h3, _, _, h⟩ := coerce_ok h2 h
      exact ⟨v', _, fun w' ⟨c', hw, hle, _⟩ => by rw [← hw]; exact h1 c' hle, repE_val h3, h⟩
  · exact h.elim

theorem readText_ok {R : Type} {Q : R → Prop} {S : Sc} {src dst e : TypeId} {vx : Value} {x : AVal} {K : AVal → Tr R} (hs : P.underlying src = some (.slice e)) (hd : P.underlying dst = some .string) (rx : Rep S.c vx x)
    (h : (convK P src dst x K).All Q) : ∃ v a', (∀ c', S.c.le c' → (convert src dst vx).run P c'.w = .ok v c'.w) ∧ Rep S.c v a' ∧ (K a').All Q := by
  unfold convK at h
  split at h
  · rename_i hs1 hd1; rw [hd] at hd1; cases hd1
  · rename_i ds s hs1 hd1
    obtain ⟨b, rfl, rfl⟩ := Rep.strInv rx
    exact ⟨_, _, fun c' _ => by cases ds <;> simp [convert, run_underlying hs1, run_underlying hd], .str b, h⟩
  · rename_i e' full sz es hs1 hd1
    rw [hs] at hs1; cases hs1
    split at h
    · rename_i he
      obtain ⟨s, hts, h⟩ := all_optK h
      obtain ⟨hl, hj⟩ := toBytes_ok hts
      rcases rx.slInv with ⟨x0, rfl, h0⟩ | ⟨b, off, cap, rfl, hat⟩
      · subst h0
        have : s = [] := by rw [← List.length_eq_zero_iff]; simpa using hl.symm
        subst this
        refine ⟨.string .empty, .str [], fun c' _ => ?_, ?_, h⟩
        · cases x0 with
          | none => simp [convert, run_underlying hs, run_underlying hd, run_underlying he, Conv.bytesToString]
          | some ad =>
            have := run_bytesToString (P := P) c'.w ad 0 0 [] (by rfl)
            rw [run_convert_bytes_string (P := P) c'.w src dst e _ _ _ hs he hd]; exact this
        · exact .str ByteArray.empty
      · obtain ⟨_, _, lim, f, hk, hlm, hok, hc, hr⟩ := hat
        have hcnt : 0 < es.length → cnt sz = 1 := fun hpos => by
          have h1 := hok (es.getD 0 .undef) (by simp [hpos])
          obtain ⟨n, hn, _⟩ := hj 0 (by omega)
          rw [hn] at h1
          have := h1.2.1
          simpa [AVal.cells] using this.symm
        let ns : List Int := es.map AVal.toInt
        have hns : ∀ j, j < es.length → es.getD j .undef = .int .u8 (ns.getD j 0) := fun j hjj => by
          obtain ⟨n, hn, _⟩ := hj j (by omega)
          have : ns.getD j 0 = n := by
            have e1 : ns.getD j 0 = (es.getD j .undef).toInt := by simp [ns, hjj]
            rw [e1, hn]; rfl
          rw [this]; exact hn
        have hload : ∀ c', S.c.le c' → (loadCells ⟨b, off, none⟩ es.length).run P c'.w = .ok (ns.map (Value.int .u8)).toArray c'.w := fun c' hle => by
          obtain ⟨l', _, _, hsame⟩ := hle.κ b lim hk
          have := run_loadCells (P := P) c'.w ⟨b, off, none⟩ es.length (fun j => .int .u8 (ns.getD j 0)) (fun j hjj => by
            rw [add_at]
            have hc1 := hcnt (by omega)
            rw [hc1] at hc hr hlm
            have h1 := hc j 0 hjj (by omega)
            have h2 := hr j 0 hjj (by omega)
            rw [hns j hjj] at h2
            simp only [AVal.cells, List.getD_cons_zero] at h2
            generalize f j 0 = v at h1 h2
            cases h2
            rw [hsame _ (by omega), ← h1]
            congr 2
            omega)
          rw [this]
          congr 2
          apply List.ext_getElem?
          intro j
          by_cases hjj : j < es.length
          · simp [hjj, ns]
          · simp [hjj, ns]
        refine ⟨_, .str s, fun c' hle => by
          rw [run_convert_bytes_string (P := P) c'.w src dst e _ _ _ hs he hd]; exact run_bytesToString (P := P) c'.w ⟨b, off, none⟩ es.length cap ns (hload c' hle), ?_, h⟩
        have e1 : (ns.foldl (fun r n => r.push (UInt8.ofNat n.toNat)) ByteArray.empty).data.toList = s := by
          rw [push_bytes]
          have h0 : ByteArray.empty.data.toList = [] := rfl
          rw [h0, List.nil_append]
          apply List.ext_getElem?
          intro j
          by_cases hjj : j < s.length
          · obtain ⟨n, hn, hs'⟩ := hj j hjj
            have hje : j < es.length := by omega
            have h4 : j < ns.length := by simpa [ns] using hje
            have e2 : ns[j] = n := by
              have h3 := hns j hje
              rw [hn] at h3
              simp only [AVal.int.injEq, true_and] at h3
              have : ns.getD j 0 = ns[j] := by simp [h4]
              rw [← this, ← h3]
            have e3 : s[j] = UInt8.ofNat n.toNat := by
              have : s.getD j 0 = s[j] := by simp [hjj]
              rw [← this, hs']
            rw [List.getElem?_map, List.getElem?_eq_getElem h4, List.getElem?_eq_getElem hjj, e2, e3]
            rfl
          · have h4 : ¬ j < ns.length := by simpa [ns] using (by omega : ¬ j < es.length)
            rw [List.getElem?_map, List.getElem?_eq_none (by omega), List.getElem?_eq_none (by omega)]
            rfl
        rw [← e1]
        exact .str _
    · exact h.elim
  · rename_i hs1 hd1; rw [hd] at hd1; cases hd1
  · exact h.elim

/-- A look at what no call turns: the same value as long as that stands. -/
theorem read_ok {C : Cfg} {A : Ann} {call : FuncId → List AVal → Heap → Tr Res} {base : Bs} {S : Sc} {fr : Fr} {a : Act} {o : Oper} {Q : Res → Prop} {K : Fr → Heap → Tr Res} (hs : readNow C.P fr o = true)
    (r : Rel base S fr a w) (h : (opK C A call o fr S.H K).All Q) :
    ∃ v e, (∀ w', Kept S fr w' → (execOp a.eval o).run C.P w' = .ok (.value v) w') ∧ RepE S v e ∧ (K (fr.put o.dst e) S.H).All Q := by
  have hE := eval_opnd r
  cases ho : o.op
  case load t x =>
    unfold opK at h
    simp only [ho] at h
    unfold execOp
    simp only [ho]
    simp only [readNow, ho] at hs
    obtain ⟨v, e, hv, he, h⟩ := readLoad_ok r (hE x) hs (loadK'_all h)
    exact ⟨v, e, fun w' hk => by simp only [Sem.run_bind, hv w' hk, Result.andThen_ok, Sem.run_pure], he, h⟩
  case convert t1 t2 x =>
    unfold opK at h
    simp only [ho] at h
    unfold execOp
    simp only [ho]
    simp only [readNow, ho, isRead] at hs
    split at hs
    · rename_i e hs1 hd1
      obtain ⟨u, hu, h⟩ := all_optK h
      obtain ⟨v, a', hv, he, h⟩ := readText_ok hs1 hd1 (RepE.toA (hE x) hu) h
      exact ⟨v, .one (.val a'), fun w' ⟨c', hw, hle, _⟩ => by rw [← hw]; simp only [Sem.run_bind, hv c' hle, Result.andThen_ok, Sem.run_pure], he, h⟩
    · simp at hs
  all_goals simp [readNow, isRead, ho] at hs

/-- A look at managed objects, in a world that stays as it is. -/
theorem look_ok {C : Cfg} {A : Ann} {call : FuncId → List AVal → Heap → Tr Res} {base : Bs} {S : Sc} {fr : Fr} {a : Act} {o : Oper} {Q : Res → Prop} {K : Fr → Heap → Tr Res} (hs : isLook o = true)
    (r : Rel base S fr a w) (hko : KeysOk C.P S.H) (h : (opK C A call o fr S.H K).All Q) :
    ∃ v e, (execOp a.eval o).run C.P w = .ok (.value v) w ∧ RepE S v e ∧ (K (fr.put o.dst e) S.H).All Q := by
  have hE := eval_opnd r
  cases ho : o.op
  case load t x =>
    unfold opK at h
    simp only [ho] at h
    unfold execOp
    simp only [ho]
    obtain ⟨v, e, hv, he, h⟩ := loadK_ok r (hE x) (loadK'_all h)
    exact ⟨v, e, by simp only [Sem.run_bind, hv, Result.andThen_ok, Sem.run_pure], he, h⟩
  case lookup t x k ok =>
    unfold opK at h
    simp only [ho] at h
    unfold execOp
    simp only [ho]
    obtain ⟨v, e, hv, he, h⟩ := lookupK_ok r hko (hE x) (hE k) (lookupK'_all h)
    exact ⟨v, e, by simp only [Sem.run_bind, hv, Result.andThen_ok, Sem.run_pure], he, h⟩
  all_goals simp [isLook, ho] at hs
end Go.Weave
