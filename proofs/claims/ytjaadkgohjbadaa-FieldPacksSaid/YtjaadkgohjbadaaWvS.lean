/- Regions and code. -/
import Derived.Test.YtjaadkgohjbadaaWvQy
import Derived.Test.YtjaadkgohjbadaaWvX
import Derived.Test.YtjaadkgohjbadaaWvXa
import Derived.LoopN
import Derived.Scope
namespace Go.Weave
variable {P : Program} {w : World} {R : Type}

/-- A temporary that is written is one. -/
def opsDst (N : Nat) (ops : Array Oper) : Bool := ops.toList.all fun o => match o.dst with | some d => decide (d < N) | none => true
def codeDst (N : Nat) : Code → Bool
  | .region _ ops _ => opsDst N ops
  | .seq a b => codeDst N a && codeDst N b
  | .cond _ a b => codeDst N a && codeDst N b
  | .block _ c => codeDst N c
  | .loop c => codeDst N c
  | .scope c => codeDst N c
  | _ => true

theorem opsDst_spec {N : Nat} {ops : Array Oper} (h : opsDst N ops = true) : ∀ o ∈ ops.toList, ∀ d, o.dst = some d → d < N := fun o ho d hd => by
  have := List.all_eq_true.1 h o ho
  simpa [hd] using this

theorem findLabel_dst {N l : Nat} : ∀ {c rest : Code}, codeDst N c = true → findLabel c l = some rest → codeDst N rest = true
  | .seq a b, rest, h, hf => by
    simp only [codeDst, Bool.and_eq_true] at h
    simp only [findLabel] at hf
    split at hf
    · rename_i r hr
      simp at hf; subst hf
      simp [codeDst, findLabel_dst h.1 hr, h.2]
    · exact findLabel_dst h.2 hf
  | .label l', rest, h, hf => by
    simp only [findLabel] at hf
    split at hf <;> simp at hf
    subst hf; rfl
  | .skip, _, _, hf | .region _ _ _, _, _, hf | .cond _ _ _, _, _, hf | .block _ _, _, _, hf | .loop _, _, _, hf | .rangeFunc _ _ _ _, _, _, hf | .exit _, _, _, hf
  | .scope _, _, _, hf | .goto _, _, _, hf | .ret, _, _, hf | .refuse _, _, _, hf => by simp [findLabel] at hf

/-- Where a run stands. -/
structure At (C : Cfg) (base : Bs) (c0 : Ctx) (N : Nat) (S : Sc) (fr : Fr) (a : Act) (w : World) : Prop where
  pres : Pres base c0 S.β S.c S.β
  rel : Rel base S fr a w
  keys : KeysOk C.P S.H
  size : N ≤ a.tmps.size

theorem At.then {C : Cfg} {base : Bs} {c0 : Ctx} {N : Nat} {S S' : Sc} {fr fr' : Fr} {a a' : Act} {w w' : World} (h : At C base c0 N S fr a w) (p : Pres base S.c S.β S'.c S'.β) (r : Rel base S' fr' a' w')
    (k : KeysOk C.P S'.H) (hs : a'.tmps.size = a.tmps.size) : At C base c0 N S' fr' a' w' :=
  ⟨⟨(h.pres.trans p).le, (h.pres.trans p).size, (h.pres.trans p).same, (h.pres.trans p).io⟩, r, k, by rw [hs]; exact h.size⟩

theorem At.keep {C : Cfg} {base : Bs} {c0 : Ctx} {N : Nat} {S : Sc} {fr : Fr} {a : Act} {w : World} (h : At C base c0 N S fr a w) (ks : List Keep) : ∃ S', At C base c0 N S' (keepFr ks fr) a w ∧ S'.H = S.H := by
  obtain ⟨S', e1, e2, r⟩ := h.rel.keepFr ks
  exact ⟨S', ⟨⟨by rw [e1]; exact h.pres.le, by rw [e1]; exact h.pres.size, by rw [e1]; exact h.pres.same, by rw [e1]; exact h.pres.io⟩, r, by rw [e2]; exact h.keys, h.size⟩, e2⟩

theorem At.keepAt {C : Cfg} {base : Bs} {c0 : Ctx} {N : Nat} {S : Sc} {fr : Fr} {a : Act} {w : World} (h : At C base c0 N S fr a w) (A : Ann) (c : Code) : ∃ S', At C base c0 N S' (keepAt A c fr) a w ∧ S'.H = S.H := by
  unfold Weave.keepAt
  split
  · split
    · exact h.keep _
    · exact ⟨S, h, rfl⟩
  · exact ⟨S, h, rfl⟩

/-- What stands in a slot, said again. -/
theorem Rel.reset {base : Bs} {S : Sc} {fr : Fr} {a : Act} (r : Rel base S fr a w) {s : Nat} {e : EV} (h : RepE S (a.tmps.getD s undef) e) : Rel base S (fr.set s e) a w := by
    refine { r with env := fun t e' he => ?_ }
    rcases look_set he with ⟨rfl, rfl⟩ | ⟨_, he⟩
    · exact h
    · exact r.env t e' he

theorem repE_bool {S : Sc} {v : Value} {b : Bool} (h : RepE S v (.cv (.one (.val (.bool b))))) : v = .bool b := by
  have : Rep S.c v (.bool b) := h
  cases this; rfl
theorem repE_nil {S : Sc} {v : Value} (h : RepE S v (.tup [])) : v = undef := by
  obtain ⟨xs, rfl, hl, _⟩ : ∃ xs : Array Value, v = .tuple xs ∧ xs.size = ([] : List CV).length ∧ _ := h
  have : xs = #[] := Array.eq_empty_of_size_eq_zero (by simpa using hl)
  subst this; rfl

section
variable {C : Cfg} {A : Ann} {call : FuncId → List AVal → Heap → Tr Res} {base : Bs} {c0 : Ctx} {N : Nat} {Q : Res → Prop}

/-- One operation, under its guard. -/
theorem oneK_ok (hC : CallOK C call c0) {ops : Array Oper} {i : Nat} {o : Oper} (ho : ops[i]? = some o) (hd : ∀ d, o.dst = some d → d < N) {S : Sc} {fr : Fr} {a : Act} (h : At C base c0 N S fr a w)
    {K : Fr → Heap → Tr Res} (hq : (oneK C A call ops o fr S.H K).All Q) {next : Act → World → Prop} {Qx : Exit → Act → World → Prop}
    (hn : ∀ S' fr' a' w', At C base c0 N S' fr' a' w' → (mildOp C.P o = true → S.c.le S'.c ∧ Boxed S S' fr fr') → (quietOp C.P o = true → S'.c.w = S.c.w) → (K fr' S'.H).All Q → next a' w') : wpOp C.P ops Qx i next a w := by
  have hd' : ∀ d, o.dst = some d → d < a.tmps.size := fun d h' => Nat.lt_of_lt_of_le (hd d h') h.size
  have hgoes : ∀ {fr' : Fr}, fr'.boxes = fr.boxes → At C base c0 N S fr' a w → Goes C base S fr' (mildOp C.P o) (quietOp C.P o) a Q K next := fun {fr'} hf h' S' fr'' a' w' p r k hs hb hk => hn S' fr'' a' w' (h'.then p r k hs) (fun hm => ⟨p.le, fun d b hd => hb.1 hm d b (by rw [hf]; exact hd)⟩) hb.2 hk
  have hskip : ∀ {fr' : Fr}, At C base c0 N S fr' a w → fr'.boxes = fr.boxes → (K (fr'.put o.dst (.tup [])) S.H).All Q → next (a.put o.dst undef) w := fun {fr'} h' hf hk =>
    hn S _ _ _ (h'.then (Pres.refl _ _ _ _) (h'.rel.put hd' repE_undef) h'.keys put_size) (fun _ => ⟨S.c.le_refl, fun d b hb => by rw [put_boxes, hf]; exact Boxed.refl S fr d b hb⟩) (fun _ => rfl) hk
  unfold wpOp
  simp only [ho]
  unfold oneK at hq
  split at hq
  · rename_i hg
    have hw : Region.wanted o (yielded ops a.tmps) = true := by simp [Region.wanted, hg]
    simp only [hw, if_true]
    exact .inl (opK_ok hC h.pres.le h.rel h.keys hd' hq (hgoes rfl h))
  · rename_i j want hg
    split at hq
    · exact hq.elim
    · rename_i s hs
      have hv := eval_get h.rel s
      split at hq
      · rename_i b hb
        rw [hb] at hv
        have hv' := repE_bool hv
        have hlt : s < a.tmps.size := by
          apply Nat.lt_of_not_le; intro hle
          rw [Array.getD_eq_getD_getElem?, Array.getElem?_eq_none hle] at hv'
          simp [undef] at hv'
        have hy : yielded ops a.tmps j = some b := by
          have : a.tmps[s]? = some (.bool b) := by
            rw [Array.getElem?_eq_getElem hlt]
            simp [hlt] at hv'; rw [hv']
          simp [yielded, hs, this]
        have hset : At C base c0 N S (fr.set s (.one (.val (.bool b)))) a w := { h with rel := h.rel.reset (by rw [hv']; exact Rep.bool b) }
        cases b <;> simp only [cond_true, cond_false] at hq
        · cases want <;> simp only [cond_true, cond_false] at hq
          · have hw : Region.wanted o (yielded ops a.tmps) = true := by simp [Region.wanted, hg, hy]
            simp only [hw, if_true]
            exact .inl (opK_ok hC h.pres.le hset.rel h.keys hd' hq (hgoes rfl hset))
          · have hw : Region.wanted o (yielded ops a.tmps) = false := by simp [Region.wanted, hg, hy]
            simp only [hw, Bool.false_eq_true, if_false]
            exact hskip hset rfl hq
        · cases want <;> simp only [cond_true, cond_false] at hq
          · have hw : Region.wanted o (yielded ops a.tmps) = false := by simp [Region.wanted, hg, hy]
            simp only [hw, Bool.false_eq_true, if_false]
            exact hskip hset rfl hq
          · have hw : Region.wanted o (yielded ops a.tmps) = true := by simp [Region.wanted, hg, hy]
            simp only [hw, if_true]
            exact .inl (opK_ok hC h.pres.le hset.rel h.keys hd' hq (hgoes rfl hset))
      · rename_i hb
        rw [hb] at hv
        have hv' := repE_nil hv
        have hy : yielded ops a.tmps j = none := by
          unfold yielded
          simp only [hs, Option.bind_some]
          by_cases hlt : s < a.tmps.size
          · rw [Array.getElem?_eq_getElem hlt]
            have : a.tmps[s] = undef := by simpa [hlt] using hv'
            rw [this]; rfl
          · rw [Array.getElem?_eq_none (Nat.le_of_not_lt hlt)]
        have hw : Region.wanted o (yielded ops a.tmps) = false := by simp [Region.wanted, hg, hy]
        simp only [hw, Bool.false_eq_true, if_false]
        exact hskip h rfl hq
      · exact hq.elim

/-- One operation, under its guard, where a slice may be the frame's own. -/
theorem oneX_ok (hC : CallOK C call c0) {ops : Array Oper} {i : Nat} {o : Oper} (ho : ops[i]? = some o) (hd : ∀ d, o.dst = some d → d < N) {S : Sc} {fr : Fr} {a : Act} (h : At C base c0 N S fr a w)
    {K : Fr → Heap → Tr Res} (hq : (oneX C A call ops o fr S.H K).All Q) {next : Act → World → Prop} {Qx : Exit → Act → World → Prop}
    (hn : ∀ S' fr' a' w', At C base c0 N S' fr' a' w' → (K fr' S'.H).All Q → next a' w') : wpOp C.P ops Qx i next a w := by
  have hd' : ∀ d, o.dst = some d → d < a.tmps.size := fun d h' => Nat.lt_of_lt_of_le (hd d h') h.size
  have hgoes : ∀ {fr' : Fr}, At C base c0 N S fr' a w → GoesX C base S a Q K next := fun {fr'} h' S' fr'' a' w' p r k hs hk => hn S' fr'' a' w' (h'.then p r k hs) hk
  have hskip : ∀ {fr' : Fr}, At C base c0 N S fr' a w → fr'.boxes = fr.boxes → (K (fr'.put o.dst (.tup [])) S.H).All Q → next (a.put o.dst undef) w := fun {fr'} h' hf hk =>
    hn S _ _ _ (h'.then (Pres.refl _ _ _ _) (h'.rel.put hd' repE_undef) h'.keys put_size) hk
  unfold wpOp
  simp only [ho]
  unfold oneX at hq
  split at hq
  · rename_i hg
    have hw : Region.wanted o (yielded ops a.tmps) = true := by simp [Region.wanted, hg]
    simp only [hw, if_true]
    exact .inl (opX_ok hC h.pres.le h.rel h.keys hd' hq (hgoes h))
  · rename_i j want hg
    split at hq
    · exact hq.elim
    · rename_i s hs
      have hv := eval_get h.rel s
      split at hq
      · rename_i b hb
        rw [hb] at hv
        have hv' := repE_bool hv
        have hlt : s < a.tmps.size := by
          apply Nat.lt_of_not_le; intro hle
          rw [Array.getD_eq_getD_getElem?, Array.getElem?_eq_none hle] at hv'
          simp [undef] at hv'
        have hy : yielded ops a.tmps j = some b := by
          have : a.tmps[s]? = some (.bool b) := by
            rw [Array.getElem?_eq_getElem hlt]
            simp [hlt] at hv'; rw [hv']
          simp [yielded, hs, this]
        have hset : At C base c0 N S (fr.set s (.one (.val (.bool b)))) a w := { h with rel := h.rel.reset (by rw [hv']; exact Rep.bool b) }
        cases b <;> simp only [cond_true, cond_false] at hq
        · cases want <;> simp only [cond_true, cond_false] at hq
          · have hw : Region.wanted o (yielded ops a.tmps) = true := by simp [Region.wanted, hg, hy]
            simp only [hw, if_true]
            exact .inl (opX_ok hC h.pres.le hset.rel h.keys hd' hq (hgoes hset))
          · have hw : Region.wanted o (yielded ops a.tmps) = false := by simp [Region.wanted, hg, hy]
            simp only [hw, Bool.false_eq_true, if_false]
            exact hskip hset rfl hq
        · cases want <;> simp only [cond_true, cond_false] at hq
          · have hw : Region.wanted o (yielded ops a.tmps) = false := by simp [Region.wanted, hg, hy]
            simp only [hw, Bool.false_eq_true, if_false]
            exact hskip hset rfl hq
          · have hw : Region.wanted o (yielded ops a.tmps) = true := by simp [Region.wanted, hg, hy]
            simp only [hw, if_true]
            exact .inl (opX_ok hC h.pres.le hset.rel h.keys hd' hq (hgoes hset))
      · rename_i hb
        rw [hb] at hv
        have hv' := repE_nil hv
        have hy : yielded ops a.tmps j = none := by
          unfold yielded
          simp only [hs, Option.bind_some]
          by_cases hlt : s < a.tmps.size
          · rw [Array.getElem?_eq_getElem hlt]
            have : a.tmps[s] = undef := by simpa [hlt] using hv'
            rw [this]; rfl
          · rw [Array.getElem?_eq_none (Nat.le_of_not_lt hlt)]
        have hw : Region.wanted o (yielded ops a.tmps) = false := by simp [Region.wanted, hg, hy]
        simp only [hw, Bool.false_eq_true, if_false]
        exact hskip h rfl hq
      · exact hq.elim

theorem opsK_ok (hC : CallOK C call c0) {ops : Array Oper} {K : Fr → Heap → Tr Res} {Qx : Exit → Act → World → Prop} (hn : ∀ S' fr' a' w', At C base c0 N S' fr' a' w' → (K fr' S'.H).All Q → Qx .normal a' w') :
    ∀ (os : List Oper) (is : List Nat) {w : World} {S : Sc} {fr : Fr} {a : Act}, is.map (fun i => ops[i]?) = os.map some → (∀ o ∈ os, ∀ d, o.dst = some d → d < N) → At C base c0 N S fr a w →
      (opsK C A call ops os fr S.H K).All Q → wpOps C.P ops Qx is a w
  | [], is, w, S, fr, a, hm, _, h, hq => by
    have : is = [] := by simpa using hm
    subst this
    exact hn S fr a w h hq
  | o :: os, [], _, _, _, _, hm, _, _, _ => by simp at hm
  | o :: os, i :: is, w, S, fr, a, hm, hd, h, hq => by
    simp only [List.map_cons, List.cons.injEq] at hm
    rw [wpOps_cons]
    exact oneK_ok hC hm.1 (hd o (by simp)) h hq fun S' fr' a' w' h' _ _ hk => opsK_ok hC hn os is hm.2 (fun o ho => hd o (by simp [ho])) h' hk

theorem opsX_ok (hC : CallOK C call c0) {ops : Array Oper} {K : Fr → Heap → Tr Res} {Qx : Exit → Act → World → Prop} (hn : ∀ S' fr' a' w', At C base c0 N S' fr' a' w' → (K fr' S'.H).All Q → Qx .normal a' w') :
    ∀ (os : List Oper) (is : List Nat) {w : World} {S : Sc} {fr : Fr} {a : Act}, is.map (fun i => ops[i]?) = os.map some → (∀ o ∈ os, ∀ d, o.dst = some d → d < N) → At C base c0 N S fr a w →
      (opsX C A call ops os fr S.H K).All Q → wpOps C.P ops Qx is a w
  | [], is, w, S, fr, a, hm, _, h, hq => by
    have : is = [] := by simpa using hm
    subst this
    exact hn S fr a w h hq
  | o :: os, [], _, _, _, _, hm, _, _, _ => by simp at hm
  | o :: os, i :: is, w, S, fr, a, hm, hd, h, hq => by
    simp only [List.map_cons, List.cons.injEq] at hm
    rw [wpOps_cons]
    exact oneX_ok hC hm.1 (hd o (by simp)) h hq fun S' fr' a' w' h' hk => opsX_ok hC hn os is hm.2 (fun o ho => hd o (by simp [ho])) h' hk

theorem range_map (ops : Array Oper) : (List.range ops.size).map (fun i => ops[i]?) = ops.toList.map some := by
  apply List.ext_getElem?
  intro i
  by_cases hi : i < ops.size
  · simp [hi]
  · simp [hi]

/-! ### A region of which the order is free -/
/-- An operation that is taken ahead: it yields, for as long as something holds; and nothing but its own slot is new. -/
theorem guardK_ok {ops : Array Oper} {o : Oper} (hd : ∀ d, o.dst = some d → d < N) {S : Sc} {fr : Fr} {a : Act} {w : World} {F : World → Prop} (h : At C base c0 N S fr a w) {K : Fr → Heap → Tr Res}
    (hop : ∀ {fr' : Fr}, (∀ x, fr'.opnd x = fr.opnd x ∨ ∃ b, fr'.opnd x = .one (.val (.bool b))) → fr'.boxes = fr.boxes → At C base c0 N S fr' a w → (opK C A call o fr' S.H K).All Q →
      ∃ v e, (∀ w', F w' → (execOp a.eval o).run C.P w' = .ok (.value v) w') ∧ RepE S v e ∧ (K (fr'.put o.dst e) S.H).All Q)
    (hq : (oneK C A call ops o fr S.H K).All Q) : ∃ v fr', YieldsF C.P ops o v a F ∧ At C base c0 N S fr' (a.put o.dst v) w ∧ fr'.boxes = fr.boxes ∧ (K fr' S.H).All Q := by
  have hd' : ∀ d, o.dst = some d → d < a.tmps.size := fun d h' => Nat.lt_of_lt_of_le (hd d h') h.size
  have hgo : ∀ {fr' : Fr}, (∀ x, fr'.opnd x = fr.opnd x ∨ ∃ b, fr'.opnd x = .one (.val (.bool b))) → fr'.boxes = fr.boxes → At C base c0 N S fr' a w → Region.wanted o (yielded ops a.tmps) = true → (opK C A call o fr' S.H K).All Q →
      ∃ v fr', YieldsF C.P ops o v a F ∧ At C base c0 N S fr' (a.put o.dst v) w ∧ fr'.boxes = fr.boxes ∧ (K fr' S.H).All Q := fun {fr'} hx hf h' hw hk => by
    obtain ⟨v, e, hv, he, hk⟩ := hop hx hf h' hk
    exact ⟨v, _, .inl ⟨hw, hv⟩, h'.then (Pres.refl _ _ _ _) (h'.rel.put hd' he) h'.keys put_size, by rw [put_boxes, hf], hk⟩
  have hskip : ∀ {fr' : Fr}, At C base c0 N S fr' a w → fr'.boxes = fr.boxes → Region.wanted o (yielded ops a.tmps) = false → (K (fr'.put o.dst (.tup [])) S.H).All Q →
      ∃ v fr', YieldsF C.P ops o v a F ∧ At C base c0 N S fr' (a.put o.dst v) w ∧ fr'.boxes = fr.boxes ∧ (K fr' S.H).All Q := fun {fr'} h' hf hw hk =>
    ⟨undef, _, .inr ⟨hw, rfl⟩, h'.then (Pres.refl _ _ _ _) (h'.rel.put hd' repE_undef) h'.keys put_size, by rw [put_boxes, hf], hk⟩
  unfold oneK at hq
  split at hq
  · rename_i hg
    exact hgo (fun _ => .inl rfl) rfl h (by simp [Region.wanted, hg]) hq
  · rename_i j want hg
    split at hq
    · exact hq.elim
    · rename_i s hs'
      have hv := eval_get h.rel s
      split at hq
      · rename_i b hb
        rw [hb] at hv
        have hv' := repE_bool hv
        have hlt : s < a.tmps.size := by
          apply Nat.lt_of_not_le; intro hle
          rw [Array.getD_eq_getD_getElem?, Array.getElem?_eq_none hle] at hv'
          simp [undef] at hv'
        have hy : yielded ops a.tmps j = some b := by
          have : a.tmps[s]? = some (.bool b) := by
            rw [Array.getElem?_eq_getElem hlt]
            simp [hlt] at hv'; rw [hv']
          simp [yielded, hs', this]
        have hset : At C base c0 N S (fr.set s (.one (.val (.bool b)))) a w := { h with rel := h.rel.reset (by rw [hv']; exact Rep.bool b) }
        have hx : ∀ b x, (fr.set s (.one (.val (.bool b)))).opnd x = fr.opnd x ∨ ∃ b', (fr.set s (.one (.val (.bool b)))).opnd x = .one (.val (.bool b')) := fun b x => by
          cases x with
          | tmp u =>
            simp only [Fr.opnd, Fr.get, Fr.set]
            rw [look_ins]
            by_cases e : s = u
            · right; exact ⟨b, by simp [e]⟩
            · left; rw [if_neg e]
          | _ => exact .inl rfl
        cases b <;> simp only [cond_true, cond_false] at hq <;> cases want <;> simp only [cond_true, cond_false] at hq
        · exact hgo (hx _) rfl hset (by simp [Region.wanted, hg, hy]) hq
        · exact hskip hset rfl (by simp [Region.wanted, hg, hy]) hq
        · exact hskip hset rfl (by simp [Region.wanted, hg, hy]) hq
        · exact hgo (hx _) rfl hset (by simp [Region.wanted, hg, hy]) hq
      · rename_i hb
        rw [hb] at hv
        have hv' := repE_nil hv
        have hy : yielded ops a.tmps j = none := by
          unfold yielded
          simp only [hs', Option.bind_some]
          by_cases hlt : s < a.tmps.size
          · rw [Array.getElem?_eq_getElem hlt]
            have : a.tmps[s] = undef := by simpa [hlt] using hv'
            rw [this]; rfl
          · rw [Array.getElem?_eq_none (Nat.le_of_not_lt hlt)]
        exact hskip h rfl (by simp [Region.wanted, hg, hy]) hq
      · exact hq.elim

theorem readNow_as {P : Program} {fr fr' : Fr} {o : Oper} (h : readNow P fr o = true) (hx : ∀ x, fr'.opnd x = fr.opnd x ∨ ∃ b, fr'.opnd x = .one (.val (.bool b))) : readNow P fr' o = true := by
  unfold readNow at h ⊢
  split
  · rename_i t x ho
    simp only [ho] at h
    rcases hx x with e | ⟨b, e⟩
    · rw [e]; exact h
    · rw [e]; rfl
  · rename_i hno
    split at h
    · rename_i t x ho; exact absurd ho (hno t x)
    · exact h

theorem ready_eq (ops : Array Oper) (l : List Bool) : Region.ready .any ops l.toArray = readyL ops l := by
  unfold Region.ready readyL
  apply List.filter_congr
  intro i _
  unfold readyAt
  have e : ∀ d, l.toArray.getD i d = l.getD i d := fun d => by simp [Array.getD_eq_getD_getElem?, List.getD_eq_getElem?_getD]
  rw [e]
  congr 1
  cases ops[i]? with
  | none => rfl
  | some o =>
    simp only [Option.map_some, Option.getD_some]
    rw [← Array.all_toList]
    congr 1
    funext e
    simp [Array.getD_eq_getD_getElem?, List.getD_eq_getElem?_getD]

theorem noSel_spec {ops : Array Oper} (h : noSel ops = true) (j : Nat) (o : Oper) (cs : Array SelectCase) (b : Bool) (ho : ops[j]? = some o) : o.op ≠ .select cs b := by
  intro heq
  have := List.all_eq_true.1 h o (by simpa using Array.mem_of_getElem? ho)
  simp [heq] at this

theorem getD_arr {l : List Bool} {j : Nat} {d : Bool} : l.toArray.getD j d = l.getD j d := by simp [Array.getD_eq_getD_getElem?, List.getD_eq_getElem?_getD]

theorem free_spec {ops : Array Oper} {l : List Bool} {i : Nat} {oi : Oper} (h : freeAt ops l i oi = true) (j : Nat) (oj : Oper) (hj : ops[j]? = some oj) (hne : j ≠ i)
    (hun : l.toArray.getD j true = false) (hno : ∀ e ∈ oj.after, Region.binds .any e = true → e.on ≠ i) : oi.apart ops oj = true := by
  simp only [freeAt, List.all_eq_true, List.mem_range] at h
  have h1 := h j (Array.getElem?_eq_some_iff.1 hj).1
  have hun' : l.getD j true = false := by rw [← getD_arr]; exact hun
  simp only [hj, Bool.or_eq_true, beq_iff_eq, hne, false_or, hun', Bool.false_eq_true] at h1
  rcases h1 with h1 | h1
  · obtain ⟨e, he, hb⟩ := List.any_eq_true.1 h1
    simp only [Bool.and_eq_true, beq_iff_eq] at hb
    exact absurd hb.2 (hno e (by simpa using he) hb.1)
  · exact h1

theorem freeR_spec {P : Program} {ops : Array Oper} {l : List Bool} {i : Nat} {oi : Oper} (h : freeR P ops l i oi = true) (j : Nat) (oj : Oper) (hj : ops[j]? = some oj) (hne : j ≠ i)
    (hun : l.toArray.getD j true = false) (hno : ∀ e ∈ oj.after, Region.binds .any e = true → e.on ≠ i) : oi.apart ops oj = true ∧ mildOp P oj = true := by
  simp only [freeR, List.all_eq_true, List.mem_range] at h
  have h1 := h j (Array.getElem?_eq_some_iff.1 hj).1
  have hun' : l.getD j true = false := by rw [← getD_arr]; exact hun
  simp only [hj, Bool.or_eq_true, beq_iff_eq, hne, false_or, hun', Bool.false_eq_true, Bool.and_eq_true] at h1
  rcases h1 with h1 | h1
  · obtain ⟨e, he, hb⟩ := List.any_eq_true.1 h1
    simp only [Bool.and_eq_true, beq_iff_eq] at hb
    exact absurd hb.2 (hno e (by simpa using he) hb.1)
  · exact h1

theorem freeQ_spec {P : Program} {ops : Array Oper} {l : List Bool} {i : Nat} {oi : Oper} (h : freeQ P ops l i oi = true) (j : Nat) (oj : Oper) (hj : ops[j]? = some oj) (hne : j ≠ i)
    (hun : l.toArray.getD j true = false) (hno : ∀ e ∈ oj.after, Region.binds .any e = true → e.on ≠ i) : oi.apart ops oj = true ∧ quietOp P oj = true := by
  simp only [freeQ, List.all_eq_true, List.mem_range] at h
  have h1 := h j (Array.getElem?_eq_some_iff.1 hj).1
  have hun' : l.getD j true = false := by rw [← getD_arr]; exact hun
  simp only [hj, Bool.or_eq_true, beq_iff_eq, hne, false_or, hun', Bool.false_eq_true, Bool.and_eq_true] at h1
  rcases h1 with h1 | h1
  · obtain ⟨e, he, hb⟩ := List.any_eq_true.1 h1
    simp only [Bool.and_eq_true, beq_iff_eq] at hb
    exact absurd hb.2 (hno e (by simpa using he) hb.1)
  · exact h1

/-- What holds for as long as nothing but mild operations run. -/
def GoodJ (P : Program) (ops : Array Oper) (S : Sc) (fr : Fr) (l : List Bool) (J : Array Bool → World → Prop) : Prop :=
  ∀ (l' : Array Bool) (c' : Ctx), (∀ j, l.getD j false = true → l'.getD j false = true) →
    ((S.c.le c' ∧ ∀ d b, look d fr.boxes = some b → c'.w.heap[S.lam d]? = S.c.w.heap[S.lam d]?) ∨
     (∃ j o, ops[j]? = some o ∧ mildOp P o = false ∧ l'.getD j false = true ∧ l.getD j false = false)) →
    (c'.w = S.c.w ∨ (∃ j o, ops[j]? = some o ∧ quietOp P o = false ∧ l'.getD j false = true ∧ l.getD j false = false)) → J l' c'.w

theorem getD_list_set {l : List Bool} {j k : Nat} (h : l.getD k false = true) : (l.set j true).getD k false = true := by
  simp only [List.getD_eq_getElem?_getD, List.getElem?_set] at h ⊢
  by_cases e : j = k
  · subst e
    have : j < l.length := by
      apply Nat.lt_of_not_le; intro hle
      rw [List.getElem?_eq_none hle] at h; simp at h
    simp [this]
  · simp [e]; simpa using h
theorem getD_list_self {l : List Bool} {j : Nat} (h : l.getD j true = false) : (l.set j true).getD j false = true ∧ l.getD j false = false := by
  have : j < l.length := by
    apply Nat.lt_of_not_le; intro hle
    rw [List.getD_eq_getElem?_getD, List.getElem?_eq_none hle] at h; simp at h
  simp [this] at h ⊢
  exact h
theorem getD_list_of {l : List Bool} {j k : Nat} (h : (l.set j true).getD k false = false) : l.getD k false = false := by
  cases hl : l.getD k false
  · rfl
  · rw [getD_list_set hl] at h; cases h

theorem GoodJ.now {P : Program} {ops : Array Oper} {S : Sc} {fr : Fr} {l : List Bool} {J : Array Bool → World → Prop} (h : GoodJ P ops S fr l J) : J l.toArray S.c.w :=
  h l.toArray S.c (fun j hj => by rw [getD_arr]; exact hj) (.inl ⟨S.c.le_refl, fun _ _ _ => rfl⟩) (.inl rfl)

theorem GoodJ.step {P : Program} {ops : Array Oper} {S S' : Sc} {fr fr' : Fr} {l : List Bool} {J : Array Bool → World → Prop} (h : GoodJ P ops S fr l J) {j : Nat} {o : Oper} (ho : ops[j]? = some o) (hun : l.getD j true = false)
    (hm : mildOp P o = true → S.c.le S'.c ∧ Boxed S S' fr fr') (hm2 : quietOp P o = true → S'.c.w = S.c.w) : GoodJ P ops S' fr' (l.set j true) J := fun l' c' hsub hc hc2 => by
  refine h l' c' (fun k hk => hsub k (getD_list_set hk)) ?_ ?_
  · rcases hc with ⟨hle, hbx⟩ | ⟨j', o', h1, h2, h3, h4⟩
    · cases hmo : mildOp P o
      · exact .inr ⟨j, o, ho, hmo, hsub j (getD_list_self hun).1, (getD_list_self hun).2⟩
      · obtain ⟨hl, hB⟩ := hm hmo
        refine .inl ⟨Ctx.le_trans hl hle, fun d b hb => ?_⟩
        obtain ⟨⟨b', hb'⟩, e1, e2⟩ := hB d b hb
        have := hbx d b' hb'
        rw [e1] at this
        rw [this, e2]
    · exact .inr ⟨j', o', h1, h2, h3, getD_list_of h4⟩
  · rcases hc2 with hw | ⟨j', o', h1, h2, h3, h4⟩
    · cases hmo : quietOp P o
      · exact .inr ⟨j, o, ho, hmo, hsub j (getD_list_self hun).1, (getD_list_self hun).2⟩
      · exact .inl (hw.trans (hm2 hmo))
    · exact .inr ⟨j', o', h1, h2, h3, getD_list_of h4⟩

theorem unset_set {l : Array Bool} {i : Nat} (h : l.getD i true = false) : (l.setIfInBounds i true).setIfInBounds i false = l := by
  apply Array.ext_getElem?
  intro k
  by_cases e : i = k
  · subst e
    rcases Nat.lt_or_ge i l.size with h' | h'
    · simp [h'] at h ⊢; exact h
    · simp [h']
  · rw [Array.getElem?_setIfInBounds_ne e, Array.getElem?_setIfInBounds_ne e]

/-- Taking an operation ahead. -/
theorem take_step {P : Program} {ops : Array Oper} {S : Sc} {fr fr' : Fr} {l : List Bool} {i : Nat} {oi : Oper} {v : Value} {a : Act} {w : World} {n : Nat} {F : World → Prop} {al : Nat → Prop} {J : Array Bool → World → Prop} {Qx : Exit → Act → World → Prop}
    (hi : ops[i]? = some oi) (hsel : noSel ops = true) (hQ : ∀ c a w, ¬ Qx (.panic c) a w) (hg : GoodJ P ops S fr l J) (hf : fr'.boxes = fr.boxes)
    (hfree : ∀ j oj, ops[j]? = some oj → j ≠ i → l.toArray.getD j true = false → (∀ e ∈ oj.after, Region.binds .any e = true → e.on ≠ i) → oi.apart ops oj = true ∧ al j)
    (hF : ∀ c' : Ctx, ((S.c.le c' ∧ ∀ d b, look d fr.boxes = some b → c'.w.heap[S.lam d]? = S.c.w.heap[S.lam d]?) ∨ (∃ j o, ops[j]? = some o ∧ mildOp P o = false ∧ al j)) →
      (c'.w = S.c.w ∨ (∃ j o, ops[j]? = some o ∧ quietOp P o = false ∧ al j)) → F c'.w)
    (hr : i ∈ Region.ready .any ops l.toArray) (hy : YieldsF P ops oi v a F)
    (hrest : ∀ J', GoodJ P ops S fr' (l.set i true) J' → wpAnyJ P ops Qx J' n (l.set i true).toArray (a.put oi.dst v) w) : wpAnyJ P ops Qx J (n + 1) l.toArray a w := by
  have hun : l.getD i true = false := by rw [← getD_arr]; exact (mem_ready.1 hr).1
  obtain ⟨hself, hno⟩ := getD_list_self hun
  let J1 : Array Bool → World → Prop := fun l' w' => J l' w' ∧ J (l'.setIfInBounds i false) w' ∧ ((∀ j, l'.getD j false = true → l.toArray.getD j false = true ∨ j = i ∨ al j) → F w')
  have hun' : ∀ {l' : Array Bool} {q : Oper → Bool}, (∃ j o, ops[j]? = some o ∧ q o = false ∧ l'.getD j false = true ∧ (l.set i true).getD j false = false) →
      (∃ j o, ops[j]? = some o ∧ q o = false ∧ l'.getD j false = true ∧ l.getD j false = false) := fun ⟨j, o, h1, h2, h3, h4⟩ => ⟨j, o, h1, h2, h3, getD_list_of h4⟩
  have hun2 : ∀ {l' : Array Bool} {q : Oper → Bool}, (∃ j o, ops[j]? = some o ∧ q o = false ∧ l'.getD j false = true ∧ (l.set i true).getD j false = false) →
      (∃ j o, ops[j]? = some o ∧ q o = false ∧ (l'.setIfInBounds i false).getD j false = true ∧ l.getD j false = false) := fun ⟨j, o, h1, h2, h3, h4⟩ => by
    have hji : i ≠ j := fun e => by subst e; rw [hself] at h4; cases h4
    refine ⟨j, o, h1, h2, ?_, getD_list_of h4⟩
    simp only [Array.getD_eq_getD_getElem?] at h3 ⊢
    rw [Array.getElem?_setIfInBounds_ne hji]; exact h3
  have hal : ∀ {l' : Array Bool} {q : Oper → Bool}, (∀ j, l'.getD j false = true → l.toArray.getD j false = true ∨ j = i ∨ al j) →
      (∃ j o, ops[j]? = some o ∧ q o = false ∧ l'.getD j false = true ∧ (l.set i true).getD j false = false) → ∃ j o, ops[j]? = some o ∧ q o = false ∧ al j := fun hp ⟨j, o, h1, h2, h3, h4⟩ => by
    rcases hp j h3 with h | h | h
    · rw [getD_arr] at h
      rw [getD_list_set h] at h4; cases h4
    · subst h; rw [hself] at h4; cases h4
    · exact ⟨j, o, h1, h2, h⟩
  have hg1 : GoodJ P ops S fr' (l.set i true) J1 := fun l' c' hsub hc hc2 => by
    have hc0 : (S.c.le c' ∧ ∀ d b, look d fr.boxes = some b → c'.w.heap[S.lam d]? = S.c.w.heap[S.lam d]?) ∨ (∃ j o, ops[j]? = some o ∧ mildOp P o = false ∧ l'.getD j false = true ∧ (l.set i true).getD j false = false) := by
      rw [hf] at hc; exact hc
    refine ⟨hg l' c' (fun k hk => hsub k (getD_list_set hk)) (hc0.imp id hun') (hc2.imp id hun'), hg _ c' (fun k hk => ?_) (hc0.imp id hun2) (hc2.imp id hun2), fun hp => hF c' (hc0.imp id (hal hp)) (hc2.imp id (hal hp))⟩
    have hki : i ≠ k := fun e => by subst e; rw [hno] at hk; cases hk
    have := hsub k (getD_list_set hk)
    simp only [Array.getD_eq_getD_getElem?] at this ⊢
    rw [Array.getElem?_setIfInBounds_ne hki]; exact this
  refine firstJ (J0 := J) (J1 := J1) (L := l.toArray) (al := al) hi (noSel_spec hsel) hQ (fun l0 w0 h0 hj => ?_) (fun _ _ hj => hj.1) (fun l0 w0 hp hj => hj.2.2 hp) n l.toArray a w hfree (fun j hj => .inl hj) hr hy ?_
  · have := hj.2.1
    rw [unset_set h0] at this
    exact this
  · rw [List.setIfInBounds_toArray]
    exact hrest J1 hg1

theorem anyK_ok (hC : CallOK C call c0) {ops : Array Oper} (hd : ∀ o ∈ ops.toList, ∀ d, o.dst = some d → d < N) (hsel : noSel ops = true) {K : Fr → Heap → Tr Res} {Qx : Exit → Act → World → Prop}
    (hn : ∀ S' fr' a' w', At C base c0 N S' fr' a' w' → (K fr' S'.H).All Q → Qx .normal a' w') :
    ∀ (n : Nat) (l : List Bool) {w : World} {S : Sc} {fr : Fr} {a : Act} (J : Array Bool → World → Prop), GoodJ C.P ops S fr l J → At C base c0 N S fr a w → (anyK C A call ops n l fr S.H K).All Q →
      wpAnyJ C.P ops (fun e a w => e = .normal ∧ Qx .normal a w) J n l.toArray a w
  | 0, l, w, S, fr, a, J, hJ, h, hq => by
    simp only [anyK] at hq
    obtain ⟨hb, hq⟩ := all_bif hq
    have hnow := hJ.now
    rw [h.rel.w] at hnow
    exact ⟨hnow, by rw [ready_eq]; simpa using hb, rfl, hn S fr a w h hq⟩
  | n + 1, l, w, S, fr, a, J, hJ, h, hq => by
    have hnow := hJ.now
    rw [h.rel.w] at hnow
    have hone : ∀ j o, j ∈ Region.ready .any ops l.toArray → ops[j]? = some o → (oneK C A call ops o fr S.H fun fr h => anyK C A call ops n (l.set j true) fr h K).All Q →
        wpOp C.P ops (fun e a w => e = .normal ∧ Qx .normal a w) j (wpAnyJ C.P ops (fun e a w => e = .normal ∧ Qx .normal a w) J n (l.toArray.setIfInBounds j true)) a w := fun j o hj ho hk =>
      oneK_ok hC ho (hd o (by simpa using Array.mem_of_getElem? ho)) h hk fun S' fr' a' w' h' hm hm2 hk' => by
        rw [List.setIfInBounds_toArray]
        exact anyK_ok hC hd hsel hn n _ J (hJ.step ho (by rw [← getD_arr]; exact (mem_ready.1 hj).1) hm hm2) h' hk'
    simp only [anyK] at hq
    split at hq
    · rename_i hr
      refine ⟨hnow, fun _ => ⟨rfl, hn S fr a w h hq⟩, fun i hi => ?_⟩
      rw [ready_eq, hr] at hi; cases hi
    · rename_i i is hr
      have hne : Region.ready .any ops l.toArray = [] → False := fun e => by rw [ready_eq, hr] at e; cases e
      split at hq
      · rename_i j hj
        have hmem := List.mem_of_find?_eq_some hj
        have hta := List.find?_some hj
        split at hq
        · rename_i o ho
          have hdo := hd o (by simpa using Array.mem_of_getElem? ho)
          have hjr : j ∈ Region.ready .any ops l.toArray := by rw [ready_eq, hr]; exact hmem
          simp only [takeAt, ho, Bool.or_eq_true, Bool.and_eq_true] at hta
          rcases hta with (⟨h1, h2⟩ | ⟨h1, h2⟩) | ⟨h1, h2⟩
          · obtain ⟨v, fr', hy, h', hf, hk⟩ := guardK_ok (F := fun _ => True) hdo h (fun {fr'} _ _ h' hk => by
              obtain ⟨v, e, hv, he, hk⟩ := still_ok hC.1 h'.pres.le h1 h'.rel hk
              exact ⟨v, e, fun w' _ => hv w', he, hk⟩) hq
            exact take_step (al := fun _ => True) ho hsel (fun c a w hp => by simp at hp) hJ hf (fun k ok hk hne hun hno => ⟨free_spec h2 k ok hk hne hun hno, trivial⟩) (fun _ _ _ => trivial) hjr hy
              (fun J' hJ' => anyK_ok hC hd hsel hn n _ J' hJ' h' hk)
          · obtain ⟨v, fr', hy, h', hf, hk⟩ := guardK_ok (F := Kept S fr) hdo h (fun {fr'} hx hfb h' hk => by
              obtain ⟨v, e, hv, he, hk⟩ := read_ok (readNow_as h1 hx) h'.rel hk
              exact ⟨v, e, fun w' ⟨c', e1, e2, e3⟩ => hv w' ⟨c', e1, e2, by rw [hfb]; exact e3⟩, he, hk⟩) hq
            exact take_step (al := fun k => ∀ ok, ops[k]? = some ok → mildOp C.P ok = true) ho hsel (fun c a w hp => by simp at hp) hJ hf (fun k ok hk hne hun hno => by
                obtain ⟨h3, h4⟩ := freeR_spec h2 k ok hk hne hun hno
                exact ⟨h3, fun ok' hk' => by rw [hk] at hk'; cases hk'; exact h4⟩)
              (fun c' hc _ => by
                rcases hc with ⟨hle, hbx⟩ | ⟨k, ok, hk, hm, hal⟩
                · exact ⟨c', rfl, hle, hbx⟩
                · rw [hal ok hk] at hm; cases hm) hjr hy
              (fun J' hJ' => anyK_ok hC hd hsel hn n _ J' hJ' h' hk)
          · obtain ⟨v, fr', hy, h', hf, hk⟩ := guardK_ok (F := fun w' => w' = w) hdo h (fun {fr'} _ _ h' hk => by
              obtain ⟨v, e, hv, he, hk⟩ := look_ok h1 h'.rel h'.keys hk
              exact ⟨v, e, fun w' e1 => by rw [e1]; exact hv, he, hk⟩) hq
            exact take_step (al := fun k => ∀ ok, ops[k]? = some ok → quietOp C.P ok = true) ho hsel (fun c a w hp => by simp at hp) hJ hf (fun k ok hk hne hun hno => by
                obtain ⟨h3, h4⟩ := freeQ_spec h2 k ok hk hne hun hno
                exact ⟨h3, fun ok' hk' => by rw [hk] at hk'; cases hk'; exact h4⟩)
              (fun c' _ hc => by
                rcases hc with e1 | ⟨k, ok, hk, hm, hal⟩
                · rw [e1]; exact h.rel.w
                · rw [hal ok hk] at hm; cases hm) hjr hy
              (fun J' hJ' => anyK_ok hC hd hsel hn n _ J' hJ' h' hk)
        · exact hq.elim
      · split at hq
        · refine ⟨hnow, fun e => (hne e).elim, fun j hj => ?_⟩
          have hj' := hj
          rw [ready_eq, hr] at hj
          obtain rfl : j = i := by simpa using hj
          split at hq
          · exact hone _ _ hj' ‹_› hq
          · exact hq.elim
        · refine ⟨hnow, fun e => (hne e).elim, fun j hj => ?_⟩
          have hj' := hj
          rw [ready_eq, hr] at hj
          have hq := hq.anyL _ (List.mem_map.2 ⟨j, hj, rfl⟩)
          split at hq
          · exact hone _ _ hj' ‹_› hq
          · exact hq.elim

def exOf : Ex → Exit
  | .normal => .normal
  | .exit id => .exit id
  | .goto l => .goto l
  | .ret => .ret

/-- What stands behind: for the evaluator, and for the machine. -/
def Ends (C : Cfg) (base : Bs) (c0 : Ctx) (N : Nat) (Q : Res → Prop) (K : Ex → Fr → Heap → Tr Res) (Qx : Exit → Act → World → Prop) : Prop :=
  ∀ e S fr a w, At C base c0 N S fr a w → (K e fr S.H).All Q → Qx (exOf e) a w

/-- A run from within a scope. -/
def ScopeFrom (P : Program) (body rest : Code) (Qx : Exit → Act → World → Prop) (a : Act) (w : World) : Prop :=
  ∀ (b : Frame) (k : List Item) (cs : List Frame), ∃ e a' w', Qx e a' w' ∧ Arrives P (lone (b.at a (.code rest :: .inScope body :: k)) cs w) b k cs e a' w'

def Exit.fromScope (P : Program) (body : Code) (Qx : Exit → Act → World → Prop) : Exit → Act → World → Prop
  | .goto l, a, w => (match findLabel body l with | some rest => ScopeFrom P body rest Qx a w | none => Qx (.goto l) a w)
  | e, a, w => Qx e a w

theorem scopeFrom_of_wp {body rest : Code} {Qx : Exit → Act → World → Prop} {a : Act} {w : World} (h : rest.wp P (Exit.fromScope P body Qx) a w) : ScopeFrom P body rest Qx a w := by
  intro b k cs
  obtain ⟨e, a₁, w₁, hq, harr⟩ := h b (.inScope body :: k) cs
  cases e with
  | normal => exact ⟨.normal, a₁, w₁, hq, Steps.trans harr (.one step_inScope)⟩
  | exit id => exact ⟨.exit id, a₁, w₁, hq, fun k' hk => harr k' (by simp [exitTo, hk])⟩
  | goto l =>
    simp only [Exit.fromScope] at hq
    split at hq
    · rename_i r hr
      have hg : gotoIn l (.inScope body :: k) = some (.code r :: .inScope body :: k) := by simp [gotoIn, hr]
      obtain ⟨e₂, a₂, w₂, hq₂, harr₂⟩ := hq b k cs
      exact ⟨e₂, a₂, w₂, hq₂, .of_steps (harr _ hg) harr₂⟩
    · rename_i hr
      exact ⟨.goto l, a₁, w₁, hq, fun k' hk => harr k' (by simp [gotoIn, hr, hk])⟩
  | ret => exact ⟨_, a₁, w₁, hq, harr⟩
  | panic ch => exact ⟨_, a₁, w₁, hq, harr⟩
  | outgrown => exact ⟨_, a₁, w₁, hq, harr⟩

theorem wp_scope_from {c : Code} {Qx : Exit → Act → World → Prop} {a : Act} {w : World} (h : ScopeFrom P c c Qx a w) : (Code.scope c).wp P Qx a w := fun b k cs =>
  let ⟨e, a', w', q, r⟩ := h b k cs; ⟨e, a', w', q, .of_steps (.one step_scope) r⟩

abbrev Again := Code → Code → Fr → Heap → (Ex → Fr → Heap → Tr Res) → Tr Res
def AgainOK (C : Cfg) (again : Again) (base : Bs) (c0 : Ctx) (N : Nat) (Q : Res → Prop) : Prop :=
  ∀ (rest body : Code) {S : Sc} {fr : Fr} {a : Act} {w : World} {K : Ex → Fr → Heap → Tr Res} {Qx : Exit → Act → World → Prop}, codeDst N rest = true → codeDst N body = true → At C base c0 N S fr a w →
    (again rest body fr S.H K).All Q → Ends C base c0 N Q K Qx → ScopeFrom C.P body rest Qx a w

theorem scopeK_ends {again : Again} (hA : AgainOK C again base c0 N Q) {body : Code} (hb : codeDst N body = true) {K : Ex → Fr → Heap → Tr Res} {Qx : Exit → Act → World → Prop} (h : Ends C base c0 N Q K Qx) :
    Ends C base c0 N Q (scopeK A again body K) (Exit.fromScope C.P body Qx) := fun e S fr a w hat hq => by
  cases e with
  | goto l =>
    simp only [scopeK] at hq
    simp only [exOf, Exit.fromScope]
    split at hq
    · rename_i rest hr
      simp only [hr]
      obtain ⟨S', hat', eH⟩ := hat.keepAt A rest
      exact hA rest body (findLabel_dst hb hr) hb hat' (by rw [eH]; exact hq) h
    · rename_i hr
      simp only [hr]
      exact h (.goto l) S fr a w hat hq
  | normal => exact h .normal S fr a w hat hq
  | exit id => exact h (.exit id) S fr a w hat hq
  | ret => exact h .ret S fr a w hat hq

theorem loopK_ok {c : Code} {body : Fr → Heap → (Ex → Fr → Heap → Tr Res) → Tr Res} {ks : Fr → Fr} {K : Ex → Fr → Heap → Tr Res} {Qx : Exit → Act → World → Prop} (hK : Ends C base c0 N Q K Qx)
    (hks : ∀ {S : Sc} {fr : Fr} {a : Act} {w : World}, At C base c0 N S fr a w → ∃ S', At C base c0 N S' (ks fr) a w ∧ S'.H = S.H)
    (hbody : ∀ {S : Sc} {fr : Fr} {a : Act} {w : World} {K' : Ex → Fr → Heap → Tr Res} {Qx' : Exit → Act → World → Prop}, At C base c0 N S fr a w → (body fr S.H K').All Q → Ends C base c0 N Q K' Qx' → c.wp C.P Qx' a w) :
    ∀ (n : Nat) {S : Sc} {fr : Fr} {a : Act} {w : World}, At C base c0 N S fr a w → (loopK ks body n fr S.H K).All Q → Code.rounds C.P c Qx n a w
  | 0, _, _, _, _, _, hq => hq.elim
  | n + 1, S, fr, a, w, hat, hq => by
    simp only [loopK] at hq
    rw [rounds_succ]
    refine hbody hat hq fun e S' fr' a' w' hat' hq' => ?_
    cases e with
    | normal =>
      simp only [seqK] at hq'
      obtain ⟨S'', hat'', eH⟩ := hks hat'
      exact loopK_ok hK hks hbody n hat'' (by rw [eH]; exact hq')
    | exit id => exact hK (.exit id) S' fr' a' w' hat' hq'
    | goto l => exact hK (.goto l) S' fr' a' w' hat' hq'
    | ret => exact hK .ret S' fr' a' w' hat' hq'

theorem codeK_ok (hm : C.P.follows .mixedOrders = true) (hC : CallOK C call c0) {again : Again} (hA : AgainOK C again base c0 N Q) :
    ∀ (c : Code) {S : Sc} {fr : Fr} {a : Act} {w : World} {K : Ex → Fr → Heap → Tr Res} {Qx : Exit → Act → World → Prop}, codeDst N c = true → At C base c0 N S fr a w → (codeK C A call again c fr S.H K).All Q →
      Ends C base c0 N Q K Qx → c.wp C.P Qx a w
  | .skip, S, fr, a, w, K, Qx, _, hat, hq, hK => wp_skip (hK .normal S fr a w hat hq)
  | .label l, S, fr, a, w, K, Qx, _, hat, hq, hK => wp_label (hK .normal S fr a w hat hq)
  | .exit id, S, fr, a, w, K, Qx, _, hat, hq, hK => wp_exit (hK (.exit id) S fr a w hat hq)
  | .goto l, S, fr, a, w, K, Qx, _, hat, hq, hK => wp_goto (hK (.goto l) S fr a w hat hq)
  | .ret, S, fr, a, w, K, Qx, _, hat, hq, hK => wp_ret (hK .ret S fr a w hat hq)
  | .region id ops draw, S, fr, a, w, K, Qx, hd, hat, hq, hK => by
    simp only [codeK] at hq
    cases draw
    · simp only [cond_false] at hq
      unfold opsS at hq
      split at hq
      · exact wp_region (opsK_ok hC (fun S' fr' a' w' h' hk => hK .normal S' fr' a' w' h' hk) ops.toList _ (range_map ops) (opsDst_spec hd) hat hq)
      · exact wp_region (opsX_ok hC (fun S' fr' a' w' h' hk => hK .normal S' fr' a' w' h' hk) ops.toList _ (range_map ops) (opsDst_spec hd) hat hq)
    · simp only [cond_true] at hq
      obtain ⟨hsel, hq⟩ := all_bif hq
      have hrep : (Array.replicate ops.size false) = (List.replicate ops.size false).toArray := by simp
      have go : ∀ {S : Sc} {fr : Fr}, At C base c0 N S fr a w → (anyK C A call ops ops.size (List.replicate ops.size false) fr S.H (K .normal)).All Q → (Code.region id ops true).wp C.P Qx a w := fun {S fr} hat hq => by
        obtain ⟨r1, p1⟩ := hat.rel.sameHeap (w' := { w with drawn := w.drawn + 1 }) rfl ⟨rfl, rfl⟩
        have hat' := hat.then p1 r1 hat.keys rfl
        have hwp : (Code.region id ops true).wp C.P (fun e a w => e = .normal ∧ Qx .normal a w) a w := wp_region_any hm (by
          rw [hrep]
          exact (anyK_ok hC (opsDst_spec hd) hsel (fun S' fr' a' w' h' hk => hK .normal S' fr' a' w' h' hk) _ _ (fun _ _ => True) (fun _ _ _ _ _ => trivial) hat' hq).any)
        refine Code.wp_mono (fun e a w he => ?_) hwp
        rw [he.1]; exact he.2
      unfold anyS at hq
      split at hq
      · exact go hat hq
      · obtain ⟨S1, fr1, e1, p1, r1, hq⟩ := frzL_ok _ hat.rel hq
        rw [← e1] at hq
        exact go (hat.then p1 r1 (by rw [e1]; exact hat.keys) rfl) hq
  | .seq x y, S, fr, a, w, K, Qx, hd, hat, hq, hK => by
    simp only [codeDst, Bool.and_eq_true] at hd
    simp only [codeK] at hq
    refine wp_seq (codeK_ok hm hC hA x hd.1 hat hq fun e S' fr' a' w' hat' hq' => ?_)
    cases e with
    | normal =>
      obtain ⟨S'', hat'', eH⟩ := hat'.keepAt A y
      simp only [seqK, joinK_eq] at hq'
      exact codeK_ok hm hC hA y hd.2 hat'' (by rw [eH]; exact hq') hK
    | exit id => exact hK (.exit id) S' fr' a' w' hat' hq'
    | goto l => exact hK (.goto l) S' fr' a' w' hat' hq'
    | ret => exact hK .ret S' fr' a' w' hat' hq'
  | .cond c x y, S, fr, a, w, K, Qx, hd, hat, hq, hK => by
    simp only [codeDst, Bool.and_eq_true] at hd
    simp only [codeK] at hq
    split at hq
    · rename_i t ht
      have hv := eval_opnd hat.rel c
      rw [ht] at hv
      refine wp_cond (repE_bool hv) ?_
      cases t <;> simp only [cond_true, cond_false] at hq
      · simp only [Bool.false_eq_true, if_false]; exact codeK_ok hm hC hA y hd.2 hat hq hK
      · simp only [if_true]; exact codeK_ok hm hC hA x hd.1 hat hq hK
    · exact hq.elim
  | .block id c, S, fr, a, w, K, Qx, hd, hat, hq, hK => by
    simp only [codeDst] at hd
    simp only [codeK] at hq
    refine wp_block (codeK_ok hm hC hA c hd hat hq fun e S' fr' a' w' hat' hq' => ?_)
    cases e with
    | exit i =>
      simp only [blockK] at hq'
      simp only [exOf, Exit.inBlock]
      cases hi : i == id <;> simp only [hi, cond_true, cond_false] at hq'
      · have : i ≠ id := by simpa using hi
        simp only [this, if_false]; exact hK (.exit i) S' fr' a' w' hat' hq'
      · have : i = id := by simpa using hi
        simp only [this, if_true]; exact hK .normal S' fr' a' w' hat' hq'
    | normal => exact hK .normal S' fr' a' w' hat' hq'
    | goto l => exact hK (.goto l) S' fr' a' w' hat' hq'
    | ret => exact hK .ret S' fr' a' w' hat' hq'
  | .loop c, S, fr, a, w, K, Qx, hd, hat, hq, hK => by
    simp only [codeDst] at hd
    simp only [codeK] at hq
    obtain ⟨S', hat', eH⟩ := hat.keepAt A c
    exact wp_loop_rounds rounds (loopK_ok hK (fun h => h.keepAt A c) (fun h hq' hK' => codeK_ok hm hC hA c hd h hq' hK') rounds hat' (by rw [eH]; exact hq))
  | .scope c, S, fr, a, w, K, Qx, hd, hat, hq, hK => by
    simp only [codeDst] at hd
    simp only [codeK] at hq
    exact wp_scope_from (scopeFrom_of_wp (codeK_ok hm hC hA c hd hat hq (scopeK_ends hA hd hK)))
  | .rangeFunc _ _ _ _, _, _, _, _, _, _, _, _, hq, _ => by simp only [codeK] at hq; exact hq.elim
  | .refuse _, _, _, _, _, _, _, _, _, hq, _ => by simp only [codeK] at hq; exact hq.elim

theorem againK_ok (hm : C.P.follows .mixedOrders = true) (hC : CallOK C call c0) : ∀ n, AgainOK C (againK C A call n) base c0 N Q
  | 0 => fun rest body {_ _ _ _ _ _} _ _ _ hq _ => hq.elim
  | n + 1 => fun rest body {S fr a w K Qx} h1 h2 hat hq hK => by
    simp only [againK] at hq
    exact scopeFrom_of_wp (codeK_ok hm hC (againK_ok hm hC n) rest h1 hat hq (scopeK_ends (againK_ok hm hC n) h2 hK))
end
end Go.Weave
