/- Regions and code. -/
import Derived.Test.YthebimbdijkiiaaWvR
import Derived.Test.YthebimbdijkiiaaWvX
import Derived.LoopN
import Derived.Scope
namespace Go.Weave
variable {P : Program} {w : World} {R : Type}

/-- A temporary that is written is one. -/
def opsDst (N : Nat) (ops : Array Oper) : Bool := ops.toList.all fun o => match o.dst with | some d => decide (d < N) | none => true
def codeDst (N : Nat) : Code → Bool
  | .region _ ops _ => opsDst N ops
  | .seq a b => codeDst N a && codeDst N b
  | .cond _ a b => codeDst N a && codeDst N b
  | .block _ c => codeDst N c
  | .loop c => codeDst N c
  | .scope c => codeDst N c
  | _ => true

theorem opsDst_spec {N : Nat} {ops : Array Oper} (h : opsDst N ops = true) : ∀ o ∈ ops.toList, ∀ d, o.dst = some d → d < N := fun o ho d hd => by
  have := List.all_eq_true.1 h o ho
  simpa [hd] using this

theorem findLabel_dst {N l : Nat} : ∀ {c rest : Code}, codeDst N c = true → findLabel c l = some rest → codeDst N rest = true
  | .seq a b, rest, h, hf => by
    simp only [codeDst, Bool.and_eq_true] at h
    simp only [findLabel] at hf
    split at hf
    · rename_i r hr
      simp at hf; subst hf
      simp [codeDst, findLabel_dst h.1 hr, h.2]
    · exact findLabel_dst h.2 hf
  | .label l', rest, h, hf => by
    simp only [findLabel] at hf
    split at hf <;> simp at hf
    subst hf; rfl
  | .skip, _, _, hf | .region _ _ _, _, _, hf | .cond _ _ _, _, _, hf | .block _ _, _, _, hf | .loop _, _, _, hf | .rangeFunc _ _ _ _, _, _, hf | .exit _, _, _, hf
  | .scope _, _, _, hf | .goto _, _, _, hf | .ret, _, _, hf | .refuse _, _, _, hf => by simp [findLabel] at hf

/-- Where a run stands. -/
structure At (C : Cfg) (base : Bs) (c0 : Ctx) (N : Nat) (S : Sc) (fr : Fr) (a : Act) (w : World) : Prop where
  pres : Pres base c0 S.β S.c S.β
  rel : Rel base S fr a w
  keys : KeysOk C.P S.H
  size : N ≤ a.tmps.size

theorem At.then {C : Cfg} {base : Bs} {c0 : Ctx} {N : Nat} {S S' : Sc} {fr fr' : Fr} {a a' : Act} {w w' : World} (h : At C base c0 N S fr a w) (p : Pres base S.c S.β S'.c S'.β) (r : Rel base S' fr' a' w')
    (k : KeysOk C.P S'.H) (hs : a'.tmps.size = a.tmps.size) : At C base c0 N S' fr' a' w' :=
  ⟨⟨(h.pres.trans p).le, (h.pres.trans p).size, (h.pres.trans p).same, (h.pres.trans p).io⟩, r, k, by rw [hs]; exact h.size⟩

theorem At.keep {C : Cfg} {base : Bs} {c0 : Ctx} {N : Nat} {S : Sc} {fr : Fr} {a : Act} {w : World} (h : At C base c0 N S fr a w) (ks : List Keep) : ∃ S', At C base c0 N S' (keepFr ks fr) a w ∧ S'.H = S.H := by
  obtain ⟨S', e1, e2, r⟩ := h.rel.keepFr ks
  exact ⟨S', ⟨⟨by rw [e1]; exact h.pres.le, by rw [e1]; exact h.pres.size, by rw [e1]; exact h.pres.same, by rw [e1]; exact h.pres.io⟩, r, by rw [e2]; exact h.keys, h.size⟩, e2⟩

theorem At.keepAt {C : Cfg} {base : Bs} {c0 : Ctx} {N : Nat} {S : Sc} {fr : Fr} {a : Act} {w : World} (h : At C base c0 N S fr a w) (A : Ann) (c : Code) : ∃ S', At C base c0 N S' (keepAt A c fr) a w ∧ S'.H = S.H := by
  unfold Weave.keepAt
  split
  · split
    · exact h.keep _
    · exact ⟨S, h, rfl⟩
  · exact ⟨S, h, rfl⟩

/-- What stands in a slot, said again. -/
theorem Rel.reset {base : Bs} {S : Sc} {fr : Fr} {a : Act} (r : Rel base S fr a w) {s : Nat} {e : EV} (h : RepE S (a.tmps.getD s undef) e) : Rel base S (fr.set s e) a w := by
    refine { r with env := fun t e' he => ?_ }
    rcases look_set he with ⟨rfl, rfl⟩ | ⟨_, he⟩
    · exact h
    · exact r.env t e' he

theorem repE_bool {S : Sc} {v : Value} {b : Bool} (h : RepE S v (.cv (.one (.val (.bool b))))) : v = .bool b := by
  have : Rep S.c v (.bool b) := h
  cases this; rfl
theorem repE_nil {S : Sc} {v : Value} (h : RepE S v (.tup [])) : v = undef := by
  obtain ⟨xs, rfl, hl, _⟩ : ∃ xs : Array Value, v = .tuple xs ∧ xs.size = ([] : List CV).length ∧ _ := h
  have : xs = #[] := Array.eq_empty_of_size_eq_zero (by simpa using hl)
  subst this; rfl

section
variable {C : Cfg} {A : Ann} {call : FuncId → List AVal → Heap → Tr Res} {base : Bs} {c0 : Ctx} {N : Nat} {Q : Res → Prop}

/-- One operation, under its guard. -/
theorem oneK_ok (hC : CallOK C call) {ops : Array Oper} {i : Nat} {o : Oper} (ho : ops[i]? = some o) (hd : ∀ d, o.dst = some d → d < N) {S : Sc} {fr : Fr} {a : Act} (h : At C base c0 N S fr a w)
    {K : Fr → Heap → Tr Res} (hq : (oneK C A call ops o fr S.H K).All Q) {next : Act → World → Prop} {Qx : Exit → Act → World → Prop}
    (hn : ∀ S' fr' a' w', At C base c0 N S' fr' a' w' → (K fr' S'.H).All Q → next a' w') : wpOp C.P ops Qx i next a w := by
  have hd' : ∀ d, o.dst = some d → d < a.tmps.size := fun d h' => Nat.lt_of_lt_of_le (hd d h') h.size
  have hgoes : ∀ {fr' : Fr}, At C base c0 N S fr' a w → Goes C base S a Q K next := fun {fr'} h' S' fr'' a' w' p r k hs hk => hn S' fr'' a' w' (h'.then p r k hs) hk
  have hskip : ∀ {fr' : Fr}, At C base c0 N S fr' a w → (K (fr'.put o.dst (.tup [])) S.H).All Q → next (a.put o.dst undef) w := fun {fr'} h' hk =>
    hn S _ _ _ (h'.then (Pres.refl _ _ _ _) (h'.rel.put hd' repE_undef) h'.keys put_size) hk
  unfold wpOp
  simp only [ho]
  unfold oneK at hq
  split at hq
  · rename_i hg
    have hw : Region.wanted o (yielded ops a.tmps) = true := by simp [Region.wanted, hg]
    simp only [hw, if_true]
    exact .inl (opK_ok hC h.rel h.keys hd' hq (hgoes h))
  · rename_i j want hg
    split at hq
    · exact hq.elim
    · rename_i s hs
      have hv := eval_get h.rel s
      split at hq
      · rename_i b hb
        rw [hb] at hv
        have hv' := repE_bool hv
        have hlt : s < a.tmps.size := by
          apply Nat.lt_of_not_le; intro hle
          rw [Array.getD_eq_getD_getElem?, Array.getElem?_eq_none hle] at hv'
          simp [undef] at hv'
        have hy : yielded ops a.tmps j = some b := by
          have : a.tmps[s]? = some (.bool b) := by
            rw [Array.getElem?_eq_getElem hlt]
            simp [hlt] at hv'; rw [hv']
          simp [yielded, hs, this]
        have hset : At C base c0 N S (fr.set s (.one (.val (.bool b)))) a w := { h with rel := h.rel.reset (by rw [hv']; exact Rep.bool b) }
        cases b <;> simp only [cond_true, cond_false] at hq
        · cases want <;> simp only [cond_true, cond_false] at hq
          · have hw : Region.wanted o (yielded ops a.tmps) = true := by simp [Region.wanted, hg, hy]
            simp only [hw, if_true]
            exact .inl (opK_ok hC hset.rel h.keys hd' hq (hgoes hset))
          · have hw : Region.wanted o (yielded ops a.tmps) = false := by simp [Region.wanted, hg, hy]
            simp only [hw, Bool.false_eq_true, if_false]
            exact hskip hset hq
        · cases want <;> simp only [cond_true, cond_false] at hq
          · have hw : Region.wanted o (yielded ops a.tmps) = false := by simp [Region.wanted, hg, hy]
            simp only [hw, Bool.false_eq_true, if_false]
            exact hskip hset hq
          · have hw : Region.wanted o (yielded ops a.tmps) = true := by simp [Region.wanted, hg, hy]
            simp only [hw, if_true]
            exact .inl (opK_ok hC hset.rel h.keys hd' hq (hgoes hset))
      · rename_i hb
        rw [hb] at hv
        have hv' := repE_nil hv
        have hy : yielded ops a.tmps j = none := by
          unfold yielded
          simp only [hs, Option.bind_some]
          by_cases hlt : s < a.tmps.size
          · rw [Array.getElem?_eq_getElem hlt]
            have : a.tmps[s] = undef := by simpa [hlt] using hv'
            rw [this]; rfl
          · rw [Array.getElem?_eq_none (Nat.le_of_not_lt hlt)]
        have hw : Region.wanted o (yielded ops a.tmps) = false := by simp [Region.wanted, hg, hy]
        simp only [hw, Bool.false_eq_true, if_false]
        exact hskip h hq
      · exact hq.elim

theorem opsK_ok (hC : CallOK C call) {ops : Array Oper} {K : Fr → Heap → Tr Res} {Qx : Exit → Act → World → Prop} (hn : ∀ S' fr' a' w', At C base c0 N S' fr' a' w' → (K fr' S'.H).All Q → Qx .normal a' w') :
    ∀ (os : List Oper) (is : List Nat) {w : World} {S : Sc} {fr : Fr} {a : Act}, is.map (fun i => ops[i]?) = os.map some → (∀ o ∈ os, ∀ d, o.dst = some d → d < N) → At C base c0 N S fr a w →
      (opsK C A call ops os fr S.H K).All Q → wpOps C.P ops Qx is a w
  | [], is, w, S, fr, a, hm, _, h, hq => by
    have : is = [] := by simpa using hm
    subst this
    exact hn S fr a w h hq
  | o :: os, [], _, _, _, _, hm, _, _, _ => by simp at hm
  | o :: os, i :: is, w, S, fr, a, hm, hd, h, hq => by
    simp only [List.map_cons, List.cons.injEq] at hm
    rw [wpOps_cons]
    exact oneK_ok hC hm.1 (hd o (by simp)) h hq fun S' fr' a' w' h' hk => opsK_ok hC hn os is hm.2 (fun o ho => hd o (by simp [ho])) h' hk

theorem range_map (ops : Array Oper) : (List.range ops.size).map (fun i => ops[i]?) = ops.toList.map some := by
  apply List.ext_getElem?
  intro i
  by_cases hi : i < ops.size
  · simp [hi]
  · simp [hi]

/-! ### A region of which the order is free -/
theorem takeK_ok {ops : Array Oper} {o : Oper} (hs : stillOp C.P o = true) (hd : ∀ d, o.dst = some d → d < N) {S : Sc} {fr : Fr} {a : Act} {w : World} (h : At C base c0 N S fr a w)
    {K : Fr → Heap → Tr Res} (hq : (oneK C A call ops o fr S.H K).All Q) : ∃ v fr', Yields C.P ops o v a ∧ At C base c0 N S fr' (a.put o.dst v) w ∧ (K fr' S.H).All Q := by
  have hd' : ∀ d, o.dst = some d → d < a.tmps.size := fun d h' => Nat.lt_of_lt_of_le (hd d h') h.size
  have hgo : ∀ {fr' : Fr}, At C base c0 N S fr' a w → Region.wanted o (yielded ops a.tmps) = true → (opK C A call o fr' S.H K).All Q →
      ∃ v fr', Yields C.P ops o v a ∧ At C base c0 N S fr' (a.put o.dst v) w ∧ (K fr' S.H).All Q := fun {fr'} h' hw hk => by
    obtain ⟨v, e, hv, he, hk⟩ := still_ok hs h'.rel hk
    exact ⟨v, _, .inl ⟨hw, hv⟩, h'.then (Pres.refl _ _ _ _) (h'.rel.put hd' he) h'.keys put_size, hk⟩
  have hskip : ∀ {fr' : Fr}, At C base c0 N S fr' a w → Region.wanted o (yielded ops a.tmps) = false → (K (fr'.put o.dst (.tup [])) S.H).All Q →
      ∃ v fr', Yields C.P ops o v a ∧ At C base c0 N S fr' (a.put o.dst v) w ∧ (K fr' S.H).All Q := fun {fr'} h' hw hk =>
    ⟨undef, _, .inr ⟨hw, rfl⟩, h'.then (Pres.refl _ _ _ _) (h'.rel.put hd' repE_undef) h'.keys put_size, hk⟩
  unfold oneK at hq
  split at hq
  · rename_i hg
    exact hgo h (by simp [Region.wanted, hg]) hq
  · rename_i j want hg
    split at hq
    · exact hq.elim
    · rename_i s hs'
      have hv := eval_get h.rel s
      split at hq
      · rename_i b hb
        rw [hb] at hv
        have hv' := repE_bool hv
        have hlt : s < a.tmps.size := by
          apply Nat.lt_of_not_le; intro hle
          rw [Array.getD_eq_getD_getElem?, Array.getElem?_eq_none hle] at hv'
          simp [undef] at hv'
        have hy : yielded ops a.tmps j = some b := by
          have : a.tmps[s]? = some (.bool b) := by
            rw [Array.getElem?_eq_getElem hlt]
            simp [hlt] at hv'; rw [hv']
          simp [yielded, hs', this]
        have hset : At C base c0 N S (fr.set s (.one (.val (.bool b)))) a w := { h with rel := h.rel.reset (by rw [hv']; exact Rep.bool b) }
        cases b <;> simp only [cond_true, cond_false] at hq <;> cases want <;> simp only [cond_true, cond_false] at hq
        · exact hgo hset (by simp [Region.wanted, hg, hy]) hq
        · exact hskip hset (by simp [Region.wanted, hg, hy]) hq
        · exact hskip hset (by simp [Region.wanted, hg, hy]) hq
        · exact hgo hset (by simp [Region.wanted, hg, hy]) hq
      · rename_i hb
        rw [hb] at hv
        have hv' := repE_nil hv
        have hy : yielded ops a.tmps j = none := by
          unfold yielded
          simp only [hs', Option.bind_some]
          by_cases hlt : s < a.tmps.size
          · rw [Array.getElem?_eq_getElem hlt]
            have : a.tmps[s] = undef := by simpa [hlt] using hv'
            rw [this]; rfl
          · rw [Array.getElem?_eq_none (Nat.le_of_not_lt hlt)]
        exact hskip h (by simp [Region.wanted, hg, hy]) hq
      · exact hq.elim

theorem ready_eq (ops : Array Oper) (l : List Bool) : Region.ready .any ops l.toArray = readyL ops l := by
  unfold Region.ready readyL
  apply List.filter_congr
  intro i _
  unfold readyAt
  have e : ∀ d, l.toArray.getD i d = l.getD i d := fun d => by simp [Array.getD_eq_getD_getElem?, List.getD_eq_getElem?_getD]
  rw [e]
  congr 1
  cases ops[i]? with
  | none => rfl
  | some o =>
    simp only [Option.map_some, Option.getD_some]
    rw [← Array.all_toList]
    congr 1
    funext e
    simp [Array.getD_eq_getD_getElem?, List.getD_eq_getElem?_getD]

theorem noSel_spec {ops : Array Oper} (h : noSel ops = true) (j : Nat) (o : Oper) (cs : Array SelectCase) (b : Bool) (ho : ops[j]? = some o) : o.op ≠ .select cs b := by
  intro heq
  have := List.all_eq_true.1 h o (by simpa using Array.mem_of_getElem? ho)
  simp [heq] at this

theorem free_spec {ops : Array Oper} {l : List Bool} {i : Nat} {oi : Oper} (h : freeAt ops l i oi = true) (j : Nat) (oj : Oper) (hj : ops[j]? = some oj) (hne : j ≠ i)
    (hun : l.toArray.getD j true = false) (hno : ∀ e ∈ oj.after, Region.binds .any e = true → e.on ≠ i) : oi.apart ops oj = true := by
  simp only [freeAt, List.all_eq_true, List.mem_range] at h
  have h1 := h j (Array.getElem?_eq_some_iff.1 hj).1
  have hun' : l.getD j true = false := by simpa [Array.getD_eq_getD_getElem?, List.getD_eq_getElem?_getD] using hun
  simp only [hj, Bool.or_eq_true, beq_iff_eq, hne, false_or, hun', Bool.false_eq_true] at h1
  rcases h1 with h1 | h1
  · obtain ⟨e, he, hb⟩ := List.any_eq_true.1 h1
    simp only [Bool.and_eq_true, beq_iff_eq] at hb
    exact absurd hb.2 (hno e (by simpa using he) hb.1)
  · exact h1

theorem anyK_ok (hC : CallOK C call) {ops : Array Oper} (hd : ∀ o ∈ ops.toList, ∀ d, o.dst = some d → d < N) (hsel : noSel ops = true) {K : Fr → Heap → Tr Res} {Qx : Exit → Act → World → Prop}
    (hn : ∀ S' fr' a' w', At C base c0 N S' fr' a' w' → (K fr' S'.H).All Q → Qx .normal a' w') :
    ∀ (n : Nat) (l : List Bool) {w : World} {S : Sc} {fr : Fr} {a : Act}, At C base c0 N S fr a w → (anyK C A call ops n l fr S.H K).All Q →
      wpAny C.P .any ops (fun e a w => e = .normal ∧ Qx .normal a w) n l.toArray a w
  | 0, l, w, S, fr, a, h, hq => by
    simp only [anyK] at hq
    obtain ⟨hb, hq⟩ := all_bif hq
    exact ⟨by rw [ready_eq]; simpa using hb, rfl, hn S fr a w h hq⟩
  | n + 1, l, w, S, fr, a, h, hq => by
    have hone : ∀ j o, ops[j]? = some o → (oneK C A call ops o fr S.H fun fr h => anyK C A call ops n (l.set j true) fr h K).All Q →
        wpOp C.P ops (fun e a w => e = .normal ∧ Qx .normal a w) j (wpAny C.P .any ops (fun e a w => e = .normal ∧ Qx .normal a w) n (l.toArray.setIfInBounds j true)) a w := fun j o ho hk =>
      oneK_ok hC ho (hd o (by simpa using Array.mem_of_getElem? ho)) h hk fun S' fr' a' w' h' hk' => by
        rw [List.setIfInBounds_toArray]
        exact anyK_ok hC hd hsel hn n _ h' hk'
    simp only [anyK] at hq
    split at hq
    · rename_i hr
      exact wpAny_done (by rw [ready_eq, hr]) ⟨rfl, hn S fr a w h hq⟩ _
    · rename_i i is hr
      split at hq
      · rename_i j hj
        have hmem := List.mem_of_find?_eq_some hj
        have hta := List.find?_some hj
        split at hq
        · rename_i o ho
          simp only [takeAt, ho, Bool.and_eq_true] at hta
          obtain ⟨v, fr', hy, h', hk⟩ := takeK_ok hta.1 (hd o (by simpa using Array.mem_of_getElem? ho)) h hq
          refine wpAny_first ho (noSel_spec hsel) (fun c a w hp => by simp at hp) n l.toArray a w (free_spec hta.2) (by rw [ready_eq, hr]; exact hmem) hy ?_
          rw [List.setIfInBounds_toArray]
          exact anyK_ok hC hd hsel hn n _ h' hk
        · exact hq.elim
      · split at hq
        · refine wpAny_all (rs := [i]) (by rw [ready_eq, hr]) (by simp) fun j hj => ?_
          obtain rfl : j = i := by simpa using hj
          split at hq
          · exact hone _ _ ‹_› hq
          · exact hq.elim
        · refine wpAny_all (rs := i :: is) (by rw [ready_eq, hr]) (by simp) fun j hj => ?_
          have hq := hq.anyL _ (List.mem_map.2 ⟨j, hj, rfl⟩)
          split at hq
          · exact hone _ _ ‹_› hq
          · exact hq.elim

def exOf : Ex → Exit
  | .normal => .normal
  | .exit id => .exit id
  | .goto l => .goto l
  | .ret => .ret

/-- What stands behind: for the evaluator, and for the machine. -/
def Ends (C : Cfg) (base : Bs) (c0 : Ctx) (N : Nat) (Q : Res → Prop) (K : Ex → Fr → Heap → Tr Res) (Qx : Exit → Act → World → Prop) : Prop :=
  ∀ e S fr a w, At C base c0 N S fr a w → (K e fr S.H).All Q → Qx (exOf e) a w

/-- A run from within a scope. -/
def ScopeFrom (P : Program) (body rest : Code) (Qx : Exit → Act → World → Prop) (a : Act) (w : World) : Prop :=
  ∀ (b : Frame) (k : List Item) (cs : List Frame), ∃ e a' w', Qx e a' w' ∧ Arrives P (lone (b.at a (.code rest :: .inScope body :: k)) cs w) b k cs e a' w'

def Exit.fromScope (P : Program) (body : Code) (Qx : Exit → Act → World → Prop) : Exit → Act → World → Prop
  | .goto l, a, w => (match findLabel body l with | some rest => ScopeFrom P body rest Qx a w | none => Qx (.goto l) a w)
  | e, a, w => Qx e a w

theorem scopeFrom_of_wp {body rest : Code} {Qx : Exit → Act → World → Prop} {a : Act} {w : World} (h : rest.wp P (Exit.fromScope P body Qx) a w) : ScopeFrom P body rest Qx a w := by
  intro b k cs
  obtain ⟨e, a₁, w₁, hq, harr⟩ := h b (.inScope body :: k) cs
  cases e with
  | normal => exact ⟨.normal, a₁, w₁, hq, Steps.trans harr (.one step_inScope)⟩
  | exit id => exact ⟨.exit id, a₁, w₁, hq, fun k' hk => harr k' (by simp [exitTo, hk])⟩
  | goto l =>
    simp only [Exit.fromScope] at hq
    split at hq
    · rename_i r hr
      have hg : gotoIn l (.inScope body :: k) = some (.code r :: .inScope body :: k) := by simp [gotoIn, hr]
      obtain ⟨e₂, a₂, w₂, hq₂, harr₂⟩ := hq b k cs
      exact ⟨e₂, a₂, w₂, hq₂, .of_steps (harr _ hg) harr₂⟩
    · rename_i hr
      exact ⟨.goto l, a₁, w₁, hq, fun k' hk => harr k' (by simp [gotoIn, hr, hk])⟩
  | ret => exact ⟨_, a₁, w₁, hq, harr⟩
  | panic ch => exact ⟨_, a₁, w₁, hq, harr⟩
  | outgrown => exact ⟨_, a₁, w₁, hq, harr⟩

theorem wp_scope_from {c : Code} {Qx : Exit → Act → World → Prop} {a : Act} {w : World} (h : ScopeFrom P c c Qx a w) : (Code.scope c).wp P Qx a w := fun b k cs =>
  let ⟨e, a', w', q, r⟩ := h b k cs; ⟨e, a', w', q, .of_steps (.one step_scope) r⟩

abbrev Again := Code → Code → Fr → Heap → (Ex → Fr → Heap → Tr Res) → Tr Res
def AgainOK (C : Cfg) (again : Again) (base : Bs) (c0 : Ctx) (N : Nat) (Q : Res → Prop) : Prop :=
  ∀ (rest body : Code) {S : Sc} {fr : Fr} {a : Act} {w : World} {K : Ex → Fr → Heap → Tr Res} {Qx : Exit → Act → World → Prop}, codeDst N rest = true → codeDst N body = true → At C base c0 N S fr a w →
    (again rest body fr S.H K).All Q → Ends C base c0 N Q K Qx → ScopeFrom C.P body rest Qx a w

theorem scopeK_ends {again : Again} (hA : AgainOK C again base c0 N Q) {body : Code} (hb : codeDst N body = true) {K : Ex → Fr → Heap → Tr Res} {Qx : Exit → Act → World → Prop} (h : Ends C base c0 N Q K Qx) :
    Ends C base c0 N Q (scopeK again body K) (Exit.fromScope C.P body Qx) := fun e S fr a w hat hq => by
  cases e with
  | goto l =>
    simp only [scopeK] at hq
    simp only [exOf, Exit.fromScope]
    split at hq
    · rename_i rest hr
      simp only [hr]
      exact hA rest body (findLabel_dst hb hr) hb hat hq h
    · rename_i hr
      simp only [hr]
      exact h (.goto l) S fr a w hat hq
  | normal => exact h .normal S fr a w hat hq
  | exit id => exact h (.exit id) S fr a w hat hq
  | ret => exact h .ret S fr a w hat hq

theorem loopK_ok {c : Code} {body : Fr → Heap → (Ex → Fr → Heap → Tr Res) → Tr Res} {ks : Fr → Fr} {K : Ex → Fr → Heap → Tr Res} {Qx : Exit → Act → World → Prop} (hK : Ends C base c0 N Q K Qx)
    (hks : ∀ {S : Sc} {fr : Fr} {a : Act} {w : World}, At C base c0 N S fr a w → ∃ S', At C base c0 N S' (ks fr) a w ∧ S'.H = S.H)
    (hbody : ∀ {S : Sc} {fr : Fr} {a : Act} {w : World} {K' : Ex → Fr → Heap → Tr Res} {Qx' : Exit → Act → World → Prop}, At C base c0 N S fr a w → (body fr S.H K').All Q → Ends C base c0 N Q K' Qx' → c.wp C.P Qx' a w) :
    ∀ (n : Nat) {S : Sc} {fr : Fr} {a : Act} {w : World}, At C base c0 N S fr a w → (loopK ks body n fr S.H K).All Q → Code.rounds C.P c Qx n a w
  | 0, _, _, _, _, _, hq => hq.elim
  | n + 1, S, fr, a, w, hat, hq => by
    simp only [loopK] at hq
    rw [rounds_succ]
    refine hbody hat hq fun e S' fr' a' w' hat' hq' => ?_
    cases e with
    | normal =>
      simp only [seqK] at hq'
      obtain ⟨S'', hat'', eH⟩ := hks hat'
      exact loopK_ok hK hks hbody n hat'' (by rw [eH]; exact hq')
    | exit id => exact hK (.exit id) S' fr' a' w' hat' hq'
    | goto l => exact hK (.goto l) S' fr' a' w' hat' hq'
    | ret => exact hK .ret S' fr' a' w' hat' hq'

theorem codeK_ok (hm : C.P.follows .mixedOrders = true) (hC : CallOK C call) {again : Again} (hA : AgainOK C again base c0 N Q) :
    ∀ (c : Code) {S : Sc} {fr : Fr} {a : Act} {w : World} {K : Ex → Fr → Heap → Tr Res} {Qx : Exit → Act → World → Prop}, codeDst N c = true → At C base c0 N S fr a w → (codeK C A call again c fr S.H K).All Q →
      Ends C base c0 N Q K Qx → c.wp C.P Qx a w
  | .skip, S, fr, a, w, K, Qx, _, hat, hq, hK => wp_skip (hK .normal S fr a w hat hq)
  | .label l, S, fr, a, w, K, Qx, _, hat, hq, hK => wp_label (hK .normal S fr a w hat hq)
  | .exit id, S, fr, a, w, K, Qx, _, hat, hq, hK => wp_exit (hK (.exit id) S fr a w hat hq)
  | .goto l, S, fr, a, w, K, Qx, _, hat, hq, hK => wp_goto (hK (.goto l) S fr a w hat hq)
  | .ret, S, fr, a, w, K, Qx, _, hat, hq, hK => wp_ret (hK .ret S fr a w hat hq)
  | .region id ops draw, S, fr, a, w, K, Qx, hd, hat, hq, hK => by
    simp only [codeK] at hq
    cases draw
    · simp only [cond_false] at hq
      exact wp_region (opsK_ok hC (fun S' fr' a' w' h' hk => hK .normal S' fr' a' w' h' hk) ops.toList _ (range_map ops) (opsDst_spec hd) hat hq)
    · simp only [cond_true] at hq
      obtain ⟨hsel, hq⟩ := all_bif hq
      have hrep : (Array.replicate ops.size false) = (List.replicate ops.size false).toArray := by simp
      obtain ⟨r1, p1⟩ := hat.rel.sameHeap (w' := { w with drawn := w.drawn + 1 }) rfl ⟨rfl, rfl⟩
      have hat' := hat.then p1 r1 hat.keys rfl
      have hwp : (Code.region id ops true).wp C.P (fun e a w => e = .normal ∧ Qx .normal a w) a w := wp_region_any hm (by
        rw [hrep]
        exact anyK_ok hC (opsDst_spec hd) hsel (fun S' fr' a' w' h' hk => hK .normal S' fr' a' w' h' hk) _ _ hat' hq)
      refine Code.wp_mono (fun e a w he => ?_) hwp
      rw [he.1]; exact he.2
  | .seq x y, S, fr, a, w, K, Qx, hd, hat, hq, hK => by
    simp only [codeDst, Bool.and_eq_true] at hd
    simp only [codeK] at hq
    refine wp_seq (codeK_ok hm hC hA x hd.1 hat hq fun e S' fr' a' w' hat' hq' => ?_)
    cases e with
    | normal =>
      obtain ⟨S'', hat'', eH⟩ := hat'.keepAt A y
      exact codeK_ok hm hC hA y hd.2 hat'' (by rw [eH]; exact hq') hK
    | exit id => exact hK (.exit id) S' fr' a' w' hat' hq'
    | goto l => exact hK (.goto l) S' fr' a' w' hat' hq'
    | ret => exact hK .ret S' fr' a' w' hat' hq'
  | .cond c x y, S, fr, a, w, K, Qx, hd, hat, hq, hK => by
    simp only [codeDst, Bool.and_eq_true] at hd
    simp only [codeK] at hq
    split at hq
    · rename_i t ht
      have hv := eval_opnd hat.rel c
      rw [ht] at hv
      refine wp_cond (repE_bool hv) ?_
      cases t <;> simp only [cond_true, cond_false] at hq
      · simp only [Bool.false_eq_true, if_false]; exact codeK_ok hm hC hA y hd.2 hat hq hK
      · simp only [if_true]; exact codeK_ok hm hC hA x hd.1 hat hq hK
    · exact hq.elim
  | .block id c, S, fr, a, w, K, Qx, hd, hat, hq, hK => by
    simp only [codeDst] at hd
    simp only [codeK] at hq
    refine wp_block (codeK_ok hm hC hA c hd hat hq fun e S' fr' a' w' hat' hq' => ?_)
    cases e with
    | exit i =>
      simp only [blockK] at hq'
      simp only [exOf, Exit.inBlock]
      cases hi : i == id <;> simp only [hi, cond_true, cond_false] at hq'
      · have : i ≠ id := by simpa using hi
        simp only [this, if_false]; exact hK (.exit i) S' fr' a' w' hat' hq'
      · have : i = id := by simpa using hi
        simp only [this, if_true]; exact hK .normal S' fr' a' w' hat' hq'
    | normal => exact hK .normal S' fr' a' w' hat' hq'
    | goto l => exact hK (.goto l) S' fr' a' w' hat' hq'
    | ret => exact hK .ret S' fr' a' w' hat' hq'
  | .loop c, S, fr, a, w, K, Qx, hd, hat, hq, hK => by
    simp only [codeDst] at hd
    simp only [codeK] at hq
    obtain ⟨S', hat', eH⟩ := hat.keepAt A c
    exact wp_loop_rounds rounds (loopK_ok hK (fun h => h.keepAt A c) (fun h hq' hK' => codeK_ok hm hC hA c hd h hq' hK') rounds hat' (by rw [eH]; exact hq))
  | .scope c, S, fr, a, w, K, Qx, hd, hat, hq, hK => by
    simp only [codeDst] at hd
    simp only [codeK] at hq
    exact wp_scope_from (scopeFrom_of_wp (codeK_ok hm hC hA c hd hat hq (scopeK_ends hA hd hK)))
  | .rangeFunc _ _ _ _, _, _, _, _, _, _, _, _, hq, _ => by simp only [codeK] at hq; exact hq.elim
  | .refuse _, _, _, _, _, _, _, _, _, hq, _ => by simp only [codeK] at hq; exact hq.elim

theorem againK_ok (hm : C.P.follows .mixedOrders = true) (hC : CallOK C call) : ∀ n, AgainOK C (againK C A call n) base c0 N Q
  | 0 => fun rest body {_ _ _ _ _ _} _ _ _ hq _ => hq.elim
  | n + 1 => fun rest body {S fr a w K Qx} h1 h2 hat hq hK => by
    simp only [againK] at hq
    obtain ⟨S', hat', eH⟩ := hat.keepAt A rest
    exact scopeFrom_of_wp (codeK_ok hm hC (againK_ok hm hC n) rest h1 hat' (by rw [eH]; exact hq) (scopeK_ends (againK_ok hm hC n) h2 hK))
end
end Go.Weave
