/- Functions. -/
import Derived.Test.YtjaadkgohjbadaaWvS
namespace Go.Weave
variable {P : Program} {w : World} {R : Type}

theorem sure_as {v : Value} {x : Addr} {w w' : World} (h : (Instr.sureAddr v).run P w = .ok x w') : (asAddr v).run P w = .ok x w' := by
  unfold Instr.sureAddr at h
  split at h <;> first | exact h | (simp at h ⊢; exact h) | (simp at h)

theorem load_var {t : TypeId} {v u : Value} {w w' : World} (h : (Instr.loadAt t v).run P w = .ok u w') : (do loadVar t (← asAddr v) : Sem Value).run P w = .ok u w' := by
  unfold Instr.loadAt at h
  simp only [Sem.run_bind] at h ⊢
  cases hs : (Instr.sureAddr v).run P w with
  | ok x w1 => rw [hs] at h; rw [sure_as hs]; exact h
  | halt x w1 => rw [hs] at h; simp at h

/-- One result. -/
def resVal (tmps : Array Value) : ResultVar → Sem Value
  | .tmp t => pure (tmps.getD t undef)
  | .cell a t => do loadVar t (← asAddr (tmps.getD a undef))

theorem outK_ok {S : Sc} {l : List Nat} {i : Nat} {v : Value} {x : EV} {K : AVal → List (Nat × Nat) → Tr Res} {Q : Res → Prop} (rx : RepE S v x) (h : (outK l i x K).All Q) :
    ∃ a ts, (K a ts).All Q ∧ (∀ (ren : List (Nat × Nat)), (ren.map (·.1)).Nodup → (∀ p ∈ ts, p ∈ ren) → RepC ⟨S.c, renB ren S.β, fun _ => 0, fun _ => (0, 0), S.H, []⟩ v (cvIn (l.contains i) i a)) := by
  unfold outK at h
  obtain ⟨a, ha, h'⟩ := all_optK h
  clear h
  have rep := RepE.toA rx ha
  cases hc : l.contains i <;> simp only [hc, cond_true, cond_false] at h'
  · exact ⟨a, [], h', fun ren _ _ => rep⟩
  · split at h'
    · rename_i g z es
      refine ⟨a, [(i, g)], h', fun ren hn hr => ?_⟩
      have ha' : some (AVal.sl false z es) = some a := ha
      injection ha' with ha'
      subst ha'
      refine ⟨rx.1, ?_⟩
      have : look i ren = some g := look_of_mem hn (hr _ (by simp))
      simp only [renB, this]
      exact rx.2
    · rename_i z es
      refine ⟨a, [], h', fun ren _ _ => ?_⟩
      have ha' : some (AVal.sl true z es) = some a := ha
      injection ha' with ha'
      subst ha'
      exact rep
    · exact h'.elim

theorem outsK_ok {base : Bs} {S : Sc} {fr : Fr} {a : Act} {l : List Nat} {Q : Res → Prop} (r : Rel base S fr a w) : ∀ (rs : List ResultVar) (i : Nat) {K : List AVal → List (Nat × Nat) → Tr Res},
    (outsK P l fr S.H i rs K).All Q → ∃ xs as ts, (rs.mapM (resVal a.tmps)).run P w = .ok xs w ∧ (K as ts).All Q ∧ xs.length = as.length ∧
      ∀ (ren : List (Nat × Nat)), (ren.map (·.1)).Nodup → (∀ p ∈ ts, p ∈ ren) → ∀ j, j < as.length → RepC ⟨S.c, renB ren S.β, fun _ => 0, fun _ => (0, 0), S.H, []⟩ (xs.getD j undef) (cvIn (l.contains (i + j)) (i + j) (as.getD j .undef))
  | [], i, K, h => ⟨[], [], [], by simp, h, rfl, fun _ _ _ j hj => by simp at hj⟩
  | v :: rs, i, K, h => by
    have step : ∃ u, (resVal a.tmps v).run P w = .ok u w ∧ ∃ x, RepE S u x ∧ (outK l i x fun a ts => outsK P l fr S.H (i + 1) rs fun as us => K (a :: as) (ts ++ us)).All Q := by
      cases v with
      | tmp t => exact ⟨_, rfl, _, eval_get r t, h⟩
      | cell ad t =>
        simp only [outsK] at h
        obtain ⟨u, e, hu, he, h⟩ := loadK_ok r (eval_get r ad) h
        exact ⟨u, load_var hu, e, he, h⟩
    obtain ⟨u, hu, x, hx, h1⟩ := step
    obtain ⟨y, ts, h2, hy⟩ := outK_ok hx h1
    obtain ⟨xs, as, us, hm, h3, hl, hr⟩ := outsK_ok r rs (i + 1) h2
    refine ⟨u :: xs, y :: as, ts ++ us, ?_, h3, by simp [hl], fun ren hn hsub j hj => ?_⟩
    · rw [List.mapM_cons]
      simp only [Sem.run_bind, hu, hm, Result.andThen_ok, Sem.run_pure]
    · cases j with
      | zero => simpa using hy ren hn (fun p hp => hsub p (List.mem_append_left _ hp))
      | succ j =>
        have := hr ren hn (fun p hp => hsub p (List.mem_append_right _ hp)) j (by simpa using hj)
        simp only [List.getD_cons_succ]
        rw [show i + 1 + j = i + (j + 1) by omega] at this
        exact this

theorem results_run {fn : Func} {tmps : Array Value} {xs : List Value} (h : (fn.results.toList.mapM (resVal tmps)).run P w = .ok xs w) : (results fn tmps).run P w = .ok (resultOf xs.toArray) w := by
  have e : results fn tmps = (do let vs ← fn.results.mapM (resVal tmps); pure (if h : vs.size = 1 then vs[0] else .tuple vs)) := by
    unfold results
    congr 1
  rw [e]
  simp only [Sem.run_bind]
  have h2 : (fn.results.mapM (resVal tmps)).run P w = .ok xs.toArray w := by
    rw [Array.mapM_eq_mapM_toList]
    simp [h]
  rw [h2]
  simp only [Result.andThen_ok, Sem.run_pure]
  rfl

theorem look_params {l : List Nat} {s : Nat} {e : EV} : ∀ {i : Nat} {args : List AVal}, look s (paramsOf l i args) = some e → ∃ j, s = i + j ∧ j < args.length ∧ e = .cv (cvIn (l.contains s) (tokOf s 0) (args.getD j .undef))
  | i, [], h => by simp [paramsOf, look] at h
  | i, v :: r, h => by
    simp only [paramsOf, look] at h
    cases hk : i == s <;> simp only [hk, cond_true, cond_false] at h
    · obtain ⟨j, h1, h2, h3⟩ := look_params h
      exact ⟨j + 1, by omega, by simpa using h2, by simpa using h3⟩
    · simp only [beq_iff_eq] at hk; subst hk
      simp only [Option.some.injEq] at h
      exact ⟨0, rfl, by simp, by simpa using h.symm⟩

def CallAt (C : Cfg) (f : FuncId) (g : List AVal → Heap → Tr Res) (c0 : Ctx) : Prop :=
  ∀ (args : List AVal) (H : Heap) (Q : Res → Prop), (g args H).All Q →
  ∀ (c : Ctx) (β : Owner → Option Nat) (vs : Array Value), c0.le c → HRel c β H → BRel c β → KeysOk C.P H → vs.size = args.length →
    (∀ j, j < args.length → RepC ⟨c, β, fun _ => 0, fun _ => (0, 0), H, []⟩ (vs.getD j undef) (cvIn ((C.ann f).pown.contains j) (tokOf j 0) (args.getD j .undef))) →
    Calls C.P f vs c.w fun e w' => ∃ xs c' β' r, e = .returned (resultOf xs) ∧ c'.w = w' ∧ Out C.P (C.ann f) c β c' β' xs r ∧ Q r

def ExtOK (C : Cfg) (c0 : Ctx) : Prop := GlobOK C c0 ∧ ∀ f g, C.ext f = some g → CallAt C f g c0
theorem CallOK.on {C : Cfg} {call : FuncId → List AVal → Heap → Tr Res} {c0 c : Ctx} (h : CallOK C call c0) (hle : c0.le c) : CallOK C call c :=
  ⟨fun g a hg => (h.1 g a hg).mono hle, fun f args H Q hq c' β vs hc => h.2 f args H Q hq c' β vs (Ctx.le_trans hle hc)⟩
def DstOK (P : Program) : Prop := ∀ (f : FuncId) (fn : Func) (c : Code), P.funcs[f]? = some fn → fn.body = some c → codeDst fn.ntmps c = true

/-- EVERY FUNCTION: what the evaluator says of it, the machine does. -/
theorem evFn_ok {C : Cfg} {c0 : Ctx} (hm : C.P.follows .mixedOrders = true) (hdst : DstOK C.P) (hext : ExtOK C c0) : ∀ d, CallOK C (evFn C d) c0
  | 0 => ⟨hext.1, fun f args H Q hq => hq.elim⟩
  | d + 1 => ⟨hext.1, fun f args H Q hq c β vs hc0 hh hb hk hl hr => by
    unfold evFn at hq
    split at hq
    · rename_i g hg
      exact hext.2 f g hg args H Q hq c β vs hc0 hh hb hk hl hr
    · split at hq
      · exact hq.elim
      · rename_i fn hfn
        split at hq
        · exact hq.elim
        · rename_i cd hbody
          refine calls_of_wp hfn hbody ?_
          let S0 : Sc := ⟨c, β, fun _ => 0, fun _ => (0, 0), H, []⟩
          have hat : At C (callBs c β) c fn.ntmps S0 ⟨paramsOf (C.ann f).pown 0 args, []⟩ { tmps := vs ++ Array.replicate (fn.ntmps - vs.size) undef, defers := [] } c.w := {
            pres := Pres.refl _ _ _ _
            rel := {
              w := rfl
              defers := rfl
              heap := hh
              own := hb
              baseLe := Nat.le_refl _
              bx := rfl
              env := fun s e he => by
                obtain ⟨j, h1, h2, rfl⟩ := look_params he
                have hs : s = j := by omega
                subst hs
                have hlt : s < vs.size := by omega
                have e1 : (vs ++ Array.replicate (fn.ntmps - vs.size) undef).getD s undef = vs.getD s undef := by
                  simp only [Array.getD_eq_getD_getElem?]
                  rw [Array.getElem?_append_left hlt]
                simp only [e1]
                exact hr s h2
              box := fun d b h => by simp [look] at h
              boxκ := fun d b h => by simp [look] at h
              boxι := fun d b h => by simp [look] at h
              boxinj := fun d d' b b' h => by simp [look] at h
              boxbase := fun d b h => by simp [look] at h
              tokbase := fun g b h => .inr (.inr ⟨g, h⟩)
              mgd := fun b h => .inr (.inl h) }
            keys := hk
            size := by simp; omega }
          obtain ⟨S1, hat1, eH⟩ := hat.keepAt (C.ann f) cd
          have hq' : (codeK C (C.ann f) (evFn C d) (againK C (C.ann f) (evFn C d) rounds) cd (keepAt (C.ann f) cd ⟨paramsOf (C.ann f).pown 0 args, []⟩) S1.H (retK C.P (C.ann f) fn)).All Q := by rw [eH]; exact hq
          refine codeK_ok hm ((evFn_ok hm hdst hext d).on hc0) (againK_ok hm ((evFn_ok hm hdst hext d).on hc0) rounds) cd (hdst f fn cd hfn hbody) hat1 hq' (fun e S fr a w hat hq => ?_)
          have fin : (e = .normal ∨ e = .ret) → a.defers = [] ∧ ∃ v, (results fn a.tmps).run C.P w = .ok v w ∧ ∃ xs c' β' r, Ending.returned v = .returned (resultOf xs) ∧ c'.w = w ∧ Out C.P (C.ann f) c β c' β' xs r ∧ Q r := by
            intro he
            have hq : (outsK C.P (C.ann f).rown fr S.H 0 fn.results.toList fun as ts => bif nodup (ts.map (·.1)) && nodup (ts.map (·.2)) then .ret (as, S.H) else .fail).All Q := by
              rcases he with rfl | rfl <;> exact hq
            obtain ⟨xs, as, ts, hm, h3, hlen, hres⟩ := outsK_ok hat.rel fn.results.toList 0 hq
            obtain ⟨hnd, h3⟩ := all_bif h3
            simp only [Bool.and_eq_true] at hnd
            have n1 := nodup_spec hnd.1
            have n2 := nodup_spec hnd.2
            refine ⟨hat.rel.defers, resultOf xs.toArray, results_run hm, xs.toArray, S.c, renB ts S.β, (as, S.H), rfl, hat.rel.w, ?_, h3⟩
            exact {
              heap := hat.rel.heap.ofCell fun _ _ => rfl
              own := hat.rel.own.ren n2
              keys := hat.keys
              pres := ⟨hat.pres.le, hat.pres.size, hat.pres.same, hat.pres.io⟩
              mgd := hat.rel.mgd
              tok := fun g b h => by
                simp only [renB] at h
                split at h
                · exact hat.rel.tokbase _ b h
                · simp at h
              len := by simpa using hlen
              res := fun i hi => by
                have := hres ts n1 (fun p hp => hp) i hi
                rw [Nat.zero_add] at this
                simpa using this }
          cases e with
          | normal => exact fin (.inl rfl)
          | ret => exact fin (.inr rfl)
          | exit id => exact hq.elim
          | goto l => exact hq.elim⟩
end Go.Weave
