/- Maps. -/
import Derived.Test.YtjaadkgohjbadaaWvO
namespace Go.Weave
variable {P : Program} {w : World} {R : Type} {Q : R → Prop}

abbrev KV := AVal × AVal × Nat
def RepMs (c : Ctx) (es : List MapEntry) (ms : List KV) : Prop := es.length = ms.length ∧ ∀ j, j < ms.length → RepM c (es.getD j default) (ms.getD j (.undef, .undef, 0))

theorem RepMs.tail {c : Ctx} {e : MapEntry} {es : List MapEntry} {m : KV} {ms : List KV} (h : RepMs c (e :: es) (m :: ms)) : RepM c e m ∧ RepMs c es ms :=
  ⟨by simpa using h.2 0 (by simp), by simpa using h.1, fun j hj => by simpa using h.2 (j + 1) (by simpa using hj)⟩

/-- Where a key is. -/
inductive Found (a : AVal) (ms : List KV) : Option (Nat × AVal × Nat) → Prop where
  | none (h : ∀ v n, putK a v ms n = ms ++ [(a, v, n)]) (hd : delK a ms = ms) : Found a ms none
  | some (j : Nat) (k v : AVal) (b : Nat) (hj : ms[j]? = some (k, v, b)) (hk : keyEq a k = true) (hp : ∀ v n, putK a v ms n = ms.set j (a, v, b)) (hd : delK a ms = ms.eraseIdx j) : Found a ms (some (j, v, b))

def shift1 : Option (Nat × AVal × Nat) → Option (Nat × AVal × Nat) := Option.map fun p => (p.1 + 1, p.2)

theorem findK_shift (a : AVal) : ∀ (ms : List KV) (i : Nat), findK a ms (i + 1) = shift1 (findK a ms i)
  | [], _ => rfl
  | (k, v, b) :: ms, i => by
    simp only [findK]
    cases keyEq a k
    · simp only [cond_false]; exact findK_shift a ms (i + 1)
    · simp [shift1]

theorem findK_found (a : AVal) : ∀ (ms : List KV), Found a ms (findK a ms 0)
  | [] => .none (fun _ _ => rfl) rfl
  | (k, v, b) :: ms => by
    simp only [findK]
    cases hk : keyEq a k
    · simp only [cond_false]
      rw [findK_shift]
      have ih := findK_found a ms
      generalize findK a ms 0 = r at ih
      cases ih with
      | none h hd => exact .none (fun v n => by simp [putK, hk, h]) (by simp [delK, hk, hd])
      | some j k' v' b' hj hk' hp hd => exact .some (j + 1) k' v' b' (by simpa using hj) hk' (fun v n => by simp [putK, hk, hp]) (by simp [delK, hk, hd])
    · simp only [cond_true]
      exact .some 0 k v b (by simp) hk (fun v n => by simp [putK, hk]) (by simp [delK, hk])

theorem getD_of_get {α : Type} {l : List α} {j : Nat} {x d : α} (h : l[j]? = some x) : l.getD j d = x := by simp [h]

/-- The machine finds what the evaluator finds. -/
theorem findAsking_ok {c : Ctx} {kt : TypeId} {k : Value} {a : AVal} (rk : Rep c k a) (ha : plainOk P kt a = true) : ∀ (es : List MapEntry) (ms : List KV) (i : Nat), RepMs c es ms → (∀ m ∈ ms, plainOk P kt m.1 = true) →
    (Instr.findAsking kt k es i).run P w = .ok ((findK a ms i).map fun p => (p.1, (es.getD (p.1 - i) default).val)) w
  | [], ms, i, h, _ => by
    have : ms = [] := by have := h.1; simpa using this.symm
    subst this
    simp [Instr.findAsking, findK]
  | e :: es, [], i, h, _ => by simp [RepMs] at h
  | e :: es, (k', v, b) :: ms, i, h, hp => by
    obtain ⟨hm, ht⟩ := h.tail
    have he := equal_ok (P := P) (w := w) c (t := kt) rk hm.1 ha (hp _ (by simp))
    simp only [Instr.findAsking, Sem.run_bind, he, Result.andThen_ok, findK, keyEq]
    cases hc : eqCells a.cells k'.cells
    · simp only [Bool.false_eq_true, if_false, cond_false]
      rw [findAsking_ok rk ha es ms (i + 1) ht (fun m hm => hp m (by simp [hm]))]
      have := findK_found a ms
      have hs := findK_shift a ms
      have hpos : ∀ j v b, findK a ms (i + 1) = some (j, v, b) → i < j := by
        have : ∀ (ms : List KV) (i j : Nat) v b, findK a ms i = some (j, v, b) → i ≤ j := by
          intro ms
          induction ms with
          | nil => intro i j v b h; simp [findK] at h
          | cons m ms ih =>
            obtain ⟨k', v', b'⟩ := m
            intro i j v b h
            simp only [findK] at h
            cases hk : keyEq a k' <;> simp only [hk, cond_true, cond_false] at h
            · exact Nat.le_of_succ_le (ih _ _ _ _ h)
            · simp at h; omega
        intro j v b h; exact this ms _ j v b h
      cases hf : findK a ms (i + 1) with
      | none => rfl
      | some p =>
        obtain ⟨j, v', b'⟩ := p
        have := hpos _ _ _ hf
        simp only [Option.map_some]
        rw [show j - i = (j - (i + 1)) + 1 by omega, List.getD_cons_succ]
    · simp

theorem findNow_ok {c : Ctx} {kt : TypeId} {d : TypeDesc} (hu : P.underlying kt = some d) {k : Value} {a : AVal} (rk : Rep c k a) (ha : plainOk P kt a = true) : ∀ (es : List MapEntry) (ms : List KV) (i : Nat) (r : Option (Nat × Value)), RepMs c es ms → (∀ m ∈ ms, plainOk P kt m.1 = true) →
    Instr.findNow d k es i = some r → (Instr.findAsking kt k es i).run P w = .ok r w
  | [], ms, i, r, h, _, hf => by simp [Instr.findNow] at hf; subst hf; simp [Instr.findAsking]
  | e :: es, [], i, r, h, _, _ => by simp [RepMs] at h
  | e :: es, (k', v, b) :: ms, i, r, h, hp, hf => by
    obtain ⟨hm, ht⟩ := h.tail
    have he := equal_ok (P := P) (w := w) c (t := kt) rk hm.1 ha (hp _ (by simp))
    have hs : ∀ q, Instr.sameNow d k e.key = some q → eqCells a.cells k'.cells = q := by
      intro q hq
      have hm1 := hm.1
      unfold Instr.sameNow at hq
      split at hq <;> first | (simp at hq; done) | skip
      · rename_i h1 h2
        rw [h2] at hm1
        cases rk; cases hm1
        split at hq <;> simp at hq
        simp [AVal.cells, eqCells, AVal.eq1, hq]
      · rename_i h1 h2
        rw [h2] at hm1
        cases rk; cases hm1
        simp at hq
        simp only [AVal.cells, eqCells, AVal.eq1, Bool.and_true]
        rw [← hq, beq_toListBytes, ByteArray.toList_eq, ByteArray.toList_eq]
      · rename_i h1 h2
        rw [h2] at hm1
        cases rk; cases hm1
        simp at hq
        simp [AVal.cells, eqCells, AVal.eq1, hq]
    simp only [Instr.findAsking, Sem.run_bind, he, Result.andThen_ok]
    unfold Instr.findNow at hf
    split at hf
    · rename_i h1
      rw [hs _ h1]; simp at hf; simp [hf]
    · rename_i h1
      rw [hs _ h1]
      simp only [Bool.false_eq_true, if_false]
      exact findNow_ok hu rk ha es ms (i + 1) r ht (fun m hm => hp m (by simp [hm])) hf
    · simp at hf

theorem findKey_ok {c : Ctx} {kt : TypeId} {k : Value} {a : AVal} (rk : Rep c k a) (ha : plainOk P kt a = true) {es : List MapEntry} {ms : List KV} (h : RepMs c es ms) (hp : ∀ m ∈ ms, plainOk P kt m.1 = true) :
    (Instr.findKey kt k es).run P w = .ok ((findK a ms 0).map fun p => (p.1, (es.getD p.1 default).val)) w := by
  have hu : ∃ d, P.underlying kt = some d := by
    obtain ⟨l, h1, _⟩ := plainOk_inv ha
    exact leaves_und h1
  obtain ⟨d, hu⟩ := hu
  have hask := findAsking_ok (w := w) rk ha es ms 0 h hp
  simp only [Instr.findKey, Sem.run_bind, run_underlying hu, Result.andThen_ok]
  split
  · rename_i r hr
    have := findNow_ok (w := w) hu rk ha es ms 0 r h hp hr
    rw [this] at hask
    simp only [Sem.run_pure]
    simpa using hask
  · simpa using hask

theorem run_getMap {r : Nat} {es : Array MapEntry} {clock : Nat} (hb : w.heap[r]? = some (.map es clock)) : (getObj r).run P w = .ok (.map es clock) w := by simp [getObj, Sem.run, hb]
theorem run_setMap {r : Nat} {es : Array MapEntry} {clock : Nat} (o : Go.Obj) (hb : w.heap[r]? = some (.map es clock)) : (setObj r o).run P w = .ok () { w with heap := w.heap.setIfInBounds r o } := by simp [setObj, Sem.run, hb]

/-- A map in the heap. -/
theorem map_at {base : Bs} {S : Sc} {fr : Fr} {a : Act} (r : Rel base S fr a w) {id : Nat} {kt : TypeId} {ms : List KV} {ck : Nat} (h : S.H.objs[id]? = some (.map kt ms ck)) :
    ∃ ents, w.heap[S.c.ι id]? = some (.map ents ck) ∧ RepMs S.c ents.toList ms := by
  obtain ⟨ents, h1, h2, h3⟩ := r.heap.obj id _ h
  rw [r.w] at h1
  exact ⟨ents, h1, by simpa using h2, fun j hj => by simpa using h3 j hj⟩

theorem rep_map_inv {c : Ctx} {v : Value} {m : AVal} (r : Rep c v m) (h : m.isMap = true) : v = .map (some (c.ι m.toId)) ∧ m.toId < c.n := by
  cases r <;> simp [AVal.isMap] at h
  rename_i id hid
  exact ⟨rfl, hid⟩

theorem mapK_inv {H : Heap} {m : AVal} {K : Nat → TypeId → List KV → Nat → Tr R} (h : (mapK H m K).All Q) :
    ∃ kt ms ck, m.isMap = true ∧ H.objs[m.toId]? = some (.map kt ms ck) ∧ (K m.toId kt ms ck).All Q := by
  unfold mapK at h
  obtain ⟨h1, h⟩ := all_bif h
  split at h
  · rename_i kt ms ck ho; exact ⟨kt, ms, ck, h1, ho, h⟩
  · exact h.elim

theorem RepM.mono {c c' : Ctx} (hle : c.le c') {e : MapEntry} {p : KV} (h : RepM c e p) : RepM c' e p := ⟨h.1.mono hle, h.2.1.mono hle, h.2.2⟩

/-- A map is written. -/
theorem Rel.writeMap {base : Bs} {S : Sc} {fr : Fr} {a : Act} (r : Rel base S fr a w) (hko : KeysOk P S.H) {id : Nat} {kt : TypeId} {ms ms' : List KV} {ck ck' : Nat} {ents' : Array MapEntry}
    (h : S.H.objs[id]? = some (.map kt ms ck)) (hr : RepMs S.c ents'.toList ms') (hk : ∀ m ∈ ms', plainOk P kt m.1 = true) :
    ∃ S', Rel base S' (fr.mapS SV.unbor) a { w with heap := w.heap.setIfInBounds (S.c.ι id) (.map ents' ck') } ∧ Pres base S.c S.β S'.c S'.β ∧ KeysOk P S'.H ∧ S'.H = ⟨S.H.objs.set id (.map kt ms' ck')⟩ ∧ S.c.le S'.c := by
  have r0 := r.unbor S.H S.β (fun _ => rfl) r.heap r.own r.mgd
  obtain ⟨r1, p1⟩ := r0.writeObj (unbor_noBor fr) (id := id) (o := .map kt ms ck) (o' := .map kt ms' ck') (go := .map ents' ck') (w' := { w with heap := w.heap.setIfInBounds (S.c.ι id) (.map ents' ck') }) (β' := S.β) h rfl ⟨rfl, rfl⟩ (fun _ _ => rfl) r.own
    (fun c' hle _ hg => ⟨ents', hg, by simpa using hr.1, fun j hj => RepM.mono hle (by simpa using hr.2 j hj)⟩) (fun j b hb => r.mgd b (.inr ⟨id, j, hb⟩))
  refine ⟨_, r1, p1, ?_, rfl, p1.le⟩
  intro id' kt' es' c' ho e he
  simp only at ho
  by_cases hid : id' = id
  · subst hid
    rw [List.getElem?_set_self (List.getElem?_eq_some_iff.1 h).1] at ho
    simp only [Option.some.injEq, Weave.Obj.map.injEq] at ho
    obtain ⟨rfl, rfl, rfl⟩ := ho
    exact hk e he
  · rw [List.getElem?_set_ne (Ne.symm hid)] at ho
    exact hko id' kt' es' c' ho e he

theorem lookupK_ok {base : Bs} {S : Sc} {fr : Fr} {a : Act} {t : TypeId} {vx vk : Value} {x k : EV} {ok : Bool} {K : EV → Tr R} (r : Rel base S fr a w) (hko : KeysOk P S.H) (rx : RepE S vx x) (rk : RepE S vk k)
    (h : (lookupK P t x k ok S.H K).All Q) : ∃ v e, (Instr.lookup t vx vk ok).run P w = .ok v w ∧ RepE S v e ∧ (K e).All Q := by
  unfold lookupK at h
  split at h
  · rename_i kt et hu
    obtain ⟨m, hm, h⟩ := all_optK h
    obtain ⟨k', hk, h⟩ := all_optK h
    obtain ⟨z, hz, h⟩ := all_optK h
    obtain ⟨hpk, h'⟩ := all_bif h
    clear h
    have rm := RepE.toA rx hm
    have rk' := RepE.toA rk hk
    obtain ⟨zv, hzr, hzz⟩ := run_zero (w := w) hz S.c
    have hres : ∀ (v : Value) (e : AVal) (b : Bool), Rep S.c v e → RepE S (if ok then .tuple #[v, .bool b] else v) (bif ok then .tup [.one (.val e), .one (.val (.bool b))] else .one (.val e)) := fun v e b hr => by
      cases ok
      · exact hr
      · refine ⟨#[v, .bool b], rfl, rfl, fun j hj => ?_⟩
        match j, hj with
        | 0, _ => exact hr
        | 1, _ => exact Rep.bool b
        | j + 2, hj => simp at hj; omega
    have hcond : ∀ (e : AVal) (b : Bool), (bif ok then K (.tup [.one (.val e), .one (.val (.bool b))]) else K (.one (.val e))).All Q → (K (bif ok then .tup [.one (.val e), .one (.val (.bool b))] else .one (.val e))).All Q := fun e b h => by
      cases ok <;> exact h
    split at h'
    · cases rm
      refine ⟨_, _, ?_, hres zv z false hzz, hcond z false h'⟩
      have hck := check_ok (P := P) (w := w) S.c (em := true) rk' hpk
      have hf := findKey_ok (P := P) (w := w) rk' hpk (es := []) (ms := []) ⟨rfl, fun j hj => by simp at hj⟩ (by simp)
      simp only [findK, Option.map_none] at hf
      simp only [Instr.lookup, Sem.run_bind, run_underlying hu, Result.andThen_ok, Sem.run_pure, List.isEmpty_toArray, List.isEmpty_nil]
      simp [hck, hf, hzr]
    · obtain ⟨hmm, h⟩ := all_bif h'
      clear h'
      obtain ⟨rfl, hid⟩ := rep_map_inv rm hmm
      split at h
      · rename_i kt' ms ck ho
        obtain ⟨hkt, h'⟩ := all_bif h
        clear h
        simp only [beq_iff_eq] at hkt
        subst hkt
        obtain ⟨ents, hg, hrm⟩ := map_at r ho
        have hpl := hko _ _ _ _ ho
        have hck := check_ok (P := P) (w := w) S.c (em := ents.isEmpty) rk' hpk
        have hf := findKey_ok (P := P) (w := w) rk' hpk hrm hpl
        have hfound := findK_found k' ms
        have hrun : (Instr.lookup t (.map (some (S.c.ι m.toId))) vk ok).run P w = ((Instr.findKey kt' vk ents.toList).run P w).andThen fun o w' =>
            (match o with | some (_, v) => (.ok (if ok then .tuple #[v, .bool true] else v) w' : Result Value) | none => ((zeroValue et).run P w').andThen fun v w' => .ok (if ok then .tuple #[v, .bool false] else v) w') := by
          simp only [Instr.lookup, Sem.run_bind, run_underlying hu, Result.andThen_ok, run_getMap hg, Sem.run_pure, hck]
          congr 1
          funext o w'
          rcases o with _ | ⟨_, v⟩ <;> simp
        rw [hrun, hf, Result.andThen_ok]
        split at h'
        · rename_i i v b hfi
          obtain ⟨v', hv', _, _, h⟩ : ∃ v', Rep S.c (ents.toList.getD i default).val v' ∧ _ := by
            rw [hfi] at hfound
            cases hfound with
            | some j kk _ _ hj hk2 _ _ =>
              have hlt := (List.getElem?_eq_some_iff.1 hj).1
              have hrep := (hrm.2 i hlt).2.1
              rw [getD_of_get hj] at hrep
              exact coerce_ok hrep h'
          rw [hfi]
          exact ⟨_, _, rfl, hres _ _ true hv', hcond _ _ h⟩
        · rename_i hfi
          rw [hfi]
          exact ⟨_, _, by simp only [Option.map_none, hzr, Result.andThen_ok], hres _ _ false hzz, hcond _ _ h'⟩
      · exact h.elim
  · exact h.elim

theorem set_rep {c : Ctx} {es : List MapEntry} {ms : List KV} (h : RepMs c es ms) {j : Nat} {e : MapEntry} {m : KV} (he : RepM c e m) : RepMs c (es.set j e) (ms.set j m) := by
  refine ⟨by simpa using h.1, fun i hi => ?_⟩
  have hi' : i < ms.length := by simpa using hi
  by_cases hij : j = i
  · subst hij
    have h1 : j < es.length := by have := h.1; omega
    simp [h1, hi', he]
  · have h0 := h.2 i hi'
    simp only [List.getD_eq_getElem?_getD] at h0 ⊢
    rw [List.getElem?_set_ne hij, List.getElem?_set_ne hij]
    exact h0

theorem push_rep {c : Ctx} {es : List MapEntry} {ms : List KV} (h : RepMs c es ms) {e : MapEntry} {m : KV} (he : RepM c e m) : RepMs c (es ++ [e]) (ms ++ [m]) := by
  have hl := h.1
  refine ⟨by simp [hl], fun i hi => ?_⟩
  simp only [List.length_append, List.length_singleton] at hi
  by_cases hlt : i < ms.length
  · have h0 := h.2 i hlt
    simp only [List.getD_eq_getElem?_getD] at h0 ⊢
    rw [List.getElem?_append_left (by omega), List.getElem?_append_left hlt]
    exact h0
  · have e1 : i = ms.length := by omega
    subst e1
    simp only [List.getD_eq_getElem?_getD]
    rw [List.getElem?_append_right (by omega), List.getElem?_append_right (by omega)]
    simp [hl, he]

theorem erase_rep {c : Ctx} {es : List MapEntry} {ms : List KV} (h : RepMs c es ms) {j : Nat} : RepMs c (es.eraseIdx j) (ms.eraseIdx j) := by
  have hl := h.1
  refine ⟨by simp [List.length_eraseIdx, hl], fun i hi => ?_⟩
  have hi' : i < ms.length := by have := List.length_eraseIdx_le ms j; omega
  simp only [List.getD_eq_getElem?_getD, List.getElem?_eraseIdx]
  split
  · simpa only [List.getD_eq_getElem?_getD] using h.2 i hi'
  · rename_i hij
    have : i + 1 < ms.length := by
      rw [List.length_eraseIdx] at hi
      split at hi <;> omega
    simpa only [List.getD_eq_getElem?_getD] using h.2 (i + 1) this

theorem mem_set_keys {kt : TypeId} {ms : List KV} (hp : ∀ m ∈ ms, plainOk P kt m.1 = true) {j : Nat} {m : KV} (hm : plainOk P kt m.1 = true) : ∀ x ∈ ms.set j m, plainOk P kt x.1 = true := fun x hx => by
  rcases List.mem_or_eq_of_mem_set hx with h | rfl
  · exact hp x h
  · exact hm

theorem modify_list {α : Type} {ents : Array α} {i : Nat} {f : α → α} {d : α} (h : i < ents.size) : (ents.modify i f).toList = ents.toList.set i (f (ents.toList.getD i d)) := by
  rw [Array.toList_modify]
  apply List.ext_getElem?
  intro j
  rw [List.getElem?_modify]
  by_cases hij : i = j
  · subst hij
    rw [List.getElem?_set_self (by simpa using h)]
    simp [h]
  · rw [List.getElem?_set_ne hij]
    simp [hij]

/-- What a put comes to, on both sides. -/
theorem put_run {base : Bs} {S : Sc} {fr : Fr} {a : Act} (r : Rel base S fr a w) (hko : KeysOk P S.H) {id : Nat} {kt : TypeId} {ms : List KV} {ck : Nat} (ho : S.H.objs[id]? = some (.map kt ms ck))
    {vk : Value} {k : AVal} (rk : Rep S.c vk k) (hpk : plainOk P kt k = true) {ents : Array MapEntry} (_hg : w.heap[S.c.ι id]? = some (.map ents ck)) (hrm : RepMs S.c ents.toList ms) :
    (∃ i v b, findK k ms 0 = some (i, v, b) ∧ (ents.toList.getD i default).key = vk ∧ ents[i]? = some (ents.toList.getD i default) ∧ Rep S.c (ents.toList.getD i default).val v ∧ (ents.toList.getD i default).born = b ∧
      ∀ (nv : Value) (n : AVal) (c : Nat), Rep S.c nv n → ∃ S', Rel base S' (fr.mapS SV.unbor) a { w with heap := w.heap.setIfInBounds (S.c.ι id) (.map (ents.modify i fun e => { e with key := vk, val := nv }) ck) } ∧
        Pres base S.c S.β S'.c S'.β ∧ KeysOk P S'.H ∧ S'.H = ⟨S.H.objs.set id (.map kt (putK k n ms c) ck)⟩ ∧ S.c.le S'.c) ∨
    (findK k ms 0 = none ∧ ∀ (nv : Value) (n : AVal), Rep S.c nv n → ∃ S', Rel base S' (fr.mapS SV.unbor) a { w with heap := w.heap.setIfInBounds (S.c.ι id) (.map (ents.push { key := vk, val := nv, born := ck }) (ck + 1)) } ∧
        Pres base S.c S.β S'.c S'.β ∧ KeysOk P S'.H ∧ S'.H = ⟨S.H.objs.set id (.map kt (putK k n ms ck) (ck + 1))⟩ ∧ S.c.le S'.c) := by
  have hpl := hko _ _ _ _ ho
  have hfound := findK_found k ms
  generalize hf : findK k ms 0 = o at hfound
  cases hfound with
  | none h1 _ =>
    refine .inr ⟨rfl, fun nv n hn => ?_⟩
    rw [h1]
    exact r.writeMap hko ho (by rw [Array.toList_push]; exact push_rep hrm ⟨rk, hn, rfl⟩) (fun m hm => by
      rcases List.mem_append.1 hm with h | h
      · exact hpl m h
      · simp at h; subst h; exact hpk)
  | some i k' v b hj hk hp _ =>
    have hlt := (List.getElem?_eq_some_iff.1 hj).1
    have hrep := hrm.2 i hlt
    rw [getD_of_get hj] at hrep
    have hlt' : i < ents.size := by have := hrm.1; simp at this; omega
    have hsame := key_same (P := P) rk hrep.1 hpk (hpl _ (List.mem_of_getElem? hj)) hk
    refine .inl ⟨i, v, b, rfl, hsame.1.symm, by simp [hlt'], hrep.2.1, hrep.2.2, fun nv n c hn => ?_⟩
    rw [hp]
    exact r.writeMap hko ho (by rw [modify_list (d := default) hlt']; exact set_rep hrm ⟨rk, hn, hrep.2.2⟩) (mem_set_keys hpl hpk)

theorem mapUpdateK_ok {base : Bs} {S : Sc} {fr : Fr} {a : Act} {t : TypeId} {vm vk vv : Value} {m k v : EV} {K : Heap → Tr R} (r : Rel base S fr a w) (hko : KeysOk P S.H) (rm : RepE S vm m) (rk : RepE S vk k) (rv : RepE S vv v)
    (h : (mapUpdateK P t m k v S.H K).All Q) :
    ∃ w' S', (Instr.mapUpdate t vm vk vv).run P w = .ok () w' ∧ Pres base S.c S.β S'.c S'.β ∧ Rel base S' (fr.mapS SV.unbor) a w' ∧ KeysOk P S'.H ∧ (K S'.H).All Q := by
  unfold mapUpdateK at h
  split at h
  · rename_i kt et hu
    obtain ⟨m', hm, h⟩ := all_optK h
    obtain ⟨k', hk, h⟩ := all_optK h
    obtain ⟨v', hv, h⟩ := all_optK h
    obtain ⟨hpk, h⟩ := all_bif h
    obtain ⟨kt', ms, ck, hmm, ho, h⟩ := mapK_inv h
    obtain ⟨hkt, h'⟩ := all_bif h
    clear h
    simp only [beq_iff_eq] at hkt
    subst hkt
    obtain ⟨rfl, hid⟩ := rep_map_inv (RepE.toA rm hm) hmm
    have rk' := RepE.toA rk hk
    have rv' := RepE.toA rv hv
    obtain ⟨ents, hg, hrm⟩ := map_at r ho
    have hck := check_ok (P := P) (w := w) S.c (em := false) rk' hpk
    have hf := findKey_ok (P := P) (w := w) rk' hpk hrm (hko _ _ _ _ ho)
    rcases put_run r hko ho rk' hpk hg hrm with ⟨i, v0, b, h1, h2, h3, _, _, h4⟩ | ⟨h1, h4⟩
    · obtain ⟨S', r1, p1, k1, e1, _⟩ := h4 vv v' ck rv'
      refine ⟨_, S', ?_, p1, r1, k1, ?_⟩
      · rw [h1] at hf
        have hst := key_stays (P := P) (w := w) rk' hpk
        simp only [Instr.mapUpdate, Sem.run_bind, run_underlying hu, Result.andThen_ok, run_getMap hg, hck, hf, Option.map_some]
        rw [h3]
        simp only [Option.map_some, Option.getD_some, h2, hst, Result.andThen_ok, run_setMap _ hg]
      · rw [e1]
        simp only [hasK, h1, Option.isSome_some, cond_true] at h'
        exact h'
    · obtain ⟨S', r1, p1, k1, e1, _⟩ := h4 vv v' rv'
      refine ⟨_, S', ?_, p1, r1, k1, ?_⟩
      · rw [h1] at hf
        simp only [Instr.mapUpdate, Sem.run_bind, run_underlying hu, Result.andThen_ok, run_getMap hg, hck, hf, Option.map_none, run_setMap _ hg]
      · rw [e1]
        simp only [hasK, h1, Option.isSome_none, cond_false] at h'
        exact h'
  · exact h.elim

theorem tup2 {S : Sc} {v u : Value} {x y : AVal} (h1 : Rep S.c v x) (h2 : Rep S.c u y) : RepE S (.tuple #[v, u]) (.tup [.one (.val x), .one (.val y)]) := by
  refine ⟨#[v, u], rfl, rfl, fun j hj => ?_⟩
  match j, hj with
  | 0, _ => exact h1
  | 1, _ => exact h2
  | j + 2, hj => simp at hj; omega

theorem mapEntryK_ok {base : Bs} {S : Sc} {fr : Fr} {a : Act} {t : TypeId} {vm vk : Value} {m k : EV} {K : EV → Heap → Tr R} (r : Rel base S fr a w) (hko : KeysOk P S.H) (rm : RepE S vm m) (rk : RepE S vk k)
    (h : (mapEntryK P t m k S.H K).All Q) :
    ∃ v e w' S', (Instr.mapEntry t vm vk).run P w = .ok v w' ∧ Pres base S.c S.β S'.c S'.β ∧ Rel base S' (fr.mapS SV.unbor) a w' ∧ RepE S' v e ∧ KeysOk P S'.H ∧ (K e S'.H).All Q := by
  unfold mapEntryK at h
  split at h
  · rename_i kt et hu
    obtain ⟨m', hm, h⟩ := all_optK h
    obtain ⟨k', hk, h⟩ := all_optK h
    obtain ⟨z, hz, h⟩ := all_optK h
    obtain ⟨hpk, h⟩ := all_bif h
    obtain ⟨kt', ms, ck, hmm, ho, h⟩ := mapK_inv h
    obtain ⟨hkt, h'⟩ := all_bif h
    clear h
    simp only [beq_iff_eq] at hkt
    subst hkt
    obtain ⟨rfl, hid⟩ := rep_map_inv (RepE.toA rm hm) hmm
    have rk' := RepE.toA rk hk
    obtain ⟨zv, hzr, hzz⟩ := run_zero (w := w) hz S.c
    obtain ⟨ents, hg, hrm⟩ := map_at r ho
    have hck := check_ok (P := P) (w := w) S.c (em := false) rk' hpk
    have hf := findKey_ok (P := P) (w := w) rk' hpk hrm (hko _ _ _ _ ho)
    rcases put_run r hko ho rk' hpk hg hrm with ⟨i, v0, b, h1, h2, h3, hv, hb, h4⟩ | ⟨h1, h4⟩
    · rw [h1] at h' hf
      obtain ⟨v1, hv1, _, _, h⟩ := coerce_ok hv h'
      obtain ⟨S', r1, p1, k1, e1, hle⟩ := h4 _ v1 ck hv1
      refine ⟨.tuple #[(ents.toList.getD i default).val, goInt b], .tup [.one (.val v1), .one (.val (.int .i64 b))], _, S', ?_, p1, r1, tup2 (hv1.mono hle) (.int .i64 b), k1, by rw [e1]; exact h⟩
      have hst := key_stays (P := P) (w := w) rk' hpk
      have hmod : (ents.modify i fun e => { e with key := vk, val := (ents.toList.getD i default).val }) = ents.modify i fun e => { e with key := vk } := by
        have hlt' : i < ents.size := (Array.getElem?_eq_some_iff.1 h3).1
        apply Array.ext'
        rw [modify_list (d := default) hlt', modify_list (d := default) hlt']
      simp only [Instr.mapEntry, Sem.run_bind, run_underlying hu, Result.andThen_ok, run_getMap hg, hck, hf, Option.map_some]
      rw [h3]
      simp only [Option.map_some, Option.getD_some, h2, hst, Result.andThen_ok, run_setMap _ hg, Sem.run_pure, hb, hmod]
    · obtain ⟨S', r1, p1, k1, e1, hle⟩ := h4 zv z hzz
      rw [h1] at h' hf
      refine ⟨.tuple #[zv, goInt ck], .tup [.one (.val z), .one (.val (.int .i64 ck))], _, S', ?_, p1, r1, tup2 (hzz.mono hle) (.int .i64 ck), k1, by rw [e1]; exact h'⟩
      simp only [Instr.mapEntry, Sem.run_bind, run_underlying hu, Result.andThen_ok, run_getMap hg, hck, hf, Option.map_none, hzr, run_setMap _ hg, Sem.run_pure]
  · exact h.elim

theorem entryStoreK_ok {base : Bs} {S : Sc} {fr : Fr} {a : Act} {t : TypeId} {vm vs vv : Value} {m s v : EV} {K : Heap → Tr R} (r : Rel base S fr a w) (hko : KeysOk P S.H) (rm : RepE S vm m) (rs : RepE S vs s) (rv : RepE S vv v)
    (h : (entryStoreK m s v S.H K).All Q) :
    ∃ w' S', (Instr.entryStore t vm vs vv).run P w = .ok () w' ∧ Pres base S.c S.β S'.c S'.β ∧ Rel base S' (fr.mapS SV.unbor) a w' ∧ KeysOk P S'.H ∧ (K S'.H).All Q := by
  unfold entryStoreK at h
  obtain ⟨m', hm, h⟩ := all_optK h
  obtain ⟨kk, b, rfl, h⟩ := intOf_ok h
  obtain rfl := repE_int rs
  obtain ⟨v', hv, h⟩ := all_optK h
  obtain ⟨kt, ms, ck, hmm, ho, h⟩ := mapK_inv h
  obtain ⟨hbn, h'⟩ := all_bif h
  clear h
  obtain ⟨rfl, hid⟩ := rep_map_inv (RepE.toA rm hm) hmm
  have rv' := RepE.toA rv hv
  obtain ⟨ents, hg, hrm⟩ := map_at r ho
  have hpl := hko _ _ _ _ ho
  have key : ∀ (es : List MapEntry) (ms : List KV), RepMs S.c es ms → hasBorn b ms = true → ∃ i, es.findIdx? (fun e => (e.born : Int) == b) = some i ∧ i < es.length ∧
      setBorn b v' ms = ms.set i ((ms.getD i (.undef, .undef, 0)).1, v', (ms.getD i (.undef, .undef, 0)).2.2) := by
    intro es
    induction es with
    | nil => intro ms h hb; have : ms = [] := by have := h.1; simpa using this.symm
             subst this; simp [hasBorn] at hb
    | cons e es ih =>
      intro ms h hb
      cases ms with
      | nil => simp [RepMs] at h
      | cons x ms =>
        obtain ⟨k', v'', b'⟩ := x
        obtain ⟨h1, h2⟩ := h.tail
        have hbe : e.born = b' := h1.2.2
        simp only [List.findIdx?_cons, hbe, setBorn]
        by_cases hc : (b' : Int) = b
        · refine ⟨0, by simp [hc], by simp, by simp [hc]⟩
        · have hb' : hasBorn b ms = true := by simpa [hasBorn, hc] using hb
          obtain ⟨i, e1, e2, e3⟩ := ih ms h2 hb'
          refine ⟨i + 1, by simp [hc, e1], by simpa using e2, by simp [hc, e3]⟩
  obtain ⟨i, e1, e2, e3⟩ := key ents.toList ms hrm hbn
  have hlt : i < ents.size := by simpa using e2
  have hlm : i < ms.length := by have := hrm.1; omega
  have hrep := hrm.2 i hlm
  obtain ⟨S', r1, p1, k1, eh, hle⟩ := r.writeMap hko ho (ents' := ents.modify i fun e => { e with val := vv }) (ms' := setBorn b v' ms) (ck' := ck)
    (by rw [modify_list (d := default) hlt, e3]; exact set_rep hrm ⟨hrep.1, rv', hrep.2.2⟩)
    (by rw [e3]; exact mem_set_keys hpl (by have := hpl ms[i] (List.getElem_mem hlm); simpa [hlm] using this))
  refine ⟨_, S', ?_, p1, r1, k1, by rw [eh]; exact h'⟩
  have e1' : ents.findIdx? (fun e => (e.born : Int) == b) = some i := by obtain ⟨l⟩ := ents; simpa using e1
  simp [Instr.entryStore, run_getMap hg, asInt, asIntOf, e1', run_setMap _ hg]

theorem deleteK_ok {base : Bs} {S : Sc} {fr : Fr} {a : Act} {t ty : TypeId} {ts : List TypeId} {vm vk : Value} {m k : EV} {K : Heap → Tr R} (r : Rel base S fr a w) (hko : KeysOk P S.H) (rm : RepE S vm m) (rk : RepE S vk k)
    (h : (deleteK P t m k S.H K).All Q) :
    ∃ w' S', (Builtin.delete_ (t :: ts).toArray ty #[vm, vk]).run P w = .ok (.tuple #[]) w' ∧ Pres base S.c S.β S'.c S'.β ∧ Rel base S' (fr.mapS SV.unbor) a w' ∧ KeysOk P S'.H ∧ (K S'.H).All Q := by
  unfold deleteK at h
  split at h
  · rename_i kt et hu
    obtain ⟨m', hm, h⟩ := all_optK h
    obtain ⟨k', hk, h⟩ := all_optK h
    obtain ⟨hpk, h⟩ := all_bif h
    obtain ⟨kt', ms, ck, hmm, ho, h⟩ := mapK_inv h
    obtain ⟨hkt, h'⟩ := all_bif h
    clear h
    simp only [beq_iff_eq] at hkt
    subst hkt
    obtain ⟨rfl, hid⟩ := rep_map_inv (RepE.toA rm hm) hmm
    have rk' := RepE.toA rk hk
    obtain ⟨ents, hg, hrm⟩ := map_at r ho
    have hpl := hko _ _ _ _ ho
    have hck := check_ok (P := P) (w := w) S.c (em := ents.isEmpty) rk' hpk
    have hf := findKey_ok (P := P) (w := w) rk' hpk hrm hpl
    have hfound := findK_found k' ms
    generalize hfo : findK k' ms 0 = o at hfound hf
    have hargs : ((t :: ts).toArray[0]? = some t) := by simp
    cases hfound with
    | none _ hd =>
      obtain ⟨S', r1, p1, k1, eh, _⟩ := r.writeMap hko ho (ents' := ents) (ms' := delK k' ms) (ck' := ck) (by rw [hd]; exact hrm) (by rw [hd]; exact hpl)
      refine ⟨_, S', ?_, p1, r1, k1, by rw [eh]; exact h'⟩
      simp only [Option.map_none] at hf
      simp [Builtin.delete_, run_underlying hu, run_getMap hg, hck, hf, run_setMap _ hg]
    | some i kk v b hj _ _ hd =>
      obtain ⟨S', r1, p1, k1, eh, _⟩ := r.writeMap hko ho (ents' := ents.eraseIdxIfInBounds i) (ms' := delK k' ms) (ck' := ck)
        (by rw [hd, Array.toList_eraseIdxIfInBounds]; exact erase_rep hrm) (fun x hx => by rw [hd] at hx; exact hpl x (List.mem_of_mem_eraseIdx hx))
      refine ⟨_, S', ?_, p1, r1, k1, by rw [eh]; exact h'⟩
      simp only [Option.map_some] at hf
      simp [Builtin.delete_, run_underlying hu, run_getMap hg, hck, hf, run_setMap _ hg]
  · exact h.elim

theorem makeMap_ok {base : Bs} {S : Sc} {fr : Fr} {a : Act} (r : Rel base S fr a w) (hko : KeysOk P S.H) (kt : TypeId) :
    ∃ S', Rel base S' fr a (w.alloc (.map #[] 0)) ∧ Pres base S.c S.β S'.c S'.β ∧ KeysOk P S'.H ∧ S'.H = S.H.push (.map kt [] 0) ∧ Rep S'.c (.map (some w.heap.size)) (.map S.H.objs.length) := by
  have hsz : S.c.w.heap.size = w.heap.size := by rw [r.w]
  have hnone : ∀ j, S.β (.cell S.c.n j) = none := fun j => by
    cases h : S.β (.cell S.c.n j) with
    | none => rfl
    | some b => have := r.own.cl _ _ _ h; omega
  obtain ⟨r1, p1⟩ := r.newObj (o := .map kt [] 0) (go := .map #[] 0) (β' := S.β) (fun _ _ => rfl) r.own.grow
    ⟨#[], by simp only [Ctx.grow, Ctx.alloc, if_true]; exact alloc_new, rfl, fun j hj => by simp at hj⟩ (fun j b hb => by rw [hnone] at hb; cases hb)
  refine ⟨_, r1, p1, ?_, rfl, ?_⟩
  · intro id kt' es c' ho e he
    simp only [Heap.push] at ho
    by_cases hid : id < S.H.objs.length
    · rw [List.getElem?_append_left hid] at ho
      exact hko id kt' es c' ho e he
    · have := (List.getElem?_eq_some_iff.1 ho).1
      have e1 : id = S.H.objs.length := by simp at this; omega
      subst e1
      simp at ho
      obtain ⟨rfl, rfl, rfl⟩ := ho
      simp at he
  · have h1 : (S.c.grow (.map #[] 0)).ι S.c.n = w.heap.size := by simp [Ctx.grow, hsz]
    rw [← h1, ← r.heap.n]
    exact .map _ (Nat.lt_succ_self _)
end Go.Weave
