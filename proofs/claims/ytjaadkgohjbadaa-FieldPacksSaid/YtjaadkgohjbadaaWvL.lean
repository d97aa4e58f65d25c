/- append. -/
import Derived.Test.YtjaadkgohjbadaaWvK
import Derived.Laws.Append
namespace Go.Weave
variable {P : Program} {w : World} {R : Type} {Q : R → Prop}

theorem okEl_byte (b : UInt8) : okEl 0 (ofByte b) := ⟨rfl, rfl, fun x hx => by simp [ofByte, AVal.cells] at hx; subst hx; rfl⟩

theorem Flat.append {c : Ctx} {xs ys rest : Array Value} {sz : Nat} {es fs : List AVal} (h : Flat c xs sz es) (hx : xs.size = es.length * cnt sz) (h' : Flat c ys sz fs) :
    Flat c (xs ++ ys ++ rest) sz (es ++ fs) := by
  have hl := h'.len
  refine ⟨by simp [Nat.add_mul]; omega, fun e he => ?_, fun i j hi hj => ?_⟩
  · rcases List.mem_append.1 he with he | he
    · exact h.ok e he
    · exact h'.ok e he
  · simp only [List.length_append] at hi
    by_cases h1 : i < es.length
    · have hlt := cell_lt h1 hj
      have e1 : (xs ++ ys ++ rest).getD (i * cnt sz + j) undef = xs.getD (i * cnt sz + j) undef := by
        simp only [Array.getD_eq_getD_getElem?]
        rw [Array.append_assoc, Array.getElem?_append_left (by omega)]
      have e2 : (es ++ fs).getD i .undef = es.getD i .undef := by
        simp only [List.getD_eq_getElem?_getD]
        rw [List.getElem?_append_left h1]
      rw [e1, e2]
      exact h.rep i j h1 hj
    · have h2 : i - es.length < fs.length := by omega
      have hlt := cell_lt h2 hj
      have hi' : i * cnt sz + j - xs.size = (i - es.length) * cnt sz + j := by
        rw [hx, Nat.sub_mul]
        have : es.length * cnt sz ≤ i * cnt sz := Nat.mul_le_mul_right _ (by omega)
        omega
      have hge : xs.size ≤ i * cnt sz + j := by
        rw [hx]
        have : es.length * cnt sz ≤ i * cnt sz := Nat.mul_le_mul_right _ (by omega)
        omega
      have e1 : (xs ++ ys ++ rest).getD (i * cnt sz + j) undef = ys.getD ((i - es.length) * cnt sz + j) undef := by
        simp only [Array.getD_eq_getD_getElem?]
        rw [Array.append_assoc, Array.getElem?_append_right hge, hi', Array.getElem?_append_left (by omega)]
      have e2 : (es ++ fs).getD i .undef = fs.getD (i - es.length) .undef := by
        simp only [List.getD_eq_getElem?_getD]
        rw [List.getElem?_append_right (by omega)]
      rw [e1, e2]
      exact h'.rep _ j h2 hj

theorem src_ok {c : Ctx} {v : Value} {full : Bool} {sz n : Nat} {es : List AVal} (hn : cnt sz = n) (r : Rep c v (.sl full sz es)) :
    ∃ xs, (∀ w : World, w.heap = c.w.heap → (Builtin.firstCells n es.length v).run P w = .ok xs w) ∧ (∀ w : World, (Builtin.lenOf v).run P w = .ok es.length w) ∧ xs.size = es.length * cnt sz ∧ Flat c xs sz es := by
  rcases r.slInv with ⟨x, rfl, rfl⟩ | ⟨b, off, cap, rfl, hat⟩
  · exact ⟨#[], fun _ _ => by cases x <;> simp [Builtin.firstCells] <;> rfl, fun _ => rfl, by simp, by simp, by simp, fun i j hi => by simp at hi⟩
  · obtain ⟨hcap, _, lim, f, hk, hl, he, hc, hr⟩ := hat
    subst hn
    by_cases hz : cnt sz = 0
    · refine ⟨#[], fun w _ => ?_, fun _ => rfl, by simp [hz], by simp [hz], he, fun i j _ hj => by omega⟩
      simp only [Builtin.firstCells, hz, Nat.mul_zero]
      rfl
    · have hpos : 0 < cnt sz := by omega
      have hcell : ∀ w : World, w.heap = c.w.heap → ∀ k, k < es.length * cnt sz → w.cell? ((⟨b, off, none⟩ : Addr).add k) = some (f (k / cnt sz) (k % cnt sz)) := fun w hw k hk => by
        rw [add_at]
        have h1 : k / cnt sz < es.length := Nat.div_lt_of_lt_mul (by rw [Nat.mul_comm]; exact hk)
        have h2 : k % cnt sz < cnt sz := Nat.mod_lt _ hpos
        have := hc _ _ h1 h2
        rw [← this, World.cell?, World.cell?, hw]
        simp only
        congr 2
        have := Nat.div_add_mod k (cnt sz)
        rw [Nat.mul_comm] at this
        have e : off + k = off + k / cnt sz * cnt sz + k % cnt sz := by omega
        rw [e]
      refine ⟨_, fun w hw => run_loadCells (P := P) w ⟨b, off, none⟩ (es.length * cnt sz) (fun k => f (k / cnt sz) (k % cnt sz)) (hcell w hw), fun _ => rfl, by simp, by simp, he, fun i j hi hj => ?_⟩
      have hlt := cell_lt hi hj
      rw [getD_range _ hlt]
      have h1 : (i * cnt sz + j) / cnt sz = i := by rw [Nat.mul_comm, Nat.mul_add_div hpos, Nat.div_eq_of_lt hj]; rfl
      have h2 : (i * cnt sz + j) % cnt sz = j := by rw [Nat.mul_comm, Nat.mul_add_mod, Nat.mod_eq_of_lt hj]
      simp only [h1, h2]
      exact hr i j hi hj

theorem bytes_flat (c : Ctx) (s : ByteArray) : Flat c (s.data.map fun b => .int .u8 b.toNat) 0 (s.data.toList.map ofByte) := by
  refine ⟨by simp [cnt], fun e he => ?_, fun i j hi hj => ?_⟩
  · obtain ⟨b, _, rfl⟩ := List.mem_map.1 he
    exact okEl_byte b
  · have hj0 : j = 0 := by simp [cnt] at hj; omega
    subst hj0
    have hi' : i < s.data.size := by simpa using hi
    have e1 : (s.data.map fun b => Value.int .u8 b.toNat).getD (i * cnt 0 + 0) undef = .int .u8 (s.data[i].toNat) := by
      have : i * cnt 0 + 0 = i := by simp [cnt]
      rw [this, Array.getD_eq_getD_getElem?, Array.getElem?_map, Array.getElem?_eq_getElem hi']
      rfl
    have e2 : (s.data.toList.map ofByte).getD i .undef = ofByte s.data[i] := by
      rw [List.getD_eq_getElem?_getD, List.getElem?_map, Array.getElem?_toList, Array.getElem?_eq_getElem hi']
      rfl
    rw [e1, e2]
    exact .int .u8 _

theorem appendSrc_ok {S : Sc} {e : TypeId} {vy : Value} {y : EV} {ys : List AVal} (hel : elOk P e = true) (ry : RepE S vy y) (h : appendSrc P e y = some ys) :
    ∃ xs, (∀ w : World, w.heap = S.c.w.heap → (Builtin.firstCells (szOf P e) ys.length vy).run P w = .ok xs w) ∧ (∀ w : World, (Builtin.lenOf vy).run P w = .ok ys.length w) ∧ xs.size = ys.length * cnt (shp P e) ∧ Flat S.c xs (shp P e) ys := by
  obtain ⟨hpos, hcnt⟩ := elOk_spec hel
  unfold appendSrc at h
  split at h
  · rename_i s
    split at h
    · rename_i hu
      simp only [Option.some.injEq] at h
      subst h
      obtain ⟨b, rfl, rfl⟩ := Rep.strInv (show Rep S.c vy (.str _) from ry)
      have ha : aggT P e = false := by simp [aggT, hu]
      have hs : shp P e = 0 := by simp [shp, ha]
      have hb : b.extract 0 (b.data.toList.map ofByte).length = b := by
        have : (b.data.toList.map ofByte).length = b.size := by simp
        rw [this]
        apply ByteArray.ext
        simp
      refine ⟨b.data.map fun x => .int .u8 x.toNat, fun w _ => ?_, fun w => by simp [Builtin.lenOf], by rw [hs]; simp [cnt], by rw [hs]; exact bytes_flat S.c b⟩
      simp only [Builtin.firstCells]
      rw [hb]
      rfl
    · simp at h
  · split at h
    · rename_i full sz es hA
      cases hb : (sz == shp P e || es.isEmpty) <;> simp only [hb, cond_true, cond_false, reduceCtorEq, Option.some.injEq] at h
      subst h
      exact src_ok hcnt ((RepE.toA ry hA).slEmpty hb)
    · simp at h

/-- A row's cells behind what stands in it are written. -/
theorem Rel.writeEnd {base : Bs} {S : Sc} {fr : Fr} {a : Act} (r : Rel base S fr a w) {b lim lim' : Nat} {cur cur' : Array Value} {el : TypeId} (hno : ∀ o, S.β o ≠ some b) (hk : S.c.κ b = some lim) (hle : lim ≤ lim')
    (hg : w.heap[b]? = some (.cells cur el (0, 0))) (hs : cur'.size = cur.size) (hsame : ∀ j, j < lim → cur'.getD j undef = cur.getD j undef) (hb : base.ok b) :
    ∃ c', c'.w = w.setRow b cur' ∧ c'.κ b = some lim' ∧ Rel base (S.withC c') fr a (w.setRow b cur') ∧ Pres base S.c S.β c' S.β ∧ S.c.le c' ∧ (∀ b', b' ≠ b → c'.κ b' = S.c.κ b' ∧ c'.w.heap[b']? = S.c.w.heap[b']?) := by
  have hw := r.w
  have hother : ∀ b', b' ≠ b → (w.setRow b cur').heap[b']? = S.c.w.heap[b']? := fun b' h => by rw [setRow_other _ _ _ _ h, hw]
  have hnew : (w.setRow b cur').heap[b]? = some (.cells cur' el (0, 0)) := setRow_heap w b cur cur' el (0, 0) hg
  let c' : Ctx := { S.c with w := w.setRow b cur', κ := fun b' => if b' = b then some lim' else S.c.κ b' }
  have hlee : S.c.le c' := by
    refine ⟨Nat.le_refl _, fun _ _ => rfl, fun b' l h => ?_⟩
    by_cases e : b' = b
    · subst e
      rw [hk] at h
      simp only [Option.some.injEq] at h
      subst h
      refine ⟨lim', by simp [c'], hle, fun o ho => ?_⟩
      have h1 := hsame o ho
      simp only [c']
      have e1 : (w.setRow b' cur').cell? ⟨b', o, none⟩ = cur'[o]? := by simp [World.cell?, hnew]
      have e2 : S.c.w.cell? ⟨b', o, none⟩ = cur[o]? := by rw [hw]; simp [World.cell?, hg]
      rw [e1, e2]
      by_cases ho' : o < cur.size
      · have ho2 : o < cur'.size := by omega
        simp [ho', ho2] at h1 ⊢
        exact h1
      · rw [Array.getElem?_eq_none (by omega), Array.getElem?_eq_none (by omega)]
    · exact ⟨l, by simp [c', e, h], Nat.le_refl _, fun o _ => cell_of_heap (hother b' e)⟩
  have hleans : ∀ b', Leans S fr b' → b' ≠ b := fun b' h e => by
    subst e
    rcases h with ⟨id, hid, rfl⟩ | ⟨o, ho⟩ | ⟨d, x, hx, rfl⟩
    · rw [r.heap.κ id hid] at hk; cases hk
    · exact hno o ho
    · rw [r.boxκ d x hx] at hk; cases hk
  refine ⟨c', rfl, by simp [c'], ?_, ⟨hlee, by simp [c', hw], fun b' hb' => ⟨hother b' (fun e => hb' (by rw [e]; exact hb)), by simp only [c']; rw [if_neg (fun e => hb' (by rw [e]; exact hb))]⟩, by simp only [c']; rw [hw]; exact ⟨rfl, rfl⟩⟩, hlee, fun b' e => ⟨by simp [c', e], hother b' e⟩⟩
  exact r.move (c' := c') hlee rfl (by simp [c', hw]) (fun b' h => hother b' (hleans b' h)) (fun b' h => by simp [c', hleans b' h]) (fun b' l h => by
    simp only [c'] at h ⊢
    split at h
    · rename_i e; subst e; simp; exact lt_of_heap hg
    · have := r.own.lim b' l h; rw [hw] at this; simpa using this)

theorem run_fits {t : TypeId} (h : 0 < szOf P t) : ∃ i, P.info? t = some i ∧ (typeInfo t).run P w = .ok i w ∧ i.bytes = bytesOf P t := by
  unfold szOf at h
  cases hi : P.info? t with
  | none => simp [hi] at h
  | some i => exact ⟨i, rfl, by simp [typeInfo, hi], by simp [bytesOf, hi]⟩

/-- append, where there is room. -/
theorem append_room {t ty e : TypeId} {dy : TypeDesc} {tr : TypeId} {base : Option Addr} {len cap : Nat} {vy : Value} {n : Nat} {news : Array Value} {w' : World}
    (ht : P.underlying t = some (.slice e)) (hty : P.underlying ty = some dy) (hni : ∀ k, dy ≠ .int k) (hpos : 0 < szOf P e) (hnews : (Builtin.firstCells (szOf P e) n vy).run P w = .ok news w)
    (hlen : (Builtin.lenOf vy).run P w = .ok n w) (hfit : len + n ≤ cap) (hst : ∀ a, base = some a → (storeCells (a.add (len * szOf P e)) news.toList).run P w = .ok () w') (hno : base = none → w' = w) :
    (Builtin.append_ #[t, ty] tr #[.slice base len cap, vy]).run P w = .ok (.slice base (len + n) cap) w' := by
  unfold Builtin.append_
  have hz : ∀ (α : Type) (x y : Sem α), (if (match dy with | .int _ => true | _ => false) = true then x else y) = y := fun α x y => by cases dy <;> first | rfl | exact absurd rfl (hni _)
  simp only [List.getElem?_toArray, List.getElem?_cons_zero, List.getElem?_cons_succ, Sem.run_bind, run_underlying ht, Result.andThen_ok, run_size0 hpos, run_underlying hty, Sem.run_pure]
  simp only [Bool.false_eq_true, if_false, Sem.run_bind, hlen, Result.andThen_ok, if_pos hfit, Bool.not_false, if_true, hnews]
  cases base with
  | none => rw [hno rfl]; rfl
  | some a => simp only [Sem.run_bind, hst a rfl, Result.andThen_ok]; rfl

theorem growBy_most (m : Nat) : ∀ (r c : Nat), c ≤ m + m / 4 + 192 → Builtin.growBy m r c ≤ m + m / 4 + 192
  | 0, c, h => h
  | r + 1, c, h => by
    unfold Builtin.growBy
    split
    · exact h
    · exact growBy_most m r _ (by omega)
theorem room_fits {need old bytes : Nat} (h : old < need) (hb : need * bytes ≤ roomB bytes) : Builtin.nextslicecap need old * bytes ≤ 281474976710656 := by
  by_cases e : bytes = 1
  · subst e
    have hb : need * 1 ≤ 140737489403904 := hb
    have h1 : Builtin.nextslicecap need old ≤ 281474976710656 := by
      unfold Builtin.nextslicecap
      split
      · omega
      · split
        · omega
        · have := growBy_most need 4 old (by omega)
          omega
    omega
  · have hq : (bytes == 1) = false := beq_false_of_ne e
    have hr : roomB bytes = 140737488355328 := by unfold roomB; rw [hq]; rfl
    rw [hr] at hb
    exact growslice_fits h hb
/-- append, where there is none. -/
theorem append_grow {t ty e : TypeId} {dy : TypeDesc} {tr : TypeId} {base : Option Addr} {len cap : Nat} {vy : Value} {n : Nat} {news olds : Array Value} {z : Value}
    (ht : P.underlying t = some (.slice e)) (hty : P.underlying ty = some dy) (hni : ∀ k, dy ≠ .int k) (hpos : 0 < szOf P e) (hb : 0 < bytesOf P e)
    (hnews : ∀ w' : World, w'.heap = w.heap → (Builtin.firstCells (szOf P e) n vy).run P w' = .ok news w')
    (holds : ∀ w' : World, w'.heap = w.heap → (Builtin.firstCells (szOf P e) len (.slice base len cap)).run P w' = .ok olds w')
    (hlen : (Builtin.lenOf vy).run P w = .ok n w) (hfit : ¬ len + n ≤ cap) (hmax : (len + n) * bytesOf P e ≤ roomB (bytesOf P e)) (hz : ∀ w' : World, (zeroValue e).run P w' = .ok z w') :
    ∃ rest : Array Value, ∃ cap', len + n ≤ cap' ∧ rest.size = (cap' - (len + n)) * z.cells.size ∧ (Builtin.append_ #[t, ty] tr #[.slice base len cap, vy]).run P w =
      .ok (.slice (some ⟨w.heap.size, 0, none⟩) (len + n) cap') (w.drew.alloc (.cells (olds ++ news ++ rest) e)) := by
  obtain ⟨i, hi, hir, hib⟩ := run_fits (P := P) (w := w) hpos
  have hir' : ∀ w' : World, (typeInfo e).run P w' = .ok i w' := fun w' => by simp [typeInfo, hi]
  have hgrow : ¬ Builtin.nextslicecap (len + n) cap * i.bytes > 2 ^ 48 := by
    have := room_fits (need := len + n) (old := cap) (bytes := i.bytes) (by omega) (by rw [hib]; exact hmax)
    have e : (2 : Nat) ^ 48 = 281474976710656 := by decide
    omega
  have hneed : ¬ ((len + n : Nat) : Int) > IntKind.i64.max ∨ True := .inr trivial
  have hnot : ¬ (((len + n : Nat) : Int) > IntKind.i64.max ∧ (False ∨ i.bytes = 0)) := by
    rintro ⟨_, h | h⟩
    · exact h
    · rw [hib] at h; omega
  refine ⟨Builtin.zeroCells z.cells (grownCap w (len + n) cap e - (len + n)), grownCap w (len + n) cap e, ?_, ?_, ?_⟩
  · unfold grownCap Question.cut
    exact Nat.le_add_right _ _
  · simp [Builtin.zeroCells]
  · unfold Builtin.append_
    simp only [List.getElem?_toArray, List.getElem?_cons_zero, List.getElem?_cons_succ, Sem.run_bind, run_underlying ht, Result.andThen_ok, run_size0 hpos, run_underlying hty, Sem.run_pure]
    simp only [Bool.false_eq_true, if_false, Sem.run_bind, hlen, Result.andThen_ok, if_neg hfit, Bool.not_false, if_true, hir', if_neg hnot, if_neg hgrow]
    have hq : (choose (.appendCap (len + n) cap e)).run P w = .ok (grownCap w (len + n) cap e) w.drew := rfl
    simp only [hq, Result.andThen_ok, run_askRoom, holds w.drew rfl, hnews w.drew rfl, hz, newRow, Sem.run_bind, run_newObj, Sem.run_pure]
    rfl

theorem zero_ok {e : TypeId} (hel : elOk P e = true) (c : Ctx) : ∃ z : Value, (∀ w : World, (zeroValue e).run P w = .ok z w) ∧ z.cells.size = szOf P e := by
  have hel' := hel
  unfold elOk at hel'
  simp only [Bool.and_eq_true] at hel'
  have h2 := hel'.2
  split at h2
  · rename_i z hz
    have hz' := hz
    unfold zeroOf at hz
    cases hi : P.info? e with
    | none => simp [hi] at hz
    | some i =>
      cases hzz : i.zero with
      | none => simp [hi, hzz] at hz
      | some v =>
        simp [hi, hzz] at hz
        have r := ofZero_rep c hz
        have hok := okEl_of hel r h2
        refine ⟨v, fun w => by simp [zeroValue, typeInfo, hi, hzz], ?_⟩
        rw [(Rep.cells r).1, hok.2.1, (elOk_spec hel).2]
  · simp at h2

theorem getD_mem {α : Type} {l : List α} {d : α} {i : Nat} (h : i < l.length) : l.getD i d ∈ l := by
  rw [List.getD_eq_getElem?_getD, List.getElem?_eq_getElem h]
  exact List.getElem_mem h

theorem append_core {base : Bs} {S : Sc} {fr : Fr} {a : Act} {t ty e tr : TypeId} {dy : TypeDesc} {d : Nat} {vx vy : Value} {full : Bool} {es ys : List AVal} {ob : Option Nat}
    (r : Rel base S fr a w) (hd : d < a.tmps.size) (ht : P.underlying t = some (.slice e)) (hty : P.underlying ty = some dy) (hni : ∀ k, dy ≠ .int k) (hel : elOk P e = true) (hb : 0 < bytesOf P e)
    (hmax : (es.length + ys.length) * bytesOf P e ≤ roomB (bytesOf P e)) (rA : Rep S.c vx (.sl full (shp P e) es)) (hO : OwnAt S.c ob (shp P e) vx)
    (hob : ∀ b, ob = some b → (∀ o, S.β o ≠ some b) ∧ base.ok b) (hsrc : ∃ news, (∀ w : World, w.heap = S.c.w.heap → (Builtin.firstCells (szOf P e) ys.length vy).run P w = .ok news w) ∧ (∀ w : World, (Builtin.lenOf vy).run P w = .ok ys.length w) ∧ news.size = ys.length * cnt (shp P e) ∧ Flat S.c news (shp P e) ys)
    (htok : fr.any (SV.has (tokOf d 0)) = false) :
    ∃ v w' S', (Builtin.append_ #[t, ty] tr #[vx, vy]).run P w = .ok v w' ∧ Pres base S.c S.β S'.c S'.β ∧ S'.H = S.H ∧
      Rel base S' (fr.set d (.one (.own (tokOf d 0) (shp P e) (es ++ ys)))) (a.put (some d) v) w' ∧ S'.lam = S.lam ∧ (∀ dd bb, look dd fr.boxes = some bb → S'.c.w.heap[S.lam dd]? = S.c.w.heap[S.lam dd]?) := by
  obtain ⟨hpos, hcnt⟩ := elOk_spec hel
  obtain ⟨news, hn1, hn2, hn3, hn4⟩ := hsrc
  obtain ⟨z, hz, hzs⟩ := zero_ok (P := P) hel S.c
  have hw := r.w
  -- in the same place
  have inplace : ∀ b off cap, vx = .slice (some ⟨b, off, none⟩) es.length cap → SlAt S.c b off cap full (shp P e) es → es.length + ys.length ≤ cap →
      ∃ v w' S', (Builtin.append_ #[t, ty] tr #[vx, vy]).run P w = .ok v w' ∧ Pres base S.c S.β S'.c S'.β ∧ S'.H = S.H ∧
      Rel base S' (fr.set d (.one (.own (tokOf d 0) (shp P e) (es ++ ys)))) (a.put (some d) v) w' ∧ S'.lam = S.lam ∧ (∀ dd bb, look dd fr.boxes = some bb → S'.c.w.heap[S.lam dd]? = S.c.w.heap[S.lam dd]?) := by
    rintro b off cap rfl hat hfit
    by_cases hcap : es.length = cap
    · have hy0 : ys = [] := by rw [← List.length_eq_zero_iff]; omega
      subst hy0
      have hnz : news.toList = [] := by rw [← List.length_eq_zero_iff, Array.length_toList, hn3]; simp
      have hrun := append_room (P := P) (w := w) (w' := w) (tr := tr) (base := some ⟨b, off, none⟩) ht hty hni hpos (hn1 w (by rw [hw])) (hn2 w) hfit (fun a' _ => by rw [hnz]; rfl) (fun _ => rfl)
      refine ⟨_, w, S, hrun, Pres.refl _ _ _ _, rfl, r.put (dst := some d) (e := .one (.own (tokOf d 0) (shp P e) (es ++ []))) (fun d' h => by simp at h; omega) (repE_own ?_), rfl, fun _ _ _ => rfl⟩
      simp only [List.append_nil, List.length_nil, Nat.add_zero]
      exact ⟨rA.weakSl, .inl hcap⟩
    · simp only [OwnAt] at hO
      rcases hO with hO | ⟨hO1, hO2, cur, el, hg, hcs⟩
      · exact absurd hO hcap
      · obtain ⟨hno, hbb⟩ := hob _ hO1
        have hg' : w.heap[b]? = some (.cells cur el (0, 0)) := by rw [← hw]; exact hg
        have hnl : news.toList.length = ys.length * szOf P e := by rw [Array.length_toList, hn3, hcnt]
        have hfit' : off + es.length * szOf P e + ys.length * szOf P e ≤ cur.size := by
          rw [hcnt] at hcs
          have : (es.length + ys.length) * szOf P e ≤ cap * szOf P e := Nat.mul_le_mul_right _ hfit
          rw [Nat.add_mul] at this
          omega
        have hones : ∀ v ∈ news.toList, v.oneCell' = true := fun v hv => by
          obtain ⟨k, hk, rfl⟩ := List.getElem_of_mem hv
          rw [hnl] at hk
          have h1 : k / szOf P e < ys.length := Nat.div_lt_of_lt_mul (by rw [Nat.mul_comm]; exact hk)
          have h2 : k % szOf P e < szOf P e := Nat.mod_lt _ hpos
          have := hn4.rep (k / szOf P e) (k % szOf P e) h1 (by rw [hcnt]; exact h2)
          rw [hcnt] at this
          have e1 : k / szOf P e * szOf P e + k % szOf P e = k := by rw [Nat.mul_comm]; exact Nat.div_add_mod _ _
          rw [e1] at this
          have hok := hn4.ok (ys.getD (k / szOf P e) .undef) (by simp [h1])
          have hk2 : k < news.size := by rw [← Array.length_toList, hnl]; exact hk
          have e2 : news.getD k undef = news.toList[k] := by simp [hk2]
          rw [e2] at this
          refine Rep.cellv this (hok.2.2 _ ?_)
          have hlt : k % szOf P e < (ys.getD (k / szOf P e) .undef).cells.length := by rw [hok.2.1, hcnt]; exact h2
          exact getD_mem hlt
        have hst0 := run_storeCells_at P b (off + es.length * szOf P e) el news.toList 0 cur w hg' (by rw [hnl]; omega) hones
        obtain ⟨spl, hsp⟩ : ∃ x : Array Value, x = (cur.toList.take (off + es.length * szOf P e) ++ news.toList ++ cur.toList.drop (off + es.length * szOf P e + news.toList.length)).toArray := ⟨_, rfl⟩
        have hst : (storeCells ⟨b, off + es.length * szOf P e, none⟩ news.toList).run P w = .ok () (w.setRow b spl) := by rw [hsp]; exact hst0
        have hrun := append_room (P := P) (w := w) (tr := tr) (base := some ⟨b, off, none⟩) ht hty hni hpos (hn1 w (by rw [hw])) (hn2 w) hfit (fun a' ha' => by
          simp only [Option.some.injEq] at ha'
          subst ha'
          rw [add_at]
          exact hst) (fun h => by cases h)
        have hspl : spl.toList = spliceAt (off + es.length * szOf P e) news.toList cur.toList := by rw [hsp]; rfl
        have hfl : off + es.length * szOf P e + news.toList.length ≤ cur.toList.length := by rw [hnl, Array.length_toList]; omega
        have hget : ∀ j, spl.getD j undef =
            if off + es.length * szOf P e ≤ j ∧ j < off + es.length * szOf P e + news.toList.length then news.getD (j - (off + es.length * szOf P e)) undef else cur.getD j undef := fun j => by
          rw [arr_getD, hspl, spliceAt_getD _ hfl, ← arr_getD, ← arr_getD]
        have hsize : spl.size = cur.size := by
          rw [← Array.length_toList, hspl, spliceAt_length hfl, Array.length_toList]
        have hO2' : S.c.κ b = some (off + es.length * szOf P e) := by rw [← hcnt]; exact hO2
        obtain ⟨c', hcw, hck, r', hp, hle, hoth⟩ := r.writeEnd (lim' := off + (es.length + ys.length) * szOf P e) hno hO2' (by rw [Nat.add_mul]; omega) hg' hsize
          (fun j hj => by rw [hget, if_neg (by omega)]) hbb
        have hnew : c'.w.heap[b]? = some (.cells spl el (0, 0)) := by rw [hcw]; exact setRow_heap w b cur spl el (0, 0) hg'
        have r2 := r'.give (g := tokOf d 0) (b := b) htok hbb ⟨_, el, hnew⟩ (by simp only [Sc.withC]; rw [hck]; simp) hno
        refine ⟨_, _, _, hrun, ?_, ?_, r2.put (dst := some d) (e := .one (.own (tokOf d 0) (shp P e) (es ++ ys))) (fun d' h => by simp at h; omega) (repE_own ⟨?_, ?_⟩), rfl, fun dd bb hbb' => (hoth (S.lam dd) (fun hbe => by
          have hk0 := r.boxκ dd bb hbb'
          rw [hbe, hO2'] at hk0
          cases hk0)).2⟩
        · exact hp.trans (Pres.refl _ _ S.β _)
        · rfl
        · -- the row is longer
          obtain ⟨_, _, lim, f, hk, hl, he, hc, hr⟩ := hat
          have hlen : (es ++ ys).length = es.length + ys.length := List.length_append
          rw [← hlen]
          have hrow : ∀ i j, i < (es ++ ys).length → j < cnt (shp P e) → Rep c' (spl.getD (off + i * cnt (shp P e) + j) undef)
              (((es ++ ys).getD i .undef).cells.getD j .undef) := fun i j hi hj => by
            rw [hlen] at hi
            rw [hget, hnl, hcnt]
            rw [hcnt] at hj
            by_cases h1 : i < es.length
            · have hlt := cell_lt h1 hj
              rw [if_neg (by omega)]
              have e2 : (es ++ ys).getD i .undef = es.getD i .undef := by
                simp only [List.getD_eq_getElem?_getD]
                rw [List.getElem?_append_left h1]
              rw [e2]
              have h3 := hc i j h1 (by rw [hcnt]; exact hj)
              have h4 : S.c.w.cell? ⟨b, off + i * cnt (shp P e) + j, none⟩ = some (cur.getD (off + i * cnt (shp P e) + j) undef) := cellsAt hg (by rw [hcnt]; omega)
              rw [h4] at h3
              simp only [Option.some.injEq] at h3
              have h5 := hr i j h1 (by rw [hcnt]; exact hj)
              rw [← h3, hcnt] at h5
              exact Rep.mono hle h5
            · have h2 : i - es.length < ys.length := by omega
              have hlt := cell_lt h2 hj
              have hi' : (i - es.length) * szOf P e = i * szOf P e - es.length * szOf P e := Nat.sub_mul _ _ _
              have hge : es.length * szOf P e ≤ i * szOf P e := Nat.mul_le_mul_right _ (by omega)
              rw [if_pos ⟨by omega, by omega⟩]
              have e1 : off + i * szOf P e + j - (off + es.length * szOf P e) = (i - es.length) * szOf P e + j := by omega
              have e2 : (es ++ ys).getD i .undef = ys.getD (i - es.length) .undef := by
                simp only [List.getD_eq_getElem?_getD]
                rw [List.getElem?_append_right (by omega)]
              rw [e1, e2]
              have h5 := hn4.rep (i - es.length) j h2 (by rw [hcnt]; exact hj)
              rw [hcnt] at h5
              exact Rep.mono hle h5
          refine .sl b off cap (off + (es.length + ys.length) * szOf P e) false (shp P e) (es ++ ys) _ (by rw [hlen]; exact hfit) (by simp) hck (by rw [hlen, hcnt]; exact Nat.le_refl _) (fun x hx => ?_) (fun i j hi hj => ?_) hrow
          · rcases List.mem_append.1 hx with hx | hx
            · exact he x hx
            · exact hn4.ok x hx
          · have hlt := cell_lt hi hj
            rw [hlen, hcnt, Nat.add_mul] at hlt
            exact cellsAt hnew (by rw [hsize, hcnt]; omega)
        · right
          refine ⟨by simp only [upd_eq], ?_, _, el, hnew, ?_⟩
          · simp only [Sc.withC]; rw [hck, hcnt]
          · simp only; rw [hsize]; exact hcs
  -- in another place
  have grow : ∀ bs cap, vx = .slice bs es.length cap → ¬ es.length + ys.length ≤ cap →
      ∃ v w' S', (Builtin.append_ #[t, ty] tr #[vx, vy]).run P w = .ok v w' ∧ Pres base S.c S.β S'.c S'.β ∧ S'.H = S.H ∧
      Rel base S' (fr.set d (.one (.own (tokOf d 0) (shp P e) (es ++ ys)))) (a.put (some d) v) w' ∧ S'.lam = S.lam ∧ (∀ dd bb, look dd fr.boxes = some bb → S'.c.w.heap[S.lam dd]? = S.c.w.heap[S.lam dd]?) := by
    rintro bs cap rfl hfit
    obtain ⟨olds, ho1, _, ho3, ho4⟩ := src_ok (P := P) hcnt rA
    obtain ⟨rest, cap', hc', hrs, hrun⟩ := append_grow (P := P) (w := w) (tr := tr) ht hty hni hpos hb (fun w' h' => hn1 w' (by rw [h', hw])) (fun w' h' => ho1 w' (by rw [h', hw])) (hn2 w) hfit hmax hz
    obtain ⟨r1, p1⟩ := r.sameHeap (w' := w.drew) rfl ⟨rfl, rfl⟩
    have hfl := (ho4.append (rest := rest) ho3 hn4)
    have hle1 := p1.le
    obtain ⟨c', r2, p2, hle2, hcw, hck, hnob, hrep⟩ := r1.newRow e (hfl.mono hle1)
    have hnew : c'.w.heap[w.heap.size]? = some (.cells (olds ++ news ++ rest) e (0, 0)) := by rw [hcw]; exact alloc_new (w := w.drew)
    have hb2 : base.ok w.heap.size := .inl (by have := r.baseLe; rw [hw] at this; exact this)
    have r3 := r2.give (g := tokOf d 0) (b := w.heap.size) htok hb2 ⟨_, e, hnew⟩ (by
      have : c'.κ w.heap.size = some _ := hck
      simp only [Sc.withC]; rw [this]; simp) (fun o => hnob o)
    have hlen : (es ++ ys).length = es.length + ys.length := List.length_append
    refine ⟨_, _, _, hrun, ?_, ?_, r3.put (dst := some d) (e := .one (.own (tokOf d 0) (shp P e) (es ++ ys))) (fun d' h => by simp at h; omega) (repE_own ⟨?_, ?_⟩), rfl, fun dd bb hbb' => by
      have hlt : S.lam dd < w.heap.size := by
        have hx : ∃ o, w.heap[S.lam dd]? = some o := by
          have hbx := r.box dd bb hbb'
          rw [← hw]
          cases bb with
          | plain cs => obtain ⟨xs, el, hg, _⟩ := hbx; exact ⟨_, hg⟩
          | rich l => obtain ⟨xs, el, hg, _⟩ := hbx; exact ⟨_, hg⟩
          | arr sz es => obtain ⟨xs, el, hg, _⟩ := hbx; exact ⟨_, hg⟩
        obtain ⟨o, ho⟩ := hx
        exact (Array.getElem?_eq_some_iff.1 ho).1
      show c'.w.heap[S.lam dd]? = _
      rw [hcw, hw]
      exact alloc_old (w := w.drew) hlt⟩
    · exact (p1.trans p2).trans (Pres.refl _ _ S.β _)
    · rfl
    · have := hrep cap' false (by rw [hlen]; exact hc') (by simp)
      rw [hlen] at this
      exact this
    · right
      refine ⟨by simp only [upd_eq], ?_, _, e, hnew, ?_⟩
      · simp only [Sc.withC]
        have : c'.κ w.heap.size = some _ := hck
        rw [this, hlen, Nat.zero_add]
      · have e1 : (olds ++ news ++ rest).size = cap' * szOf P e := by
          simp only [Array.size_append]
          rw [ho3, hn3, hrs, hzs, hcnt, ← Nat.add_mul, ← Nat.add_mul]
          congr 1
          omega
        rw [e1, hcnt]
        simp
  rcases rA.slInv with ⟨x0, h1, h2⟩ | ⟨b, off, cap, h1, hat⟩
  · subst h1
    by_cases h0 : es.length + ys.length ≤ 0
    · have hy0 : ys = [] := by rw [← List.length_eq_zero_iff]; omega
      have he0 : es = [] := h2
      subst hy0; subst he0
      have hnz0 : news.toList = [] := by rw [← List.length_eq_zero_iff, Array.length_toList, hn3]; simp
      have hrun := append_room (P := P) (w := w) (w' := w) (tr := tr) (base := x0) (len := 0) (cap := 0) ht hty hni hpos (hn1 w (by rw [hw])) (hn2 w) (by simp) (fun a' h => by rw [hnz0]; rfl) (fun _ => rfl)
      exact ⟨_, w, S, hrun, Pres.refl _ _ _ _, rfl, r.put (dst := some d) (e := .one (.own (tokOf d 0) (shp P e) ([] ++ []))) (fun d' h => by simp at h; omega) (repE_own ⟨.slnil _ _ _, by cases x0 <;> simp [OwnAt]⟩), rfl, fun _ _ _ => rfl⟩
    · exact grow x0 0 (by rw [h2]; rfl) (by omega)
  · by_cases hfit : es.length + ys.length ≤ cap
    · exact inplace b off cap h1 hat hfit
    · exact grow _ cap h1 hfit
end Go.Weave
