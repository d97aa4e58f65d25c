/- Slices that are made, and append. -/
import Derived.Test.YtjaadkgohjbadaaWvJ
namespace Go.Weave
variable {P : Program} {w : World} {R : Type} {Q : R → Prop}

theorem Flat.rep_slice {c : Ctx} {xs : Array Value} {sz : Nat} {es : List AVal} {b cap lim : Nat} {el : TypeId} {fz : Nat × Nat} {full : Bool} (h : Flat c xs sz es) (hg : c.w.heap[b]? = some (.cells xs el fz))
    (hk : c.κ b = some lim) (hl : es.length * cnt sz ≤ lim) (hc : es.length ≤ cap) (hf : full = true → cap = es.length) : Rep c (.slice (some ⟨b, 0, none⟩) es.length cap) (.sl full sz es) :=
  .sl b 0 cap lim full sz es (fun i j => xs.getD (i * cnt sz + j) undef) hc hf hk (by omega) h.ok (fun i j hi hj => by
    rw [Nat.zero_add]
    exact cellsAt hg (by have := cell_lt hi hj; have := h.len; omega)) h.rep

/-- A new row. -/
theorem Rel.newRow {base : Bs} {S : Sc} {fr : Fr} {a : Act} (r : Rel base S fr a w) {xs : Array Value} {sz : Nat} {es : List AVal} (el : TypeId) (h : Flat S.c xs sz es) :
    ∃ c', Rel base (S.withC c') fr a (w.alloc (.cells xs el)) ∧ Pres base S.c S.β c' S.β ∧ S.c.le c' ∧ c'.w = w.alloc (.cells xs el) ∧
      c'.κ w.heap.size = some (es.length * cnt sz) ∧ (∀ o, S.β o ≠ some w.heap.size) ∧
      ∀ cap full, es.length ≤ cap → (full = true → cap = es.length) → Rep c' (.slice (some ⟨w.heap.size, 0, none⟩) es.length cap) (.sl full sz es) := by
  have hsz : S.c.w.heap.size = w.heap.size := by rw [r.w]
  have hle : S.c.le (S.c.alloc (.cells xs el) (some (es.length * cnt sz))) := Ctx.le_alloc r.own.lim
  have hw : (S.c.alloc (.cells xs el) (some (es.length * cnt sz))).w = w.alloc (.cells xs el) := by simp only [Ctx.alloc]; rw [r.w]
  have hk : (S.c.alloc (.cells xs el) (some (es.length * cnt sz))).κ w.heap.size = some (es.length * cnt sz) := by simp only [Ctx.alloc]; rw [if_pos hsz.symm]
  refine ⟨S.c.alloc (.cells xs el) (some (es.length * cnt sz)), r.alloc _ _, Pres.alloc r.own.lim r.baseLe, hle, hw, hk, fun o ho => ?_, fun cap full hc hf => ?_⟩
  · obtain ⟨_, _, hh⟩ := r.own.blk _ _ ho
    have := lt_of_heap hh
    omega
  · exact (h.mono hle).rep_slice (el := el) (fz := (0, 0)) (by rw [hw]; exact alloc_new) hk (Nat.le_refl _) hc hf

/-! ### Literals -/
theorem okEl_of {P : Program} {e : TypeId} (hel : elOk P e = true) {v : AVal} {c : Ctx} {x : Value} (r : Rep c x v) (h : (bif aggT P e then v.isAggOf (szOf P e) else !v.isAgg) = true) : okEl (shp P e) v := by
  obtain ⟨hpos, hcnt⟩ := elOk_spec hel
  have hc := Rep.cells r
  refine ⟨?_, ?_, fun y hy => ?_⟩
  · rw [shp_agg]
    cases ha : aggT P e <;> simp only [ha, cond_true, cond_false] at h
    · simpa using h
    · exact (isAggOf_spec h).2.2
  · rw [hcnt]
    cases ha : aggT P e <;> simp only [ha, cond_true, cond_false] at h
    · have e1 : v.cells = [v] := by cases v <;> first | rfl | simp [AVal.isAgg] at h
      rw [e1]
      simp only [elOk, ha, Bool.false_or, Bool.and_eq_true, decide_eq_true_eq, beq_iff_eq] at hel
      simp [hel.1.2]
    · exact (isAggOf_spec h).2.1
  · obtain ⟨j, hj, rfl⟩ := List.getElem_of_mem hy
    have := (hc.2 j hj).2
    simpa [hj] using this

theorem div_cell {i i' j j' k : Nat} (hj : j < k) (hj' : j' < k) (h : i * k + j = i' * k + j') : i = i' ∧ j = j' := by
  have hk : 0 < k := by omega
  have h1 : (i * k + j) / k = i := by
    rw [Nat.mul_comm, Nat.mul_add_div hk, Nat.div_eq_of_lt hj]; rfl
  have h2 : (i' * k + j') / k = i' := by
    rw [Nat.mul_comm, Nat.mul_add_div hk, Nat.div_eq_of_lt hj']; rfl
  rw [h] at h1
  have : i = i' := by omega
  subst this
  exact ⟨rfl, by omega⟩

theorem Flat.set {c : Ctx} {xs ys zs : Array Value} {sz : Nat} {es : List AVal} {i : Nat} {v : AVal} (h : Flat c xs sz es) (hx : xs.size = es.length * cnt sz) (hi : i < es.length) (hv : okEl sz v) (hr : RepA c ys v.cells)
    (hz : zs.toList = spliceAt (i * cnt sz) ys.toList xs.toList) : Flat c zs sz (es.set i v) ∧ zs.size = es.length * cnt sz := by
  have hlen : ys.toList.length = cnt sz := by rw [Array.length_toList, hr.1, hv.2.1]
  have hfit : i * cnt sz + ys.toList.length ≤ xs.toList.length := by
    rw [hlen, Array.length_toList, hx]
    have : (i + 1) * cnt sz ≤ es.length * cnt sz := Nat.mul_le_mul_right _ hi
    rw [Nat.succ_mul] at this
    exact this
  have hzs : zs.size = es.length * cnt sz := by
    rw [← Array.length_toList, hz, spliceAt_length hfit, Array.length_toList, hx]
  refine ⟨⟨by simp [hzs], fun e he => ?_, fun i' j hi' hj => ?_⟩, hzs⟩
  · rcases List.mem_or_eq_of_mem_set he with he | rfl
    · exact h.ok e he
    · exact hv
  · simp only [List.length_set] at hi'
    rw [arr_getD, hz, spliceAt_getD _ hfit, hlen]
    by_cases e : i' = i
    · subst e
      rw [if_pos ⟨by omega, by omega⟩]
      have e2 : i' * cnt sz + j - i' * cnt sz = j := by omega
      have e3 : (es.set i' v).getD i' .undef = v := by simp [hi]
      rw [e2, e3, ← arr_getD]
      exact (hr.2 j (by rw [hv.2.1]; exact hj)).1
    · rw [if_neg (fun hh => ?_)]
      · have e3 : (es.set i v).getD i' .undef = es.getD i' .undef := by
          simp only [List.getD_eq_getElem?_getD]
          rw [List.getElem?_set_ne (fun h => e h.symm)]
        rw [e3, ← arr_getD]
        exact h.rep i' j hi' hj
      · have hlt : i' * cnt sz + j - i * cnt sz < cnt sz := by omega
        have := div_cell (i := i') (i' := i) hj hlt (by omega)
        exact e this.1

theorem elems_ok {S : Sc} {e : TypeId} (hel : elOk P e = true) : ∀ (ps : List (Nat × AVal)) (es : List (Nat × EV)) (vs : List (Nat × Value)) (l : List AVal) (xs : Array Value) (out : List AVal),
    toAs es = some ps → RepP S vs es → Flat S.c xs (shp P e) l → xs.size = l.length * cnt (shp P e) → elemsOf (aggT P e) (szOf P e) l ps = some out →
    ∃ ys, Instr.fill (fun i => some (i * szOf P e, szOf P e)) xs vs = some ys ∧ Flat S.c ys (shp P e) out ∧ ys.size = out.length * cnt (shp P e) ∧ out.length = l.length
  | [], es, vs, l, xs, out, he, hp, hr, hx, h => by
    cases es with
    | nil =>
      cases vs with
      | nil => simp only [elemsOf, Option.some.injEq] at h; subst h; exact ⟨xs, rfl, hr, hx, rfl⟩
      | cons v vs => exact hp.elim
    | cons e es =>
      obtain ⟨i, x⟩ := e
      simp only [toAs] at he
      split at he <;> simp at he
  | p :: ps, es, vs, l, xs, out, he, hp, hr, hx, h => by
    obtain ⟨hpos, hcnt⟩ := elOk_spec hel
    cases es with
    | nil => simp [toAs] at he
    | cons e' es =>
      obtain ⟨i, x⟩ := e'
      cases vs with
      | nil => exact hp.elim
      | cons v vs =>
        obtain ⟨i', v⟩ := v
        obtain ⟨rfl, rv, hp⟩ := hp
        simp only [toAs] at he
        split at he
        · rename_i a m ha hm
          simp only [Option.some.injEq, List.cons.injEq] at he
          obtain ⟨rfl, rfl⟩ := he
          simp only [elemsOf] at h
          cases hb : ((bif aggT P e then a.isAggOf (szOf P e) else !a.isAgg) && decide (i' < l.length)) <;> simp only [hb, cond_true, cond_false, reduceCtorEq] at h
          simp only [Bool.and_eq_true, decide_eq_true_eq] at hb
          have ra := RepE.toA rv ha
          have hok := okEl_of hel ra hb.1
          have rc := Rep.cells ra
          have hfit : i' * szOf P e + szOf P e ≤ xs.size := by
            rw [hx, hcnt]
            have : (i' + 1) * szOf P e ≤ l.length * szOf P e := Nat.mul_le_mul_right _ hb.2
            rw [Nat.succ_mul] at this
            exact this
          have hvs : v.cells.size = szOf P e := by rw [rc.1, hok.2.1, hcnt]
          have f1 := fill_one (off := i' * szOf P e) (v := v) (cells := xs) hvs hfit
          have f2 := hr.set (i := i') (v := a) hx hb.2 hok rc (zs := v.cells.zipIdx.foldl (fun cs (p : Value × Nat) => cs.setIfInBounds (i' * szOf P e + p.2) p.1) xs) (by rw [hcnt]; exact f1.2)
          obtain ⟨ys, hy, hr', hx', hl'⟩ := elems_ok hel m es vs (l.set i' a) _ out hm hp f2.1 (by simpa using f2.2) h
          refine ⟨ys, ?_, hr', hx', by simpa using hl'⟩
          simp only [Instr.fill]
          rw [if_neg f1.1]
          exact hy
        · simp at he

theorem buildSlice_run {S : Sc} {t : TypeId} {len : Nat} {es : List (Nat × EV)} {vs : Array (Nat × Value)} {K : EV → Tr R} (hp : RepP S vs.toList es)
    (h : (buildSliceK P t len es K).All Q) :
    ∃ xs e out, (Instr.buildSlice t len vs).run P w = .ok (.slice (some ⟨w.heap.size, 0, none⟩) len len) (w.alloc (.cells xs e)) ∧ Flat S.c xs (shp P e) out ∧ out.length = len ∧ xs.size = len * cnt (shp P e) ∧
      (K (.one (.val (.sl true (shp P e) out)))).All Q := by
  unfold buildSliceK at h
  split at h
  · rename_i e hu
    obtain ⟨hb, h⟩ := all_bif h
    simp only [Bool.and_eq_true, decide_eq_true_eq] at hb
    obtain ⟨hel, hmax⟩ := hb
    obtain ⟨hpos, hcnt⟩ := elOk_spec hel
    obtain ⟨z, hz, h⟩ := all_optK h
    obtain ⟨hzb, h⟩ := all_bif h
    obtain ⟨ps, hps, h⟩ := all_optK h
    obtain ⟨out, hout, h⟩ := all_optK h
    obtain ⟨zv, hzr, hzz⟩ := run_zero (w := w) hz S.c
    have hzok := okEl_of hel hzz hzb
    have hzc := Rep.cells hzz
    have hzs : zv.cells.size = szOf P e := by rw [hzc.1, hzok.2.1, hcnt]
    -- the row of zeros
    have hrow : ∀ zs : Array Value, (len * szOf P e ≠ 0 → zs = zv.cells) → Flat S.c ((Array.range (len * szOf P e)).map (zs[· % zs.size]!)) (shp P e) (List.replicate len z) ∧
        ((Array.range (len * szOf P e)).map (zs[· % zs.size]!)).size = (List.replicate len z).length * cnt (shp P e) := fun zs hzs' => by
      refine ⟨⟨by simp [hcnt], fun x hx => ?_, fun i j hi hj => ?_⟩, by simp [hcnt]⟩
      · rw [List.eq_of_mem_replicate hx]; exact hzok
      · rw [hcnt] at hj ⊢
        simp only [List.length_replicate] at hi
        have hlt : i * szOf P e + j < len * szOf P e := cell_lt hi hj
        have hz2 := hzs' (by omega)
        subst hz2
        have e1 : (List.replicate len z).getD i .undef = z := by simp [hi]
        have hmod : (i * szOf P e + j) % szOf P e = j := by
          rw [Nat.mul_comm, Nat.mul_add_mod, Nat.mod_eq_of_lt hj]
        have e2 : ((Array.range (len * szOf P e)).map (zv.cells[· % zv.cells.size]!)).getD (i * szOf P e + j) undef = zv.cells.getD j undef := by
          simp [hlt, hzs, hmod, hj]
        rw [e1, e2]
        exact (hzc.2 j (by rw [hzok.2.1, hcnt]; exact hj)).1
    have fin : ∀ zs : Array Value, ((len * szOf P e = 0 ∧ zs = #[]) ∨ (len * szOf P e ≠ 0 ∧ zs = zv.cells)) →
        ∃ xs e out, (Instr.buildSlice t len vs).run P w = .ok (.slice (some ⟨w.heap.size, 0, none⟩) len len) (w.alloc (.cells xs e)) ∧ Flat S.c xs (shp P e) out ∧ out.length = len ∧ xs.size = len * cnt (shp P e) ∧
          (K (.one (.val (.sl true (shp P e) out)))).All Q := fun zs hzs' => by
      obtain ⟨f1, f2⟩ := hrow zs (fun hh => by
        rcases hzs' with ⟨h0, _⟩ | ⟨_, h0⟩
        · exact absurd h0 hh
        · exact h0)
      obtain ⟨ys, hy, hf, hyz, hl⟩ := elems_ok hel ps es vs.toList _ _ out hps hp f1 f2 hout
      have hl' : out.length = len := by simpa using hl
      refine ⟨ys, e, out, ?_, hf, hl', by rw [hyz, hl'], h⟩
      · have hnot : ¬ len * szOf P e > 2 ^ 24 := by
          have : (2 : Nat) ^ 24 = 16777216 := by decide
          omega
        unfold Instr.buildSlice
        simp only [Sem.run_bind, run_underlying hu, Result.andThen_ok, run_size0 hpos, if_neg hnot]
        rcases hzs' with ⟨h0, rfl⟩ | ⟨h0, rfl⟩
        · rw [if_pos h0]
          simp only [Sem.run_bind, Sem.run_pure, Result.andThen_ok]
          rw [hy]
          rfl
        · rw [if_neg h0]
          simp only [Sem.run_bind, Sem.run_pure, Result.andThen_ok, hzr]
          rw [hy]
          rfl
    by_cases h0 : len * szOf P e = 0
    · exact fin #[] (.inl ⟨h0, rfl⟩)
    · exact fin zv.cells (.inr ⟨h0, rfl⟩)
  · exact h.elim
theorem buildSliceK_ok {base : Bs} {S : Sc} {fr : Fr} {a : Act} {t : TypeId} {len : Nat} {es : List (Nat × EV)} {vs : Array (Nat × Value)} {K : EV → Tr R} (r : Rel base S fr a w) (hp : RepP S vs.toList es)
    (h : (buildSliceK P t len es K).All Q) :
    ∃ v e w' c', (Instr.buildSlice t len vs).run P w = .ok v w' ∧ Rel base (S.withC c') fr a w' ∧ Pres base S.c S.β c' S.β ∧ RepE (S.withC c') v e ∧ (∀ b, b < w.heap.size → c'.w.heap[b]? = w.heap[b]?) ∧ (K e).All Q := by
  obtain ⟨xs, e, out, hrun, hf, hl', _, h⟩ := buildSlice_run (w := w) hp h
  obtain ⟨c', r', hp', _, hcw, _, _, hrep⟩ := r.newRow e hf
  refine ⟨.slice (some ⟨w.heap.size, 0, none⟩) len len, _, _, c', hrun, r', hp', repE_val ?_, fun b hb => by rw [hcw]; exact alloc_old hb, h⟩
  have := hrep len true (by omega) (fun _ => hl'.symm)
  rw [hl'] at this
  exact this
end Go.Weave
