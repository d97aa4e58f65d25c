/- The evaluator's literals do what the machine's do. -/
import Derived.Test.YtjaadkgohjbadaaWvG
namespace Go.Weave
variable {P : Program} {w : World} {R : Type} {Q : R → Prop}

theorem foldl_splice (vs : List Value) : ∀ (off k : Nat) (cs : Array Value), off + k + vs.length ≤ cs.size →
    ((vs.zipIdx k).foldl (fun cs (p : Value × Nat) => cs.setIfInBounds (off + p.2) p.1) cs).toList = spliceAt (off + k) vs cs.toList := by
  induction vs with
  | nil => intro off k cs _; simp [spliceAt]
  | cons v vs ih =>
    intro off k cs hl
    simp only [List.length_cons] at hl
    simp only [List.zipIdx_cons, List.foldl_cons]
    rw [ih off (k + 1) _ (by simp; omega)]
    have e := list_seg_step cs.toList (off + k) v vs (by simp; omega)
    simp only [spliceAt, Array.toList_setIfInBounds]
    rw [show off + (k + 1) = off + k + 1 by omega]
    rw [e]
    simp

theorem spliceAt_length {α : Type} {off : Nat} {new l : List α} (h : off + new.length ≤ l.length) : (spliceAt off new l).length = l.length := by
  simp [spliceAt]; omega

theorem spliceAt_getD {α : Type} {off : Nat} {new l : List α} (d : α) (h : off + new.length ≤ l.length) (j : Nat) :
    (spliceAt off new l).getD j d = if off ≤ j ∧ j < off + new.length then new.getD (j - off) d else l.getD j d := by
  have ht : (l.take off).length = off := by simp; omega
  simp only [spliceAt, List.getD_eq_getElem?_getD, List.append_assoc]
  by_cases h1 : j < off
  · rw [if_neg (by omega), List.getElem?_append_left (by omega), List.getElem?_take, if_pos h1]
  · rw [List.getElem?_append_right (by omega), ht]
    by_cases h2 : j < off + new.length
    · rw [if_pos ⟨by omega, h2⟩, List.getElem?_append_left (by omega)]
    · rw [if_neg (by omega), List.getElem?_append_right (by omega), List.getElem?_drop]
      congr 2
      omega

theorem arr_getD (xs : Array Value) (j : Nat) (d : Value) : xs.getD j d = xs.toList.getD j d := by
  simp [Array.getD_eq_getD_getElem?, List.getD_eq_getElem?_getD]

theorem RepA.splice {c : Ctx} {xs ys zs : Array Value} {l m : List AVal} {off : Nat} (h : RepA c xs l) (h' : RepA c ys m) (hn : off + m.length ≤ l.length)
    (hz : zs.toList = spliceAt off ys.toList xs.toList) : RepA c zs (spliceAt off m l) := by
  have e1 : ys.toList.length = m.length := by simpa using h'.1
  have e2 : xs.toList.length = l.length := by simpa using h.1
  refine ⟨by rw [← Array.length_toList, hz, spliceAt_length (by omega), spliceAt_length (by omega)]; omega, fun j hj => ?_⟩
  rw [spliceAt_length hn] at hj
  rw [arr_getD, hz, spliceAt_getD _ (by omega), spliceAt_getD _ hn]
  rw [e1]
  split
  · rw [← arr_getD]; exact h'.2 _ (by omega)
  · rw [← arr_getD]; exact h.2 _ hj

theorem RepL.splice {S : Sc} {xs ys zs : Array Value} {l m : List SV} {off : Nat} (h : RepL S xs l) (h' : RepL S ys m) (hn : off + m.length ≤ l.length)
    (hz : zs.toList = spliceAt off ys.toList xs.toList) : RepL S zs (spliceAt off m l) := by
  have e1 : ys.toList.length = m.length := by simpa using h'.1
  have e2 : xs.toList.length = l.length := by simpa using h.1
  refine ⟨by rw [← Array.length_toList, hz, spliceAt_length (by omega), spliceAt_length (by omega)]; omega, fun j hj => ?_⟩
  rw [spliceAt_length hn] at hj
  rw [arr_getD, hz, spliceAt_getD _ (by omega), spliceAt_getD _ hn]
  rw [e1]
  split
  · rw [← arr_getD]; exact h'.2 _ (by omega)
  · rw [← arr_getD]; exact h.2 _ hj

/-- Parts, one by one. -/
def RepP (S : Sc) : List (Nat × Value) → List (Nat × EV) → Prop
  | [], [] => True
  | (i, v) :: r, (j, e) :: s => i = j ∧ RepE S v e ∧ RepP S r s
  | _, _ => False

theorem fill_one {off sz : Nat} {v : Value} {cells : Array Value} (h : v.cells.size = sz) (hn : off + sz ≤ cells.size) :
    (¬(v.cells.size ≠ sz || decide (off + v.cells.size > cells.size)) = true) ∧
    (v.cells.zipIdx.foldl (fun cs (p : Value × Nat) => cs.setIfInBounds (off + p.2) p.1) cells).toList = spliceAt off v.cells.toList cells.toList := by
  refine ⟨by simp; omega, ?_⟩
  rw [← Array.foldl_toList, Array.toList_zipIdx, foldl_splice _ off 0 _ (by simp; omega), Nat.add_zero]

theorem fillA_ok {S : Sc} {place : Nat → Option (Nat × Nat)} : ∀ (ps : List (Nat × AVal)) (es : List (Nat × EV)) (vs : List (Nat × Value)) (cs : List AVal) (xs : Array Value) (out : List AVal),
    toAs es = some ps → RepP S vs es → RepA S.c xs cs → fillA place cs ps = some out → ∃ ys, Instr.fill place xs vs = some ys ∧ RepA S.c ys out
  | [], es, vs, cs, xs, out, he, hp, hr, h => by
    cases es with
    | nil =>
      cases vs with
      | nil => simp only [fillA, Option.some.injEq] at h; subst h; exact ⟨xs, rfl, hr⟩
      | cons v vs => exact hp.elim
    | cons e es =>
      obtain ⟨i, x⟩ := e
      simp only [toAs] at he
      split at he <;> simp at he
  | p :: ps, es, vs, cs, xs, out, he, hp, hr, h => by
    cases es with
    | nil => simp [toAs] at he
    | cons e es =>
      obtain ⟨i, x⟩ := e
      cases vs with
      | nil => exact hp.elim
      | cons v vs =>
        obtain ⟨i', v⟩ := v
        obtain ⟨rfl, rv, hp⟩ := hp
        simp only [toAs] at he
        split at he
        · rename_i a l ha hl
          simp only [Option.some.injEq, List.cons.injEq] at he
          obtain ⟨rfl, rfl⟩ := he
          simp only [fillA] at h
          split at h
          · rename_i off sz hpl
            cases hb : (decide (0 < sz) && (a.cells.length == sz) && decide (off + sz ≤ cs.length)) <;> simp only [hb, cond_true, cond_false, reduceCtorEq] at h
            simp only [Bool.and_eq_true, decide_eq_true_eq, beq_iff_eq] at hb
            obtain ⟨⟨h0, h1⟩, h2⟩ := hb
            have rc := Rep.cells (RepE.toA rv ha)
            have f1 := fill_one (off := off) (v := v) (cells := xs) (sz := sz) (by rw [rc.1, h1]) (by rw [hr.1]; exact h2)
            obtain ⟨ys, hy, hr'⟩ := fillA_ok l es vs (spliceAt off a.cells cs) _ out hl hp (hr.splice rc (by omega) f1.2) h
            refine ⟨ys, ?_, hr'⟩
            simp only [Instr.fill, hpl]
            rw [if_neg f1.1]
            exact hy
          · simp at h
        · simp at he

theorem fillS_ok {S : Sc} {place : Nat → Option (Nat × Nat)} : ∀ (ps : List (Nat × CV)) (es : List (Nat × EV)) (vs : List (Nat × Value)) (cs : List SV) (xs : Array Value) (out : List SV),
    toCs es = some ps → RepP S vs es → RepL S xs cs → fillS place cs ps = some out → ∃ ys, Instr.fill place xs vs = some ys ∧ RepL S ys out
  | [], es, vs, cs, xs, out, he, hp, hr, h => by
    cases es with
    | nil =>
      cases vs with
      | nil => simp only [fillS, Option.some.injEq] at h; subst h; exact ⟨xs, rfl, hr⟩
      | cons v vs => exact hp.elim
    | cons e es =>
      obtain ⟨i, x⟩ := e
      cases x with
      | cv c => simp only [toCs] at he; split at he <;> simp at he
      | tup l => simp [toCs] at he
  | p :: ps, es, vs, cs, xs, out, he, hp, hr, h => by
    cases es with
    | nil => simp [toCs] at he
    | cons e es =>
      obtain ⟨i, x⟩ := e
      cases vs with
      | nil => exact hp.elim
      | cons v vs =>
        obtain ⟨i', v⟩ := v
        obtain ⟨rfl, rv, hp⟩ := hp
        cases x with
        | tup l => simp [toCs] at he
        | cv c =>
          simp only [toCs] at he
          split at he
          · rename_i l hl
            simp only [Option.some.injEq, List.cons.injEq] at he
            obtain ⟨rfl, rfl⟩ := he
            simp only [fillS] at h
            split at h
            · rename_i off sz hpl
              cases hb : (decide (0 < sz) && (c.cellsS.length == sz) && decide (off + sz ≤ cs.length)) <;> simp only [hb, cond_true, cond_false, reduceCtorEq] at h
              simp only [Bool.and_eq_true, decide_eq_true_eq, beq_iff_eq] at hb
              obtain ⟨⟨h0, h1⟩, h2⟩ := hb
              have hu : c ≠ .one .unk := fun e => by subst e; simp [CV.cellsS] at h1; omega
              have rc := RepC.cellsS (S := S) rv hu
              have f1 := fill_one (off := off) (v := v) (cells := xs) (sz := sz) (by rw [rc.1, h1]) (by rw [hr.1]; exact h2)
              obtain ⟨ys, hy, hr'⟩ := fillS_ok l es vs (spliceAt off c.cellsS cs) _ out hl hp (hr.splice rc (by omega) f1.2) h
              refine ⟨ys, ?_, hr'⟩
              simp only [Instr.fill, hpl]
              rw [if_neg f1.1]
              exact hy
            · simp at h
          · simp at he

theorem run_places : ∀ (fs : List Field), (∀ f ∈ fs, (P.info? f.type).isSome = true) →
    (fs.mapM (fun f => do pure (f.offset, ← sizeOf f.type) : Field → Sem (Nat × Nat))).run P w = .ok (fs.map fun f => (f.offset, szOf P f.type)) w
  | [], _ => by simp
  | f :: fs, h => by
    obtain ⟨i, hi⟩ := Option.isSome_iff_exists.1 (h f (by simp))
    have e : (sizeOf f.type).run P w = .ok (szOf P f.type) w := by simp [sizeOf, typeInfo, hi, szOf]
    have ih := run_places fs (fun g hg => h g (by simp [hg]))
    simp only [List.mapM_cons, Sem.run_bind, e, Result.andThen_ok, Sem.run_pure, ih, List.map_cons]

theorem run_build {t : TypeId} {place : Nat → Option (Nat × Nat)} {z : Value} {ys : Array Value} {parts : Array (Nat × Value)} (hpl : placeOf P t = some place)
    (hz : (zeroValue t).run P w = .ok z w) (hf : Instr.fill place z.cells parts.toList = some ys) : (Instr.build t parts).run P w = .ok (.agg ys) w := by
  unfold Instr.build
  simp only [Sem.run_bind, hz, Result.andThen_ok]
  rcases placeOf_ok hpl with ⟨fs, hu, hall, rfl⟩ | ⟨n, e, hu, hi, rfl⟩
  · simp only [run_underlying hu, Result.andThen_ok, Sem.run_bind]
    have e1 : (fs.mapM (fun f => do pure (f.offset, ← sizeOf f.type) : Field → Sem (Nat × Nat))).run P w = .ok (fs.map fun f => (f.offset, szOf P f.type)) w := by
      rw [Array.mapM_eq_mapM_toList, Sem.run_map, run_places (P := P) (w := w) fs.toList hall]
      simp only [Result.andThen_ok, Result.ok.injEq, and_true]
      apply Array.ext'
      simp
    rw [e1]
    simp only [Result.andThen_ok]
    have e2 : (fun x : Nat => (fs.map fun f : Field => (f.offset, szOf P f.type))[x]?) = fun i : Nat => (fs[i]?).map fun f : Field => (f.offset, szOf P f.type) := by
      funext i; simp
    rw [e2, hf]
    rfl
  · obtain ⟨i, hi⟩ := Option.isSome_iff_exists.1 hi
    have e : (sizeOf e).run P w = .ok (szOf P e) w := by simp [sizeOf, typeInfo, hi, szOf]
    simp only [run_underlying hu, Result.andThen_ok, Sem.run_bind, e, hf]
    rfl

theorem buildK_ok {S : Sc} {rich : Bool} {t : TypeId} {es : List (Nat × EV)} {vs : Array (Nat × Value)} {K : EV → Tr R} (hp : RepP S vs.toList es) (h : (buildK P rich t es K).All Q) :
    ∃ v e, (∀ w, (Instr.build t vs).run P w = .ok v w) ∧ RepE S v e ∧ (K e).All Q := by
  unfold buildK at h
  obtain ⟨z, hz, h⟩ := all_optK h
  obtain ⟨place, hpl, h⟩ := all_optK h
  obtain ⟨zv, hzr, hzz⟩ := run_zeroA hz S.c
  have hzc := Rep.cells hzz
  cases rich <;> simp only [cond_true, cond_false] at h
  · obtain ⟨ps, hps, h⟩ := all_optK h
    obtain ⟨l, hl, h⟩ := all_optK h
    obtain ⟨ys, hy, hr⟩ := fillA_ok ps es _ _ _ l hps hp hzc hl
    refine ⟨_, _, fun w => run_build hpl (hzr w) hy, repE_val (.agg _ _ hr.1 (fun x hx => ?_) (fun j hj => (hr.2 j hj).1)), h⟩
    obtain ⟨j, hj, rfl⟩ := List.getElem_of_mem hx
    have := (hr.2 j hj).2
    simpa [hj] using this
  · obtain ⟨ps, hps, h⟩ := all_optK h
    obtain ⟨l, hl, h⟩ := all_optK h
    obtain ⟨ys, hy, hr⟩ := fillS_ok ps es _ _ _ l hps hp (RepA.toL hzc) hl
    exact ⟨_, _, fun w => run_build hpl (hzr w) hy, show RepE S _ (.agg l) from ⟨ys, rfl, hr⟩, h⟩
end Go.Weave
