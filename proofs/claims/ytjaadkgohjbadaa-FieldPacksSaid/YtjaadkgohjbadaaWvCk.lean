/- Plain data: structs of numbers, bools, texts. -/
import Derived.Test.YtjaadkgohjbadaaWvC
namespace Go.Weave
variable {P : Program} {w : World} {R : Type} {Q : R → Prop}

theorem info_of_und {t : TypeId} {d : TypeDesc} (h : P.underlying t = some d) : ∃ i, P.info? t = some i := by
  unfold Program.underlying at h
  split at h
  · rename_i hh; exact ⟨_, hh⟩
  · rename_i hh; exact ⟨_, hh⟩
  · simp at h

theorem run_isAgg {t : TypeId} {d : TypeDesc} (h : P.underlying t = some d) : (isAgg t).run P w = .ok (aggT P t) w := by
  unfold isAgg aggT
  simp only [Sem.run_bind, run_underlying h, Result.andThen_ok, h]
  cases d <;> rfl

theorem run_size {t : TypeId} {d : TypeDesc} (h : P.underlying t = some d) : (sizeOf t).run P w = .ok (szOf P t) w := by
  obtain ⟨i, hi⟩ := info_of_und h
  simp [sizeOf, typeInfo, hi, szOf]

theorem aggT_und {t : TypeId} (h : aggT P t = true) : ∃ d, P.underlying t = some d := by
  unfold aggT at h
  cases hu : P.underlying t with
  | none => simp [hu] at h
  | some d => exact ⟨d, rfl⟩

theorem getD_range {n j : Nat} (f : Nat → Value) (h : j < n) : (((List.range n).map f).toArray).getD j undef = f j := by simp [h]


theorem take_drop_getD {α : Type} (l : List α) (o n j : Nat) (d : α) (h : j < n) : ((l.drop o).take n).getD j d = l.getD (o + j) d := by
  simp [h, List.getElem?_drop]

theorem sub_agg {c : Ctx} {xs : Array Value} {cs : List AVal} {off n : Nat} (h : RepA c xs cs) (hn : off + n ≤ cs.length) :
    Rep c (.agg ((List.range n).map fun j => xs.getD (off + j) undef).toArray) (.agg ((cs.drop off).take n)) := by
  refine .agg _ _ (by simp; omega) (fun x hx => ?_) (fun j hj => ?_)
  · obtain ⟨j, hj, rfl⟩ := List.getElem_of_mem (List.mem_of_mem_drop (List.mem_of_mem_take hx))
    have := (h.2 j hj).2
    simpa [hj] using this
  · have hj' : j < n := by simp at hj; omega
    rw [getD_range _ hj', take_drop_getD _ _ _ _ _ hj']
    exact (h.2 _ (by omega)).1

theorem part_run {c : Ctx} {t : TypeId} {d : TypeDesc} {xs : Array Value} {cs : List AVal} {off : Nat} (hu : P.underlying t = some d) (r : RepA c xs cs)
    (hn : off + (bif aggT P t then szOf P t else 1) ≤ cs.length) :
    ∃ v, (∀ w, (Go.part t xs off).run P w = .ok v w) ∧ Rep c v (bif aggT P t then .agg ((cs.drop off).take (szOf P t)) else cs.getD off .undef) := by
  unfold Go.part
  simp only [Sem.run_bind, run_isAgg hu, Result.andThen_ok]
  cases ha : aggT P t <;> simp only [ha, cond_true, cond_false] at hn
  · have hlt : off < xs.size := by rw [r.1]; omega
    refine ⟨xs.getD off undef, fun w => ?_, ?_⟩
    · simp [hlt]
    · exact (r.2 off (by omega)).1
  · refine ⟨_, fun w => by simp only [if_true, Sem.run_bind, run_size hu, Result.andThen_ok]; rfl, ?_⟩
    have := sub_agg (n := szOf P t) r hn
    have e : xs.extract off (off + szOf P t) = ((List.range (szOf P t)).map fun j => xs.getD (off + j) undef).toArray := by
      apply Array.ext'
      simp only [Array.toList_extract, List.extract]
      apply List.ext_getElem?
      intro j
      by_cases hj : j < szOf P t
      · have h1 : off + j < xs.size := by rw [r.1]; omega
        simp [hj, List.getElem?_drop, h1]
      · simp [hj]; omega
    rw [e]
    exact this

/-! ### Plain data, compared -/
theorem leavesOk_length : ∀ {l : List TypeDesc} {cs : List AVal}, leavesOk l cs = true → cs.length = l.length
  | [], [], _ => rfl
  | _ :: _, _ :: _, h => by
    simp only [leavesOk, Bool.and_eq_true] at h
    simp [leavesOk_length h.2]
  | [], _ :: _, h => by simp [leavesOk] at h
  | _ :: _, [], h => by simp [leavesOk] at h

theorem leavesOk_append : ∀ {l m : List TypeDesc} {cs : List AVal}, leavesOk (l ++ m) cs = true → leavesOk l (cs.take l.length) = true ∧ leavesOk m (cs.drop l.length) = true
  | [], m, cs, h => by simpa [leavesOk] using h
  | t :: l, m, [], h => by simp [leavesOk] at h
  | t :: l, m, c :: cs, h => by
    simp only [List.cons_append, leavesOk, Bool.and_eq_true] at h
    have := leavesOk_append h.2
    simp [leavesOk, h.1, this.1, this.2]

theorem eqCells_append : ∀ {a1 b1 a2 b2 : List AVal}, a1.length = b1.length → eqCells (a1 ++ a2) (b1 ++ b2) = (eqCells a1 b1 && eqCells a2 b2)
  | [], [], _, _, _ => by simp [eqCells]
  | x :: a1, y :: b1, a2, b2, h => by
    simp only [List.cons_append, eqCells]
    rw [eqCells_append (by simpa using h), Bool.and_assoc]
  | [], _ :: _, _, _, h => by simp at h
  | _ :: _, [], _, _, h => by simp at h

theorem leaves_cases {m : Nat} {t : TypeId} {l : List TypeDesc} (h : leavesOf P m t = some l) :
    ∃ m', m = m' + 1 ∧ ((∃ d, l = [d] ∧ P.underlying t = some d ∧ aggT P t = false ∧ (d = .bool ∨ d = .string ∨ ∃ k, d = .int k)) ∨
      ∃ fs, P.underlying t = some (.struct fs) ∧ aggT P t = true ∧ P.stoodInHeld t = false ∧ leavesFs P (leavesOf P m') 0 fs.toList = some l) := by
  cases m with
  | zero => simp [leavesOf] at h
  | succ m =>
    refine ⟨m, rfl, ?_⟩
    unfold leavesOf at h
    split at h
    · rename_i hu; simp at h; exact .inl ⟨_, h.symm, hu, by simp [aggT, hu], .inl rfl⟩
    · rename_i k hu; simp at h; exact .inl ⟨_, h.symm, hu, by simp [aggT, hu], .inr (.inr ⟨k, rfl⟩)⟩
    · rename_i hu; simp at h; exact .inl ⟨_, h.symm, hu, by simp [aggT, hu], .inr (.inl rfl)⟩
    · rename_i fs hu
      cases hs : P.stoodInHeld t <;> simp only [hs, cond_true, cond_false] at h
      · exact .inr ⟨fs, hu, by simp [aggT, hu], rfl, h⟩
      · simp at h
    · simp at h

theorem leaves_und {m : Nat} {t : TypeId} {l : List TypeDesc} (h : leavesOf P m t = some l) : ∃ d, P.underlying t = some d := by
  obtain ⟨_, _, ⟨d, _, hu, _⟩ | ⟨fs, hu, _⟩⟩ := leaves_cases h
  · exact ⟨d, hu⟩
  · exact ⟨_, hu⟩

/-- One field out of many. -/
theorem field_of {c : Ctx} {m off : Nat} {t : TypeId} {lf lr : List TypeDesc} {xs : Array Value} {cs : List AVal} (h : leavesOf P m t = some lf) (hz : szOf P t = lf.length) (r : RepA c xs cs) (ho : off ≤ cs.length)
    (hl : leavesOk (lf ++ lr) (cs.drop off) = true) :
    ∃ v a, (Go.part t xs off).run P w = .ok v w ∧ Rep c v a ∧ a.isAgg = aggT P t ∧ a.cells = (cs.drop off).take lf.length ∧ leavesOk lf a.cells = true := by
  obtain ⟨d, hu⟩ := leaves_und h
  have hlen := leavesOk_length hl
  simp only [List.length_append, List.length_drop] at hlen
  have hs := (leavesOk_append hl).1
  obtain ⟨_, _, ⟨d, rfl, _, ha, _⟩ | ⟨fs, _, ha, _⟩⟩ := leaves_cases h
  · simp at hlen
    obtain ⟨v, h1, h2⟩ := part_run hu r (off := off) (by simp [ha]; omega)
    simp only [ha, cond_false] at h2
    have h3 := (r.2 off (by omega)).2
    have e : (cs.drop off).take [d].length = [cs.getD off .undef] := by
      have h4 : off < cs.length := by omega
      rw [List.drop_eq_getElem_cons h4]
      show List.take 1 _ = _
      rw [List.take_succ_cons, List.take_zero]
      simp [h4]
    have hc : (cs.getD off AVal.undef).cells = [cs.getD off .undef] := by
      generalize cs.getD off AVal.undef = a at h3
      cases a <;> first | rfl | simp [AVal.isAgg] at h3
    exact ⟨v, _, h1 w, h2, by rw [h3, ha], by rw [hc, e], by rw [hc, ← e]; exact hs⟩
  · obtain ⟨v, h1, h2⟩ := part_run hu r (off := off) (by simp [ha]; omega)
    simp only [ha, cond_true] at h2
    exact ⟨v, _, h1 w, h2, by rw [ha]; rfl, by rw [hz]; rfl, by rw [hz]; exact hs⟩

def EqAt' (P : Program) (w : World) (c : Ctx) (n : Nat) (t : TypeId) (l : List TypeDesc) : Prop :=
  ∀ (x y : Value) (a b : AVal), Rep c x a → Rep c y b → a.isAgg = aggT P t → b.isAgg = aggT P t → leavesOk l a.cells = true → leavesOk l b.cells = true →
    (Op.equalIn n t x y).run P w = .ok (eqCells a.cells b.cells) w

theorem leavesFs_cons {g : TypeId → Option (List TypeDesc)} {off : Nat} {f : Field} {r : List Field} {l : List TypeDesc} (h : leavesFs P g off (f :: r) = some l) :
    ∃ lf lr, g f.type = some lf ∧ f.name ≠ "_" ∧ f.offset = off ∧ szOf P f.type = lf.length ∧ leavesFs P g (off + lf.length) r = some lr ∧ l = lf ++ lr := by
  unfold leavesFs at h
  split at h
  · simp at h
  · rename_i lf hlf
    cases hb : ((f.name != "_") && (f.offset == off) && (szOf P f.type == lf.length)) <;> simp only [hb, cond_true, cond_false] at h
    · simp at h
    · simp only [Bool.and_eq_true, bne_iff_ne, ne_eq, beq_iff_eq] at hb
      split at h
      · rename_i lr hlr
        simp at h
        exact ⟨lf, lr, hlf, hb.1.1, hb.1.2, hb.2, hlr, h.symm⟩
      · simp at h

theorem eqFs {c : Ctx} {n m : Nat} {xs ys : Array Value} {cs ds : List AVal} (IH : ∀ t l, leavesOf P m t = some l → EqAt' P w c n t l) (rx : RepA c xs cs) (ry : RepA c ys ds) :
    ∀ (fs : List Field) (off : Nat) (l : List TypeDesc), leavesFs P (leavesOf P m) off fs = some l → off ≤ cs.length → off ≤ ds.length → leavesOk l (cs.drop off) = true → leavesOk l (ds.drop off) = true →
      (Op.eqFields n xs ys fs).run P w = .ok (eqCells (cs.drop off) (ds.drop off)) w
  | [], off, l, h, _, _, h1, h2 => by
    simp [leavesFs] at h; subst h
    have e1 := leavesOk_length h1; have e2 := leavesOk_length h2
    simp only [List.length_nil, List.length_eq_zero_iff] at e1 e2
    rw [e1, e2]; simp [Op.eqFields, eqCells]
  | f :: fs, off, l, h, ho1, ho2, h1, h2 => by
    obtain ⟨lf, lr, hg, hn, ho, hz, hr, rfl⟩ := leavesFs_cons h
    obtain ⟨x, a, p1, r1, a1, c1, l1⟩ := field_of (w := w) hg hz rx ho1 h1
    obtain ⟨y, b, p2, r2, a2, c2, l2⟩ := field_of (w := w) hg hz ry ho2 h2
    have he := IH _ _ hg x y a b r1 r2 a1 a2 l1 l2
    have s1 := (leavesOk_append h1).2; have s2 := (leavesOk_append h2).2
    rw [List.drop_drop] at s1 s2
    have n1 := leavesOk_length h1; have n2 := leavesOk_length h2
    simp only [List.length_append, List.length_drop] at n1 n2
    have ih := eqFs IH rx ry fs _ _ hr (by omega) (by omega) s1 s2
    simp only [Op.eqFields, hn, ne_eq, not_false_eq_true, if_true, Sem.run_bind, ho, p1, p2, he, Result.andThen_ok]
    rw [← List.take_append_drop lf.length (cs.drop off), ← List.take_append_drop lf.length (ds.drop off), eqCells_append (by simp; omega), ← c1, ← c2, List.drop_drop, List.drop_drop]
    cases eqCells a.cells b.cells
    · simp
    · simpa using ih

theorem leaf_eq {c : Ctx} {n : Nat} {t : TypeId} {d : TypeDesc} {x y : Value} {a b : AVal} (hu : P.underlying t = some d) (rx : Rep c x a) (ry : Rep c y b) (h1 : leafOk d a = true) (h2 : leafOk d b = true) :
    (Op.equalIn (n + 1) t x y).run P w = .ok (a.eq1 b) w := by
  cases d <;> cases a <;> simp [leafOk] at h1 <;> cases b <;> simp [leafOk] at h2 <;> cases rx <;> cases ry
  · simp [Op.equalIn, run_underlying hu, AVal.eq1]
  · subst h1; subst h2
    simp [Op.equalIn, run_underlying hu, AVal.eq1]
  · rename_i s s'
    simp only [Op.equalIn, Sem.run_bind, run_underlying hu, Result.andThen_ok, Sem.run_pure, AVal.eq1]
    rw [beq_toListBytes, ByteArray.toList_eq, ByteArray.toList_eq]

theorem cells1 {a : AVal} (h : a.isAgg = false) : a.cells = [a] := by cases a <;> first | rfl | simp [AVal.isAgg] at h
theorem agg_inv {c : Ctx} {x : Value} {a : AVal} (r : Rep c x a) (h : a.isAgg = true) : ∃ xs, x = .agg xs ∧ RepA c xs a.cells := by
  cases r <;> simp [AVal.isAgg] at h
  rename_i xs cs h1 h2 h3
  exact ⟨xs, rfl, h1, fun j hj => ⟨h3 j hj, h2 _ (by
    simp only [AVal.cells] at hj ⊢
    simp only [List.getD_eq_getElem?_getD, List.getElem?_eq_getElem hj, Option.getD_some]
    exact List.getElem_mem hj)⟩⟩

theorem equalIn_ok (w : World) (c : Ctx) : ∀ (m : Nat) (t : TypeId) (l : List TypeDesc), leavesOf P m t = some l → ∀ n, m ≤ n → EqAt' P w c n t l
  | m, t, l, h, n, hn => by
    obtain ⟨m', rfl, ⟨d, rfl, hu, ha, _⟩ | ⟨fs, hu, ha, hst, hfs⟩⟩ := leaves_cases h
    · intro x y a b rx ry h1 h2 l1 l2
      rw [ha] at h1 h2
      obtain ⟨n, rfl⟩ : ∃ k, n = k + 1 := ⟨n - 1, by omega⟩
      rw [cells1 h1, cells1 h2] at *
      simp only [leavesOk, Bool.and_true] at l1 l2
      rw [leaf_eq hu rx ry l1 l2]
      simp [eqCells]
    · intro x y a b rx ry h1 h2 l1 l2
      rw [ha] at h1 h2
      obtain ⟨n, rfl⟩ : ∃ k, n = k + 1 := ⟨n - 1, by omega⟩
      obtain ⟨xs, rfl, rx'⟩ := agg_inv rx h1
      obtain ⟨ys, rfl, ry'⟩ := agg_inv ry h2
      have hf : P.fieldsOf t = fs := by simp [Program.fieldsOf, hu]
      rw [run_equalIn_struct w n t xs ys (by rw [hf]; exact hu) hst, hf]
      exact eqFs (m := m') (fun t l hl => equalIn_ok w c m' t l hl n (by omega)) rx' ry' fs.toList 0 l hfs (by omega) (by omega) l1 l2

theorem plainOk_inv {t : TypeId} {a : AVal} (h : plainOk P t a = true) : ∃ l, leavesOf P 100 t = some l ∧ a.isAgg = aggT P t ∧ leavesOk l a.cells = true ∧ P.eqGuardType P.depth t = false := by
  unfold plainOk at h
  split at h
  · rename_i l hl
    simp only [Bool.and_eq_true, beq_iff_eq, Bool.not_eq_true'] at h
    exact ⟨l, hl, h.1.1, h.2, h.1.2⟩
  · simp at h

theorem equal_ok (c : Ctx) {t : TypeId} {x y : Value} {a b : AVal} (ra : Rep c x a) (rb : Rep c y b) (ha : plainOk P t a = true) (hb : plainOk P t b = true) :
    (Op.equal t x y).run P w = .ok (eqCells a.cells b.cells) w := by
  obtain ⟨l, h1, h2, h3, _⟩ := plainOk_inv ha
  obtain ⟨l', h1', h4, h5, _⟩ := plainOk_inv hb
  rw [h1] at h1'; cases h1'
  exact equalIn_ok w c 100 t l h1 10000 (by omega) x y a b ra rb h2 h4 h3 h5

theorem guard_other {op : BinOp} {t : TypeId} {x y : Operand} {a b : Value} (h1 : a ≠ .nilIface ∨ b ≠ .nilIface) (h2 : a.oneCell' = true ∨ b.oneCell' = true) :
    (eqGuard op t x y a b).run P w = .ok () w := by
  unfold eqGuard
  cases op <;> simp <;> (cases a <;> cases b <;> simp_all [Value.oneCell'])

theorem guard_plain (c : Ctx) {op : BinOp} {t : TypeId} {ox oy : Operand} {x y : Value} {a b : AVal} (ra : Rep c x a) (rb : Rep c y b) (ha : plainOk P t a = true) (hb : plainOk P t b = true) :
    (eqGuard op t ox oy x y).run P w = .ok () w := by
  obtain ⟨l, h1, h2, h3, hg⟩ := plainOk_inv ha
  obtain ⟨l', h1', h4, h5, _⟩ := plainOk_inv hb
  rw [h1] at h1'; cases h1'
  obtain ⟨m', _, ⟨d, rfl, hu, hag, _⟩ | ⟨fs, hu, hag, hst, hfs⟩⟩ := leaves_cases h1
  · rw [hag] at h2 h4
    rw [cells1 h2] at h3
    have h3' : x ≠ .nilIface ∧ x.oneCell' = true := by
      simp only [leavesOk, Bool.and_true] at h3
      cases ra <;> cases d <;> simp [leafOk] at h3 <;> simp [Value.oneCell']
    exact guard_other (.inl h3'.1) (.inl h3'.2)
  · rw [hag] at h2 h4
    obtain ⟨xs, rfl, _⟩ := agg_inv ra h2
    obtain ⟨ys, rfl, _⟩ := agg_inv rb h4
    exact run_eqGuard_agg w op t ox oy xs ys hg

/-! ### Keys -/
def CkAt (P : Program) (w : World) (c : Ctx) (em : Bool) (n : Nat) (t : TypeId) (l : List TypeDesc) : Prop :=
  ∀ (x : Value) (a : AVal), Rep c x a → a.isAgg = aggT P t → leavesOk l a.cells = true → (Instr.checkKey em n t x).run P w = .ok () w

theorem ckFs {c : Ctx} {em : Bool} {n m : Nat} {xs : Array Value} {cs : List AVal} (IH : ∀ t l, leavesOf P m t = some l → CkAt P w c em n t l) (rx : RepA c xs cs) :
    ∀ (fs : List Field) (off : Nat) (l : List TypeDesc), leavesFs P (leavesOf P m) off fs = some l → off ≤ cs.length → leavesOk l (cs.drop off) = true →
      (forIn fs PUnit.unit fun f _ => do
        if f.name ≠ "_" then do
          let p ← Go.part f.type xs f.offset
          Instr.checkKey em n f.type p
          pure (ForInStep.yield PUnit.unit)
        else pure (ForInStep.yield PUnit.unit) : Sem PUnit).run P w = .ok PUnit.unit w
  | [], off, l, h, _, h1 => by simp
  | f :: fs, off, l, h, ho1, h1 => by
    obtain ⟨lf, lr, hg, hn, ho, hz, hr, rfl⟩ := leavesFs_cons h
    obtain ⟨x, a, p1, r1, a1, c1, l1⟩ := field_of (w := w) hg hz rx ho1 h1
    have he := IH _ _ hg x a r1 a1 l1
    have s1 := (leavesOk_append h1).2
    rw [List.drop_drop] at s1
    have n1 := leavesOk_length h1
    simp only [List.length_append, List.length_drop] at n1
    have ih := ckFs IH rx fs _ _ hr (by omega) s1
    simp only [List.forIn_cons, Sem.run_bind, hn, ne_eq, not_false_eq_true, if_true, ho, p1, he, Result.andThen_ok, Sem.run_pure]
    exact ih

theorem checkKey_ok (w : World) (c : Ctx) (em : Bool) : ∀ (m : Nat) (t : TypeId) (l : List TypeDesc), leavesOf P m t = some l → ∀ n, m ≤ n → CkAt P w c em n t l
  | m, t, l, h, n, hn => by
    obtain ⟨m', rfl, ⟨d, rfl, hu, ha, hd⟩ | ⟨fs, hu, ha, hst, hfs⟩⟩ := leaves_cases h
    · intro x a rx h1 l1
      obtain ⟨n, rfl⟩ : ∃ k, n = k + 1 := ⟨n - 1, by omega⟩
      rcases hd with rfl | rfl | ⟨k, rfl⟩ <;> simp [Instr.checkKey, run_underlying hu]
    · intro x a rx h1 l1
      rw [ha] at h1
      obtain ⟨n, rfl⟩ : ∃ k, n = k + 1 := ⟨n - 1, by omega⟩
      obtain ⟨xs, rfl, rx'⟩ := agg_inv rx h1
      simp only [Instr.checkKey, Sem.run_bind, run_underlying hu, Result.andThen_ok]
      rw [← Array.forIn_toList]
      rw [ckFs (m := m') (fun t l hl => checkKey_ok w c em m' t l hl n (by omega)) rx' fs.toList 0 l hfs (by omega) l1]
      rfl

theorem check_ok (c : Ctx) {em : Bool} {t : TypeId} {x : Value} {a : AVal} (ra : Rep c x a) (ha : plainOk P t a = true) : (Instr.checkKey em 10000 t x).run P w = .ok () w := by
  obtain ⟨l, h1, h2, h3, _⟩ := plainOk_inv ha
  exact checkKey_ok w c em 100 t l h1 10000 (by omega) x a ra h2 h3

/-! ### The same key is the same value -/
theorem leaf_same {c : Ctx} {d : TypeDesc} {x y : Value} {a b : AVal} (rx : Rep c x a) (ry : Rep c y b) (h1 : leafOk d a = true) (h2 : leafOk d b = true) (he : a.eq1 b = true) : x = y ∧ a = b := by
  cases d <;> cases a <;> simp [leafOk] at h1 <;> cases b <;> simp [leafOk] at h2 <;> cases rx <;> cases ry
  · simp [AVal.eq1] at he; subst he; exact ⟨rfl, rfl⟩
  · subst h1; subst h2; simp [AVal.eq1] at he; subst he; exact ⟨rfl, rfl⟩
  · rename_i s s'
    simp only [AVal.eq1, beq_iff_eq] at he
    have : s = s' := by
      obtain ⟨⟨s⟩⟩ := s; obtain ⟨⟨s'⟩⟩ := s'
      simp at he; subst he; rfl
    subst this; exact ⟨rfl, rfl⟩

theorem cells_same {c : Ctx} : ∀ {l : List TypeDesc} {cs ds : List AVal} {xs ys : List Value}, leavesOk l cs = true → leavesOk l ds = true → eqCells cs ds = true → xs.length = cs.length → ys.length = ds.length →
    (∀ j, j < cs.length → Rep c (xs.getD j undef) (cs.getD j .undef)) → (∀ j, j < ds.length → Rep c (ys.getD j undef) (ds.getD j .undef)) → xs = ys ∧ cs = ds
  | [], [], [], xs, ys, _, _, _, h1, h2, _, _ => by
    simp only [List.length_nil, List.length_eq_zero_iff] at h1 h2; subst h1; subst h2; exact ⟨rfl, rfl⟩
  | d :: l, a :: cs, b :: ds, x :: xs, y :: ys, h1, h2, he, n1, n2, r1, r2 => by
    simp only [leavesOk, Bool.and_eq_true] at h1 h2
    simp only [eqCells, Bool.and_eq_true] at he
    have q1 := r1 0 (by simp); have q2 := r2 0 (by simp)
    simp only [List.getD_cons_zero] at q1 q2
    obtain ⟨rfl, rfl⟩ := leaf_same q1 q2 h1.1 h2.1 he.1
    obtain ⟨rfl, rfl⟩ := cells_same h1.2 h2.2 he.2 (by simpa using n1) (by simpa using n2)
      (fun j hj => by have := r1 (j + 1) (by simpa using hj); simpa only [List.getD_cons_succ] using this)
      (fun j hj => by have := r2 (j + 1) (by simpa using hj); simpa only [List.getD_cons_succ] using this)
    exact ⟨rfl, rfl⟩
  | [], _ :: _, _, _, _, h1, _, _, _, _, _, _ => by simp [leavesOk] at h1
  | _ :: _, [], _, _, _, h1, _, _, _, _, _, _ => by simp [leavesOk] at h1
  | [], [], _ :: _, _, _, _, h1, _, _, _, _, _ => by simp [leavesOk] at h1
  | _ :: _, _ :: _, [], _, _, _, h1, _, _, _, _, _ => by simp [leavesOk] at h1
  | _ :: _, _ :: _, _ :: _, [], _, _, _, _, n1, _, _, _ => by simp at n1
  | _ :: _, _ :: _, _ :: _, _ :: _, [], _, _, _, _, n2, _, _ => by simp at n2

theorem key_same {c : Ctx} {t : TypeId} {x y : Value} {a b : AVal} (ra : Rep c x a) (rb : Rep c y b) (ha : plainOk P t a = true) (hb : plainOk P t b = true) (he : eqCells a.cells b.cells = true) : x = y ∧ a = b := by
  obtain ⟨l, h1, h2, h3, _⟩ := plainOk_inv ha
  obtain ⟨l', h1', h4, h5, _⟩ := plainOk_inv hb
  rw [h1] at h1'; cases h1'
  cases hag : aggT P t
  · rw [hag] at h2 h4
    have e1 := cells1 h2; have e2 := cells1 h4
    rw [e1] at h3 he; rw [e2] at h5 he
    obtain ⟨m', _, ⟨d, rfl, hu, hag', _⟩ | ⟨fs, hu, hag', hst, hfs⟩⟩ := leaves_cases h1
    · simp only [leavesOk, Bool.and_true] at h3 h5
      simp only [eqCells, Bool.and_true] at he
      exact leaf_same ra rb h3 h5 he
    · rw [hag] at hag'; simp at hag'
  · rw [hag] at h2 h4
    obtain ⟨xs, rfl, rx⟩ := agg_inv ra h2
    obtain ⟨ys, rfl, ry⟩ := agg_inv rb h4
    obtain ⟨h6, h7⟩ := cells_same (c := c) (xs := xs.toList) (ys := ys.toList) h3 h5 he (by simpa using rx.1) (by simpa using ry.1)
      (fun j hj => by simpa using (rx.2 j hj).1) (fun j hj => by simpa using (ry.2 j hj).1)
    refine ⟨?_, ?_⟩
    · congr 1; exact Array.toList_inj.1 h6
    · cases a <;> simp [AVal.isAgg] at h2
      cases b <;> simp [AVal.isAgg] at h4
      simp only [AVal.cells] at h7
      rw [h7]

theorem leaf_bits {c : Ctx} {d : TypeDesc} {x : Value} {a : AVal} (rx : Rep c x a) (h1 : leafOk d a = true) (n : Nat) : Instr.sameBits n x x = true := by
  cases d <;> cases a <;> simp [leafOk] at h1 <;> cases rx <;> simp [Instr.sameBits, beq_toListBytes]

theorem key_stays {c : Ctx} {t : TypeId} {x : Value} {a : AVal} (ra : Rep c x a) (ha : plainOk P t a = true) : (Instr.keyThatStays x x).run P w = .ok x w := by
  obtain ⟨l, h1, h2, h3, _⟩ := plainOk_inv ha
  have hb : Instr.sameBits 10000 x x = true := by
    cases hag : aggT P t
    · rw [hag] at h2
      rw [cells1 h2] at h3
      obtain ⟨m', _, ⟨d, rfl, hu, hag', _⟩ | ⟨fs, hu, hag', hst, hfs⟩⟩ := leaves_cases h1
      · simp only [leavesOk, Bool.and_true] at h3
        exact leaf_bits ra h3 _
      · rw [hag] at hag'; simp at hag'
    · rw [hag] at h2
      obtain ⟨xs, rfl, rx⟩ := agg_inv ra h2
      have : ∀ (l : List TypeDesc) (cs : List AVal) (xs : List Value), leavesOk l cs = true → xs.length = cs.length → (∀ j, j < cs.length → Rep c (xs.getD j undef) (cs.getD j .undef)) →
          ((xs.zip xs).all fun p => Instr.sameBits 9999 p.1 p.2) = true := by
        intro l
        induction l with
        | nil => intro cs xs h hl _; cases cs <;> simp [leavesOk] at h; simp at hl; subst hl; simp
        | cons d l ih =>
          intro cs xs h hl hr
          cases cs with
          | nil => simp [leavesOk] at h
          | cons a cs =>
            cases xs with
            | nil => simp at hl
            | cons x xs =>
              simp only [leavesOk, Bool.and_eq_true] at h
              have q := hr 0 (by simp)
              simp only [List.getD_cons_zero] at q
              simp only [List.zip_cons_cons, List.all_cons, Bool.and_eq_true]
              refine ⟨leaf_bits q h.1 _, ih cs xs h.2 (by simpa using hl) (fun j hj => ?_)⟩
              have := hr (j + 1) (by simpa using hj)
              simpa only [List.getD_cons_succ] using this
      have h4 := this l a.cells xs.toList h3 (by simpa using rx.1) (fun j hj => by simpa using (rx.2 j hj).1)
      show Instr.sameBits (9999 + 1) (.agg xs) (.agg xs) = true
      simp only [Instr.sameBits, beq_self_eq_true, Bool.true_and]
      exact h4
  simp [Instr.keyThatStays, hb]
end Go.Weave
