/- The evaluator's pure operations do what the machine's do. -/
import Derived.Test.YtjaadkgohjbadaaWvCk
import Derived.ChangeKeysEq
namespace Go.Weave
variable {P : Program} {w : World} {R : Type} {Q : R → Prop}

theorem run_zero {t : TypeId} {z : AVal} (h : zeroOf P t = some z) (c : Ctx) : ∃ v, (zeroValue t).run P w = .ok v w ∧ Rep c v z := by
  unfold zeroOf at h
  cases hi : P.info? t with
  | none => simp [hi] at h
  | some i =>
    cases hz : i.zero with
    | none => simp [hi, hz] at h
    | some v =>
      simp [hi, hz] at h
      exact ⟨v, by simp [zeroValue, typeInfo, hi, hz], ofZero_rep c h⟩

theorem run_zeroA {t : TypeId} {z : AVal} (h : zeroOf P t = some z) (c : Ctx) : ∃ v, (∀ w, (zeroValue t).run P w = .ok v w) ∧ Rep c v z := by
  unfold zeroOf at h
  cases hi : P.info? t with
  | none => simp [hi] at h
  | some i =>
    cases hz : i.zero with
    | none => simp [hi, hz] at h
    | some v =>
      simp [hi, hz] at h
      exact ⟨v, fun w => by simp [zeroValue, typeInfo, hi, hz], ofZero_rep c h⟩

/-! ### Shapes -/
theorem isInt_spec {k : IntKind} {a : AVal} (h : a.isInt k = true) : a = .int k a.toInt := by
  cases a <;> simp [AVal.isInt] at h
  subst h; rfl
theorem isBool_spec {a : AVal} (h : a.isBool = true) : a = .bool a.toBool := by cases a <;> simp [AVal.isBool] at h; rfl
theorem isStr_spec {a : AVal} (h : a.isStr = true) : a = .str a.toStr := by cases a <;> simp [AVal.isStr] at h; rfl
theorem isMap_spec {a : AVal} (h : a.isMap = true) : a = .map a.toId := by cases a <;> simp [AVal.isMap] at h; rfl
theorem isSl_spec {sz : Nat} {a : AVal} (h : a.isSl sz = true) : ∃ z, a = .sl a.toFull z a.toEs ∧ (z == sz || a.toEs.isEmpty) = true := by
  cases a <;> simp [AVal.isSl] at h
  rename_i f z es
  exact ⟨z, rfl, by simpa [AVal.toEs] using h⟩
theorem isAggOf_spec {n : Nat} {a : AVal} (h : a.isAggOf n = true) : a = .agg a.cells ∧ a.cells.length = n ∧ a.isAgg = true := by
  cases a <;> simp [AVal.isAggOf] at h
  exact ⟨rfl, h, rfl⟩

theorem Rep.isSl {c : Ctx} {v : Value} {a : AVal} {sz : Nat} (r : Rep c v a) (h : a.isSl sz = true) : Rep c v (.sl a.toFull sz a.toEs) := by
  obtain ⟨z, e, hz⟩ := isSl_spec h
  rw [e] at r
  exact r.slEmpty hz

theorem coerce_ok {c : Ctx} {t : TypeId} {v : Value} {a : AVal} {K : AVal → Tr R} (r : Rep c v a) (h : (coerce P t a K).All Q) :
    ∃ a', Rep c v a' ∧ a'.isAgg = a.isAgg ∧ (∃ d, P.underlying t = some d) ∧ (K a').All Q := by
  unfold coerce at h
  split at h
  · rename_i k hu
    obtain ⟨hb, h⟩ := all_bif h
    rw [isInt_spec hb] at r ⊢
    exact ⟨_, r, rfl, ⟨_, hu⟩, h⟩
  · rename_i hu
    obtain ⟨hb, h⟩ := all_bif h
    rw [isBool_spec hb] at r ⊢
    exact ⟨_, r, rfl, ⟨_, hu⟩, h⟩
  · rename_i hu
    obtain ⟨hb, h⟩ := all_bif h
    rw [isStr_spec hb] at r ⊢
    exact ⟨_, r, rfl, ⟨_, hu⟩, h⟩
  · rename_i e hu
    obtain ⟨hb, h⟩ := all_bif h
    refine ⟨_, r.isSl hb, ?_, ⟨_, hu⟩, h⟩
    obtain ⟨z, e, _⟩ := isSl_spec hb
    rw [e]; rfl
  · rename_i hu
    obtain ⟨hb, h⟩ := all_bif h
    obtain ⟨e, _, _⟩ := isAggOf_spec hb
    rw [e] at r ⊢
    exact ⟨_, r, rfl, ⟨_, hu⟩, h⟩
  · rename_i hu
    obtain ⟨hb, h⟩ := all_bif h
    obtain ⟨e, _, _⟩ := isAggOf_spec hb
    rw [e] at r ⊢
    exact ⟨_, r, rfl, ⟨_, hu⟩, h⟩
  · rename_i d _ _ _ _ _ _ hu
    exact ⟨a, r, rfl, ⟨d, hu⟩, h⟩
  · exact h.elim

theorem coerceS_ok {S : Sc} {t : TypeId} {v : Value} {s : SV} {K : SV → Tr R} (r : RepS S v s) (h : (coerceS P t s K).All Q) : ∃ s', RepS S v s' ∧ (K s').All Q := by
  unfold coerceS at h
  split at h
  · obtain ⟨a', r', _, _, h'⟩ := coerce_ok (c := S.c) r h
    exact ⟨.val a', r', h'⟩
  · split at h
    · rename_i id off z es e hu
      obtain ⟨hb, h⟩ := all_bif h
      exact ⟨.bor _ _ _ _, ⟨r.1.slEmpty hb, r.2⟩, h⟩
    · exact h.elim
  · exact ⟨s, r, h⟩

theorem intOf_ok {v : EV} {K : Int → Tr R} (h : (intOf v K).All Q) : ∃ k n, v = .one (.val (.int k n)) ∧ (K n).All Q := by
  unfold intOf at h
  split at h
  · exact ⟨_, _, rfl, h⟩
  · exact h.elim

theorem binInt_ok {c : Ctx} {op : BinOp} {t : TypeId} {k k' : IntKind} {a b : Int} {K : AVal → Tr R} (h : (binK P op t (.int k a) (.int k' b) K).All Q) :
    ∃ v a', (∀ w, (binOp op t (.int k a) (.int k' b)).run P w = .ok v w) ∧ Rep c v a' ∧ (K a').All Q := by
  simp only [binK] at h
  split at h
  · cases hb : decide (b < 0) <;> simp only [hb, cond_true, cond_false] at h
    · have hb' : ¬ b < 0 := by simpa using hb
      exact ⟨_, _, fun w => by simp [binOp, Op.shift, hb'], .int _ _, h⟩
    · exact h.elim
  · cases hb : decide (b < 0) <;> simp only [hb, cond_true, cond_false] at h
    · have hb' : ¬ b < 0 := by simpa using hb
      exact ⟨_, _, fun w => by simp [binOp, Op.shift, hb'], .int _ _, h⟩
    · exact h.elim
  · obtain ⟨hk, h1⟩ := all_bif h
    clear h
    rename _ => h
    have hk' : k = k' := by simpa using hk
    subst hk'
    cases hb : decide (b = 0) <;> simp only [hb, cond_true, cond_false] at h
    · have hb' : ¬ b = 0 := by simpa using hb
      exact ⟨_, _, fun w => by simp [binOp, Op.intDiv, hb'], .int _ _, h⟩
    · exact h.elim
  · obtain ⟨hk, h1⟩ := all_bif h
    clear h
    rename _ => h
    have hk' : k = k' := by simpa using hk
    subst hk'
    cases hb : decide (b = 0) <;> simp only [hb, cond_true, cond_false] at h
    · have hb' : ¬ b = 0 := by simpa using hb
      exact ⟨_, _, fun w => by simp [binOp, Op.intDiv, hb'], .int _ _, h⟩
    · exact h.elim
  · obtain ⟨hk, h1⟩ := all_bif h
    clear h
    have hk' : k = k' := by simpa using hk
    subst hk'
    obtain ⟨a', ha, h⟩ := all_optK h1
    cases op <;> simp only [intBin, Option.some.injEq, reduceCtorEq] at ha <;> subst ha
    case add | sub | mul => exact ⟨_, _, fun w => by simp [binOp, Op.intArith], .int _ _, h⟩
    case and | or | xor | andNot => exact ⟨_, _, fun w => by simp only [binOp, ne_eq, not_true_eq_false, if_false]; rfl, .int _ _, h⟩
    all_goals exact ⟨_, _, fun w => by simp [binOp, Op.intCmp], .bool _, h⟩

theorem toList_append (x y : ByteArray) : (x ++ y).data.toList = x.data.toList ++ y.data.toList := by
  simp [ByteArray.data_append]

theorem binStr_ok {c : Ctx} {op : BinOp} {t : TypeId} {a b : ByteArray} {K : AVal → Tr R} (h : (binK P op t (.str a.data.toList) (.str b.data.toList) K).All Q) :
    ∃ v a', (∀ w, (binOp op t (.string a) (.string b)).run P w = .ok v w) ∧ Rep c v a' ∧ (K a').All Q := by
  simp only [binK] at h
  split at h
  · obtain ⟨hb, h⟩ := all_bif h
    have hb' : a.size + b.size ≤ 140737488355328 := by simpa using hb
    refine ⟨.string (a ++ b), _, fun w => ?_, .str _, by rw [toList_append]; exact h⟩
    have : ¬ ((a.size + b.size : Nat) : Int) > IntKind.i64.max := by
      have : IntKind.i64.max = 9223372036854775807 := by decide
      omega
    simp only [binOp, Op.stringOp, if_neg this]; rfl
  · obtain ⟨a', ha, h⟩ := all_optK h
    cases op <;> simp only [strBin, Option.some.injEq, reduceCtorEq] at ha <;> subst ha
    all_goals exact ⟨_, _, fun w => by simp only [binOp, Op.stringOp, ByteArray.toList_eq]; rfl, .bool _, h⟩

theorem sameNil (c : Ctx) {v : Value} {a : AVal} (r : Rep c v a) (h : a.isPtr = true) : ∃ p, v = .pointer p ∧ p.isNone = a.isNilp := by
  cases r <;> simp [AVal.isPtr] at h
  · exact ⟨none, rfl, rfl⟩
  · exact ⟨_, rfl, rfl⟩
  · exact ⟨_, rfl, rfl⟩

theorem plainOk_agg {c : Ctx} {t : TypeId} {a : AVal} {v : Value} (h : aggT P t = true) (h2 : plainOk P t a = true) (r : Rep c v a) : ∃ xs, v = .agg xs := by
  unfold plainOk at h2
  split at h2
  · simp only [h, Bool.and_eq_true, beq_iff_eq] at h2
    have h3 := h2.1
    cases r <;> first | exact ⟨_, rfl⟩ | simp [AVal.isAgg] at h3
  · simp at h2

theorem equal_bool {t : TypeId} (h : P.underlying t = some .bool) (a b : Bool) : (Op.equal t (.bool a) (.bool b)).run P w = .ok (a == b) w := by
  show (Op.equalIn (9999 + 1) t (.bool a) (.bool b)).run P w = _
  rw [Op.equalIn]
  simp only [Sem.run_bind, run_underlying h, Result.andThen_ok]
  rfl
theorem equal_nil {t e : TypeId} (h : P.underlying t = some (.pointer e)) (p : Option Addr) : (Op.equal t (.pointer p) (.pointer none)).run P w = .ok p.isNone w := by
  show (Op.equalIn (9999 + 1) t (.pointer p) (.pointer none)).run P w = _
  rw [Op.equalIn]
  simp only [Sem.run_bind, run_underlying h, Result.andThen_ok]
  cases p <;> rfl

theorem guardThen {g : Sem Unit} {X : Sem Value} {C : Value → AVal → Prop} (hg : ∀ w, g.run P w = .ok () w) (h : ∃ v a', (∀ w, X.run P w = .ok v w) ∧ C v a') :
    ∃ v a', (∀ w, (g.run P w).andThen (fun _ w' => X.run P w') = .ok v w) ∧ C v a' := by
  obtain ⟨v, a', h1, h2⟩ := h
  exact ⟨v, a', fun w => by rw [hg w]; exact h1 w, h2⟩

/-! ### Arrays of plain data -/
theorem arrOk_inv {n : Nat} {e : TypeId} {v : AVal} (h : arrOk P n e v = true) : ∃ d, P.underlying e = some d ∧ aggT P e = false ∧ v.isAgg = true ∧ v.cells.length = n ∧ ∀ x ∈ v.cells, leafOk d x = true := by
  unfold arrOk at h
  have key : ∀ d, (v.isAggOf n && v.cells.all (leafOk d)) = true → v.isAgg = true ∧ v.cells.length = n ∧ ∀ x ∈ v.cells, leafOk d x = true := fun d h => by
    simp only [Bool.and_eq_true, List.all_eq_true] at h
    cases v <;> simp [AVal.isAggOf] at h
    exact ⟨rfl, h.1, h.2⟩
  split at h
  · rename_i hu; exact ⟨_, hu, by simp [aggT, hu], key _ h⟩
  · rename_i k hu; exact ⟨_, hu, by simp [aggT, hu], key _ h⟩
  · rename_i hu; exact ⟨_, hu, by simp [aggT, hu], key _ h⟩
  · simp at h
theorem eqItems_ok {c : Ctx} {n : Nat} {e : TypeId} {d : TypeDesc} {xs ys : Array Value} {cs ds : List AVal} (hu : P.underlying e = some d) (ha : aggT P e = false) (hone : P.cellsOf e = 1) (rx : RepA c xs cs) (ry : RepA c ys ds)
    (hl : cs.length = ds.length) (h1 : ∀ x ∈ cs, leafOk d x = true) (h2 : ∀ x ∈ ds, leafOk d x = true) :
    ∀ (m off : Nat), off + m = cs.length → (Op.eqItems (n + 1) e (P.cellsOf e) xs ys (List.range' off m)).run P w = .ok (eqCells (cs.drop off) (ds.drop off)) w
  | 0, off, hm => by
    rw [List.drop_eq_nil_of_le (by omega), List.drop_eq_nil_of_le (by omega)]
    simp [Op.eqItems, eqCells]
  | m + 1, off, hm => by
    have l1 : off < cs.length := by omega
    have l2 : off < ds.length := by omega
    obtain ⟨x, p1, r1⟩ := part_run hu rx (off := off) (by simp [ha]; omega)
    obtain ⟨y, p2, r2⟩ := part_run hu ry (off := off) (by simp [ha]; omega)
    simp only [ha, cond_false] at r1 r2
    have g1 : cs.getD off .undef = cs[off] := by simp [l1]
    have g2 : ds.getD off .undef = ds[off] := by simp [l2]
    rw [g1] at r1
    rw [g2] at r2
    have he := leaf_eq (w := w) (n := n) hu r1 r2 (h1 _ (List.getElem_mem l1)) (h2 _ (List.getElem_mem l2))
    have ih := eqItems_ok (n := n) hu ha hone rx ry hl h1 h2 m (off + 1) (by omega)
    rw [List.range'_succ]
    simp only [Op.eqItems, Sem.run_bind, hone, Nat.mul_one, p1, p2, he, Result.andThen_ok]
    rw [hone] at ih
    rw [List.drop_eq_getElem_cons l1, List.drop_eq_getElem_cons l2]
    simp only [eqCells]
    cases cs[off].eq1 ds[off]
    · simp
    · simpa using ih
theorem equal_arr (c : Ctx) {t e : TypeId} {n : Nat} {x y : Value} {a b : AVal} (hu : P.underlying t = some (.array n e)) (ra : Rep c x a) (rb : Rep c y b) (ha : arrOk P n e a = true) (hb : arrOk P n e b = true) (hone : P.cellsOf e = 1) :
    (Op.equal t x y).run P w = .ok (eqCells a.cells b.cells) w := by
  obtain ⟨d, hd, hag, a1, a2, a3⟩ := arrOk_inv ha
  obtain ⟨d', hd', _, b1, b2, b3⟩ := arrOk_inv hb
  rw [hd] at hd'; cases hd'
  obtain ⟨xs, rfl, rx⟩ := agg_inv ra a1
  obtain ⟨ys, rfl, ry⟩ := agg_inv rb b1
  obtain ⟨i, hi⟩ := info_of_und hd
  show (Op.equalIn 10000 t _ _).run P w = _
  rw [run_equalIn_array w 9999 xs ys hu hi]
  have := eqItems_ok (w := w) (n := 9998) hd hag hone rx ry (by omega) a3 b3 n 0 (by omega)
  rw [List.range_eq_range']
  simpa using this

theorem plainE_agg {c : Ctx} {t : TypeId} {x y : Value} {a b : AVal} (h1 : aggT P t = true) (h2 : plainE P t a = true) (h3 : plainE P t b = true) (ra : Rep c x a) (rb : Rep c y b) : ∃ xs ys, x = .agg xs ∧ y = .agg ys := by
  unfold plainE at h2 h3
  split at h2
  · rename_i n e hu
    rw [hu] at h3
    simp only [Bool.and_eq_true] at h2 h3
    obtain ⟨_, _, _, a1, _⟩ := arrOk_inv h2.2
    obtain ⟨_, _, _, b1, _⟩ := arrOk_inv h3.2
    obtain ⟨xs, rfl, _⟩ := agg_inv ra a1
    obtain ⟨ys, rfl, _⟩ := agg_inv rb b1
    exact ⟨_, _, rfl, rfl⟩
  · rename_i hn
    split at h3
    · rename_i n e hu; exact absurd hu (hn n e)
    · obtain ⟨xs, rfl⟩ := plainOk_agg h1 h2 ra
      obtain ⟨ys, rfl⟩ := plainOk_agg h1 h3 rb
      exact ⟨_, _, rfl, rfl⟩
theorem guard_plainE (c : Ctx) {op : BinOp} {t : TypeId} {ox oy : Operand} {x y : Value} {a b : AVal} (ra : Rep c x a) (rb : Rep c y b) (ha : plainE P t a = true) (hb : plainE P t b = true) :
    (eqGuard op t ox oy x y).run P w = .ok () w := by
  unfold plainE at ha hb
  split at ha
  · rename_i n e hu
    rw [hu] at hb
    simp only [Bool.and_eq_true, Bool.not_eq_true'] at ha hb
    obtain ⟨_, _, _, a1, _⟩ := arrOk_inv ha.2
    obtain ⟨_, _, _, b1, _⟩ := arrOk_inv hb.2
    obtain ⟨xs, rfl, _⟩ := agg_inv ra a1
    obtain ⟨ys, rfl, _⟩ := agg_inv rb b1
    exact run_eqGuard_agg w op t ox oy xs ys ha.1.2
  · rename_i hn
    split at hb
    · rename_i n e hu; exact absurd hu (hn n e)
    · exact guard_plain c ra rb ha hb
theorem equal_okE (c : Ctx) {t : TypeId} {x y : Value} {a b : AVal} (ra : Rep c x a) (rb : Rep c y b) (ha : plainE P t a = true) (hb : plainE P t b = true) :
    (Op.equal t x y).run P w = .ok (eqCells a.cells b.cells) w := by
  unfold plainE at ha hb
  split at ha
  · rename_i n e hu
    rw [hu] at hb
    simp only [Bool.and_eq_true, beq_iff_eq] at ha hb
    exact equal_arr c hu ra rb ha.2 hb.2 ha.1.1
  · rename_i hn
    split at hb
    · rename_i n e hu; exact absurd hu (hn n e)
    · exact equal_ok c ra rb ha hb

theorem binK_ok {c : Ctx} {op : BinOp} {t : TypeId} {ox oy : Operand} {x y : Value} {a b : AVal} {K : AVal → Tr R} (ra : Rep c x a) (rb : Rep c y b) (h : (binK P op t a b K).All Q) :
    ∃ v a', (∀ w, (do eqGuard op t ox oy x y; binOp op t x y : Sem Value).run P w = .ok v w) ∧ Rep c v a' ∧ (K a').All Q := by
  simp only [Sem.run_bind]
  unfold binK at h
  split at h
  · cases ra; cases rb
    refine guardThen (fun w => guard_other (.inl (by simp)) (.inl rfl)) ?_
    exact binInt_ok h
  · cases ra; cases rb
    refine guardThen (fun w => guard_other (.inl (by simp)) (.inl rfl)) ?_
    exact binStr_ok h
  · cases ra; cases rb
    refine guardThen (fun w => guard_other (.inl (by simp)) (.inl rfl)) ?_
    split at h
    · rename_i hu
      exact ⟨_, _, fun w => by simp only [binOp, Result.andThen_ok, Sem.run_bind, equal_bool hu]; rfl, .bool _, h⟩
    · rename_i hu
      exact ⟨_, _, fun w => by simp only [binOp, Result.andThen_ok, Sem.run_bind, equal_bool hu]; rfl, .bool _, h⟩
    · exact h.elim
  · cases rb
    split at h
    · rename_i e hu
      obtain ⟨hp, h⟩ := all_bif h
      obtain ⟨p, rfl, hn⟩ := sameNil c ra hp
      refine guardThen (fun w => guard_other (.inl (by simp)) (.inl rfl)) ?_
      refine ⟨_, _, fun w => ?_, .bool _, h⟩
      rw [← hn]
      simp only [binOp, Result.andThen_ok, Sem.run_bind, equal_nil hu]; rfl
    · rename_i e hu
      obtain ⟨hp, h⟩ := all_bif h
      obtain ⟨p, rfl, hn⟩ := sameNil c ra hp
      refine guardThen (fun w => guard_other (.inl (by simp)) (.inl rfl)) ?_
      refine ⟨_, _, fun w => ?_, .bool _, h⟩
      rw [← hn]
      simp only [binOp, Result.andThen_ok, Sem.run_bind, equal_nil hu]; rfl
    · exact h.elim
  · split at h
    · obtain ⟨hp, h⟩ := all_bif h
      simp only [Bool.and_eq_true] at hp
      refine guardThen (fun w => guard_plainE c ra rb hp.1.2 hp.2) ?_
      obtain ⟨xs, ys, rfl, rfl⟩ := plainE_agg hp.1.1 hp.1.2 hp.2 ra rb
      exact ⟨_, _, fun w => by simp only [binOp, Result.andThen_ok, Sem.run_bind, equal_okE c ra rb hp.1.2 hp.2]; rfl, .bool _, h⟩
    · obtain ⟨hp, h⟩ := all_bif h
      simp only [Bool.and_eq_true] at hp
      refine guardThen (fun w => guard_plainE c ra rb hp.1.2 hp.2) ?_
      obtain ⟨xs, ys, rfl, rfl⟩ := plainE_agg hp.1.1 hp.1.2 hp.2 ra rb
      exact ⟨_, _, fun w => by simp only [binOp, Result.andThen_ok, Sem.run_bind, equal_okE c ra rb hp.1.2 hp.2]; rfl, .bool _, h⟩
    · exact h.elim

theorem unK_ok {c : Ctx} {op : UnOp} {x : Value} {a : AVal} {K : AVal → Tr R} (ra : Rep c x a) (h : (unK op a K).All Q) :
    ∃ v a', (∀ w, (Op.unary op x).run P w = .ok v w) ∧ Rep c v a' ∧ (K a').All Q := by
  unfold unK at h
  split at h
  · cases ra; exact ⟨_, _, fun w => rfl, .bool _, h⟩
  · cases ra; exact ⟨_, _, fun w => rfl, .int _ _, h⟩
  · cases ra; exact ⟨_, _, fun w => rfl, .int _ _, h⟩
  · exact h.elim
end Go.Weave
