/- The evaluator's other pure operations do what the machine's do. -/
import Derived.Test.YtjaadkgohjbadaaWvE
namespace Go.Weave
variable {P : Program} {w : World} {R : Type} {Q : R → Prop}

theorem repE_loc {S : Sc} {v : Value} {d off : Nat} (h : (look d S.bx).isSome = true ∧ v = .pointer (some ⟨S.lam d, off, none⟩)) : RepE S v (.one (.loc d off)) := h

theorem Rep.eltOff {c : Ctx} {e : AVal} {ag : Bool} {sz off : Nat} {v : Value} (r : Rep c v (.elt e ag sz off)) :
    ∃ b base, v = .pointer (some ⟨b, base + off, none⟩) ∧ ∀ off', Rep c (.pointer (some ⟨b, base + off', none⟩)) (.elt e ag sz off') := by
  cases r with
  | elt b base _ lim _ _ _ f hk hl hs ha hn hc hr => exact ⟨b, base, rfl, fun off' => .elt b base off' lim e ag sz f hk hl hs ha hn hc hr⟩

theorem Rep.strInv {c : Ctx} {v : Value} {s : List UInt8} (r : Rep c v (.str s)) : ∃ b : ByteArray, v = .string b ∧ s = b.data.toList := by
  cases r; exact ⟨_, rfl, rfl⟩

theorem fieldAddrK_ok {S : Sc} {s : TypeId} {vx : Value} {x : EV} {f : Nat} {K : EV → Tr R} (rx : RepE S vx x) (h : (fieldAddrK P s x f K).All Q) :
    ∃ v e, (∀ w, (Instr.fieldAt s vx f).run P w = .ok v w) ∧ RepE S v e ∧ (K e).All Q := by
  unfold fieldAddrK at h
  split at h
  · rename_i fs hu
    split at h
    · rename_i fd hf
      cases hz : (szOf P fd.type == 0) <;> simp only [hz, cond_true, cond_false] at h
      · have hz' : 0 < szOf P fd.type := by have : szOf P fd.type ≠ 0 := by simpa using hz
                                            omega
        have hrun : ∀ {w} b o, (Instr.fieldAt s (.pointer (some ⟨b, o, none⟩)) f).run P w = .ok (.pointer (some ⟨b, o + fd.offset, none⟩)) w := fun b o => by
          have hne : ¬ szOf P fd.type = 0 := by omega
          simp [Instr.fieldAt, run_underlying hu, hf, Instr.sureAddr, fieldPlace, run_size0 hz', hne, add_at]
        split at h
        · rename_i d off
          obtain ⟨h1, rfl⟩ : _ ∧ vx = _ := rx
          exact ⟨_, _, fun _ => hrun _ _, repE_loc ⟨h1, rfl⟩, h⟩
        · rename_i id off
          have rp : Rep S.c vx (.obj id off) := rx
          cases rp with
          | obj _ _ hid => exact ⟨_, _, fun _ => hrun _ _, repE_val (.obj id _ hid), h⟩
        · rename_i e ag sz off
          obtain ⟨b, base, rfl, hh⟩ := Rep.eltOff (show Rep S.c vx _ from rx)
          refine ⟨_, _, fun _ => hrun _ _, repE_val ?_, h⟩
          rw [Nat.add_assoc]
          exact hh _
        · exact h.elim
      · exact h.elim
    · exact h.elim
  · exact h.elim

theorem indexAddrK_ok {S : Sc} {t : TypeId} {vx vi : Value} {x i : EV} {K : EV → Tr R} (rx : RepE S vx x) (ri : RepE S vi i) (h : (indexAddrK P t x i K).All Q) :
    ∃ v e, (∀ w, (Instr.indexAt t vx vi).run P w = .ok v w) ∧ RepE S v e ∧ (K e).All Q := by
  unfold indexAddrK at h
  obtain ⟨k, n, rfl, h⟩ := intOf_ok h
  obtain rfl := repE_int ri
  split at h
  · rename_i len e hu
    obtain ⟨hb, h⟩ := all_bif h
    simp only [Bool.and_eq_true, decide_eq_true_eq] at hb
    obtain ⟨hel, h0, h1⟩ := hb
    obtain ⟨hpos, _⟩ := elOk_spec hel
    have hrun : ∀ {w} b o, (Instr.indexAt t (.pointer (some ⟨b, o, none⟩)) (.int k n)).run P w = .ok (.pointer (some ⟨b, o + n.toNat * szOf P e, none⟩)) w := fun b o => by
      simp [Instr.indexAt, asIntOf, run_underlying hu, Instr.sureAddr, h0, h1, run_size0 hpos, add_at]
    split at h
    · rename_i d off
      obtain ⟨h1, rfl⟩ : _ ∧ vx = _ := rx
      exact ⟨_, _, fun _ => hrun _ _, repE_loc ⟨h1, rfl⟩, h⟩
    · rename_i id off _ _
      have rp : Rep S.c vx (.obj id off) := rx
      cases rp with
      | obj _ _ hid => exact ⟨_, _, fun _ => hrun _ _, repE_val (.obj id _ hid), h⟩
    · rename_i e ag sz off _ _
      obtain ⟨b, base, rfl, hh⟩ := Rep.eltOff (show Rep S.c vx _ from rx)
      refine ⟨_, _, fun _ => hrun _ _, repE_val ?_, h⟩
      rw [Nat.add_assoc]
      exact hh _
    · exact h.elim
  · rename_i e hu
    split at h
    · rename_i full sz es hA
      obtain ⟨hb, h⟩ := all_bif h
      simp only [Bool.and_eq_true, decide_eq_true_eq] at hb
      obtain ⟨⟨hel, hsz⟩, h0, h1⟩ := hb
      obtain ⟨hpos, hcnt⟩ := elOk_spec hel
      have rA : Rep S.c vx (.sl full (shp P e) es) := (RepE.toA rx hA).slEmpty hsz
      rcases rA.slInv with ⟨_, rfl, rfl⟩ | ⟨b, off, cap, rfl, hat⟩
      · simp at h1; omega
      · obtain ⟨_, _, lim, f, hk, hl, he, hc, hr⟩ := hat
        have hlt : n.toNat < es.length := by omega
        have hel' := he (es.getD n.toNat .undef) (by simp [hlt])
        refine ⟨.pointer (some ⟨b, off + n.toNat * szOf P e, none⟩), _, fun w => ?_, repE_val ?_, h⟩
        · have : n < (es.length : Int) := h1
          simp [Instr.indexAt, asIntOf, run_underlying hu, h0, this, run_size0 hpos, add_at]
        · rw [hcnt] at hc hr hl
          have hmul := cell_lt (n := es.length) (k := szOf P e) (j := 0) hlt hpos
          have hle : (n.toNat + 1) * szOf P e ≤ es.length * szOf P e := Nat.mul_le_mul_right _ hlt
          rw [Nat.succ_mul] at hle
          have := Rep.elt (c := S.c) b (off + n.toNat * szOf P e) 0 lim (es.getD n.toNat .undef) (aggT P e) (szOf P e) (fun j => f n.toNat j) hk (by omega)
            (by rw [hel'.2.1, hcnt]) (by rw [hel'.1, shp_agg]) hel'.2.2 (fun j hj => hc _ j hlt hj) (fun j hj => hr _ j hlt hj)
          simpa using this
    · exact h.elim
  · exact h.elim


theorem RepA.of_agg {c : Ctx} {v : Value} {cs : List AVal} (r : Rep c v (.agg cs)) : ∃ xs, v = .agg xs ∧ RepA c xs cs := by
  cases r with
  | agg xs _ hs hn hr => exact ⟨xs, rfl, hs, fun j hj => ⟨hr j hj, hn _ (by simp [hj])⟩⟩

theorem isAgg_spec {a : AVal} (h : a.isAgg = true) : a = .agg a.cells := by cases a <;> simp [AVal.isAgg] at h; rfl

theorem partK_ok {S : Sc} {t : TypeId} {xs : Array Value} {cs : List AVal} {off : Nat} {K : EV → Tr R} (r : RepA S.c xs cs) (h : (partK P t cs off K).All Q) :
    ∃ v e, (∀ w, (Go.part t xs off).run P w = .ok v w) ∧ RepE S v e ∧ (K e).All Q := by
  unfold partK at h
  cases ha : aggT P t <;> simp only [ha, cond_true, cond_false] at h
  · obtain ⟨v, hv, h⟩ := all_optK h
    obtain ⟨hlt, hgd⟩ := getElem?_getD (d := .undef) hv
    obtain ⟨d, hu⟩ := und_of_coerce h
    obtain ⟨u, h1, h2⟩ := part_run (off := off) hu r (by simp [ha]; omega)
    rw [ha, cond_false, hgd] at h2
    obtain ⟨a', h3, _, _, h⟩ := coerce_ok h2 h
    exact ⟨u, _, h1, repE_val h3, h⟩
  · obtain ⟨hb, h⟩ := all_bif h
    obtain ⟨d, hu⟩ := aggT_und ha
    obtain ⟨u, h1, h2⟩ := part_run (off := off) hu r (by simpa [ha] using hb)
    rw [ha, cond_true] at h2
    exact ⟨u, _, h1, repE_val h2, h⟩

theorem partK_und {t : TypeId} {cs : List AVal} {off : Nat} {K : EV → Tr R} (h : (partK P t cs off K).All Q) : ∃ d, P.underlying t = some d := by
  unfold partK at h
  cases ha : aggT P t <;> simp only [ha, cond_true, cond_false] at h
  · obtain ⟨v, hv, h⟩ := all_optK h
    exact und_of_coerce h
  · exact aggT_und ha

theorem part_runS {S : Sc} {t : TypeId} {d : TypeDesc} {xs : Array Value} {l : List SV} {off : Nat} (hu : P.underlying t = some d) (r : RepL S xs l)
    (hn : off + (bif aggT P t then szOf P t else 1) ≤ l.length) :
    ∃ v, (∀ w, (Go.part t xs off).run P w = .ok v w) ∧ (bif aggT P t then RepC S v (.agg ((l.drop off).take (szOf P t))) else RepS S v (l.getD off .unk)) := by
  unfold Go.part
  simp only [Sem.run_bind, run_isAgg hu, Result.andThen_ok]
  cases ha : aggT P t <;> simp only [ha, cond_true, cond_false] at hn ⊢
  · have hlt : off < xs.size := by rw [r.1]; omega
    refine ⟨xs.getD off undef, fun w => ?_, (r.2 off (by omega)).1⟩
    simp [hlt]
  · refine ⟨_, fun w => by simp only [if_true, Sem.run_bind, run_size hu, Result.andThen_ok]; rfl, ?_⟩
    have := sub_aggS (n := szOf P t) r hn
    have e : xs.extract off (off + szOf P t) = ((List.range (szOf P t)).map fun j => xs.getD (off + j) undef).toArray := by
      apply Array.ext'
      simp only [Array.toList_extract, List.extract]
      apply List.ext_getElem?
      intro j
      by_cases hj : j < szOf P t
      · have h1 : off + j < xs.size := by rw [r.1]; omega
        simp [hj, List.getElem?_drop, h1]
      · simp [hj]; omega
    rw [e]
    exact ⟨_, rfl, this⟩

theorem fieldK_ok {S : Sc} {t : TypeId} {vx : Value} {x : EV} {f : Nat} {K : EV → Tr R} (rx : RepE S vx x) (h : (fieldK P t x f K).All Q) :
    ∃ v e, (∀ w, (Instr.field t vx f).run P w = .ok v w) ∧ RepE S v e ∧ (K e).All Q := by
  unfold fieldK at h
  split at h
  · rename_i fs hu
    split at h
    · rename_i fd hf
      have hrun : ∀ w xs, (Instr.field t (.agg xs) f).run P w = (Go.part fd.type xs fd.offset).run P w := fun w xs => by
        simp [Instr.field, run_underlying hu, hf, asAgg]
      split at h
      · rename_i l
        obtain ⟨xs, rfl, hl⟩ := rx
        cases ha : aggT P fd.type <;> simp only [ha, cond_true, cond_false] at h
        · obtain ⟨hu', h⟩ := all_bif h
          obtain ⟨d, hd⟩ := Option.isSome_iff_exists.1 hu'
          obtain ⟨s, hs, h⟩ := all_optK h
          obtain ⟨hlt, hgd⟩ := getElem?_getD (d := .unk) hs
          obtain ⟨u, h1, h2⟩ := part_runS (off := fd.offset) hd hl (by simp [ha]; omega)
          rw [ha, cond_false, hgd] at h2
          obtain ⟨s', h3, h⟩ := coerceS_ok h2 h
          exact ⟨u, _, fun w => by rw [hrun]; exact h1 w, show RepE S u (.one s') from h3, h⟩
        · obtain ⟨hb, h⟩ := all_bif h
          obtain ⟨d, hd⟩ := aggT_und ha
          obtain ⟨u, h1, h2⟩ := part_runS (off := fd.offset) hd hl (by simpa [ha] using hb)
          rw [ha, cond_true] at h2
          exact ⟨u, _, fun w => by rw [hrun]; exact h1 w, show RepE S u (.agg _) from h2, h⟩
      · obtain ⟨v, hv, h⟩ := all_optK h
        obtain ⟨hb, h⟩ := all_bif h
        have rv := RepE.toA rx hv
        rw [isAgg_spec hb] at rv
        obtain ⟨xs, rfl, rA⟩ := RepA.of_agg rv
        obtain ⟨u, e, h1, h2, h⟩ := partK_ok rA h
        exact ⟨u, e, fun w => by rw [hrun]; exact h1 w, h2, h⟩
    · exact h.elim
  · exact h.elim

theorem indexK_ok {S : Sc} {t : TypeId} {vx vi : Value} {x i : EV} {K : EV → Tr R} (rx : RepE S vx x) (ri : RepE S vi i) (h : (indexK P t x i K).All Q) :
    ∃ v e, (∀ w, (Instr.index t vx vi).run P w = .ok v w) ∧ RepE S v e ∧ (K e).All Q := by
  unfold indexK at h
  obtain ⟨k, n, rfl, h⟩ := intOf_ok h
  obtain rfl := repE_int ri
  split at h
  · rename_i len e hu _
    obtain ⟨v, hv, h⟩ := all_optK h
    obtain ⟨hb, h⟩ := all_bif h
    simp only [Bool.and_eq_true, decide_eq_true_eq] at hb
    obtain ⟨hag, h0, h1⟩ := hb
    have rv := RepE.toA rx hv
    rw [isAgg_spec hag] at rv
    obtain ⟨xs, rfl, rA⟩ := RepA.of_agg rv
    obtain ⟨d, hd⟩ := partK_und h
    obtain ⟨u, e', h3, h2, h⟩ := partK_ok rA h
    refine ⟨u, e', fun w => ?_, h2, h⟩
    simp [Instr.index, asIntOf, run_underlying hu, h0, h1, run_size hd, h3]
  · rename_i hu _
    obtain ⟨b, rfl, rfl⟩ := Rep.strInv (show Rep S.c vx (.str _) from rx)
    obtain ⟨hb, h⟩ := all_bif h
    simp only [Bool.and_eq_true, decide_eq_true_eq] at hb
    obtain ⟨h0, h1⟩ := hb
    have hlt : n.toNat < b.size := by simp at h1; omega
    have hlt' : n.toNat < b.data.toList.length := by simpa using hlt
    refine ⟨_, _, fun w => ?_, repE_val (.int _ _), h⟩
    have e : b[n.toNat]? = some (b.data.toList.getD n.toNat 0) := by
      simp [hlt]
      rfl
    simp [Instr.index, asIntOf, run_underlying hu, h0, e]
  · exact h.elim

theorem lenK_ok {base : Bs} {S : Sc} {fr : Fr} {a : Act} {t ty : TypeId} {ts : List TypeId} {vx : Value} {x : EV} {vs : List Value} {K : EV → Tr R} (r : Rel base S fr a w) (rx : RepE S vx x)
    (h : (lenK P t x S.H K).All Q) : ∃ v e, (Builtin.len_ (t :: ts).toArray ty (vx :: vs).toArray).run P w = .ok v w ∧ RepE S v e ∧ (K e).All Q := by
  unfold lenK at h
  split at h
  · rename_i hu
    split at h
    · obtain ⟨b, rfl, rfl⟩ := Rep.strInv (show Rep S.c vx (.str _) from rx)
      refine ⟨_, _, ?_, repE_val (.int .i64 (b.data.toList.length : Int)), h⟩
      simp [Builtin.len_, run_underlying hu, goInt]
    · exact h.elim
  · rename_i e hu
    split at h
    · rename_i full sz es hA
      have rA := RepE.toA rx hA
      refine ⟨_, _, ?_, repE_val (.int .i64 (es.length : Int)), h⟩
      rcases rA.slInv with ⟨_, rfl, rfl⟩ | ⟨b, off, cap, rfl, hat⟩
      · simp [Builtin.len_, run_underlying hu, goInt]
      · simp [Builtin.len_, run_underlying hu, goInt]
    · exact h.elim
  · rename_i n e hu
    exact ⟨_, _, by simp [Builtin.len_, run_underlying hu, goInt], repE_val (.int .i64 (n : Int)), h⟩
  · rename_i k e hu
    obtain ⟨m, hm, h⟩ := all_optK h
    have rm := RepE.toA rx hm
    split at h
    · cases rm
      exact ⟨_, _, by simp [Builtin.len_, run_underlying hu, goInt], repE_val (.int .i64 0), h⟩
    · unfold mapK at h
      obtain ⟨hb, h⟩ := all_bif h
      rw [isMap_spec hb] at rm
      split at h
      · rename_i kt es c ho
        cases rm with
        | map _ hid =>
        obtain ⟨ents, hg, hsz, _⟩ := r.heap.obj _ _ ho
        rw [r.w] at hg
        refine ⟨_, _, ?_, repE_val (.int .i64 (es.length : Int)), h⟩
        simp [Builtin.len_, run_underlying hu, goInt, getObj, Sem.run, hg, hsz]
      · exact h.elim
  · exact h.elim

theorem minFrom_ok {S : Sc} {big : Bool} {k : IntKind} {K : EV → Tr R} : ∀ (xs : List EV) (vs : List Value) (n : Int), vs.length = xs.length → (∀ j, j < xs.length → RepE S (vs.getD j undef) (xs.getD j (.one .unk))) →
    (minFrom big k n xs K).All Q → ∃ v e, (∀ w, (vs.foldlM (bif big then Builtin.max2 else Builtin.min2) (.int k n)).run P w = .ok v w) ∧ RepE S v e ∧ (K e).All Q
  | [], vs, n, hl, hr, h => by
    have : vs = [] := by simpa using hl
    subst this
    exact ⟨_, _, fun _ => rfl, repE_val (.int k n), h⟩
  | x :: xs, [], n, hl, hr, h => by simp at hl
  | x :: xs, v :: vs, n, hl, hr, h => by
    unfold minFrom at h
    split at h
    · rename_i he; simp at he
    · rename_i k' b r he
      simp only [List.cons.injEq] at he
      obtain ⟨rfl, rfl⟩ := he
      have h0 := hr 0 (by simp)
      simp only [List.getD_cons_zero] at h0
      obtain rfl := repE_int h0
      obtain ⟨u, e, h1, h2, h3⟩ := minFrom_ok xs vs _ (by simpa using hl) (fun j hj => by simpa using hr (j + 1) (by simpa using hj)) h
      refine ⟨u, e, fun w => ?_, h2, h3⟩
      have h1 := h1 w
      simp only [List.foldlM_cons, Sem.run_bind]
      cases big
      · simp only [cond_false] at h1 ⊢
        simpa [Builtin.min2] using h1
      · simp only [cond_true] at h1 ⊢
        simpa [Builtin.max2] using h1
    · exact h.elim

theorem minK_ok {S : Sc} {big : Bool} {ts : Array TypeId} {ty : TypeId} {xs : List EV} {vs : List Value} {K : EV → Tr R} (hl : vs.length = xs.length)
    (hr : ∀ j, j < xs.length → RepE S (vs.getD j undef) (xs.getD j (.one .unk))) (h : (minK big xs K).All Q) :
    ∃ v e, (∀ w, ((bif big then Builtin.max_ ts ty vs.toArray else Builtin.min_ ts ty vs.toArray) : Sem Value).run P w = .ok v w) ∧ RepE S v e ∧ (K e).All Q := by
  unfold minK at h
  split at h
  · rename_i k a r
    cases vs with
    | nil => simp at hl
    | cons v vs =>
      have h0 := hr 0 (by simp)
      simp only [List.getD_cons_zero] at h0
      obtain rfl := repE_int h0
      obtain ⟨u, e, h1, h2, h3⟩ := minFrom_ok (P := P) r vs a (by simpa using hl) (fun j hj => by simpa using hr (j + 1) (by simpa using hj)) h
      refine ⟨u, e, fun w => ?_, h2, h3⟩
      have h1 := h1 w
      cases big
      · simpa [Builtin.min_] using h1
      · simpa [Builtin.max_] using h1
  · exact h.elim

/-! ### Literals -/
theorem Rep.cells {c : Ctx} {v : Value} {a : AVal} (r : Rep c v a) : RepA c v.cells a.cells := by
  cases h : a.isAgg
  · have hv := r.cellv h
    have e1 : a.cells = [a] := by cases a <;> first | rfl | simp [AVal.isAgg] at h
    have e2 : v.cells = #[v] := by cases v <;> first | rfl | exact absurd hv (by simp [Value.oneCell'])
    rw [e1, e2]
    refine ⟨rfl, fun j hj => ?_⟩
    have : j = 0 := Nat.lt_one_iff.1 hj
    subst this
    exact ⟨r, h⟩
  · have e := isAgg_spec h
    rw [e] at r
    obtain ⟨xs, rfl, rA⟩ := RepA.of_agg r
    exact rA

theorem RepS.one {S : Sc} {v : Value} {s : SV} (r : RepS S v s) (hu : s ≠ .unk) (ha : ∀ l, s ≠ .val (.agg l)) : Cellv v := by
  cases s with
  | unk => exact absurd rfl hu
  | val a =>
    refine Rep.cellv r ?_
    cases a <;> first | rfl | exact absurd rfl (ha _)
  | own g sz es => exact Rep.cellv r.1 rfl
  | bor id off sz es => exact Rep.cellv r.1 rfl
  | loc d off => obtain ⟨_, rfl⟩ := r; rfl
  | lsl d => obtain ⟨_, rfl⟩ := r; rfl

theorem RepA.toL {S : Sc} {xs : Array Value} {l : List AVal} (r : RepA S.c xs l) : RepL S xs (l.map .val) :=
  ⟨by simpa using r.1, fun j hj => by
    have hj' : j < l.length := by simpa using hj
    have h1 := r.2 j hj'
    have e : (l.map SV.val).getD j .unk = .val (l.getD j .undef) := by simp [hj']
    rw [e]
    exact ⟨h1.1, Rep.cellv h1.1 h1.2⟩⟩

theorem RepC.cellsS {S : Sc} {v : Value} {c : CV} (r : RepC S v c) (hu : c ≠ .one .unk) : RepL S v.cells c.cellsS := by
  cases c with
  | agg l => obtain ⟨xs, rfl, h⟩ := r; exact h
  | one s =>
    have hone : (∀ l, s ≠ .val (.agg l)) → RepL S v.cells [s] := fun ha => by
      have hv : Cellv v := RepS.one r (fun e => hu (by rw [e])) ha
      have e2 : v.cells = #[v] := by cases v <;> first | rfl | exact absurd hv (by simp [Value.oneCell'])
      rw [e2]
      refine ⟨rfl, fun j hj => ?_⟩
      have : j = 0 := Nat.lt_one_iff.1 hj
      subst this
      exact ⟨r, hv⟩
    cases s with
    | unk => exact absurd rfl hu
    | val a =>
      cases a with
      | agg l => exact RepA.toL (Rep.cells (show Rep S.c v (.agg l) from r))
      | _ => exact hone (by simp)
    | _ => exact hone (by simp)

theorem placeOf_ok {t : TypeId} {place : Nat → Option (Nat × Nat)} (h : placeOf P t = some place) :
    (∃ fs, P.underlying t = some (.struct fs) ∧ (∀ f ∈ fs.toList, (P.info? f.type).isSome = true) ∧ place = fun i => (fs[i]?).map fun f => (f.offset, szOf P f.type)) ∨
    (∃ n e, P.underlying t = some (.array n e) ∧ (P.info? e).isSome = true ∧ place = fun i => some (i * szOf P e, szOf P e)) := by
  unfold placeOf at h
  split at h
  · rename_i fs hu
    cases hb : fs.toList.all (fun f => (P.info? f.type).isSome) <;> simp only [hb, cond_true, cond_false, Option.some.injEq, reduceCtorEq] at h
    exact .inl ⟨fs, hu, fun f hf => List.all_eq_true.1 hb f hf, h.symm⟩
  · rename_i n e hu
    cases hb : (P.info? e).isSome <;> simp only [hb, cond_true, cond_false, Option.some.injEq, reduceCtorEq] at h
    exact .inr ⟨n, e, hu, hb, h.symm⟩
  · simp at h
end Go.Weave
