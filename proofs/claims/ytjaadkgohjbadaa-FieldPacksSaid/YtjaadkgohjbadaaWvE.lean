/- The evaluator's looks into slices and memory do what the machine's do. -/
import Derived.Test.YtjaadkgohjbadaaWvD
import Derived.Laws.BytesString
namespace Go.Weave
variable {P : Program} {w : World} {R : Type} {Q : R → Prop}

theorem elOk_spec {t : TypeId} (h : elOk P t = true) : 0 < szOf P t ∧ cnt (shp P t) = szOf P t := by
  unfold elOk at h
  simp only [Bool.and_eq_true, decide_eq_true_eq, Bool.or_eq_true, beq_iff_eq] at h
  refine ⟨h.1.1, ?_⟩
  unfold shp cnt
  cases ha : aggT P t
  · have := h.1.2.resolve_left (by simp [ha])
    simp [this]
  · simp

theorem shp_agg {t : TypeId} : (!(shp P t == 0)) = aggT P t := by
  unfold shp
  cases aggT P t <;> simp

theorem part_length {α : Type} {l h : Int} {xs : List α} (h0 : 0 ≤ l) (h1 : l ≤ h) (h2 : h ≤ xs.length) : (part l h xs).length = (h - l).toNat := by
  simp [part]; omega

theorem part_getD {α : Type} {l h : Int} {xs : List α} (d : α) {i : Nat} (h0 : 0 ≤ l) (h2 : h ≤ xs.length) (hi : i < (h - l).toNat) :
    (part l h xs).getD i d = xs.getD (l.toNat + i) d := by
  have hx : l.toNat + i < xs.length := by omega
  simp [part, hi, List.getElem?_drop]

theorem part_mem {α : Type} {l h : Int} {xs : List α} {x : α} (hx : x ∈ part l h xs) : x ∈ xs :=
  List.mem_of_mem_drop (List.mem_of_mem_take hx)

/-- A row of a slice's elements. -/
structure SlAt (c : Ctx) (b off cap : Nat) (full : Bool) (sz : Nat) (es : List AVal) : Prop where
  hcap : es.length ≤ cap
  hfull : full = true → cap = es.length
  hcells : ∃ (lim : Nat) (f : Nat → Nat → Value), c.κ b = some lim ∧ off + es.length * cnt sz ≤ lim ∧ (∀ e ∈ es, okEl sz e) ∧
    (∀ i j, i < es.length → j < cnt sz → c.w.cell? ⟨b, off + i * cnt sz + j, none⟩ = some (f i j)) ∧
    (∀ i j, i < es.length → j < cnt sz → Rep c (f i j) ((es.getD i .undef).cells.getD j .undef))

theorem SlAt.rep {c : Ctx} {b off cap : Nat} {full : Bool} {sz : Nat} {es : List AVal} (h : SlAt c b off cap full sz es) :
    Rep c (.slice (some ⟨b, off, none⟩) es.length cap) (.sl full sz es) := by
  obtain ⟨lim, f, hk, hl, he, hc, hr⟩ := h.hcells
  exact .sl b off cap lim full sz es f h.hcap h.hfull hk hl he hc hr

theorem Rep.slInv {c : Ctx} {v : Value} {full : Bool} {sz : Nat} {es : List AVal} (r : Rep c v (.sl full sz es)) :
    (∃ x, v = .slice x 0 0 ∧ es = []) ∨ ∃ b off cap, v = .slice (some ⟨b, off, none⟩) es.length cap ∧ SlAt c b off cap full sz es := by
  cases r with
  | slnil x => exact .inl ⟨x, rfl, rfl⟩
  | sl b off cap lim _ _ _ f hcap hf hk hl he hc hr => exact .inr ⟨b, off, cap, rfl, hcap, hf, lim, f, hk, hl, he, hc, hr⟩

/-- A piece of what stands in a row is what stands in the piece of the row. -/
theorem SlAt.part {c : Ctx} {b off cap : Nat} {full full' : Bool} {sz : Nat} {es : List AVal} {l h : Int} (r : SlAt c b off cap full sz es)
    (h0 : 0 ≤ l) (h1 : l ≤ h) (h2 : h ≤ es.length) {cap' : Nat} (hc' : (h - l).toNat ≤ cap') (hf : full' = true → cap' = (h - l).toNat) :
    SlAt c b (off + l.toNat * cnt sz) cap' full' sz (part l h es) := by
  obtain ⟨hcap, hf', lim, f, hk, hl, he, hc, hr⟩ := r
  have hlen := part_length h0 h1 h2
  have key : (l.toNat + (h - l).toNat) * cnt sz ≤ es.length * cnt sz := Nat.mul_le_mul_right _ (by omega)
  rw [Nat.add_mul] at key
  refine ⟨by omega, by rw [hlen]; exact hf, lim, fun i j => f (l.toNat + i) j, hk, by rw [hlen]; omega, fun e h => he e (part_mem h), fun i j hi hj => ?_, fun i j hi hj => ?_⟩
  · rw [hlen] at hi
    have := hc (l.toNat + i) j (by omega) hj
    rw [Nat.add_mul] at this
    rw [← this]; congr 2; omega
  · rw [hlen] at hi
    rw [part_getD _ h0 h2 hi]
    exact hr _ j (by omega) hj

theorem repE_val {S : Sc} {v : Value} {a : AVal} (h : Rep S.c v a) : RepE S v (.one (.val a)) := h
theorem repE_own {S : Sc} {v : Value} {g sz : Nat} {es : List AVal} (h : Rep S.c v (.sl false sz es) ∧ OwnAt S.c (S.β (.tok g)) sz v) : RepE S v (.one (.own g sz es)) := h

def RepO (S : Sc) : Option Value → Option EV → Prop
  | none, none => True
  | some v, some e => RepE S v e
  | _, _ => False

theorem repE_int {S : Sc} {v : Value} {k : IntKind} {n : Int} (r : RepE S v (.one (.val (.int k n)))) : v = .int k n := by
  have : Rep S.c v (.int k n) := r
  cases this; rfl

theorem optInt_ok {S : Sc} {v : Option Value} {e : Option EV} {d : Int} {K : Int → Tr R} (r : RepO S v e) (h : (optInt e d K).All Q) :
    ∃ n, ((v = none ∧ n = d) ∨ (∃ k, v = some (.int k n))) ∧ (v = none ↔ e = none) ∧ (K n).All Q := by
  cases e with
  | none => cases v with
    | none => exact ⟨d, .inl ⟨rfl, rfl⟩, by simp, h⟩
    | some v => exact r.elim
  | some e =>
    cases v with
    | none => exact r.elim
    | some v =>
      obtain ⟨k, n, rfl, h⟩ := intOf_ok h
      exact ⟨n, .inr ⟨k, by rw [repE_int r]⟩, by simp, h⟩

theorem run_bound {k : IntKind} {n : Int} {y : Nat} {code : BoundsCode} (h0 : 0 ≤ n) (h1 : n ≤ y) : (Instr.sliceBound (.int k n) y code).run P w = .ok n.toNat w := by
  simp [Instr.sliceBound, asIntOf, h0, h1]

theorem all_and2 {a b c : Bool} : (a && b && c) = true ↔ a = true ∧ b = true ∧ c = true := by cases a <;> cases b <;> cases c <;> simp

/-- The bounds, with the high one or without, the third one absent. -/
theorem run_bounds2 {isS : Bool} {len cap : Nat} {vlo vhi : Option Value} {l h : Int}
    (hlo : (vlo = none ∧ l = 0) ∨ ∃ k, vlo = some (.int k l)) (hhi : (vhi = none ∧ h = len) ∨ ∃ k, vhi = some (.int k h)) (h0 : 0 ≤ l) (h1 : l ≤ h) (h2 : h ≤ len) (h3 : len ≤ cap) :
    (Instr.sliceBounds isS len cap vlo vhi none).run P w = .ok (l.toNat, h.toNat, cap) w := by
  have eh : ((h.toNat : Nat) : Int) = h := by omega
  unfold Instr.sliceBounds
  rcases hhi with ⟨rfl, rfl⟩ | ⟨k, rfl⟩
  · rcases hlo with ⟨rfl, rfl⟩ | ⟨k', rfl⟩
    · simp
    · simp [run_bound h0 (show l ≤ (len : Int) from h1)]
  · rcases hlo with ⟨rfl, rfl⟩ | ⟨k', rfl⟩
    · simp [run_bound (by omega) (show h ≤ (cap : Int) by omega)]
    · simp [run_bound (by omega) (show h ≤ (cap : Int) by omega), run_bound h0 (show l ≤ ((h.toNat : Nat) : Int) by omega)]

theorem run_bounds3 {isS : Bool} {len cap : Nat} {vlo : Option Value} {l h : Int} {k k2 : IntKind}
    (hlo : (vlo = none ∧ l = 0) ∨ ∃ k, vlo = some (.int k l)) (h0 : 0 ≤ l) (h1 : l ≤ h) (h2 : h ≤ len) (h3 : len ≤ cap) :
    (Instr.sliceBounds isS len cap vlo (some (.int k h)) (some (.int k2 h))).run P w = .ok (l.toNat, h.toNat, h.toNat) w := by
  unfold Instr.sliceBounds
  rcases hlo with ⟨rfl, rfl⟩ | ⟨k', rfl⟩
  · simp [run_bound (by omega) (show h ≤ (cap : Int) by omega), run_bound (by omega) (show h ≤ ((h.toNat : Nat) : Int) by omega)]
  · simp [run_bound (by omega) (show h ≤ (cap : Int) by omega), run_bound (by omega) (show h ≤ ((h.toNat : Nat) : Int) by omega), run_bound h0 (show l ≤ ((h.toNat : Nat) : Int) by omega)]

theorem add_at (b off n : Nat) : (⟨b, off, none⟩ : Addr).add n = ⟨b, off + n, none⟩ := by
  unfold Addr.add; split <;> simp_all

/-- What a cut answers. -/
theorem cut_rep {c : Ctx} {b off cap : Nat} {full full' : Bool} {sz : Nat} {es : List AVal} {l h : Int} {m : Nat} (r : SlAt c b off cap full sz es)
    (h0 : 0 ≤ l) (h1 : l ≤ h) (h2 : h ≤ es.length) (hm : h.toNat ≤ m) (hf : full' = true → m = h.toNat) :
    Rep c (.slice (some (if m = l.toNat then ⟨b, off, none⟩ else (⟨b, off, none⟩ : Addr).add (l.toNat * cnt sz))) (h.toNat - l.toNat) (m - l.toNat)) (.sl full' sz (part l h es)) := by
  have e : h.toNat - l.toNat = (h - l).toNat := by omega
  have hlen := part_length h0 h1 h2
  split
  · rename_i hml
    have hz : (h - l).toNat = 0 := by omega
    have hp : part l h es = [] := by rw [← List.length_eq_zero_iff, hlen, hz]
    rw [hp, e, hz]
    obtain ⟨_, _, lim, f, hk, hl, _, _, _⟩ := r
    exact .sl b off (m - l.toNat) lim full' sz [] (fun _ _ => undef) (by simp) (fun _ => by simp; omega) hk (by simp; omega) (by simp) (fun i j hi => by simp at hi) (fun i j hi => by simp at hi)
  · rw [add_at, e]
    have := (r.part h0 h1 h2 (cap' := m - l.toNat) (full' := full') (by omega) (fun hh => by have := hf hh; omega)).rep
    rw [hlen] at this
    exact this

def capOf : Value → Nat | .slice _ _ c => c | _ => 0

theorem capOf_le {c : Ctx} {v : Value} {full : Bool} {sz : Nat} {es : List AVal} (r : Rep c v (.sl full sz es)) : es.length ≤ capOf v := by
  rcases r.slInv with ⟨x, rfl, rfl⟩ | ⟨b, off, cap, rfl, hat⟩
  · simp
  · exact hat.hcap
theorem capOf_full {c : Ctx} {v : Value} {full : Bool} {sz : Nat} {es : List AVal} (r : Rep c v (.sl full sz es)) (h : full = true) : capOf v = es.length := by
  rcases r.slInv with ⟨x, rfl, rfl⟩ | ⟨b, off, cap, rfl, hat⟩
  · simp [capOf]
  · exact hat.hfull h

theorem run_size0 {t : TypeId} (h : 0 < szOf P t) : (sizeOf t).run P w = .ok (szOf P t) w := by
  unfold szOf at h ⊢
  cases hi : P.info? t with
  | none => simp [hi] at h
  | some i => simp [sizeOf, typeInfo, hi]

theorem slice_run {c : Ctx} {t e : TypeId} {vx : Value} {vlo vhi vmx : Option Value} {full full' : Bool} {es : List AVal} {l h : Int} {m : Nat}
    (hu : P.underlying t = some (.slice e)) (hel : elOk P e = true) (r : Rep c vx (.sl full (shp P e) es)) (h0 : 0 ≤ l) (h1 : l ≤ h) (h2 : h ≤ es.length) (hm : h.toNat ≤ m) (hm2 : m ≤ capOf vx)
    (hrun : ∀ w, (Instr.sliceBounds true es.length (capOf vx) vlo vhi vmx).run P w = .ok (l.toNat, h.toNat, m) w) (hf : full' = true → m = h.toNat) :
    ∃ v, (∀ w, (Instr.sliceAt t vx vlo vhi vmx).run P w = .ok v w) ∧ Rep c v (.sl full' (shp P e) (part l h es)) ∧
      (∀ ob sz, m = capOf vx → h = es.length → OwnAt c ob sz vx → sz = shp P e → OwnAt c ob (shp P e) v) := by
  obtain ⟨hpos, hcnt⟩ := elOk_spec hel
  rcases r.slInv with ⟨x, rfl, rfl⟩ | ⟨b, off, cap, rfl, hat⟩
  · have l0 : l = 0 := by simp at h2; omega
    have e0 : h = 0 := by simp at h2; omega
    subst l0; subst e0
    have m0 : m = 0 := by simpa [capOf] using hm2
    subst m0
    refine ⟨.slice x 0 0, fun w => ?_, ?_, fun _ _ _ _ _ _ => by cases x <;> simp [OwnAt]⟩
    · have hrun := hrun w
      simp [Instr.sliceAt, run_underlying hu, Instr.slice, run_size0 hpos, capOf] at hrun ⊢
      simp [hrun]
    · exact .slnil _ _ _
  · refine ⟨_, fun w => ?_, cut_rep hat h0 h1 h2 hm hf, fun ob sz em eh ho hsz => ?_⟩
    · simp only [capOf] at hrun
      simp only [Instr.sliceAt, run_underlying hu, Instr.slice, Sem.run_bind, Result.andThen_ok, hrun, run_size0 hpos, hcnt]
      simp only [Sem.run_pure]
      congr 2
      split <;> rfl
    · simp only [capOf] at em
      subst em
      have e1 : h.toNat = es.length := by omega
      simp only [OwnAt] at ho ⊢
      rw [e1]
      split
      · rename_i hml
        left; omega
      · rename_i hml
        rcases ho with ho | ⟨ho1, ho2, xs, el, hg, hcs⟩
        · left; omega
        · right
          rw [add_at]
          have hlc : l.toNat * cnt (shp P e) + (es.length - l.toNat) * cnt (shp P e) = es.length * cnt (shp P e) := by
            rw [← Nat.add_mul]; congr 1; omega
          have hlc' : l.toNat * cnt (shp P e) + (m - l.toNat) * cnt (shp P e) = m * cnt (shp P e) := by
            rw [← Nat.add_mul]; congr 1; omega
          refine ⟨ho1, ?_, xs, el, hg, ?_⟩
          · simp only
            rw [ho2, hsz, Nat.add_assoc, hlc]
          · simp only
            rw [hsz] at hcs
            omega

theorem sliceK_ok {S : Sc} {t : TypeId} {vx : Value} {x : EV} {vlo vhi vmx : Option Value} {lo hi mx : Option EV} {K : EV → Tr R}
    (rx : RepE S vx x) (rlo : RepO S vlo lo) (rhi : RepO S vhi hi) (rmx : RepO S vmx mx) (h : (sliceK P t x lo hi mx K).All Q) :
    ∃ v e, (∀ w, (Instr.sliceAt t vx vlo vhi vmx).run P w = .ok v w) ∧ RepE S v e ∧ (K e).All Q := by
  unfold sliceK at h
  split at h
  · rename_i s hu
    have rs : Rep S.c vx (.str s) := rx
    cases rs
    rename_i s
    cases mx with
    | some m => exact h.elim
    | none =>
      cases vmx with
      | some _ => exact rmx.elim
      | none =>
        obtain ⟨l, hl, _, h⟩ := optInt_ok rlo h
        obtain ⟨hh, hhi, _, h⟩ := optInt_ok rhi h
        obtain ⟨hb, h⟩ := all_bif h
        simp only [all_and2, decide_eq_true_eq] at hb
        obtain ⟨b0, b1, b2⟩ := hb
        have b2' : hh ≤ s.size := by simpa using b2
        have hrun := fun w => run_bounds2 (P := P) (w := w) (isS := false) (len := s.size) (cap := s.size) (vlo := vlo) (vhi := vhi) (l := l) (h := hh)
          hl (by simpa using hhi) b0 b1 b2' (Nat.le_refl _)
        refine ⟨.string (s.extract l.toNat hh.toNat), .one (.val (.str (part l hh s.data.toList))), fun w => ?_, ?_, h⟩
        · simp [Instr.sliceAt, run_underlying hu, Instr.slice, hrun]
        · have e : (s.extract l.toNat hh.toNat).data.toList = part l hh s.data.toList := by
            simp [part, List.extract]
            congr 1
            omega
          show Rep S.c _ _
          rw [← e]
          exact .str _
  · rename_i e x hu
    have rx' : RepS S vx x := rx
    split at h
    · exact h.elim
    · exact h.elim
    · split at h
      · rename_i full sz es hA
        obtain ⟨hb, h⟩ := all_bif h
        simp only [Bool.and_eq_true] at hb
        obtain ⟨hel, hsz⟩ := hb
        obtain ⟨hpos, hcnt⟩ := elOk_spec hel
        obtain ⟨l, hl, _, h⟩ := optInt_ok rlo h
        obtain ⟨hh, hhi, hhn, h⟩ := optInt_ok rhi h
        obtain ⟨hb, h⟩ := all_bif h
        simp only [all_and2, decide_eq_true_eq] at hb
        obtain ⟨b0, b1, b2⟩ := hb
        have rA : Rep S.c vx (.sl full (shp P e) es) := (RepS.toA rx' hA).slEmpty hsz
        have hcl := capOf_le rA
        split at h
        · rename_i m _
          cases vmx with
          | none => exact rmx.elim
          | some vm =>
            obtain ⟨k, n, rfl, h⟩ := intOf_ok h
            obtain ⟨hb, h⟩ := all_bif h
            have hn : n = hh := by simpa using hb
            subst hn
            obtain rfl := repE_int rmx
            rcases hhi with ⟨rfl, _⟩ | ⟨k', rfl⟩
            · simp at hhn
            · have hrun := fun w => run_bounds3 (P := P) (w := w) (isS := true) (len := es.length) (cap := capOf vx) (k := k') (k2 := k) hl b0 b1 b2 hcl
              obtain ⟨v, e1, e2, _⟩ := slice_run hu hel rA b0 b1 b2 (Nat.le_refl _) (by omega) hrun (full' := true) (fun _ => rfl)
              exact ⟨v, _, e1, repE_val e2, h⟩
        · exact h.elim
        · cases vmx with
          | some _ => exact rmx.elim
          | none =>
            have hrun := fun w => run_bounds2 (P := P) (w := w) (isS := true) (len := es.length) (cap := capOf vx) hl hhi b0 b1 b2 hcl
            obtain ⟨v, e1, e2, _⟩ := slice_run hu hel rA b0 b1 b2 (by omega) (Nat.le_refl _) hrun (full' := false) (by simp)
            exact ⟨v, _, e1, repE_val e2, h⟩
        · cases vmx with
          | some _ => exact rmx.elim
          | none =>
            have hnone : vhi = none := hhn.2 rfl
            have heq : hh = es.length := by
              rcases hhi with ⟨_, h⟩ | ⟨k, h⟩
              · exact h
              · rw [hnone] at h; cases h
            have hrun := fun w => run_bounds2 (P := P) (w := w) (isS := true) (len := es.length) (cap := capOf vx) hl hhi b0 b1 b2 hcl
            split at h
            · obtain ⟨hz, hfin⟩ := all_bif h
              clear h
              have hzz : _ = shp P e := eq_of_beq hz
              simp only [SV.toA, Option.some.injEq, AVal.sl.injEq] at hA
              obtain ⟨rfl, rfl, rfl⟩ := hA
              have rO := rx'.2
              obtain ⟨v, e1, e2, e3⟩ := slice_run hu hel rA b0 b1 b2 (by omega) (Nat.le_refl _) hrun (full' := false) (by simp)
              exact ⟨v, _, e1, repE_own ⟨e2, e3 _ _ rfl heq rO hzz⟩, hfin⟩
            · obtain ⟨v, e1, e2, _⟩ := slice_run hu hel rA b0 b1 b2 (by omega) (Nat.le_refl _) hrun (full' := full) (fun hf => by have := capOf_full rA hf; omega)
              exact ⟨v, _, e1, repE_val e2, h⟩
      · exact h.elim
  · exact h.elim

/-! ### Looks into memory -/
theorem cellsAt {b : Nat} {xs : Array Value} {el : TypeId} {fz : Nat × Nat} (h : w.heap[b]? = some (.cells xs el fz)) {j : Nat} (hj : j < xs.size) :
    w.cell? ⟨b, j, none⟩ = some (xs.getD j undef) := by
  simp [World.cell?, h, hj]

/-- A variable of so many cells is read. -/
theorem run_loadVar {t : TypeId} {d : TypeDesc} {b off : Nat} (hu : P.underlying t = some d) (f : Nat → Value)
    (h : ∀ j, j < (bif aggT P t then szOf P t else 1) → w.cell? ⟨b, off + j, none⟩ = some (f j)) :
    (loadVar t ⟨b, off, none⟩).run P w = .ok (bif aggT P t then .agg ((List.range (szOf P t)).map f).toArray else f 0) w := by
  unfold loadVar
  simp only [Sem.run_bind, run_isAgg hu, Result.andThen_ok]
  cases ha : aggT P t
  · simp only [ha, cond_false] at h
    have := h 0 (by omega)
    simp only [Nat.add_zero] at this
    simp [this]
  · simp only [ha, cond_true] at h
    simp only [if_true, Sem.run_bind, run_size hu, Result.andThen_ok]
    rw [run_loadCells (P := P) w ⟨b, off, none⟩ (szOf P t) f (fun j hj => by rw [add_at]; exact h j hj)]
    rfl


theorem eltLoad_ok {c : Ctx} {t : TypeId} {d : TypeDesc} {e : AVal} {ag : Bool} {sz off : Nat} {v : Value} {K : AVal → Tr R} (hu : P.underlying t = some d)
    (r : Rep c v (.elt e ag sz off)) (h : (eltLoad P t e ag sz off K).All Q) : ∃ v' a', (∀ c', c.le c' → (Instr.loadAt t v).run P c'.w = .ok v' c'.w) ∧ Rep c v' a' ∧ (K a').All Q := by
  cases r with
  | elt b base _ lim _ _ _ f hk hl hs ha hn hc hr =>
  have hload : ∀ (n : Nat), off + n ≤ sz → n = (bif aggT P t then szOf P t else 1) → ∀ c' : Ctx, c.le c' → (Instr.loadAt t (.pointer (some ⟨b, base + off, none⟩))).run P c'.w =
      .ok (bif aggT P t then .agg ((List.range (szOf P t)).map fun j => f (off + j)).toArray else f (off + 0)) c'.w := by
    intro n hn' en c' hle
    obtain ⟨l', _, _, hsame⟩ := hle.κ b lim hk
    have := run_loadVar (P := P) (w := c'.w) (t := t) (b := b) (off := base + off) hu (fun j => f (off + j)) (fun j hj => by
      rw [Nat.add_assoc, hsame _ (by omega)]; exact hc (off + j) (by omega))
    simpa [Instr.loadAt, Instr.sureAddr] using this
  unfold eltLoad at h
  cases h1 : (sz == szOf P t && (ag == aggT P t) && off == 0) <;> simp only [h1, cond_true, cond_false] at h
  · cases h2 : ag <;> simp only [h2, cond_true, cond_false] at h
    · exact h.elim
    · cases h3 : aggT P t <;> simp only [h3, cond_true, cond_false] at h
      · obtain ⟨a', ha', h⟩ := all_optK h
        have hlt : off < sz := by rw [← hs]; exact (List.getElem?_eq_some_iff.1 ha').1
        refine ⟨_, _, hload 1 (by omega) (by simp [h3]), ?_, h⟩
        simp only [h3, cond_false, Nat.add_zero]
        have := hr off hlt
        simpa [ha'] using this
      · obtain ⟨hb, h⟩ := all_bif h
        have hb' : off + szOf P t ≤ e.cells.length := by simpa using hb
        refine ⟨_, _, hload (szOf P t) (by omega) (by simp [h3]), ?_, h⟩
        simp only [h3, cond_true]
        refine .agg _ _ (by simp; omega) (fun x hx => hn x (List.mem_of_mem_drop (List.mem_of_mem_take hx))) (fun j hj => ?_)
        have hj' : j < szOf P t := by simp at hj; omega
        rw [getD_range _ hj']
        have := hr (off + j) (by omega)
        simpa [List.getElem?_take, hj', List.getElem?_drop] using this
  · simp only [Bool.and_eq_true, beq_iff_eq] at h1
    obtain ⟨⟨hsz, hag⟩, rfl⟩ := h1
    cases h3 : aggT P t
    · rw [h3] at hag
      subst hag
      have he : e.cells = [e] := by cases e <;> first | rfl | simp [AVal.isAgg] at ha
      have h1' : sz = 1 := by rw [← hs, he]; rfl
      refine ⟨_, _, hload 1 (by omega) (by simp [h3]), ?_, h⟩
      have := hr 0 (by omega)
      simpa [h3, he] using this
    · rw [h3] at hag
      subst hag
      refine ⟨_, _, hload (szOf P t) (by omega) (by simp [h3]), ?_, h⟩
      cases e <;> simp [AVal.isAgg] at ha
      rename_i cs
      simp only [AVal.cells] at hs hn hr
      simp only [h3, cond_true]
      refine .agg _ _ (by simp; omega) hn (fun j hj => ?_)
      rw [getD_range _ (by omega)]
      simpa using hr j (by omega)

theorem loadAt_row {t : TypeId} {d : TypeDesc} {b off : Nat} {xs : Array Value} {el : TypeId} {fz : Nat × Nat} (hu : P.underlying t = some d) (hg : w.heap[b]? = some (.cells xs el fz))
    (hn : off + (bif aggT P t then szOf P t else 1) ≤ xs.size) :
    (Instr.loadAt t (.pointer (some ⟨b, off, none⟩))).run P w = .ok (bif aggT P t then .agg ((List.range (szOf P t)).map fun j => xs.getD (off + j) undef).toArray else xs.getD off undef) w := by
  have := run_loadVar (P := P) (w := w) (t := t) (b := b) (off := off) hu (fun j => xs.getD (off + j) undef) (fun j hj => cellsAt hg (by omega))
  simpa [Instr.loadAt, Instr.sureAddr] using this

theorem und_of_coerce {t : TypeId} {a : AVal} {K : AVal → Tr R} (h : (coerce P t a K).All Q) : ∃ d, P.underlying t = some d := by
  unfold coerce at h
  split at h <;> first | exact ⟨_, ‹_›⟩ | exact h.elim

theorem sub_aggS {S : Sc} {xs : Array Value} {l : List SV} {off n : Nat} (h : RepL S xs l) (hn : off + n ≤ l.length) :
    RepL S ((List.range n).map fun j => xs.getD (off + j) undef).toArray ((l.drop off).take n) := by
  refine ⟨by simp; omega, fun j hj => ?_⟩
  have hj' : j < n := by simp at hj; omega
  rw [getD_range _ hj', take_drop_getD _ _ _ _ _ hj']
  exact h.2 _ (by omega)

theorem getElem?_getD {α : Type} {l : List α} {i : Nat} {a d : α} (h : l[i]? = some a) : i < l.length ∧ l.getD i d = a := by
  obtain ⟨h1, h2⟩ := List.getElem?_eq_some_iff.1 h
  exact ⟨h1, by simp [h1, h2]⟩

theorem heap_cell {H : Heap} {id off : Nat} {hc : HCell} (h : H.cell? id off = some hc) : ∃ cs, H.objs[id]? = some (.cells cs) ∧ cs[off]? = some hc := by
  unfold Heap.cell? at h
  split at h
  · rename_i cs hcs; exact ⟨cs, hcs, h⟩
  · simp at h

theorem RepH.toA {c : Ctx} {ob : Option Nat} {v : Value} {hc : HCell} (r : RepH c ob v hc) : Rep c v hc.toA ∧ hc.toA.isAgg = false := by
  cases hc with
  | val a => exact r
  | own sz es => exact ⟨r.1, rfl⟩

theorem loadK_ok {base : Bs} {S : Sc} {fr : Fr} {a : Act} {t : TypeId} {va : Value} {x : EV} {K : EV → Tr R} (r : Rel base S fr a w) (rx : RepE S va x)
    (h : (loadK P t x fr S.H K).All Q) : ∃ v e, (Instr.loadAt t va).run P w = .ok v w ∧ RepE S v e ∧ (K e).All Q := by
  unfold loadK at h
  split at h
  · rename_i d off
    obtain ⟨_, rfl⟩ : _ ∧ va = _ := rx
    split at h
    · rename_i cs hb
      obtain ⟨xs, el, hg, hr⟩ := r.box d _ hb
      rw [r.w] at hg
      cases ha : aggT P t <;> simp only [ha, cond_true, cond_false] at h
      · obtain ⟨v, hv, h⟩ := all_optK h
        obtain ⟨hlt, hgd⟩ := getElem?_getD (d := .undef) hv
        obtain ⟨du, hu⟩ := und_of_coerce h
        have hrr := (hr.2 off hlt).1
        rw [hgd] at hrr
        obtain ⟨a', ra, _, _, h⟩ := coerce_ok hrr h
        refine ⟨_, _, loadAt_row hu hg (by simp [ha]; rw [hr.1]; omega), ?_, h⟩
        simpa [ha] using repE_val ra
      · obtain ⟨hle, h⟩ := all_bif h
        have hle' : off + szOf P t ≤ cs.length := by simpa using hle
        obtain ⟨du, hu⟩ := aggT_und ha
        refine ⟨_, _, loadAt_row hu hg (by simp [ha]; rw [hr.1]; omega), ?_, h⟩
        simp only [ha, cond_true]
        exact repE_val (sub_agg hr hle')
    · rename_i cs hb
      obtain ⟨xs, el, hg, hr⟩ := r.box d _ hb
      rw [r.w] at hg
      cases ha : aggT P t <;> simp only [ha, cond_true, cond_false] at h
      · obtain ⟨hu, h⟩ := all_bif h
        obtain ⟨du, hu⟩ := Option.isSome_iff_exists.1 hu
        obtain ⟨s, hv, h⟩ := all_optK h
        obtain ⟨hlt, hgd⟩ := getElem?_getD (d := .unk) hv
        have hrr := (hr.2 off hlt).1
        rw [hgd] at hrr
        obtain ⟨s', rs, h⟩ := coerceS_ok hrr h
        refine ⟨_, _, loadAt_row hu hg (by simp [ha]; rw [hr.1]; omega), ?_, h⟩
        simpa [ha] using (show RepE S _ (.one s') from rs)
      · obtain ⟨hle, h⟩ := all_bif h
        have hle' : off + szOf P t ≤ cs.length := by simpa using hle
        obtain ⟨du, hu⟩ := aggT_und ha
        refine ⟨_, _, loadAt_row hu hg (by simp [ha]; rw [hr.1]; omega), ?_, h⟩
        simp only [ha, cond_true]
        exact ⟨_, rfl, sub_aggS hr hle'⟩
    · exact h.elim
    · exact h.elim
  · rename_i id off
    have rp : Rep S.c va (.obj id off) := rx
    cases rp with
    | obj _ _ hid =>
    cases ha : aggT P t <;> simp only [ha, cond_true, cond_false] at h
    · obtain ⟨hc, hv, h⟩ := all_optK h
      obtain ⟨cs, ho, hcs⟩ := heap_cell hv
      obtain ⟨xs, el, hg, hsz, hr⟩ := r.heap.obj id _ ho
      have hg0 := hg
      rw [r.w] at hg
      obtain ⟨hlt, hgd⟩ := getElem?_getD (d := .val .undef) hcs
      have hrr := hr off hlt
      rw [hgd] at hrr
      have hA := hrr.toA
      split at h
      · rename_i e hu
        obtain ⟨hb, h⟩ := all_bif h
        refine ⟨_, _, loadAt_row hu hg (by simp [ha]; omega), ?_, h⟩
        simp only [ha, cond_false]
        refine ⟨(hA.1.isSl hb).weakSl, hid, fun hc' _ => ?_⟩
        exact cellsAt (w := S.c.w) hg0 (by omega)
      · obtain ⟨du, hu⟩ := und_of_coerce h
        obtain ⟨a', ra, _, _, h⟩ := coerce_ok hA.1 h
        refine ⟨_, _, loadAt_row hu hg (by simp [ha]; omega), ?_, h⟩
        simpa [ha] using repE_val ra
    · obtain ⟨cs, hcs, h⟩ := all_optK h
      obtain ⟨du, hu⟩ := aggT_und ha
      unfold Heap.cells? at hcs
      split at hcs
      · rename_i hs ho
        obtain ⟨xs, el, hg, hsz, hr⟩ := r.heap.obj id _ ho
        rw [r.w] at hg
        cases hle : decide (off + szOf P t ≤ hs.length) <;> simp only [hle, cond_true, cond_false, Option.some.injEq, reduceCtorEq] at hcs
        have hle' : off + szOf P t ≤ hs.length := by simpa using hle
        subst hcs
        refine ⟨_, _, loadAt_row hu hg (by simp [ha]; omega), ?_, h⟩
        simp only [ha, cond_true]
        have hRA : RepA S.c xs (hs.map HCell.toA) := ⟨by simpa using hsz, fun j hj => by
          have hj' : j < hs.length := by simpa using hj
          have := (hr j hj').toA
          simpa [hj'] using this⟩
        have := sub_agg (off := off) (n := szOf P t) hRA (by simpa using hle')
        rw [← List.map_drop, ← List.map_take] at this
        exact repE_val this
      · simp at hcs
  · rename_i e ag sz off
    cases hu : P.underlying t with
    | none =>
      exfalso
      unfold eltLoad at h
      have ha : aggT P t = false := by simp [aggT, hu]
      simp only [ha] at h
      cases h1 : (sz == szOf P t && (ag == false) && off == 0) <;> simp only [h1, cond_true, cond_false] at h
      · cases h2 : ag <;> simp only [h2, cond_true, cond_false] at h
        · exact h.elim
        · obtain ⟨_, _, h⟩ := all_optK h
          simp [coerce, hu, Tr.All] at h
      · simp [coerce, hu, Tr.All] at h
    | some d =>
      obtain ⟨v', a', h1, h2, h⟩ := eltLoad_ok hu rx h
      have h1 := h1 S.c (Ctx.le_refl _)
      rw [r.w] at h1
      obtain ⟨a'', h3, _, _, h⟩ := coerce_ok h2 h
      exact ⟨v', _, h1, repE_val h3, h⟩
  · exact h.elim
end Go.Weave
