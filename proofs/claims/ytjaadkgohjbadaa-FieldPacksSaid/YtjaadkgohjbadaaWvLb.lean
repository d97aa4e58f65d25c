/- How a residual text is read: words for it, and one rule a word, for simp. -/
import Derived.Test.YtjaadkgohjbadaaWvLa
namespace Go.Weave
section
variable {R : Type}
def intK (k : IntKind) (v : AVal) (K : Int → Tr R) : Tr R := bif v.isInt k then K v.toInt else .fail
def boolK (v : AVal) (K : Bool → Tr R) : Tr R := bif v.isBool then K v.toBool else .fail
def strK (v : AVal) (K : List UInt8 → Tr R) : Tr R := bif v.isStr then K v.toStr else .fail
def slK (n : Nat) (v : AVal) (K : Bool → List AVal → Tr R) : Tr R := bif v.isSl n then K v.toFull v.toEs else .fail
def slOK (n : Nat) (v : AVal) (K : List AVal → Tr R) : Tr R := bif v.isSlO n then K v.toEs else .fail
def aggK (n : Nat) (v : AVal) (K : List AVal → Tr R) : Tr R := bif v.isAggOf n then K v.cells else .fail
def runK (t : Tr Res) (K : List AVal → Heap → Tr R) : Tr R := t.bind fun r => K r.1 r.2
end

/-- What hides a continuation from simp: its type depends on it. -/
structure Hid {α : Type} (Q : α → Prop) : Type where
structure Run {α : Type} (t : Tr α) (Q : α → Prop) (_ : Hid Q) : Prop where
  all : t.All Q
theorem run_eq {α : Type} {t : Tr α} {Q : α → Prop} {tg : Hid Q} : Run t Q tg = t.All Q := propext ⟨fun h => h.all, fun h => ⟨h⟩⟩
def contQ {R : Type} (K : List AVal → Heap → Tr R) (Q : R → Prop) : Res → Prop := fun r => Run (K r.1 r.2) Q ⟨⟩

theorem Ans.eq {α : Type} {t : Tr α} {a : α} (h : Ans t a) (Q : α → Prop) : t.All Q = Q a := by
  refine propext ⟨fun hq => ?_, fun hq => all_mono (fun b hb => by rw [hb]; exact hq) h.run⟩
  replace h := h.run
  induction t with
  | ret b => have : b = a := h; rw [← this]; exact hq
  | fail => exact hq.elim
  | any n k ih => exact ih 0 (hq.2 0 hq.1) (h.2 0 h.1)
theorem Ans.at {α : Type} {t : Tr α} {a : α} (h : Ans t a) {Q : α → Prop} {tg : Hid Q} : Run t Q tg = Q a := run_eq.trans (h.eq Q)
theorem Run.ans {α : Type} {t : Tr α} {a : α} (h : Run t (fun r => r = a) ⟨⟩) : Ans t a := ⟨h.all⟩

section
variable {R α : Type} {Q : R → Prop} {tg : Hid Q}
theorem at_of {t u : Tr R} (h : t.All Q = u.All Q) : Run t Q tg = Run u Q ⟨⟩ := run_eq.trans (h.trans run_eq.symm)
theorem at_eq {t u : Tr R} (h : t = u) : Run t Q tg = Run u Q ⟨⟩ := at_of (by rw [h])
theorem at_bind {t : Tr α} {f : α → Tr R} : Run (t.bind f) Q tg = Run t (fun a => Run (f a) Q ⟨⟩) ⟨⟩ := by
  refine propext ⟨fun h => ⟨?_⟩, fun h => ⟨all_bind (all_mono (fun a ha => ha.all) h.all)⟩⟩
  replace h := h.all
  induction t with
  | ret b => exact ⟨h⟩
  | fail => exact h
  | any n k ih => exact ⟨h.1, fun i hi => ih i (h.2 i hi)⟩
theorem at_runK {t : Tr Res} {K : List AVal → Heap → Tr R} : Run (runK t K) Q tg = Run t (contQ K Q) ⟨⟩ := by
  unfold runK contQ
  exact at_bind
theorem contQ_mk {K : List AVal → Heap → Tr R} {a : List AVal} {h : Heap} : contQ K Q (a, h) = Run (K a h) Q ⟨⟩ := of_eq_true (eq_self _)
theorem at_ret {a : R} : Run (.ret a) Q tg = Q a := run_eq.trans (of_eq_true (eq_self _))
theorem at_consK {v : AVal} {vs : List AVal} {K : AVal → List AVal → Tr R} : Run (consK (v :: vs) K) Q tg = Run (K v vs) Q ⟨⟩ := at_eq (of_eq_true (eq_self _))
theorem at_nilK {K : Tr R} : Run (nilK [] K) Q tg = Run K Q ⟨⟩ := at_eq (of_eq_true (eq_self _))
theorem at_optK {a : α} {K : α → Tr R} : Run (optK (some a) K) Q tg = Run (K a) Q ⟨⟩ := at_eq (of_eq_true (eq_self _))
theorem at_intK {k : IntKind} {n : Int} {K : Int → Tr R} : Run (intK k (.int k n) K) Q tg = Run (K n) Q ⟨⟩ := at_eq (by simp [intK, AVal.isInt, AVal.toInt])
theorem at_boolK {b : Bool} {K : Bool → Tr R} : Run (boolK (.bool b) K) Q tg = Run (K b) Q ⟨⟩ := at_eq (by simp [boolK, AVal.isBool, AVal.toBool])
theorem at_strK {s : List UInt8} {K : List UInt8 → Tr R} : Run (strK (.str s) K) Q tg = Run (K s) Q ⟨⟩ := at_eq (by simp [strK, AVal.isStr, AVal.toStr])
theorem at_slK {n : Nat} {f : Bool} {es : List AVal} {K : Bool → List AVal → Tr R} : Run (slK n (.sl f n es) K) Q tg = Run (K f es) Q ⟨⟩ := at_eq (by simp [slK, AVal.isSl, AVal.toFull, AVal.toEs])
theorem at_slOK {n : Nat} {f : Bool} {es : List AVal} {K : List AVal → Tr R} : Run (slOK n (.sl f n es) K) Q tg = Run (K es) Q ⟨⟩ := at_eq (by simp [slOK, AVal.isSlO, AVal.toEs])
theorem at_slK0 {n z : Nat} {f : Bool} {K : Bool → List AVal → Tr R} : Run (slK n (.sl f z []) K) Q tg = Run (K f []) Q ⟨⟩ := at_eq (by simp [slK, AVal.isSl, AVal.toFull, AVal.toEs])
theorem at_slOK0 {n z : Nat} {K : List AVal → Tr R} : Run (slOK n (.sl true z []) K) Q tg = Run (K []) Q ⟨⟩ := at_eq (by simp [slOK, AVal.isSlO, AVal.toEs])
theorem at_aggK {n : Nat} {cs : List AVal} {K : List AVal → Tr R} (h : cs.length = n) : Run (aggK n (.agg cs) K) Q tg = Run (K cs) Q ⟨⟩ := at_eq (by simp [aggK, AVal.isAggOf, AVal.cells, h])
theorem at_cond_t {b : Bool} {x y : Tr R} (h : b = true) : Run (bif b then x else y) Q tg = Run x Q ⟨⟩ := at_eq (by rw [h]; rfl)
theorem at_cond_f {b : Bool} {x y : Tr R} (h : b = false) : Run (bif b then x else y) Q tg = Run y Q ⟨⟩ := at_eq (by rw [h]; rfl)
theorem at_sameL {n : Nat} {t : Tr R} : Run (sameL (n + 1) t) Q tg = Run t Q ⟨⟩ := propext ⟨fun h => ⟨h.all.2 0 h.all.1⟩, fun h => ⟨sameL_all h.all⟩⟩
theorem at_any1 {t : Tr R} : Run (Tr.anyL [t]) Q tg = Run t Q ⟨⟩ := propext ⟨fun h => ⟨h.all.2 0 h.all.1⟩, fun h => ⟨by simp, fun i hi => by
  match i, hi with
  | 0, _ => exact h.all⟩⟩
theorem at_any {t u : Tr R} {r : List (Tr R)} : Run (Tr.anyL (t :: u :: r)) Q tg = (Run t Q ⟨⟩ ∧ Run (Tr.anyL (u :: r)) Q ⟨⟩) := propext ⟨fun h => ⟨⟨h.all.2 0 h.all.1⟩, ⟨by simp, fun i hi => h.all.2 (i + 1) (by simpa using hi)⟩⟩, fun ⟨h1, h2⟩ => ⟨by simp, fun i hi => by
  cases i with
  | zero => exact h1.all
  | succ i => exact h2.all.2 i (by simpa using hi)⟩⟩
end


theorem wrap_i64_eq (n : Int) : IntKind.i64.wrap n = (n + 9223372036854775808) % 18446744073709551616 - 9223372036854775808 := by
  simp only [IntKind.wrap, IntKind.bits, IntKind.signed]
  simp
  split <;> omega

/-! ### From the statements' reading: more -/
theorem cells_of {x : AVal} (h : x.isAgg = false) : x.cells = [x] := by cases x <;> first | rfl | simp [AVal.isAgg] at h
theorem list_choice {α β : Type} {g : β → α} {p : β → Prop} : ∀ (es : List α), (∀ x ∈ es, ∃ y, x = g y ∧ p y) → ∃ ys : List β, es = ys.map g ∧ ∀ y ∈ ys, p y
  | [], _ => ⟨[], rfl, by simp⟩
  | x :: es, h => by
    obtain ⟨y, rfl, hy⟩ := h x (by simp)
    obtain ⟨ys, rfl, hys⟩ := list_choice es fun z hz => h z (by simp [hz])
    exact ⟨y :: ys, rfl, by simpa using ⟨hy, hys⟩⟩
theorem okV_slice {P : Program} {n : Nat} {t e : TypeId} {a : AVal} (hu : P.underlying t = some (.slice e)) (h : OkV P (n + 1) t a) :
    ∃ es, a = .sl false (shp P e) es ∧ es.length * bytesOf P e ≤ 140737488351232 ∧ ∀ x ∈ es, OkV P n e x := by
  obtain ⟨hag, hc⟩ := h
  have ha : aggT P t = false := by simp [aggT, hu]
  rw [ha] at hag
  rw [cells_of hag] at hc
  unfold OkC at hc
  simp only [hu] at hc
  obtain ⟨es, h1, h2, h3⟩ := hc
  refine ⟨es, by simpa using h1, h2, fun x hx => ⟨?_, (h3 x hx).2⟩⟩
  rw [(h3 x hx).1.1]
  unfold shp
  cases aggT P e <;> simp
theorem okC_bytes1 {P : Program} {n : Nat} {t e : TypeId} {cs : List AVal} (hu : P.underlying t = some (.slice e)) (he : P.underlying e = some (.int .u8)) (hs : shp P e = 0) (hb : bytesOf P e = 1) (h : OkC P (n + 2) t cs) :
    ∃ b : List UInt8, cs = [.sl false 0 (bys b)] ∧ b.length ≤ 140737488351232 := by
  have h1 : ∃ a, cs = [a] ∧ a.isAgg = false := by
    have h' := h
    unfold OkC at h'
    simp only [hu] at h'
    obtain ⟨es, rfl, _⟩ := h'
    exact ⟨_, rfl, rfl⟩
  obtain ⟨a, rfl, ha⟩ := h1
  have hag : aggT P t = false := by simp [aggT, hu]
  obtain ⟨b, rfl, hb⟩ := okC_bytes (n := n) hu he hs hb (a := a) ⟨by rw [ha, hag], by rw [cells_of ha]; exact h⟩
  exact ⟨b, rfl, hb⟩
/-! ### The steps, in one -/
theorem CR : type_of% (And.intro @at_runK <| And.intro @at_bind <| And.intro @contQ_mk <| And.intro @at_ret <| And.intro @at_consK <| And.intro @at_nilK <| And.intro @at_optK <| And.intro @at_intK <| And.intro @at_boolK <| And.intro @at_strK <| And.intro @at_slK <| And.intro @at_slOK <| And.intro @at_slK0 <| And.intro @at_slOK0 <| And.intro @at_aggK <| And.intro @at_cond_t <| And.intro @at_cond_f <| And.intro @at_sameL <| And.intro @at_any1 @at_any) := And.intro @at_runK <| And.intro @at_bind <| And.intro @contQ_mk <| And.intro @at_ret <| And.intro @at_consK <| And.intro @at_nilK <| And.intro @at_optK <| And.intro @at_intK <| And.intro @at_boolK <| And.intro @at_strK <| And.intro @at_slK <| And.intro @at_slOK <| And.intro @at_slK0 <| And.intro @at_slOK0 <| And.intro @at_aggK <| And.intro @at_cond_t <| And.intro @at_cond_f <| And.intro @at_sameL <| And.intro @at_any1 @at_any
theorem MC : type_of% (And.intro @and_self <| And.intro @toBytes_bys <| And.intro @List.nil_append.{0} @List.append_nil.{0}) := And.intro @and_self <| And.intro @toBytes_bys <| And.intro @List.nil_append.{0} @List.append_nil.{0}
end Go.Weave
