/- Words for the plain laws: numbers, bytes, what a run comes to. -/
import Derived.Test.YtkpjkaikeeldfaaWvZ
import Derived.Test.YtkpjkaikeeldfaaWvY
namespace Go.Weave

/-! ### Numbers -/
theorem wrap_u8 (n : Int) : IntKind.u8.wrap n = n % 256 := by simp [IntKind.wrap, IntKind.bits, IntKind.signed]
theorem wrap_u64 (n : Int) : IntKind.u64.wrap n = n % 18446744073709551616 := by simp [IntKind.wrap, IntKind.bits, IntKind.signed]
theorem wrap_u64_id {n : Int} (h0 : 0 ≤ n) (h1 : n < 18446744073709551616) : IntKind.u64.wrap n = n := by rw [wrap_u64]; omega
theorem wrap_i64_id {n : Int} (h0 : -9223372036854775808 ≤ n) (h1 : n < 9223372036854775808) : IntKind.i64.wrap n = n := by
  simp [IntKind.wrap, IntKind.bits, IntKind.signed]
  split <;> omega
theorem wrap_u8_id {n : Int} (h0 : 0 ≤ n) (h1 : n < 256) : IntKind.u8.wrap n = n := by rw [wrap_u8]; omega

/-! ### Bytes -/
def bys (l : List UInt8) : List AVal := l.map ofByte
theorem bys_append (a b : List UInt8) : bys (a ++ b) = bys a ++ bys b := by simp [bys]
theorem bys_nil : bys [] = [] := rfl
theorem bys_one (n : Nat) (h : n < 256) : [AVal.int .u8 (n : Int)] = bys [UInt8.ofNat n] := by
  have : (UInt8.ofNat n).toNat = n := by simp; omega
  simp only [bys, List.map_cons, List.map_nil, ofByte, this]
theorem bys_length (a : List UInt8) : (bys a).length = a.length := by simp [bys]
theorem bys_getD {a : List UInt8} {i : Nat} (h : i < a.length) : (bys a).getD i AVal.undef = ofByte a[i] := by simp [bys, h]
theorem toByte_ofByte (b : UInt8) : toByte (ofByte b) = some b := by
  have : b.toNat < 256 := b.toNat_lt
  simp only [toByte, ofByte]
  rw [if_pos (by omega)]
  simp
theorem toBytes_bys (a : List UInt8) : toBytes (bys a) = some a := by
  unfold toBytes bys
  induction a with
  | nil => rfl
  | cons b a ih => simp only [List.map_cons, optAll, toByte_ofByte, ih]
theorem part_bys (l h : Int) (a : List UInt8) : Weave.part l h (bys a) = bys (Weave.part l h a) := by simp [Weave.part, bys]
theorem isInt_ofByte (b : UInt8) : AVal.isInt .u8 (ofByte b) = true := by simp [AVal.isInt, ofByte]
theorem toInt_ofByte (b : UInt8) : AVal.toInt (ofByte b) = b.toNat := of_eq_true (eq_self _)

/-! ### What a run comes to -/
theorem Ans.any2 {α : Type} {t u : Tr α} {a : α} (h1 : Ans t a) (h2 : Ans u a) : Ans (Tr.anyL [t, u]) a := by
  refine ⟨by simp, fun i hi => ?_⟩
  match i, hi with
  | 0, _ => exact h1.run
  | 1, _ => exact h2.run
theorem Ans.any3 {α : Type} {t u v : Tr α} {a : α} (h1 : Ans t a) (h2 : Ans u a) (h3 : Ans v a) : Ans (Tr.anyL [t, u, v]) a := by
  refine ⟨by simp, fun i hi => ?_⟩
  match i, hi with
  | 0, _ => exact h1.run
  | 1, _ => exact h2.run
  | 2, _ => exact h3.run
theorem cond_of {α : Type} {b : Bool} {x y : α} (h : b = true) : (bif b then x else y) = x := by rw [h]; rfl
theorem cond_of_not {α : Type} {b : Bool} {x y : α} (h : b = false) : (bif b then x else y) = y := by rw [h]; rfl

/-! ### One step (none of these is by reflexivity alone: the kernel is not to look at a whole run at once) -/
section
variable {R : Type}
theorem consK_c (v : AVal) (vs : List AVal) (K : AVal → List AVal → Tr R) : consK (v :: vs) K = K v vs := of_eq_true (eq_self _)
theorem nilK_n (K : Tr R) : nilK [] K = K := of_eq_true (eq_self _)
theorem optK_s {α : Type} (a : α) (K : α → Tr R) : optK (some a) K = K a := of_eq_true (eq_self _)
theorem cond_t {α : Type} (x y : α) : (bif true then x else y) = x := of_eq_true (eq_self _)
theorem cond_f {α : Type} (x y : α) : (bif false then x else y) = y := of_eq_true (eq_self _)
theorem isInt_i (k : IntKind) (n : Int) : AVal.isInt k (.int k n) = true := by simp [AVal.isInt]
theorem toInt_i (k : IntKind) (n : Int) : AVal.toInt (.int k n) = n := of_eq_true (eq_self _)
theorem isBool_b (b : Bool) : AVal.isBool (.bool b) = true := of_eq_true (eq_self _)
theorem toBool_b (b : Bool) : AVal.toBool (.bool b) = b := of_eq_true (eq_self _)
theorem isStr_s (s : List UInt8) : AVal.isStr (.str s) = true := of_eq_true (eq_self _)
theorem toStr_s (s : List UInt8) : AVal.toStr (.str s) = s := of_eq_true (eq_self _)
theorem isSlO_s (f : Bool) (z : Nat) (es : List AVal) : AVal.isSlO z (.sl f z es) = true := by simp [AVal.isSlO]
theorem isSl_s (f : Bool) (z : Nat) (es : List AVal) : AVal.isSl z (.sl f z es) = true := by simp [AVal.isSl]
theorem toEs_s (f : Bool) (z : Nat) (es : List AVal) : AVal.toEs (.sl f z es) = es := of_eq_true (eq_self _)
theorem toFull_s (f : Bool) (z : Nat) (es : List AVal) : AVal.toFull (.sl f z es) = f := of_eq_true (eq_self _)
end

/-! ### From the statements' reading -/
theorem okC_bytes {P : Program} {n : Nat} {t e : TypeId} {a : AVal} (hu : P.underlying t = some (.slice e)) (he : P.underlying e = some (.int .u8)) (hs : shp P e = 0) (hb : bytesOf P e = 1) (h : OkV P (n + 2) t a) :
    ∃ b : List UInt8, a = .sl false 0 (bys b) ∧ b.length ≤ 140737488351232 := by
  obtain ⟨hag, hc⟩ := h
  have ha : aggT P t = false := by simp [aggT, hu]
  rw [ha] at hag
  unfold OkC at hc
  simp only [hu, hs, hb, Nat.mul_one] at hc
  obtain ⟨es, h1, h2, h3⟩ := hc
  have h4 : a = .sl false 0 es := by
    cases a <;> simp [AVal.cells] at h1 <;> first | exact h1 | skip
    · obtain ⟨rfl, rfl, rfl⟩ := h1; rfl
    · simp [AVal.isAgg] at hag
  have key : ∀ l : List AVal, (∀ x ∈ l, okEl 0 x ∧ OkC P (n + 1) e x.cells) → ∃ b, l = bys b := by
    intro l
    induction l with
    | nil => intro _; exact ⟨[], rfl⟩
    | cons x l ih =>
      intro h
      obtain ⟨b, rfl⟩ := ih fun y hy => h y (by simp [hy])
      obtain ⟨⟨hx1, hx2, _⟩, hx⟩ := h x (by simp)
      unfold OkC at hx
      simp only [he] at hx
      obtain ⟨z, hz, h0, h255⟩ := hx
      have e1 : x = .int .u8 z := by
        cases x <;> simp [AVal.cells] at hz <;> first | exact hz | skip
        · obtain ⟨rfl, rfl⟩ := hz; rfl
        · simp [AVal.isAgg] at hx1
      have m0 : IntKind.u8.min = 0 := by decide
      have m1 : IntKind.u8.max = 255 := by decide
      rw [m0] at h0
      rw [m1] at h255
      refine ⟨UInt8.ofNat z.toNat :: b, ?_⟩
      subst e1
      have : (UInt8.ofNat z.toNat).toNat = z.toNat := by simp; omega
      have e2 : ofByte (UInt8.ofNat z.toNat) = .int .u8 z := by
        simp only [ofByte, this]
        congr 1
        omega
      simp only [bys, List.map_cons, e2]
  obtain ⟨b, rfl⟩ := key es h3
  exact ⟨b, h4, by rwa [bys_length] at h2⟩

theorem okC_int {P : Program} {n : Nat} {t : TypeId} {k : IntKind} {a : AVal} (hu : P.underlying t = some (.int k)) (h : OkV P (n + 1) t a) : ∃ x, a = .int k x ∧ k.min ≤ x ∧ x ≤ k.max := by
  obtain ⟨hag, hc⟩ := h
  have ha : aggT P t = false := by simp [aggT, hu]
  rw [ha] at hag
  unfold OkC at hc
  simp only [hu] at hc
  obtain ⟨x, h1, h2⟩ := hc
  refine ⟨x, ?_, h2⟩
  cases a <;> simp [AVal.cells] at h1 <;> first | exact h1 | skip
  · obtain ⟨rfl, rfl⟩ := h1; rfl
  · simp [AVal.isAgg] at hag

/-- What `law_contract` asks, from a one-valued law. -/
theorem law_of {C : Cfg} {d f : Nat} {args : List AVal} {h0 h1 : Heap} {res : List AVal} (h : Ans (evFn C d f args h0) (res, h1)) :
    ∃ d, (evFn C d f args h0).All fun r => r.1 = res := ⟨d, all_mono (fun _ hr => congrArg Prod.fst hr) h.run⟩
end Go.Weave
