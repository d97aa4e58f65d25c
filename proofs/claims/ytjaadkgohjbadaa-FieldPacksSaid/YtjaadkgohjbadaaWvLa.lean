/- Words for the plain laws: numbers, bytes, what a run comes to. -/
import Derived.Test.YtjaadkgohjbadaaWvZ
import Derived.Test.YtjaadkgohjbadaaWvY
namespace Go.Weave

/-! ### Numbers -/
theorem wrap_u8 (n : Int) : IntKind.u8.wrap n = n % 256 := by simp [IntKind.wrap, IntKind.bits, IntKind.signed]
theorem wrap_u64 (n : Int) : IntKind.u64.wrap n = n % 18446744073709551616 := by simp [IntKind.wrap, IntKind.bits, IntKind.signed]
theorem wrap_u64_id {n : Int} (h0 : 0 ≤ n) (h1 : n < 18446744073709551616) : IntKind.u64.wrap n = n := by rw [wrap_u64]; omega
theorem wrap_i64_id {n : Int} (h0 : -9223372036854775808 ≤ n) (h1 : n < 9223372036854775808) : IntKind.i64.wrap n = n := by
  simp [IntKind.wrap, IntKind.bits, IntKind.signed]
  split <;> omega
theorem wrap_u8_id {n : Int} (h0 : 0 ≤ n) (h1 : n < 256) : IntKind.u8.wrap n = n := by rw [wrap_u8]; omega

/-! ### Bytes -/
def bys (l : List UInt8) : List AVal := l.map ofByte
theorem bys_append (a b : List UInt8) : bys (a ++ b) = bys a ++ bys b := by simp [bys]
theorem bys_nil : bys [] = [] := rfl
theorem bys_one (n : Nat) (h : n < 256) : [AVal.int .u8 (n : Int)] = bys [UInt8.ofNat n] := by
  have : (UInt8.ofNat n).toNat = n := by simp; omega
  simp only [bys, List.map_cons, List.map_nil, ofByte, this]
theorem bys_length (a : List UInt8) : (bys a).length = a.length := by simp [bys]
theorem bys_getD {a : List UInt8} {i : Nat} (h : i < a.length) : (bys a).getD i AVal.undef = ofByte a[i] := by simp [bys, h]
theorem toByte_ofByte (b : UInt8) : toByte (ofByte b) = some b := by
  have : b.toNat < 256 := b.toNat_lt
  simp only [toByte, ofByte]
  rw [if_pos (by omega)]
  simp
theorem toBytes_bys (a : List UInt8) : toBytes (bys a) = some a := by
  unfold toBytes bys
  induction a with
  | nil => rfl
  | cons b a ih => simp only [List.map_cons, optAll, toByte_ofByte, ih]
theorem part_bys (l h : Int) (a : List UInt8) : Weave.part l h (bys a) = bys (Weave.part l h a) := by simp [Weave.part, bys]
theorem isInt_ofByte (b : UInt8) : AVal.isInt .u8 (ofByte b) = true := by simp [AVal.isInt, ofByte]
theorem toInt_ofByte (b : UInt8) : AVal.toInt (ofByte b) = b.toNat := of_eq_true (eq_self _)

/-! ### What a run comes to -/
theorem cond_of {α : Type} {b : Bool} {x y : α} (h : b = true) : (bif b then x else y) = x := by rw [h]; rfl
theorem cond_of_not {α : Type} {b : Bool} {x y : α} (h : b = false) : (bif b then x else y) = y := by rw [h]; rfl

/-! ### One step (none of these is by reflexivity alone: the kernel is not to look at a whole run at once) -/
section
variable {R : Type}
end

/-! ### From the statements' reading -/
theorem okC_bytes {P : Program} {n : Nat} {t e : TypeId} {a : AVal} (hu : P.underlying t = some (.slice e)) (he : P.underlying e = some (.int .u8)) (hs : shp P e = 0) (hb : bytesOf P e = 1) (h : OkV P (n + 2) t a) :
    ∃ b : List UInt8, a = .sl false 0 (bys b) ∧ b.length ≤ 140737488351232 := by
  obtain ⟨hag, hc⟩ := h
  have ha : aggT P t = false := by simp [aggT, hu]
  rw [ha] at hag
  unfold OkC at hc
  simp only [hu, hs, hb, Nat.mul_one] at hc
  obtain ⟨es, h1, h2, h3⟩ := hc
  have h4 : a = .sl false 0 es := by
    cases a <;> simp [AVal.cells] at h1 <;> first | exact h1 | skip
    · obtain ⟨rfl, rfl, rfl⟩ := h1; rfl
    · simp [AVal.isAgg] at hag
  have key : ∀ l : List AVal, (∀ x ∈ l, okEl 0 x ∧ OkC P (n + 1) e x.cells) → ∃ b, l = bys b := by
    intro l
    induction l with
    | nil => intro _; exact ⟨[], rfl⟩
    | cons x l ih =>
      intro h
      obtain ⟨b, rfl⟩ := ih fun y hy => h y (by simp [hy])
      obtain ⟨⟨hx1, hx2, _⟩, hx⟩ := h x (by simp)
      unfold OkC at hx
      simp only [he] at hx
      obtain ⟨z, hz, h0, h255⟩ := hx
      have e1 : x = .int .u8 z := by
        cases x <;> simp [AVal.cells] at hz <;> first | exact hz | skip
        · obtain ⟨rfl, rfl⟩ := hz; rfl
        · simp [AVal.isAgg] at hx1
      have m0 : IntKind.u8.min = 0 := by decide
      have m1 : IntKind.u8.max = 255 := by decide
      rw [m0] at h0
      rw [m1] at h255
      refine ⟨UInt8.ofNat z.toNat :: b, ?_⟩
      subst e1
      have : (UInt8.ofNat z.toNat).toNat = z.toNat := by simp; omega
      have e2 : ofByte (UInt8.ofNat z.toNat) = .int .u8 z := by
        simp only [ofByte, this]
        congr 1
        omega
      simp only [bys, List.map_cons, e2]
  obtain ⟨b, rfl⟩ := key es h3
  exact ⟨b, h4, by rwa [bys_length] at h2⟩

/-- What `law_contract` asks, from a one-valued law. -/
theorem law_of {C : Cfg} {d f : Nat} {args : List AVal} {h0 h1 : Heap} {res : List AVal} (h : Ans (evFn C d f args h0) (res, h1)) :
    ∃ d, (evFn C d f args h0).All fun r => r.1 = res := ⟨d, all_mono (fun _ hr => congrArg Prod.fst hr) h.run⟩
end Go.Weave
