/- Words for the plain laws: numbers, bytes, what a run comes to. -/
import Derived.Test.YtkpjkaikeeldfaaDoorWvZ
import Derived.Test.YtkpjkaikeeldfaaDoorWvY
namespace Go.Weave

/-! ### Numbers -/
theorem wrap_u8 (n : Int) : IntKind.u8.wrap n = n % 256 := by simp [IntKind.wrap, IntKind.bits, IntKind.signed]
theorem wrap_u64 (n : Int) : IntKind.u64.wrap n = n % 18446744073709551616 := by simp [IntKind.wrap, IntKind.bits, IntKind.signed]
theorem wrap_u64_id {n : Int} (h0 : 0 ≤ n) (h1 : n < 18446744073709551616) : IntKind.u64.wrap n = n := by rw [wrap_u64]; omega
theorem wrap_i64_id {n : Int} (h0 : -9223372036854775808 ≤ n) (h1 : n < 9223372036854775808) : IntKind.i64.wrap n = n := by
  simp [IntKind.wrap, IntKind.bits, IntKind.signed]
  split <;> omega
theorem wrap_u8_id {n : Int} (h0 : 0 ≤ n) (h1 : n < 256) : IntKind.u8.wrap n = n := by rw [wrap_u8]; omega

/-! ### Bytes -/
def bys (l : List UInt8) : List AVal := l.map ofByte
theorem bys_append (a b : List UInt8) : bys (a ++ b) = bys a ++ bys b := by simp [bys]
theorem bys_nil : bys [] = [] := rfl
theorem bys_one (n : Nat) (h : n < 256) : [AVal.int .u8 (n : Int)] = bys [UInt8.ofNat n] := by
  have : (UInt8.ofNat n).toNat = n := by simp; omega
  simp only [bys, List.map_cons, List.map_nil, ofByte, this]
theorem bys_length (a : List UInt8) : (bys a).length = a.length := by simp [bys]
theorem bys_getD {a : List UInt8} {i : Nat} (h : i < a.length) : (bys a).getD i AVal.undef = ofByte a[i] := by simp [bys, h]
theorem toByte_ofByte (b : UInt8) : toByte (ofByte b) = some b := by
  have : b.toNat < 256 := b.toNat_lt
  simp only [toByte, ofByte]
  rw [if_pos (by omega)]
  simp
theorem toBytes_bys (a : List UInt8) : toBytes (bys a) = some a := by
  unfold toBytes bys
  induction a with
  | nil => rfl
  | cons b a ih => simp only [List.map_cons, optAll, toByte_ofByte, ih]
theorem part_bys (l h : Int) (a : List UInt8) : Weave.part l h (bys a) = bys (Weave.part l h a) := by simp [Weave.part, bys]
theorem isInt_ofByte (b : UInt8) : AVal.isInt .u8 (ofByte b) = true := by simp [AVal.isInt, ofByte]
theorem toInt_ofByte (b : UInt8) : AVal.toInt (ofByte b) = b.toNat := of_eq_true (eq_self _)

/-! ### What a run comes to -/
theorem cond_of {α : Type} {b : Bool} {x y : α} (h : b = true) : (bif b then x else y) = x := by rw [h]; rfl
theorem cond_of_not {α : Type} {b : Bool} {x y : α} (h : b = false) : (bif b then x else y) = y := by rw [h]; rfl

/-! ### One step (none of these is by reflexivity alone: the kernel is not to look at a whole run at once) -/
section
variable {R : Type}
end

/-! ### From the statements' reading -/
/-- What `law_contract` asks, from a one-valued law. -/
theorem law_of {C : Cfg} {d f : Nat} {args : List AVal} {h0 h1 : Heap} {res : List AVal} (h : Ans (evFn C d f args h0) (res, h1)) :
    ∃ d, (evFn C d f args h0).All fun r => r.1 = res := ⟨d, all_mono (fun _ hr => congrArg Prod.fst hr) h.run⟩
end Go.Weave
