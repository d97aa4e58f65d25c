/- Words for the plain laws: numbers, bytes, what a run comes to. -/
import Derived.Test.YtbddfpakhealbaaWvZ
import Derived.Test.YtbddfpakhealbaaWvY
namespace Go.Weave

/-! ### Numbers -/
theorem wrap_u8 (n : Int) : IntKind.u8.wrap n = n % 256 := by simp [IntKind.wrap, IntKind.bits, IntKind.signed]
theorem wrap_u64 (n : Int) : IntKind.u64.wrap n = n % 18446744073709551616 := by simp [IntKind.wrap, IntKind.bits, IntKind.signed]
theorem wrap_i64_id {n : Int} (h0 : -9223372036854775808 ≤ n) (h1 : n < 9223372036854775808) : IntKind.i64.wrap n = n := by
  simp [IntKind.wrap, IntKind.bits, IntKind.signed]
  split <;> omega
/-! ### Bytes -/
def bys (l : List UInt8) : List AVal := l.map ofByte
theorem bys_length (a : List UInt8) : (bys a).length = a.length := by simp [bys]
theorem toByte_ofByte (b : UInt8) : toByte (ofByte b) = some b := by
  have : b.toNat < 256 := b.toNat_lt
  simp only [toByte, ofByte]
  rw [if_pos (by omega)]
  simp
theorem toBytes_bys (a : List UInt8) : toBytes (bys a) = some a := by
  unfold toBytes bys
  induction a with
  | nil => rfl
  | cons b a ih => simp only [List.map_cons, optAll, toByte_ofByte, ih]
/-! ### What a run comes to -/
/-! ### One step (none of these is by reflexivity alone: the kernel is not to look at a whole run at once) -/
section
variable {R : Type}
end

/-! ### From the statements' reading -/
/-- What `law_contract` asks, from a one-valued law. -/
theorem law_of {C : Cfg} {d f : Nat} {args : List AVal} {h0 h1 : Heap} {res : List AVal} (h : Ans (evFn C d f args h0) (res, h1)) :
    ∃ d, (evFn C d f args h0).All fun r => r.1 = res := ⟨d, all_mono (fun _ hr => congrArg Prod.fst hr) h.run⟩
end Go.Weave
