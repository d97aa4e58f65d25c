/- Points: their bytes. -/
import Derived.Test.YtnhhmgcjbnocfaaDoorVe
import Derived.Test.YtnhhmgcjbnocfaaDoorVapi
import Derived.Test.YtnhhmgcjbnocfaaDoorWr
import Derived.Test.YtnhhmgcjbnocfaaDoorWvLc
namespace Go.Proofs.YtnhhmgcjbnocfaaDoor.Wa
open Go Go.Weave
set_option maxRecDepth 100000
set_option linter.unusedSimpArgs false
set_option linter.unusedVariables false
set_option linter.unusedSectionVars false

/-! ### Words of four bytes -/
def le4 (x : Nat) : List UInt8 := [UInt8.ofNat x, UInt8.ofNat (x / 256), UInt8.ofNat (x / 256 / 256), UInt8.ofNat (x / 256 / 256 / 256)]
def get4 : List UInt8 → Nat
  | [a, b, c, d] => a.toNat + b.toNat * 256 + c.toNat * 65536 + d.toNat * 16777216
  | _ => 0
theorem le4_len (x : Nat) : (le4 x).length = 4 := rfl
theorem get4_lt : ∀ l : List UInt8, get4 l < 4294967296
  | [a, b, c, d] => by
    have h1 := a.toNat_lt
    have h2 := b.toNat_lt
    have h3 := c.toNat_lt
    have h4 := d.toNat_lt
    simp only [get4]
    omega
  | [] | [_] | [_, _] | [_, _, _] | _ :: _ :: _ :: _ :: _ :: _ => by simp [get4]
theorem get4_le4 {x : Nat} (h : x < 4294967296) : get4 (le4 x) = x := by
  simp only [get4, le4, UInt8.toNat_ofNat']
  omega
theorem byte_wrap (n : Nat) : IntKind.u8.wrap (n : Int) = ((UInt8.ofNat n).toNat : Int) := by
  rw [wrap_u8, UInt8.toNat_ofNat']; omega
theorem fdiv_nat (x p : Nat) : Int.fdiv (x : Int) (p : Int) = ((x / p : Nat) : Int) := by
  rw [Int.fdiv_eq_ediv_of_nonneg _ (by omega)]; rfl
theorem bys_le4 (x : Nat) : bys (le4 x) = [.int .u8 ((UInt8.ofNat x).toNat : Int), .int .u8 ((UInt8.ofNat (x / 256)).toNat : Int), .int .u8 ((UInt8.ofNat (x / 256 / 256)).toNat : Int), .int .u8 ((UInt8.ofNat (x / 256 / 256 / 256)).toNat : Int)] := rfl
theorem or_step {acc y s : Nat} (h : acc < 2 ^ s) (hy : y < 256) (hs : s ≤ 24) (t : Int) (ht : min (Int.toNat t) 64 = s) :
    IntKind.u64.wrap (BitVec.ofInt 64 (acc : Int) ||| BitVec.ofInt 64 (IntKind.u64.wrap ((IntKind.u64.wrap (y : Int)) * 2 ^ (min (Int.toNat t) 64)))).toNat = ((acc + y * 2 ^ s : Nat) : Int) := by
  have h1 : (2 : Nat) ^ s ≤ 2 ^ 24 := Nat.pow_le_pow_right (by omega) hs
  have h2 : (2 : Nat) ^ 24 = 16777216 := by decide
  rw [h2] at h1
  have h3 : y * 2 ^ s ≤ 255 * 16777216 := Nat.mul_le_mul (by omega) h1
  rw [ht]
  have e5 : IntKind.u64.wrap (y : Int) = (y : Int) := wrap_u64_id (by omega) (by omega)
  have e6 : (y : Int) * 2 ^ s = ((y * 2 ^ s : Nat) : Int) := by rw [Int.natCast_mul, Int.natCast_pow]; rfl
  rw [e5, e6, wrap_u64_id (n := ((y * 2 ^ s : Nat) : Int)) (by omega) (by omega)]
  have e7 : (BitVec.ofInt 64 (acc : Int)).toNat = acc := by simp; omega
  have e8 : (BitVec.ofInt 64 ((y * 2 ^ s : Nat) : Int)).toNat = y * 2 ^ s := by
    rw [BitVec.toNat_ofInt]
    have : ((2 ^ 64 : Nat) : Int) = 18446744073709551616 := by decide
    rw [this]; omega
  have e9 : acc ||| y * 2 ^ s = acc + y * 2 ^ s := by
    rw [Nat.or_comm, Nat.mul_comm y, Nat.add_comm]
    exact (Nat.two_pow_add_eq_or_of_lt h y).symm
  rw [BitVec.toNat_or, e7, e8, e9]
  exact wrap_u64_id (by omega) (by omega)
theorem len4 {l : List UInt8} (h : l.length = 4) : ∃ a b c d, l = [a, b, c, d] := by
  match l, h with
  | [a, b, c, d], _ => exact ⟨a, b, c, d, rfl⟩
end Go.Proofs.YtnhhmgcjbnocfaaDoor.Wa
