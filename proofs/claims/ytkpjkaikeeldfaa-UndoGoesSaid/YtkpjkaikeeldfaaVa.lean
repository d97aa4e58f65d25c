/- What the functions of the short numbers come to. -/
import Derived.Test.YtkpjkaikeeldfaaWa
import Derived.Test.YtkpjkaikeeldfaaWvLa
namespace Go.Proofs.Ytkpjkaikeeldfaa.Wa
open Go Go.Weave
set_option maxRecDepth 100000
set_option linter.unusedSimpArgs false
set_option linter.unusedVariables false
set_option linter.unusedSectionVars false

def encW (n : Nat) : List UInt8 := if n < 128 then [UInt8.ofNat n] else UInt8.ofNat (n % 128 + 128) :: encW (n / 128)
  termination_by n
  decreasing_by omega
theorem enc_ex : ∃ f : Nat → List UInt8, ∀ n, f n = if n < 128 then [UInt8.ofNat n] else UInt8.ofNat (n % 128 + 128) :: f (n / 128) := ⟨encW, fun n => by rw [encW]⟩
/-- A number's short bytes. (By choice: so that no reduction looks into it.) -/
noncomputable def enc : Nat → List UInt8 := Classical.choose enc_ex
theorem enc_lt {n : Nat} (h : n < 128) : enc n = [UInt8.ofNat n] := by
  have := Classical.choose_spec enc_ex n
  rw [if_pos h] at this; exact this
theorem enc_ge {n : Nat} (h : ¬ n < 128) : enc n = UInt8.ofNat (n % 128 + 128) :: enc (n / 128) := by
  have := Classical.choose_spec enc_ex n
  rw [if_neg h] at this; exact this

theorem enc_length : ∀ (j n : Nat), n < 128 ^ (j + 1) → 1 ≤ (enc n).length ∧ (enc n).length ≤ j + 1
  | 0, n, h => by rw [enc_lt (by simpa using h)]; simp
  | j + 1, n, h => by
    by_cases hn : n < 128
    · rw [enc_lt hn]; simp
    · rw [enc_ge hn]
      have := enc_length j (n / 128) (Nat.div_lt_of_lt_mul (by rw [Nat.pow_succ] at h; omega))
      simp; omega

theorem or128 (m : Nat) (h : m < 256) : m ||| 128 = m % 128 + 128 := by
  have : ∀ m : Fin 256, (m.val ||| 128) = m.val % 128 + 128 := by decide +kernel
  exact this ⟨m, h⟩
theorem and127 (m : Nat) (h : m < 256) : m &&& 127 = m % 128 := by
  have : ∀ m : Fin 256, (m.val &&& 127) = m.val % 128 := by decide +kernel
  exact this ⟨m, h⟩

theorem put_byte (n : Nat) : IntKind.u8.wrap (BitVec.ofInt 8 (IntKind.u8.wrap (n : Int)) ||| BitVec.ofInt 8 128).toNat = ((n % 128 + 128 : Nat) : Int) := by
  have e1 : IntKind.u8.wrap (n : Int) = ((n % 256 : Nat) : Int) := by rw [wrap_u8]; omega
  have e2 : (BitVec.ofInt 8 ((n % 256 : Nat) : Int)).toNat = n % 256 := by simp [BitVec.toNat_ofInt]; omega
  have e3 : (BitVec.ofInt 8 128).toNat = 128 := by decide
  rw [e1, BitVec.toNat_or, e2, e3, or128 _ (by omega), wrap_u8]
  omega

/-- varint.Put's loop. -/
theorem put_loop (d : Nat) (h : Heap) : ∀ (j k n : Nat) (l : List UInt8), n < 128 ^ (j + 1) → j < k → l.length + j + 1 ≤ 140737488355328 →
    Ans (P19_0 d k n (bys l) h) ([.sl false 0 (bys (l ++ enc n))], h) := by
  intro j
  induction j with
  | zero =>
    intro k n l hn hk hl
    obtain ⟨k, rfl⟩ : ∃ m, k = m + 1 := ⟨k - 1, by omega⟩
    have h1 : n < 128 := by simpa using hn
    rw [P19_0_eq, cond_of_not (by simp; omega), cond_of (by simp [bys_length]; omega), enc_lt h1, wrap_u8_id (by omega) (by omega), bys_one n (by omega), ← bys_append]
    exact Ans.ret _
  | succ j ih =>
    intro k n l hn hk hl
    obtain ⟨k, rfl⟩ : ∃ m, k = m + 1 := ⟨k - 1, by omega⟩
    by_cases h1 : n < 128
    · rw [P19_0_eq, cond_of_not (by simp; omega), cond_of (by simp [bys_length]; omega), enc_lt h1, wrap_u8_id (by omega) (by omega), bys_one n (by omega), ← bys_append]
      exact Ans.ret _
    · rw [P19_0_eq, cond_of (by simp; omega), cond_of (by simp [bys_length]; omega), enc_ge h1, put_byte, bys_one _ (by omega), ← bys_append]
      have e : Int.fdiv (n : Int) (2 ^ 7) = ((n / 128 : Nat) : Int) := by
        have : (2 ^ 7 : Int) = 128 := by decide
        rw [this, Int.fdiv_eq_ediv_of_nonneg _ (by omega)]; omega
      rw [e]
      have := ih k (n / 128) (l ++ [UInt8.ofNat (n % 128 + 128)]) (Nat.div_lt_of_lt_mul (by rw [Nat.pow_succ] at hn; omega)) (by omega) (by simp; omega)
      rw [List.append_assoc] at this
      exact this

theorem lt_128_10 {n : Nat} (h : n < 18446744073709551616) : n < 128 ^ (9 + 1) := Nat.lt_trans h (by decide)
theorem rounds_gt (n : Nat) (h : n < 4611686018427387904) : n < rounds := Nat.lt_of_lt_of_le h rounds_ge

theorem put_ok (d : Nat) (f : Bool) (l : List UInt8) (n : Nat) (h : Heap) (hn : n < 18446744073709551616) (hl : l.length ≤ 140737488355000) :
    Ans (evFn Cw (d + 1) 19 [.sl f 0 (bys l), .int .u64 n] h) ([.sl false 0 (bys (l ++ enc n))], h) := by
  rw [F19_eq, cond_of (by simp [bys_length]; omega), List.nil_append]
  exact put_loop d h 9 rounds n l (lt_128_10 hn) (rounds_gt _ (by omega)) (by omega)

/-- The document's. -/
theorem rput_loop (d : Nat) (h : Heap) : ∀ (j k n : Nat) (l : List UInt8), n < 18446744073709551616 → n < 128 ^ (j + 1) → j < k → l.length + j + 1 ≤ 140737488355328 →
    Ans (P23_0 d k n (bys l) h) ([.sl false 0 (bys (l ++ enc n))], h) := by
  intro j
  have hd : ∀ n : Nat, n < 18446744073709551616 → IntKind.u64.wrap (Int.tdiv (n : Int) 128) = ((n / 128 : Nat) : Int) := fun n hn => by
    rw [Int.tdiv_eq_ediv_of_nonneg (by omega), wrap_u64_id (by omega) (by omega)]; omega
  have hb : ∀ n : Nat, IntKind.u8.wrap (IntKind.u64.wrap (128 + (Int.tmod (n : Int) 128))) = ((n % 128 + 128 : Nat) : Int) := fun n => by
    rw [Int.tmod_eq_emod_of_nonneg (by omega), wrap_u64_id (by omega) (by omega), wrap_u8_id (by omega) (by omega)]; omega
  induction j with
  | zero =>
    intro k n l hm hn hk hl
    obtain ⟨k, rfl⟩ : ∃ m, k = m + 1 := ⟨k - 1, by omega⟩
    have h1 : n < 128 := by simpa using hn
    rw [P23_0_eq, hd n hm, cond_of_not (by simp; omega), cond_of (by simp [bys_length]; omega), enc_lt h1, wrap_u8_id (by omega) (by omega), bys_one n (by omega), ← bys_append]
    exact Ans.ret _
  | succ j ih =>
    intro k n l hm hn hk hl
    obtain ⟨k, rfl⟩ : ∃ m, k = m + 1 := ⟨k - 1, by omega⟩
    by_cases h1 : n < 128
    · rw [P23_0_eq, hd n hm, cond_of_not (by simp; omega), cond_of (by simp [bys_length]; omega), enc_lt h1, wrap_u8_id (by omega) (by omega), bys_one n (by omega), ← bys_append]
      exact Ans.ret _
    · rw [P23_0_eq, hd n hm, cond_of (by simp; omega), cond_of (by simp [bys_length]; omega), enc_ge h1, hb, bys_one _ (by omega), ← bys_append]
      have := ih k (n / 128) (l ++ [UInt8.ofNat (n % 128 + 128)]) (by omega) (Nat.div_lt_of_lt_mul (by rw [Nat.pow_succ] at hn; omega)) (by omega) (by simp; omega)
      rw [List.append_assoc] at this
      exact this

theorem rput_ok (d : Nat) (f : Bool) (l : List UInt8) (n : Nat) (h : Heap) (hn : n < 18446744073709551616) (hl : l.length ≤ 140737488355000) :
    Ans (evFn Cw (d + 1) 23 [.sl f 0 (bys l), .int .u64 n] h) ([.sl false 0 (bys (l ++ enc n))], h) := by
  rw [F23_eq, cond_of (by simp [bys_length]; omega), List.nil_append]
  exact rput_loop d h 9 rounds n l hn (lt_128_10 hn) (rounds_gt _ (by omega)) (by omega)

/-- The number that bytes begin with: from the i-th byte on. -/
def getF : List UInt8 → Nat → Nat → Nat × Nat × Nat
  | [], _, _ => (0, 0, 1)
  | c :: r, i, acc =>
    if i = 9 ∧ 1 < c.toNat then (0, 0, 4) else
    if c.toNat < 128 then (if c.toNat = 0 ∧ 0 < i then (0, 0, 2) else (acc + c.toNat * 2 ^ (7 * i), i + 1, 0)) else getF r (i + 1) (acc + (c.toNat % 128) * 2 ^ (7 * i))
def tri (x : Nat × Nat × Nat) : List AVal := [.int .u64 x.1, .int .i64 x.2.1, .int .i64 x.2.2]

theorem pow_le {i : Nat} (h : i ≤ 9) : 2 ^ (7 * i) ≤ 9223372036854775808 := by
  have : 2 ^ (7 * i) ≤ 2 ^ 63 := Nat.pow_le_pow_right (by omega) (by omega)
  simpa using this

theorem get_or {acc i c : Nat} (h : acc < 2 ^ (7 * i)) (hi : i ≤ 9) (hc : c < 256) (h9 : i = 9 → c ≤ 1) :
    IntKind.u64.wrap (BitVec.ofInt 64 (acc : Int) ||| BitVec.ofInt 64 (IntKind.u64.wrap ((IntKind.u64.wrap (IntKind.u8.wrap (BitVec.ofInt 8 (c : Int) &&& BitVec.ofInt 8 127).toNat)) * 2 ^ (min (Int.toNat (IntKind.i64.wrap (7 * (i : Int)))) 64)))).toNat
      = ((acc + (c % 128) * 2 ^ (7 * i) : Nat) : Int) ∧ acc + (c % 128) * 2 ^ (7 * i) < 18446744073709551616 := by
  have e1 : (BitVec.ofInt 8 (c : Int)).toNat = c := by simp; omega
  have e2 : (BitVec.ofInt 8 127).toNat = 127 := by decide
  have e3 : IntKind.u8.wrap (BitVec.ofInt 8 (c : Int) &&& BitVec.ofInt 8 127).toNat = ((c % 128 : Nat) : Int) := by
    rw [BitVec.toNat_and, e1, e2, and127 _ hc, wrap_u8]; omega
  have e4 : min (Int.toNat (IntKind.i64.wrap (7 * (i : Int)))) 64 = 7 * i := by rw [wrap_i64_id (by omega) (by omega)]; omega
  have hp := pow_le hi
  have hle : (c % 128) * 2 ^ (7 * i) ≤ 18446744073709551616 - 2 ^ (7 * i) := by
    by_cases h' : i = 9
    · have := h9 h'
      subst h'
      have : c % 128 ≤ 1 := by omega
      have h2 : (c % 128) * 2 ^ (7 * 9) ≤ 1 * 2 ^ (7 * 9) := Nat.mul_le_mul_right _ this
      have h3 : (2 : Nat) ^ (7 * 9) = 9223372036854775808 := by decide
      rw [h3] at h2 ⊢
      omega
    · have h2 : (c % 128) * 2 ^ (7 * i) ≤ 127 * 2 ^ (7 * i) := Nat.mul_le_mul_right _ (by omega)
      have h3 : 2 ^ (7 * i) ≤ 2 ^ 56 := Nat.pow_le_pow_right (by omega) (by omega)
      have h4 : (2 : Nat) ^ 56 = 72057594037927936 := by decide
      rw [h4] at h3
      omega
  have hsum : acc + (c % 128) * 2 ^ (7 * i) < 18446744073709551616 := by omega
  refine ⟨?_, hsum⟩
  rw [e3, e4]
  have e5 : IntKind.u64.wrap ((c % 128 : Nat) : Int) = ((c % 128 : Nat) : Int) := wrap_u64_id (by omega) (by omega)
  have e6 : ((c % 128 : Nat) : Int) * 2 ^ (7 * i) = (((c % 128) * 2 ^ (7 * i) : Nat) : Int) := by rw [Int.natCast_mul, Int.natCast_pow]; rfl
  rw [e5, e6, wrap_u64_id (n := (((c % 128) * 2 ^ (7 * i) : Nat) : Int)) (by omega) (by omega)]
  have e7 : (BitVec.ofInt 64 (acc : Int)).toNat = acc := by simp; omega
  have e8 : (BitVec.ofInt 64 (((c % 128) * 2 ^ (7 * i) : Nat) : Int)).toNat = (c % 128) * 2 ^ (7 * i) := by
    rw [BitVec.toNat_ofInt]
    have : ((2 ^ 64 : Nat) : Int) = 18446744073709551616 := by decide
    rw [this]; omega
  have e9 : acc ||| (c % 128) * 2 ^ (7 * i) = acc + (c % 128) * 2 ^ (7 * i) := by
    rw [Nat.or_comm, Nat.mul_comm (c % 128), Nat.add_comm]
    exact (Nat.two_pow_add_eq_or_of_lt h (c % 128)).symm
  rw [BitVec.toNat_or, e7, e8, e9]
  exact wrap_u64_id (by omega) (by omega)

theorem get_loop (d : Nat) (f : Bool) (h : Heap) : ∀ (r pre : List UInt8) (k acc : Nat), pre.length ≤ 9 → acc < 2 ^ (7 * pre.length) → r.length < k → pre.length + r.length ≤ 140737488355328 →
    Ans (P21_0 d k acc f (bys (pre ++ r)) ((pre ++ r).length : Nat) (pre.length : Nat) h) (tri (getF r pre.length acc), h) := by
  intro r
  induction r with
  | nil =>
    intro pre k acc hi ha hk hb
    obtain ⟨k, rfl⟩ : ∃ m, k = m + 1 := ⟨k - 1, by omega⟩
    rw [P21_0_eq, cond_of_not (by simp)]
    exact Ans.ret _
  | cons c r ih =>
    intro pre k acc hi ha hk hb
    obtain ⟨k, rfl⟩ : ∃ m, k = m + 1 := ⟨k - 1, by omega⟩
    have hc : c.toNat < 256 := c.toNat_lt
    have hlt : pre.length < (pre ++ c :: r).length := by simp
    have hget : (bys (pre ++ c :: r)).getD (Int.toNat (pre.length : Int)) AVal.undef = ofByte c := by
      rw [Int.toNat_natCast, bys_getD hlt]
      congr 1
      simp
    have hneg : decide ((IntKind.i64.wrap (7 * (pre.length : Int))) < 0) = false := by
      rw [wrap_i64_id (by omega) (by omega)]; simp; omega
    have hnext : IntKind.i64.wrap ((pre.length : Int) + 1) = ((pre.length + 1 : Nat) : Int) := by rw [wrap_i64_id (by omega) (by omega)]; omega
    have hrec : (pre.length = 9 → c.toNat ≤ 1) → ¬ c.toNat < 128 → Ans (P21_0 d k ((acc + (c.toNat % 128) * 2 ^ (7 * pre.length) : Nat) : Int) f (bys (pre ++ c :: r)) ((pre ++ c :: r).length : Nat) ((pre.length + 1 : Nat) : Int) h)
        (tri (getF r (pre.length + 1) (acc + (c.toNat % 128) * 2 ^ (7 * pre.length))), h) := fun h9 h128 => by
      have hp : pre.length < 9 := by
        have : pre.length ≠ 9 := fun e => by have := h9 e; omega
        omega
      have e1 : pre ++ c :: r = (pre ++ [c]) ++ r := by simp
      have e2 : (pre ++ [c]).length = pre.length + 1 := by simp
      have := ih (pre ++ [c]) k (acc + (c.toNat % 128) * 2 ^ (7 * pre.length)) (by rw [e2]; omega) (by
        rw [e2, show 7 * (pre.length + 1) = 7 * pre.length + 7 by omega, Nat.pow_add]
        have h3 : (c.toNat % 128) * 2 ^ (7 * pre.length) ≤ 127 * 2 ^ (7 * pre.length) := Nat.mul_le_mul_right _ (by omega)
        have h4 : (2 : Nat) ^ 7 = 128 := by decide
        rw [h4]
        omega) (by simp at hk; omega) (by rw [e2]; simp at hb; omega)
      rw [← e1, e2] at this
      exact this
    rw [P21_0_eq, cond_of (by simp; omega), cond_of (by simp [bys_length]; omega), hget, isInt_ofByte, cond_true, toInt_ofByte, hneg, cond_false, hnext]
    unfold getF
    by_cases h9 : pre.length = 9
    · rw [cond_of (by simp; omega)]
      by_cases h1 : 1 < c.toNat
      · rw [cond_of (by simp; omega), if_pos ⟨h9, h1⟩]; exact Ans.ret _
      · rw [cond_of_not (by simp; omega), if_neg (by omega), (get_or ha hi hc (fun _ => by omega)).1, cond_of (by simp; omega), if_pos (by omega)]
        by_cases h0 : c.toNat = 0
        · rw [cond_of (by simp [h0]), cond_of (by simp; omega), if_pos (by omega)]; exact Ans.ret _
        · rw [cond_of_not (by simp; omega), if_neg (by omega), Nat.mod_eq_of_lt (by omega : c.toNat < 128)]; exact Ans.ret _
    · have hno : pre.length = 9 → c.toNat ≤ 1 := fun e => absurd e h9
      rw [cond_of_not (by simp; omega), if_neg (by omega), (get_or ha hi hc hno).1]
      by_cases h128 : c.toNat < 128
      · rw [cond_of (by simp; omega), if_pos h128]
        by_cases h0 : c.toNat = 0
        · rw [cond_of (by simp [h0])]
          by_cases hz : 0 < pre.length
          · rw [cond_of (by simp; omega), if_pos ⟨h0, hz⟩]; exact Ans.ret _
          · rw [cond_of_not (by rw [decide_eq_false_iff_not]; omega), if_neg (fun e => hz e.2), Nat.mod_eq_of_lt h128]; exact Ans.ret _
        · rw [cond_of_not (by simp; omega), if_neg (fun e => h0 e.1), Nat.mod_eq_of_lt h128]; exact Ans.ret _
      · rw [cond_of_not (by simp; omega), if_neg h128]
        exact hrec hno h128

theorem get_ok (d : Nat) (f : Bool) (l : List UInt8) (h : Heap) (hl : l.length ≤ 140737488355328) : Ans (evFn Cw (d + 1) 21 [.sl f 0 (bys l)] h) (tri (getF l 0 0), h) := by
  rw [F21_eq]
  have := get_loop d f h l [] rounds 0 (by simp) (by simp) (rounds_gt _ (by omega)) (by simpa using hl)
  simpa [bys_length] using this

/-- What is put is got, whatever stands behind. -/
theorem get_enc : ∀ (j n i acc : Nat) (rest : List UInt8), n < 128 ^ (j + 1) → i + j ≤ 9 → (i + j = 9 → n < 2 * 128 ^ j) → (0 < i → 0 < n) → getF (enc n ++ rest) i acc = (acc + n * 2 ^ (7 * i), i + (enc n).length, 0)
  | 0, n, i, acc, rest, hn, hi, h9, h0 => by
    have h1 : n < 128 := by simpa using hn
    have e : (UInt8.ofNat n).toNat = n := by simp; omega
    rw [enc_lt h1]
    simp only [List.singleton_append, getF, e]
    rw [if_neg (by intro ⟨a, b⟩; have := h9 (by omega); omega), if_pos h1, if_neg (by intro ⟨a, b⟩; have := h0 b; omega)]
    simp
  | j + 1, n, i, acc, rest, hn, hi, h9, h0 => by
    by_cases h1 : n < 128
    · have e : (UInt8.ofNat n).toNat = n := by simp; omega
      rw [enc_lt h1]
      simp only [List.singleton_append, getF, e]
      rw [if_neg (by intro ⟨a, b⟩; omega), if_pos h1, if_neg (by intro ⟨a, b⟩; have := h0 b; omega)]
      simp
    · have e : (UInt8.ofNat (n % 128 + 128)).toNat = n % 128 + 128 := by simp; omega
      rw [enc_ge h1]
      simp only [List.cons_append, getF, e]
      rw [if_neg (by intro ⟨a, b⟩; omega), if_neg (by omega)]
      rw [get_enc j (n / 128) (i + 1) _ rest (Nat.div_lt_of_lt_mul (by rw [Nat.pow_succ] at hn; omega)) (by omega) (fun hh => by
        have := h9 (by omega)
        rw [Nat.pow_succ] at this
        exact Nat.div_lt_of_lt_mul (by omega)) (fun _ => by omega)]
      have e2 : (n % 128 + 128) % 128 = n % 128 := by omega
      have e3 : 2 ^ (7 * (i + 1)) = 128 * 2 ^ (7 * i) := by rw [show 7 * (i + 1) = 7 + 7 * i by omega, Nat.pow_add]
      rw [e2, e3]
      have e4 : n = n % 128 + n / 128 * 128 := by omega
      simp only [List.length_cons, Prod.mk.injEq, and_true]
      refine ⟨?_, by omega⟩
      have : n * 2 ^ (7 * i) = (n % 128) * 2 ^ (7 * i) + n / 128 * (128 * 2 ^ (7 * i)) := by
        rw [← Nat.mul_assoc, ← Nat.add_mul]; congr 1
      omega

theorem get_enc0 (n : Nat) (rest : List UInt8) (hn : n < 18446744073709551616) : getF (enc n ++ rest) 0 0 = (n, (enc n).length, 0) := by
  have := get_enc 9 n 0 0 rest (lt_128_10 hn) (by omega) (fun _ => Nat.lt_of_lt_of_le hn (by decide)) (fun h => by omega)
  simpa using this

theorem enc300 : enc 300 = [172, 2] := by rw [enc_ge (by omega), enc_lt (by omega)]; decide

end Go.Proofs.Ytkpjkaikeeldfaa.Wa
