/- The number that bytes begin with, as the document has it; and VarintGets. -/
import Derived.Test.YtkpjkaikeeldfaaVa
namespace Go.Proofs.Ytkpjkaikeeldfaa.Wa
open Go Go.Weave
set_option maxRecDepth 100000
set_option linter.unusedSimpArgs false
set_option linter.unusedVariables false
set_option linter.unusedSectionVars false

theorem rget_sum {acc i c : Nat} (h : acc < 2 ^ (7 * i)) (hi : i ≤ 9) (hc : c < 256) (h9 : i = 9 → c ≤ 1) :
    IntKind.u64.wrap ((acc : Int) + (IntKind.u64.wrap ((Int.tmod (c : Int) 128) * ((2 ^ (7 * i) : Nat) : Int)))) = ((acc + (c % 128) * 2 ^ (7 * i) : Nat) : Int) := by
  have hs := (get_or h hi hc h9).2
  have e1 : Int.tmod (c : Int) 128 = ((c % 128 : Nat) : Int) := by rw [Int.tmod_eq_emod_of_nonneg (by omega)]; omega
  have e2 : ((c % 128 : Nat) : Int) * ((2 ^ (7 * i) : Nat) : Int) = (((c % 128) * 2 ^ (7 * i) : Nat) : Int) := by rw [Int.natCast_mul]
  rw [e1, e2, wrap_u64_id (n := (((c % 128) * 2 ^ (7 * i) : Nat) : Int)) (by omega) (by omega), wrap_u64_id (by omega) (by omega)]
  omega

theorem rget_loop (d : Nat) (f : Bool) (h : Heap) : ∀ (r pre : List UInt8) (k acc : Nat), pre.length ≤ 9 → acc < 2 ^ (7 * pre.length) → r.length < k → pre.length + r.length ≤ 140737488355328 →
    Ans (P31_0 d k f (bys (pre ++ r)) acc ((2 ^ (7 * pre.length) : Nat) : Int) (pre.length : Nat) h) (tri (getF r pre.length acc), h) := by
  intro r
  induction r with
  | nil =>
    intro pre k acc hi ha hk hb
    obtain ⟨k, rfl⟩ : ∃ m, k = m + 1 := ⟨k - 1, by omega⟩
    rw [P31_0_eq, cond_of_not (by simp [bys_length])]
    exact Ans.ret _
  | cons c r ih =>
    intro pre k acc hi ha hk hb
    obtain ⟨k, rfl⟩ : ∃ m, k = m + 1 := ⟨k - 1, by omega⟩
    have hc : c.toNat < 256 := c.toNat_lt
    have hlt : pre.length < (pre ++ c :: r).length := by simp
    have hget : (bys (pre ++ c :: r)).getD (Int.toNat (pre.length : Int)) AVal.undef = ofByte c := by
      rw [Int.toNat_natCast, bys_getD hlt]
      congr 1
      simp
    have hw : IntKind.u64.wrap ((c.toNat : Nat) : Int) = ((c.toNat : Nat) : Int) := wrap_u64_id (by omega) (by omega)
    have hnext : IntKind.i64.wrap ((pre.length : Int) + 1) = ((pre.length + 1 : Nat) : Int) := by rw [wrap_i64_id (by omega) (by omega)]; omega
    have hrec : (pre.length = 9 → c.toNat ≤ 1) → ¬ c.toNat < 128 → Ans (P31_0 d k f (bys (pre ++ c :: r)) ((acc + (c.toNat % 128) * 2 ^ (7 * pre.length) : Nat) : Int) (IntKind.u64.wrap (((2 ^ (7 * pre.length) : Nat) : Int) * 128)) ((pre.length + 1 : Nat) : Int) h)
        (tri (getF r (pre.length + 1) (acc + (c.toNat % 128) * 2 ^ (7 * pre.length))), h) := fun h9 h128 => by
      have hp : pre.length < 9 := by
        have : pre.length ≠ 9 := fun e => by have := h9 e; omega
        omega
      have e1 : pre ++ c :: r = (pre ++ [c]) ++ r := by simp
      have e2 : (pre ++ [c]).length = pre.length + 1 := by simp
      have e4 : 2 ^ (7 * (pre.length + 1)) = 2 ^ (7 * pre.length) * 128 := by
        rw [show 7 * (pre.length + 1) = 7 * pre.length + 7 by omega, Nat.pow_add]
      have e5 := pow_le (i := pre.length + 1) (by omega)
      have e6 : IntKind.u64.wrap (((2 ^ (7 * pre.length) : Nat) : Int) * 128) = ((2 ^ (7 * (pre.length + 1)) : Nat) : Int) := by
        rw [e4] at e5 ⊢
        rw [wrap_u64_id (by omega) (by omega)]
        omega
      have := ih (pre ++ [c]) k (acc + (c.toNat % 128) * 2 ^ (7 * pre.length)) (by rw [e2]; omega) (by
        rw [e2, e4]
        have h3 : (c.toNat % 128) * 2 ^ (7 * pre.length) ≤ 127 * 2 ^ (7 * pre.length) := Nat.mul_le_mul_right _ (by omega)
        omega) (by simp at hk; omega) (by rw [e2]; simp at hb; omega)
      rw [← e1, e2] at this
      rw [e6]
      exact this
    rw [P31_0_eq, cond_of (by simp [bys_length]; omega), cond_of (by simp [bys_length]; omega), hget, isInt_ofByte, cond_true, toInt_ofByte, hw, hnext]
    unfold getF
    by_cases h9 : pre.length = 9
    · rw [cond_of (by simp; omega)]
      by_cases h1 : 1 < c.toNat
      · rw [cond_of (by simp; omega), if_pos ⟨h9, h1⟩]; exact Ans.ret _
      · rw [cond_of_not (by simp; omega), if_neg (by omega), rget_sum ha hi hc (fun _ => by omega), cond_of (by simp; omega), if_pos (by omega)]
        by_cases h0 : c.toNat = 0
        · rw [cond_of (by simp [h0]), cond_of (by simp; omega), if_pos (by omega)]; exact Ans.ret _
        · rw [cond_of_not (by simp; omega), if_neg (fun e => h0 e.1), cond_of (by simp; omega), Nat.mod_eq_of_lt (by omega : c.toNat < 128)]; exact Ans.ret _
    · have hno : pre.length = 9 → c.toNat ≤ 1 := fun e => absurd e h9
      rw [cond_of_not (by simp; omega), if_neg (fun e => h9 e.1), rget_sum ha hi hc hno]
      by_cases h128 : c.toNat < 128
      · rw [cond_of (by simp; omega), if_pos h128]
        by_cases h0 : c.toNat = 0
        · rw [cond_of (by simp [h0])]
          by_cases hz : 0 < pre.length
          · rw [cond_of (by rw [decide_eq_true_iff]; omega), if_pos ⟨h0, hz⟩]; exact Ans.ret _
          · rw [cond_of_not (by rw [decide_eq_false_iff_not]; omega), if_neg (fun e => hz e.2), cond_of (by simp; omega), Nat.mod_eq_of_lt h128]; exact Ans.ret _
        · rw [cond_of_not (by simp; omega), if_neg (fun e => h0 e.1), cond_of (by simp; omega), Nat.mod_eq_of_lt h128]; exact Ans.ret _
      · rw [cond_of_not (by simp; omega), if_neg h128, cond_of_not (by simp; omega)]
        exact hrec hno h128

theorem rget_ok (d : Nat) (f : Bool) (l : List UInt8) (h : Heap) (hl : l.length ≤ 140737488355328) : Ans (evFn Cw (d + 1) 31 [.sl f 0 (bys l)] h) (tri (getF l 0 0), h) := by
  rw [F31_eq]
  have := rget_loop d f h l [] rounds 0 (by simp) (by simp) (rounds_gt _ (by omega)) (by simpa using hl)
  simpa using this

/-- What is got: a number that is put by the same bytes; or why there is none. -/
theorem getF_spec : ∀ (r : List UInt8) (i acc : Nat), i ≤ 9 →
    (∃ m, getF r i acc = (acc + m * 2 ^ (7 * i), i + (enc m).length, 0) ∧ r.take (enc m).length = enc m ∧ (enc m).length ≤ r.length ∧ m < 2 * 128 ^ (9 - i) ∧ (0 < i → 0 < m)) ∨
    (∃ e, getF r i acc = (0, 0, e) ∧ (e = 1 ∨ e = 2 ∨ e = 4))
  | [], i, acc, _ => .inr ⟨1, rfl, .inl rfl⟩
  | c :: r, i, acc, hi => by
    have hc : c.toNat < 256 := c.toNat_lt
    unfold getF
    by_cases h9 : i = 9 ∧ 1 < c.toNat
    · rw [if_pos h9]; exact .inr ⟨4, rfl, .inr (.inr rfl)⟩
    · rw [if_neg h9]
      by_cases h128 : c.toNat < 128
      · rw [if_pos h128]
        by_cases h0 : c.toNat = 0 ∧ 0 < i
        · rw [if_pos h0]; exact .inr ⟨2, rfl, .inr (.inl rfl)⟩
        · rw [if_neg h0]
          have e : enc c.toNat = [c] := by rw [enc_lt h128]; simp
          refine .inl ⟨c.toNat, by rw [e]; rfl, by rw [e]; rfl, by rw [e]; simp, ?_, fun hi0 => by
            have : c.toNat ≠ 0 := fun e => h0 ⟨e, hi0⟩
            omega⟩
          by_cases hi9 : i = 9
          · subst hi9
            have : ¬ 1 < c.toNat := fun e => h9 ⟨rfl, e⟩
            simp; omega
          · have h1 : (128 : Nat) ^ 1 ≤ 128 ^ (9 - i) := Nat.pow_le_pow_right (by omega) (by omega)
            simp at h1
            omega
      · rw [if_neg h128]
        have hi9 : i ≠ 9 := fun e => h9 ⟨e, by omega⟩
        rcases getF_spec r (i + 1) (acc + (c.toNat % 128) * 2 ^ (7 * i)) (by omega) with ⟨m, h1, h2, h3, h4, h5⟩ | h
        · left
          have hm := h5 (by omega)
          have e : enc (c.toNat % 128 + 128 * m) = c :: enc m := by
            rw [enc_ge (by omega)]
            have e1 : (c.toNat % 128 + 128 * m) % 128 + 128 = c.toNat := by omega
            have e2 : (c.toNat % 128 + 128 * m) / 128 = m := by omega
            rw [e1, e2]
            simp
          refine ⟨c.toNat % 128 + 128 * m, ?_, by rw [e]; simp [h2], by rw [e]; simp; exact h3, ?_, fun _ => by omega⟩
          · rw [h1, e]
            have e3 : 2 ^ (7 * (i + 1)) = 128 * 2 ^ (7 * i) := by rw [show 7 * (i + 1) = 7 + 7 * i by omega, Nat.pow_add]
            rw [e3]
            simp only [List.length_cons, Prod.mk.injEq, and_true]
            refine ⟨?_, by omega⟩
            rw [Nat.add_mul, Nat.mul_comm 128 m, Nat.mul_assoc]
            omega
          · have e4 : 9 - i = (9 - (i + 1)) + 1 := by omega
            rw [e4, Nat.pow_succ]
            omega
        · exact .inr h

theorem getF_spec0 (l : List UInt8) : (∃ m, getF l 0 0 = (m, (enc m).length, 0) ∧ l.take (enc m).length = enc m ∧ (enc m).length ≤ l.length ∧ m < 18446744073709551616) ∨ (∃ e, getF l 0 0 = (0, 0, e) ∧ (e = 1 ∨ e = 2 ∨ e = 4)) := by
  rcases getF_spec l 0 0 (by omega) with ⟨m, h1, h2, h3, h4, _⟩ | h
  · refine .inl ⟨m, by simpa using h1, h2, h3, Nat.lt_of_lt_of_le h4 (by decide)⟩
  · exact .inr h

end Go.Proofs.Ytkpjkaikeeldfaa.Wa
