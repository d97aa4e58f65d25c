/- Texts of this proof, laid together: the evaluator, what it comes to, and the laws. No condition. -/
import Derived.Test.YtdlcjibefbnckaaDoorM33
import Derived.Test.YtdlcjibefbnckaaDoorM32
section
/- Points: pieces joined. -/
namespace Go.Proofs.YtdlcjibefbnckaaDoor.Wa
open Go Go.Weave
set_option maxRecDepth 100000
set_option linter.unusedSimpArgs false
set_option linter.unusedVariables false
set_option linter.unusedSectionVars false

/-! ### The sum, by the reference -/
def stepN (x : Nat) : Nat := (x / 2) ^^^ (if x % 2 = 1 then 2197175160 else 0)
theorem stepN_xor (a b : Nat) : stepN (a ^^^ b) = stepN a ^^^ stepN b := by
  unfold stepN
  have h1 : (a ^^^ b) / 2 = a / 2 ^^^ b / 2 := Nat.xor_div_two
  have h2 : (a ^^^ b) % 2 = 1 ↔ ¬ (a % 2 = 1 ↔ b % 2 = 1) := Nat.xor_mod_two_eq_one
  have key : ∀ x y p : Nat, x ^^^ p ^^^ (y ^^^ p) = x ^^^ y := fun x y p => by
    rw [Nat.xor_comm y p, ← Nat.xor_assoc, Nat.xor_assoc x p p, Nat.xor_self, Nat.xor_zero]
  rw [h1]
  by_cases ha : a % 2 = 1 <;> by_cases hb : b % 2 = 1
  · rw [if_neg (fun h => (h2.1 h) ⟨fun _ => hb, fun _ => ha⟩), if_pos ha, if_pos hb, key, Nat.xor_zero]
  · rw [if_pos (h2.2 fun h => hb (h.1 ha)), if_pos ha, if_neg hb, Nat.xor_zero, Nat.xor_assoc, Nat.xor_comm (b / 2), ← Nat.xor_assoc]
  · rw [if_pos (h2.2 fun h => ha (h.2 hb)), if_neg ha, if_pos hb, Nat.xor_zero, Nat.xor_assoc]
  · rw [if_neg (fun h => (h2.1 h) ⟨fun h => absurd h ha, fun h => absurd h hb⟩), if_neg ha, if_neg hb, Nat.xor_zero, Nat.xor_zero, Nat.xor_zero]
theorem stepN_even (q : Nat) : stepN (2 * q) = q := by
  unfold stepN
  rw [if_neg (by omega), Nat.xor_zero]; omega
theorem t16_step : ∀ r, r < 16 → stepN (stepN (stepN (stepN r))) = t16.getD r 0 := by decide
theorem split16 (x : Nat) : x = (2 * (2 * (2 * (2 * (x / 16))))) ^^^ (x % 16) := by
  have e : 2 * (2 * (2 * (2 * (x / 16)))) = 2 ^ 4 * (x / 16) := by omega
  have e2 : x = 2 ^ 4 * (x / 16) + x % 16 := by omega
  rw [e]
  conv => lhs; rw [e2]
  have hr : x % 16 < 2 ^ 4 := by omega
  generalize x % 16 = r at hr
  generalize x / 16 = q
  apply Nat.eq_of_testBit_eq
  intro i
  rw [Nat.testBit_two_pow_mul_add q hr, Nat.testBit_xor, Nat.testBit_two_pow_mul]
  by_cases h : i < 4
  · rw [if_pos h]
    have : decide (i ≥ 4) = false := by simp; omega
    rw [this]; simp
  · rw [if_neg h]
    have h1 : decide (i ≥ 4) = true := by simp; omega
    have h2 : r.testBit i = false := Nat.testBit_lt_two_pow (Nat.lt_of_lt_of_le hr (Nat.pow_le_pow_right (by omega) (by omega)))
    rw [h1, h2]; simp
theorem fourN_step (x : Nat) : stepN (stepN (stepN (stepN x))) = fourN x := by
  conv => lhs; rw [split16 x]
  rw [stepN_xor, stepN_xor, stepN_xor, stepN_xor, stepN_even, stepN_even, stepN_even, stepN_even, t16_step _ (by omega)]
  unfold fourN
  rw [Nat.xor_comm]
theorem stepN_lt {x : Nat} (h : x < 4294967296) : stepN x < 4294967296 := by
  unfold stepN
  refine xor_lt (by omega) ?_
  split <;> omega
theorem rstep_run {d x : Nat} (hx : x < 4294967296) {h : Heap} {Q : Res → Prop} {tg : Hid Q} : Run (evFn Cw (d + 1) 86 [.int .u32 x] h) Q tg = Q ([.int .u32 (stepN x : Nat)], h) := by
  have e1 : Int.tdiv (x : Int) 2 = ((x / 2 : Nat) : Int) := by rw [Int.tdiv_eq_ediv_of_nonneg (by omega)]; omega
  have e2 : Int.tmod (x : Int) 2 = ((x % 2 : Nat) : Int) := by rw [Int.tmod_eq_emod_of_nonneg (by omega)]; omega
  have w := u32_id (n := x / 2) (by omega)
  have e3 : IntKind.u32.wrap (BitVec.ofInt 32 ((x / 2 : Nat) : Int) ^^^ BitVec.ofInt 32 2197175160).toNat = ((x / 2 ^^^ 2197175160 : Nat) : Int) := xor_wrap (b := 2197175160) (by omega) (by omega)
  rw [F86_eq, e1, e2, w, e3]
  by_cases c : x % 2 = 1
  · have c' : (((x % 2 : Nat) : Int) == 1) = true := by rw [c]; rfl
    have e : stepN x = x / 2 ^^^ 2197175160 := by unfold stepN; rw [if_pos c]
    rw [e]
    simp (disch := (first | assumption | (simp only [Bool.and_eq_true, Bool.and_eq_false_iff, decide_eq_true_eq, decide_eq_false_iff_not, bne_iff_ne, beq_iff_eq, beq_eq_false_iff_ne, bne_eq_false_iff_eq, Bool.not_eq_true', Bool.not_eq_false', bys_length, List.length_append, List.length_cons, List.length_nil, List.length_map, List.length_drop, List.length_take, Int.natCast_add, wrap_i64_eq, wrap_u64, wrap_u8, ne_eq, not_true_eq_false, not_false_eq_true, Nat.zero_add, Nat.mul_one] <;> omega) | omega | (simp; done) | (simp; omega))) only [↓CR, MC, ↓PR, MR, c']
  · have c' : (((x % 2 : Nat) : Int) == 1) = false := by simp; omega
    have e : stepN x = x / 2 := by unfold stepN; rw [if_neg c, Nat.xor_zero]
    rw [e]
    simp (disch := (first | assumption | (simp only [Bool.and_eq_true, Bool.and_eq_false_iff, decide_eq_true_eq, decide_eq_false_iff_not, bne_iff_ne, beq_iff_eq, beq_eq_false_iff_ne, bne_eq_false_iff_eq, Bool.not_eq_true', Bool.not_eq_false', bys_length, List.length_append, List.length_cons, List.length_nil, List.length_map, List.length_drop, List.length_take, Int.natCast_add, wrap_i64_eq, wrap_u64, wrap_u8, ne_eq, not_true_eq_false, not_false_eq_true, Nat.zero_add, Nat.mul_one] <;> omega) | omega | (simp; done) | (simp; omega))) only [↓CR, MC, ↓PR, MR, c']
theorem rmore_loop (d : Nat) (f : Bool) (l : List UInt8) (hl : l.length ≤ 140737488351232) (h : Heap) (Q : Res → Prop) : ∀ (n j k x : Nat) (tg : Hid Q), l.length = j + n → n < k → x < 4294967296 →
    Run (P77_0 (d + 1) k f (bys l) x j h) Q tg = Q ([.int .u32 (4294967295 ^^^ ((l.drop j).foldl (fun x c => fourN (fourN (x ^^^ c.toNat))) x) : Nat)], h) := by
  intro n
  induction n with
  | zero =>
    intro j k x tg hj hk hx
    obtain ⟨k, rfl⟩ : ∃ m, k = m + 1 := ⟨k - 1, by omega⟩
    have hd : l.drop j = [] := List.drop_eq_nil_of_le (by omega)
    have hx2 : 4294967295 ^^^ x = 4294967295 - x := by
      apply Nat.eq_of_testBit_eq
      intro i
      have h1 : (4294967295 : Nat).testBit i = decide (i < 32) := Nat.testBit_two_pow_sub_one 32 i
      have h2 : (4294967295 - x).testBit i = (decide (i < 32) && !x.testBit i) := by
        have e : 4294967295 - x = 2 ^ 32 - (x + 1) := by omega
        rw [e]; exact Nat.testBit_two_pow_sub_succ (by omega) i
      rw [Nat.testBit_xor, h1, h2]
      by_cases c : i < 32
      · simp [c]
      · have h3 : x.testBit i = false := Nat.testBit_lt_two_pow (Nat.lt_of_lt_of_le hx (by
          have : (2 : Nat) ^ 32 ≤ 2 ^ i := Nat.pow_le_pow_right (by omega) (by omega)
          omega))
        simp [c, h3]
    have e : IntKind.u32.wrap (4294967295 - (x : Int)) = ((4294967295 ^^^ x : Nat) : Int) := by
      rw [hx2]
      have : (4294967295 - (x : Int)) = ((4294967295 - x : Nat) : Int) := by omega
      rw [this]; exact u32_id (by omega)
    rw [P77_0_eq, hd]
    simp (disch := (first | assumption | (simp only [Bool.and_eq_true, Bool.and_eq_false_iff, decide_eq_true_eq, decide_eq_false_iff_not, bne_iff_ne, beq_iff_eq, beq_eq_false_iff_ne, bne_eq_false_iff_eq, Bool.not_eq_true', Bool.not_eq_false', bys_length, List.length_append, List.length_cons, List.length_nil, List.length_map, List.length_drop, List.length_take, Int.natCast_add, wrap_i64_eq, wrap_u64, wrap_u8, ne_eq, not_true_eq_false, not_false_eq_true, Nat.zero_add, Nat.mul_one] <;> omega) | omega | (simp; done) | (simp; omega))) only [↓CR, MC, ↓PR, MR, bys_length, e]
    rfl
  | succ n ih =>
    intro j k x tg hj hk hx
    obtain ⟨k, rfl⟩ : ∃ m, k = m + 1 := ⟨k - 1, by omega⟩
    obtain ⟨k8, hk8⟩ : ∃ m, rounds = m + 9 := ⟨rounds - 9, by have := rounds_ge; omega⟩
    have h1 : j < l.length := by omega
    have hc := (l[j]).toNat_lt
    have e1 := succ_wrap (i := j) (by omega)
    have w := u32_id (n := (l[j]).toNat) (by omega)
    have e2 := xor_wrap hx (show (l[j]).toNat < 4294967296 by omega)
    have hx1 := xor_lt hx (show (l[j]).toNat < 4294967296 by omega)
    have g : (bys l).getD j AVal.undef = .int .u8 ((l[j]).toNat : Int) := by rw [bys_getD h1]; rfl
    have ih' := fun tg => ih (j + 1) k _ tg (by omega) (by omega) (fourN_lt (fourN_lt hx1))
    have inner : ∀ (tg : Hid Q) (y : Nat), y < 4294967296 → Run (P77_1 (d + 1) k (k8 + 9) f (bys l) y j 0 h) Q tg = Run (P77_0 (d + 1) k f (bys l) (fourN (fourN y) : Nat) (j + 1 : Nat) h) Q ⟨⟩ := fun tg y hy => by
      have a1 : IntKind.i64.wrap ((0 : Int) + 1) = 1 := by decide
      have a2 : IntKind.i64.wrap ((1 : Int) + 1) = 2 := by decide
      have a3 : IntKind.i64.wrap ((2 : Int) + 1) = 3 := by decide
      have a4 : IntKind.i64.wrap ((3 : Int) + 1) = 4 := by decide
      have a5 : IntKind.i64.wrap ((4 : Int) + 1) = 5 := by decide
      have a6 : IntKind.i64.wrap ((5 : Int) + 1) = 6 := by decide
      have a7 : IntKind.i64.wrap ((6 : Int) + 1) = 7 := by decide
      have a8 : IntKind.i64.wrap ((7 : Int) + 1) = 8 := by decide
      have y1 := stepN_lt hy
      have y2 := stepN_lt y1
      have y3 := stepN_lt y2
      have y4 := stepN_lt y3
      have y5 := stepN_lt y4
      have y6 := stepN_lt y5
      have y7 := stepN_lt y6
      have r := fun (z : Nat) (hz : z < 4294967296) (Q : Res → Prop) (tg : Hid Q) => rstep_run (d := d) hz (h := h) (Q := Q) (tg := tg)
      have r0 := r _ hy
      have r1 := r _ y1
      have r2 := r _ y2
      have r3 := r _ y3
      have r4 := r _ y4
      have r5 := r _ y5
      have r6 := r _ y6
      have r7 := r _ y7
      rw [P77_1_eq]
      simp (disch := (first | assumption | (simp only [Bool.and_eq_true, Bool.and_eq_false_iff, decide_eq_true_eq, decide_eq_false_iff_not, bne_iff_ne, beq_iff_eq, beq_eq_false_iff_ne, bne_eq_false_iff_eq, Bool.not_eq_true', Bool.not_eq_false', bys_length, List.length_append, List.length_cons, List.length_nil, List.length_map, List.length_drop, List.length_take, Int.natCast_add, wrap_i64_eq, wrap_u64, wrap_u8, ne_eq, not_true_eq_false, not_false_eq_true, Nat.zero_add, Nat.mul_one] <;> omega) | omega | (simp; done) | (simp; omega))) only [↓CR, MC, ↓PR, MR, r0, a1]
      rw [P77_1_eq]
      simp (disch := (first | assumption | (simp only [Bool.and_eq_true, Bool.and_eq_false_iff, decide_eq_true_eq, decide_eq_false_iff_not, bne_iff_ne, beq_iff_eq, beq_eq_false_iff_ne, bne_eq_false_iff_eq, Bool.not_eq_true', Bool.not_eq_false', bys_length, List.length_append, List.length_cons, List.length_nil, List.length_map, List.length_drop, List.length_take, Int.natCast_add, wrap_i64_eq, wrap_u64, wrap_u8, ne_eq, not_true_eq_false, not_false_eq_true, Nat.zero_add, Nat.mul_one] <;> omega) | omega | (simp; done) | (simp; omega))) only [↓CR, MC, ↓PR, MR, r1, a2]
      rw [P77_1_eq]
      simp (disch := (first | assumption | (simp only [Bool.and_eq_true, Bool.and_eq_false_iff, decide_eq_true_eq, decide_eq_false_iff_not, bne_iff_ne, beq_iff_eq, beq_eq_false_iff_ne, bne_eq_false_iff_eq, Bool.not_eq_true', Bool.not_eq_false', bys_length, List.length_append, List.length_cons, List.length_nil, List.length_map, List.length_drop, List.length_take, Int.natCast_add, wrap_i64_eq, wrap_u64, wrap_u8, ne_eq, not_true_eq_false, not_false_eq_true, Nat.zero_add, Nat.mul_one] <;> omega) | omega | (simp; done) | (simp; omega))) only [↓CR, MC, ↓PR, MR, r2, a3]
      rw [P77_1_eq]
      simp (disch := (first | assumption | (simp only [Bool.and_eq_true, Bool.and_eq_false_iff, decide_eq_true_eq, decide_eq_false_iff_not, bne_iff_ne, beq_iff_eq, beq_eq_false_iff_ne, bne_eq_false_iff_eq, Bool.not_eq_true', Bool.not_eq_false', bys_length, List.length_append, List.length_cons, List.length_nil, List.length_map, List.length_drop, List.length_take, Int.natCast_add, wrap_i64_eq, wrap_u64, wrap_u8, ne_eq, not_true_eq_false, not_false_eq_true, Nat.zero_add, Nat.mul_one] <;> omega) | omega | (simp; done) | (simp; omega))) only [↓CR, MC, ↓PR, MR, r3, a4]
      rw [P77_1_eq]
      simp (disch := (first | assumption | (simp only [Bool.and_eq_true, Bool.and_eq_false_iff, decide_eq_true_eq, decide_eq_false_iff_not, bne_iff_ne, beq_iff_eq, beq_eq_false_iff_ne, bne_eq_false_iff_eq, Bool.not_eq_true', Bool.not_eq_false', bys_length, List.length_append, List.length_cons, List.length_nil, List.length_map, List.length_drop, List.length_take, Int.natCast_add, wrap_i64_eq, wrap_u64, wrap_u8, ne_eq, not_true_eq_false, not_false_eq_true, Nat.zero_add, Nat.mul_one] <;> omega) | omega | (simp; done) | (simp; omega))) only [↓CR, MC, ↓PR, MR, r4, a5]
      rw [P77_1_eq]
      simp (disch := (first | assumption | (simp only [Bool.and_eq_true, Bool.and_eq_false_iff, decide_eq_true_eq, decide_eq_false_iff_not, bne_iff_ne, beq_iff_eq, beq_eq_false_iff_ne, bne_eq_false_iff_eq, Bool.not_eq_true', Bool.not_eq_false', bys_length, List.length_append, List.length_cons, List.length_nil, List.length_map, List.length_drop, List.length_take, Int.natCast_add, wrap_i64_eq, wrap_u64, wrap_u8, ne_eq, not_true_eq_false, not_false_eq_true, Nat.zero_add, Nat.mul_one] <;> omega) | omega | (simp; done) | (simp; omega))) only [↓CR, MC, ↓PR, MR, r5, a6]
      rw [P77_1_eq]
      simp (disch := (first | assumption | (simp only [Bool.and_eq_true, Bool.and_eq_false_iff, decide_eq_true_eq, decide_eq_false_iff_not, bne_iff_ne, beq_iff_eq, beq_eq_false_iff_ne, bne_eq_false_iff_eq, Bool.not_eq_true', Bool.not_eq_false', bys_length, List.length_append, List.length_cons, List.length_nil, List.length_map, List.length_drop, List.length_take, Int.natCast_add, wrap_i64_eq, wrap_u64, wrap_u8, ne_eq, not_true_eq_false, not_false_eq_true, Nat.zero_add, Nat.mul_one] <;> omega) | omega | (simp; done) | (simp; omega))) only [↓CR, MC, ↓PR, MR, r6, a7]
      rw [P77_1_eq]
      simp (disch := (first | assumption | (simp only [Bool.and_eq_true, Bool.and_eq_false_iff, decide_eq_true_eq, decide_eq_false_iff_not, bne_iff_ne, beq_iff_eq, beq_eq_false_iff_ne, bne_eq_false_iff_eq, Bool.not_eq_true', Bool.not_eq_false', bys_length, List.length_append, List.length_cons, List.length_nil, List.length_map, List.length_drop, List.length_take, Int.natCast_add, wrap_i64_eq, wrap_u64, wrap_u8, ne_eq, not_true_eq_false, not_false_eq_true, Nat.zero_add, Nat.mul_one] <;> omega) | omega | (simp; done) | (simp; omega))) only [↓CR, MC, ↓PR, MR, r7, a8]
      rw [P77_1_eq]
      simp (disch := (first | assumption | (simp only [Bool.and_eq_true, Bool.and_eq_false_iff, decide_eq_true_eq, decide_eq_false_iff_not, bne_iff_ne, beq_iff_eq, beq_eq_false_iff_ne, bne_eq_false_iff_eq, Bool.not_eq_true', Bool.not_eq_false', bys_length, List.length_append, List.length_cons, List.length_nil, List.length_map, List.length_drop, List.length_take, Int.natCast_add, wrap_i64_eq, wrap_u64, wrap_u8, ne_eq, not_true_eq_false, not_false_eq_true, Nat.zero_add, Nat.mul_one] <;> omega) | omega | (simp; done) | (simp; omega))) only [↓CR, MC, ↓PR, MR, e1]
      rw [fourN_step, fourN_step]
    rw [P77_0_eq, List.drop_eq_getElem_cons h1, List.foldl_cons, hk8]
    simp (disch := (first | assumption | (simp only [Bool.and_eq_true, Bool.and_eq_false_iff, decide_eq_true_eq, decide_eq_false_iff_not, bne_iff_ne, beq_iff_eq, beq_eq_false_iff_ne, bne_eq_false_iff_eq, Bool.not_eq_true', Bool.not_eq_false', bys_length, List.length_append, List.length_cons, List.length_nil, List.length_map, List.length_drop, List.length_take, Int.natCast_add, wrap_i64_eq, wrap_u64, wrap_u8, ne_eq, not_true_eq_false, not_false_eq_true, Nat.zero_add, Nat.mul_one] <;> omega) | omega | (simp; done) | (simp; omega))) only [↓CR, MC, ↓PR, MR, bys_length, g, w, e2]
    rw [inner _ _ hx1, ih']
theorem rmore_run {d : Nat} {f : Bool} {l : List UInt8} (hl : l.length ≤ 140737488351232) {h : Heap} {Q : Res → Prop} {tg : Hid Q} :
    Run (evFn Cw (d + 3) 65 [.sl f 0 (bys l)] h) Q tg = Q ([.int .u32 (moreN 0 l : Nat)], h) := by
  have e : IntKind.u32.wrap (4294967295 - (0 : Int)) = ((4294967295 ^^^ 0 : Nat) : Int) := by decide
  have r := fun (Q : Res → Prop) (tg : Hid Q) => rmore_loop d f l hl h Q l.length 0 rounds (4294967295 ^^^ 0) tg (by omega) (Nat.lt_of_lt_of_le (by omega) rounds_ge) (by decide)
  rw [e0, List.drop_zero] at r
  have r2 : ∀ (Q : Res → Prop) (tg : Hid Q), Run (evFn Cw (d + 2) 77 [.int .u32 0, .sl f 0 (bys l)] h) Q tg = Q ([.int .u32 (moreN 0 l : Nat)], h) := fun Q tg => by
    rw [F77_eq, e]
    exact r Q tg
  rw [F65_eq]
  simp (disch := (first | assumption | (simp only [Bool.and_eq_true, Bool.and_eq_false_iff, decide_eq_true_eq, decide_eq_false_iff_not, bne_iff_ne, beq_iff_eq, beq_eq_false_iff_ne, bne_eq_false_iff_eq, Bool.not_eq_true', Bool.not_eq_false', bys_length, List.length_append, List.length_cons, List.length_nil, List.length_map, List.length_drop, List.length_take, Int.natCast_add, wrap_i64_eq, wrap_u64, wrap_u8, ne_eq, not_true_eq_false, not_false_eq_true, Nat.zero_add, Nat.mul_one] <;> omega) | omega | (simp; done) | (simp; omega))) only [↓CR, MC, ↓PR, MR, r2]
theorem moreN_append (s : Nat) (a b : List UInt8) : moreN s (a ++ b) = moreN (moreN s a) b := by
  unfold moreN
  rw [List.foldl_append]
  congr 2
  generalize a.foldl _ _ = x
  rw [← Nat.xor_assoc, Nat.xor_self, Nat.zero_xor]

/-! ### Pairs of pieces -/
def pairUp : List (List UInt8) → List KPair
  | k :: v :: r => ⟨k, v⟩ :: pairUp r
  | _ => []
noncomputable def pcF (b : List UInt8) : Option (List KPair) := if (unp b).2 ≠ 0 ∨ (unp b).1.length % 2 = 1 ∨ 400 < b.length then none else some (pairUp (unp b).1)
noncomputable def pcsF : List (List UInt8) → List KPair → Option (List KPair)
  | [], acc => some acc
  | b :: r, acc => match pcF b with | none => none | some l => pcsF r (acc ++ l)
theorem pairUp_len : ∀ l : List (List UInt8), (pairUp l).length ≤ l.length
  | [] => by simp [pairUp]
  | [_] => by simp [pairUp]
  | k :: v :: r => by have := pairUp_len r; simp only [pairUp, List.length_cons]; omega
theorem pcF_len {b : List UInt8} {l : List KPair} (h : pcF b = some l) : l.length ≤ 400 := by
  unfold pcF at h
  split at h
  · cases h
  · rename_i hc
    have h1 := unp_len b
    have h2 := pairUp_len (unp b).1
    simp only [not_or] at hc
    simp only [Option.some.injEq] at h
    rw [← h]; omega
theorem pcF_sz {b : List UInt8} {l : List KPair} (h : pcF b = some l) : b.length ≤ 400 := by
  unfold pcF at h
  split at h
  · cases h
  · rename_i hc
    simp only [not_or] at hc
    omega
theorem ppairs_loop (d : Nat) (fs : List (List UInt8)) (hl : fs.length ≤ 40000000) (h : Heap) (Q : Res → Prop) : ∀ (n i k : Nat) (acc : List KPair) (tg : Hid Q), fs.length = i + 2 * n → n < k → acc.length ≤ i →
    Run (P58_0 d k (flds fs) (prs acc) i h) Q tg = Q ([.sl false 3 (prs (acc ++ pairUp (fs.drop i))), .bool true], h) := by
  intro n
  induction n with
  | zero =>
    intro i k acc tg hi hk ha
    obtain ⟨k, rfl⟩ : ∃ m, k = m + 1 := ⟨k - 1, by omega⟩
    have hd : fs.drop i = [] := List.drop_eq_nil_of_le (by omega)
    rw [P58_0_eq, hd]
    simp (disch := (first | assumption | (simp only [Bool.and_eq_true, Bool.and_eq_false_iff, decide_eq_true_eq, decide_eq_false_iff_not, bne_iff_ne, beq_iff_eq, beq_eq_false_iff_ne, bne_eq_false_iff_eq, Bool.not_eq_true', Bool.not_eq_false', bys_length, List.length_append, List.length_cons, List.length_nil, List.length_map, List.length_drop, List.length_take, Int.natCast_add, wrap_i64_eq, wrap_u64, wrap_u8, ne_eq, not_true_eq_false, not_false_eq_true, Nat.zero_add, Nat.mul_one] <;> omega) | omega | (simp; done) | (simp; omega))) only [↓CR, MC, ↓PR, MR, flds_length]
    simp [pairUp]
  | succ n ih =>
    intro i k acc tg hi hk ha
    obtain ⟨k, rfl⟩ : ∃ m, k = m + 1 := ⟨k - 1, by omega⟩
    have h1 : i < fs.length := by omega
    have h2 : i + 1 < fs.length := by omega
    have e1 := succ_wrap (i := i) (by omega)
    have e2 : IntKind.i64.wrap ((i : Int) + 2) = ((i + 2 : Nat) : Int) := by rw [wrap_i64_id (by omega) (by omega)]; omega
    have ih' := fun tg => ih (i + 2) k (acc ++ [⟨fs[i], fs[i + 1]⟩]) tg (by omega) (by omega) (by simp; omega)
    have hd : fs.drop i = fs[i] :: fs[i + 1] :: fs.drop (i + 2) := by rw [List.drop_eq_getElem_cons h1, List.drop_eq_getElem_cons h2]
    rw [P58_0_eq, hd]
    simp (disch := (first | assumption | (simp only [Bool.and_eq_true, Bool.and_eq_false_iff, decide_eq_true_eq, decide_eq_false_iff_not, bne_iff_ne, beq_iff_eq, beq_eq_false_iff_ne, bne_eq_false_iff_eq, Bool.not_eq_true', Bool.not_eq_false', bys_length, List.length_append, List.length_cons, List.length_nil, List.length_map, List.length_drop, List.length_take, Int.natCast_add, wrap_i64_eq, wrap_u64, wrap_u8, ne_eq, not_true_eq_false, not_false_eq_true, Nat.zero_add, Nat.mul_one] <;> omega) | omega | (simp; done) | (simp; omega))) only [↓CR, MC, ↓PR, MR, flds_length, flds_getD h1, flds_getD h2, e1, e2, prs_length, prs_snoc, ih']
    simp [pairUp]
theorem ppairs_some {d : Nat} {f : Bool} {b : List UInt8} {l : List KPair} (hp : pcF b = some l) {h : Heap} {Q : Res → Prop} {tg : Hid Q} :
    Run (evFn Cw (d + 4) 58 [.sl f 0 (bys b)] h) Q tg = Q ([.sl false 3 (prs l), .bool true], h) := by
  have hb := pcF_sz hp
  have hu := unp_len b
  unfold pcF at hp
  split at hp
  · cases hp
  · rename_i hc
    simp only [not_or, ne_eq, Classical.not_not] at hc
    obtain ⟨c1, c2, c3⟩ := hc
    simp only [Option.some.injEq] at hp
    have r := fun (Q : Res → Prop) (tg : Hid Q) => unp_run (d := d) (f := f) (l := b) (h := h) (Q := Q) (tg := tg) (by omega)
    have q := fun (tg : Hid Q) => ppairs_loop (d + 3) (unp b).1 (by omega) h Q ((unp b).1.length / 2) 0 rounds [] tg (by omega) (Nat.lt_of_lt_of_le (by omega) rounds_ge) (by simp)
    rw [e0, prs_nil, List.drop_zero, List.nil_append, hp] at q
    have e1 : ((((unp b).2 : Nat) : Int) != 0) = false := by simp [c1]
    have e2 : (Int.tmod (((unp b).1.length : Nat) : Int) 2 != 0) = false := by
      have : Int.tmod (((unp b).1.length : Nat) : Int) 2 = (((unp b).1.length % 2 : Nat) : Int) := by rw [Int.tmod_eq_emod_of_nonneg (by omega)]; omega
      rw [this]; simp; omega
    have e3 : decide ((unp b).2 ≠ 0) = false := by simp [c1]
    rw [F58_eq]
    simp (disch := (first | assumption | (simp only [Bool.and_eq_true, Bool.and_eq_false_iff, decide_eq_true_eq, decide_eq_false_iff_not, bne_iff_ne, beq_iff_eq, beq_eq_false_iff_ne, bne_eq_false_iff_eq, Bool.not_eq_true', Bool.not_eq_false', bys_length, List.length_append, List.length_cons, List.length_nil, List.length_map, List.length_drop, List.length_take, Int.natCast_add, wrap_i64_eq, wrap_u64, wrap_u8, ne_eq, not_true_eq_false, not_false_eq_true, Nat.zero_add, Nat.mul_one] <;> omega) | omega | (simp; done) | (simp; omega))) only [↓CR, MC, ↓PR, MR, r, e3, e1, flds_length, e2, bys_length, q]
theorem ppairs_none {d : Nat} {f : Bool} {b : List UInt8} (hp : pcF b = none) (hb : b.length ≤ 40000000) {h : Heap} {Q : Res → Prop} {tg : Hid Q} :
    Run (evFn Cw (d + 4) 58 [.sl f 0 (bys b)] h) Q tg = Q ([.sl true 0 [], .bool false], h) := by
  have hu := unp_len b
  have r := fun (Q : Res → Prop) (tg : Hid Q) => unp_run (d := d) (f := f) (l := b) (h := h) (Q := Q) (tg := tg) (by omega)
  unfold pcF at hp
  split at hp
  · rename_i hc
    rw [F58_eq]
    by_cases c1 : (unp b).2 = 0
    · have e1 : ((((unp b).2 : Nat) : Int) != 0) = false := by simp [c1]
      have e3 : decide ((unp b).2 ≠ 0) = false := by simp [c1]
      have e4 : Int.tmod (((unp b).1.length : Nat) : Int) 2 = (((unp b).1.length % 2 : Nat) : Int) := by rw [Int.tmod_eq_emod_of_nonneg (by omega)]; omega
      by_cases c2 : (unp b).1.length % 2 = 1
      · have e2 : ((((unp b).1.length % 2 : Nat) : Int) != 0) = true := by rw [c2]; rfl
        simp (disch := (first | assumption | (simp only [Bool.and_eq_true, Bool.and_eq_false_iff, decide_eq_true_eq, decide_eq_false_iff_not, bne_iff_ne, beq_iff_eq, beq_eq_false_iff_ne, bne_eq_false_iff_eq, Bool.not_eq_true', Bool.not_eq_false', bys_length, List.length_append, List.length_cons, List.length_nil, List.length_map, List.length_drop, List.length_take, Int.natCast_add, wrap_i64_eq, wrap_u64, wrap_u8, ne_eq, not_true_eq_false, not_false_eq_true, Nat.zero_add, Nat.mul_one] <;> omega) | omega | (simp; done) | (simp; omega))) only [↓CR, MC, ↓PR, MR, r, e3, e1, flds_length, e4, e2]
      · have e2 : ((((unp b).1.length % 2 : Nat) : Int) != 0) = false := by simp; omega
        have c3 : 400 < b.length := by rcases hc with h | h | h <;> first | exact absurd c1 h | exact absurd h c2 | exact h
        simp (disch := (first | assumption | (simp only [Bool.and_eq_true, Bool.and_eq_false_iff, decide_eq_true_eq, decide_eq_false_iff_not, bne_iff_ne, beq_iff_eq, beq_eq_false_iff_ne, bne_eq_false_iff_eq, Bool.not_eq_true', Bool.not_eq_false', bys_length, List.length_append, List.length_cons, List.length_nil, List.length_map, List.length_drop, List.length_take, Int.natCast_add, wrap_i64_eq, wrap_u64, wrap_u8, ne_eq, not_true_eq_false, not_false_eq_true, Nat.zero_add, Nat.mul_one] <;> omega) | omega | (simp; done) | (simp; omega))) only [↓CR, MC, ↓PR, MR, r, e3, e1, flds_length, e4, e2, bys_length]
    · have e1 : ((((unp b).2 : Nat) : Int) != 0) = true := by simp; exact c1
      have e3 : decide ((unp b).2 ≠ 0) = true := by simp [c1]
      simp (disch := (first | assumption | (simp only [Bool.and_eq_true, Bool.and_eq_false_iff, decide_eq_true_eq, decide_eq_false_iff_not, bne_iff_ne, beq_iff_eq, beq_eq_false_iff_ne, bne_eq_false_iff_eq, Bool.not_eq_true', Bool.not_eq_false', bys_length, List.length_append, List.length_cons, List.length_nil, List.length_map, List.length_drop, List.length_take, Int.natCast_add, wrap_i64_eq, wrap_u64, wrap_u8, ne_eq, not_true_eq_false, not_false_eq_true, Nat.zero_add, Nat.mul_one] <;> omega) | omega | (simp; done) | (simp; omega))) only [↓CR, MC, ↓PR, MR, r, e3, e1]
  · cases hp

/-! ### All pieces -/
def sumN : List (List UInt8) → Nat → Nat
  | [], s => s
  | b :: r, s => sumN r (moreN s b)
theorem sumN_flat : ∀ (l : List (List UInt8)) (pre : List UInt8), sumN l (moreN 0 pre) = moreN 0 (pre ++ l.flatten)
  | [], pre => by simp [sumN]
  | b :: r, pre => by
    unfold sumN
    rw [← moreN_append, sumN_flat r (pre ++ b), List.flatten_cons, List.append_assoc]
theorem pcsF_len : ∀ (ps : List (List UInt8)) {acc l : List KPair}, pcsF ps acc = some l → l.length ≤ acc.length + 400 * ps.length
  | [], acc, l, h => by simp only [pcsF, Option.some.injEq] at h; rw [← h]; simp
  | b :: r, acc, l, h => by
    unfold pcsF at h
    split at h
    · cases h
    · rename_i l1 h1
      have h2 := pcsF_len r h
      have h3 := pcF_len h1
      rw [List.length_append] at h2
      simp only [List.length_cons]; omega
theorem all_some (d : Nat) (f : Bool) (ps : List (List UInt8)) (hps : ps.length ≤ 100000) (h : Heap) (Q : Res → Prop) : ∀ (n i k s : Nat) (acc l : List KPair) (tg : Hid Q), ps.length = i + n → n < k → acc.length ≤ 400 * i → s < 4294967296 → pcsF (ps.drop i) acc = some l →
    Run (P42_0 (d + 4) k (prs acc) f (flds ps) (ps.length : Nat) i 0 0 0 (ps.length : Nat) 0 s h) Q tg = Q ([.sl false 3 (prs l), .agg [.int .i64 ps.length, .int .i64 l.length, .int .u32 (sumN (ps.drop i) s : Nat)], .bool true], h) := by
  intro n
  induction n with
  | zero =>
    intro i k s acc l tg hi hk ha hs hp
    obtain ⟨k, rfl⟩ : ∃ m, k = m + 1 := ⟨k - 1, by omega⟩
    have hd : ps.drop i = [] := List.drop_eq_nil_of_le (by omega)
    rw [hd] at hp ⊢
    simp only [pcsF, Option.some.injEq] at hp
    subst hp
    rw [P42_0_eq]
    simp (disch := (first | assumption | (simp only [Bool.and_eq_true, Bool.and_eq_false_iff, decide_eq_true_eq, decide_eq_false_iff_not, bne_iff_ne, beq_iff_eq, beq_eq_false_iff_ne, bne_eq_false_iff_eq, Bool.not_eq_true', Bool.not_eq_false', bys_length, List.length_append, List.length_cons, List.length_nil, List.length_map, List.length_drop, List.length_take, Int.natCast_add, wrap_i64_eq, wrap_u64, wrap_u8, ne_eq, not_true_eq_false, not_false_eq_true, Nat.zero_add, Nat.mul_one] <;> omega) | omega | (simp; done) | (simp; omega))) only [↓CR, MC, ↓PR, MR, prs_length]
    rfl
  | succ n ih =>
    intro i k s acc l tg hi hk ha hs hp
    obtain ⟨k, rfl⟩ : ∃ m, k = m + 1 := ⟨k - 1, by omega⟩
    have h1 : i < ps.length := by omega
    have e1 := succ_wrap (i := i) (by omega)
    rw [List.drop_eq_getElem_cons h1] at hp ⊢
    unfold pcsF at hp
    unfold sumN
    split at hp
    · cases hp
    · rename_i l1 h1'
      have hl1 := pcF_len h1'
      have hsz := pcF_sz h1'
      have rp := fun (Q : Res → Prop) (tg : Hid Q) => ppairs_some (d := d) (f := false) h1' (h := h) (Q := Q) (tg := tg)
      have rm := fun (Q : Res → Prop) (tg : Hid Q) => more_run (d := d + 2) (s := s) (f := false) (l := ps[i]) hs (by omega) (h := h) (Q := Q) (tg := tg)
      have ih' := fun tg => ih (i + 1) k (moreN s ps[i]) (acc ++ l1) l tg (by omega) (by omega) (by rw [List.length_append]; omega) (moreN_lt hs _) hp
      have ea : prs acc ++ prs l1 = prs (acc ++ l1) := by simp [prs]
      rw [P42_0_eq]
      simp (disch := (first | assumption | (simp only [Bool.and_eq_true, Bool.and_eq_false_iff, decide_eq_true_eq, decide_eq_false_iff_not, bne_iff_ne, beq_iff_eq, beq_eq_false_iff_ne, bne_eq_false_iff_eq, Bool.not_eq_true', Bool.not_eq_false', bys_length, List.length_append, List.length_cons, List.length_nil, List.length_map, List.length_drop, List.length_take, Int.natCast_add, wrap_i64_eq, wrap_u64, wrap_u8, ne_eq, not_true_eq_false, not_false_eq_true, Nat.zero_add, Nat.mul_one] <;> omega) | omega | (simp; done) | (simp; omega))) only [↓CR, MC, ↓PR, MR, flds_length, flds_getD h1, rp, prs_length, rm, ea, e1, ih']
theorem all_none (d : Nat) (f : Bool) (ps : List (List UInt8)) (hps : ps.length ≤ 100000) (hb : ∀ b ∈ ps, b.length ≤ 40000000) (h : Heap) (Q : Res → Prop) : ∀ (n i k s : Nat) (acc : List KPair) (tg : Hid Q), ps.length = i + n → n < k → acc.length ≤ 400 * i → s < 4294967296 → pcsF (ps.drop i) acc = none →
    Run (P42_0 (d + 4) k (prs acc) f (flds ps) (ps.length : Nat) i 0 0 0 (ps.length : Nat) 0 s h) Q tg = Q ([.sl true 0 [], .agg [.int .i64 0, .int .i64 0, .int .u32 0], .bool false], h) := by
  intro n
  induction n with
  | zero =>
    intro i k s acc tg hi hk ha hs hp
    have hd : ps.drop i = [] := List.drop_eq_nil_of_le (by omega)
    rw [hd] at hp
    simp [pcsF] at hp
  | succ n ih =>
    intro i k s acc tg hi hk ha hs hp
    obtain ⟨k, rfl⟩ : ∃ m, k = m + 1 := ⟨k - 1, by omega⟩
    have h1 : i < ps.length := by omega
    have e1 := succ_wrap (i := i) (by omega)
    rw [List.drop_eq_getElem_cons h1] at hp
    unfold pcsF at hp
    rw [P42_0_eq]
    split at hp
    · rename_i h1'
      have rp := fun (Q : Res → Prop) (tg : Hid Q) => ppairs_none (d := d) (f := false) h1' (hb _ (List.getElem_mem h1)) (h := h) (Q := Q) (tg := tg)
      simp (disch := (first | assumption | (simp only [Bool.and_eq_true, Bool.and_eq_false_iff, decide_eq_true_eq, decide_eq_false_iff_not, bne_iff_ne, beq_iff_eq, beq_eq_false_iff_ne, bne_eq_false_iff_eq, Bool.not_eq_true', Bool.not_eq_false', bys_length, List.length_append, List.length_cons, List.length_nil, List.length_map, List.length_drop, List.length_take, Int.natCast_add, wrap_i64_eq, wrap_u64, wrap_u8, ne_eq, not_true_eq_false, not_false_eq_true, Nat.zero_add, Nat.mul_one] <;> omega) | omega | (simp; done) | (simp; omega))) only [↓CR, MC, ↓PR, MR, flds_length, flds_getD h1, rp, Bool.not_false]
    · rename_i l1 h1'
      have hl1 := pcF_len h1'
      have hsz := pcF_sz h1'
      have rp := fun (Q : Res → Prop) (tg : Hid Q) => ppairs_some (d := d) (f := false) h1' (h := h) (Q := Q) (tg := tg)
      have rm := fun (Q : Res → Prop) (tg : Hid Q) => more_run (d := d + 2) (s := s) (f := false) (l := ps[i]) hs (by omega) (h := h) (Q := Q) (tg := tg)
      have ih' := fun tg => ih (i + 1) k (moreN s ps[i]) (acc ++ l1) tg (by omega) (by omega) (by rw [List.length_append]; omega) (moreN_lt hs _) hp
      have ea : prs acc ++ prs l1 = prs (acc ++ l1) := by simp [prs]
      simp (disch := (first | assumption | (simp only [Bool.and_eq_true, Bool.and_eq_false_iff, decide_eq_true_eq, decide_eq_false_iff_not, bne_iff_ne, beq_iff_eq, beq_eq_false_iff_ne, bne_eq_false_iff_eq, Bool.not_eq_true', Bool.not_eq_false', bys_length, List.length_append, List.length_cons, List.length_nil, List.length_map, List.length_drop, List.length_take, Int.natCast_add, wrap_i64_eq, wrap_u64, wrap_u8, ne_eq, not_true_eq_false, not_false_eq_true, Nat.zero_add, Nat.mul_one] <;> omega) | omega | (simp; done) | (simp; omega))) only [↓CR, MC, ↓PR, MR, flds_length, flds_getD h1, rp, Bool.not_true, prs_length, rm, ea, e1, ih']
theorem all_run_some {d : Nat} {f : Bool} {ps : List (List UInt8)} {l : List KPair} (hps : ps.length ≤ 100000) (hp : pcsF ps [] = some l) {h : Heap} {Q : Res → Prop} {tg : Hid Q} :
    Run (evFn Cw (d + 5) 42 [.sl f 0 (flds ps)] h) Q tg = Q ([.sl false 3 (prs l), .agg [.int .i64 ps.length, .int .i64 l.length, .int .u32 (sumN ps 0 : Nat)], .bool true], h) := by
  have := all_some d f ps hps h Q ps.length 0 rounds 0 [] l ⟨⟩ (by omega) (Nat.lt_of_lt_of_le (by omega) rounds_ge) (by simp) (by omega) (by rw [List.drop_zero]; exact hp)
  rw [e0, prs_nil, List.drop_zero] at this
  rw [F42_eq, flds_length]
  exact this
theorem all_run_none {d : Nat} {f : Bool} {ps : List (List UInt8)} (hps : ps.length ≤ 100000) (hb : ∀ b ∈ ps, b.length ≤ 40000000) (hp : pcsF ps [] = none) {h : Heap} {Q : Res → Prop} {tg : Hid Q} :
    Run (evFn Cw (d + 5) 42 [.sl f 0 (flds ps)] h) Q tg = Q ([.sl true 0 [], .agg [.int .i64 0, .int .i64 0, .int .u32 0], .bool false], h) := by
  have := all_none d f ps hps hb h Q ps.length 0 rounds 0 [] ⟨⟩ (by omega) (Nat.lt_of_lt_of_le (by omega) rounds_ge) (by simp) (by omega) (by rw [List.drop_zero]; exact hp)
  rw [e0, prs_nil] at this
  rw [F42_eq, flds_length]
  exact this
/-- The reference's pairs. -/
theorem rpairs1_loop (d n0 : Nat) (f : Bool) (ps fs : List (List UInt8)) (j : Nat) (hj : j < 1000000) (hl : fs.length ≤ 40000000) (h : Heap) (Q : Res → Prop) : ∀ (n i k : Nat) (acc : List KPair) (tg : Hid Q), fs.length = i + 2 * n → n < k → acc.length ≤ 400 * j + i →
    Run (P31_1 d n0 k f (flds ps) (prs acc) j (flds fs) i h) Q tg = Run (P31_0 d n0 f (flds ps) (prs (acc ++ pairUp (fs.drop i))) (j + 1 : Nat) h) Q ⟨⟩ := by
  have ej := succ_wrap (i := j) (by omega)
  intro n
  induction n with
  | zero =>
    intro i k acc tg hi hk ha
    obtain ⟨k, rfl⟩ : ∃ m, k = m + 1 := ⟨k - 1, by omega⟩
    have e1 := succ_wrap (i := i) (by omega)
    have hd : fs.drop i = [] := List.drop_eq_nil_of_le (by omega)
    rw [P31_1_eq, hd]
    simp (disch := (first | assumption | (simp only [Bool.and_eq_true, Bool.and_eq_false_iff, decide_eq_true_eq, decide_eq_false_iff_not, bne_iff_ne, beq_iff_eq, beq_eq_false_iff_ne, bne_eq_false_iff_eq, Bool.not_eq_true', Bool.not_eq_false', bys_length, List.length_append, List.length_cons, List.length_nil, List.length_map, List.length_drop, List.length_take, Int.natCast_add, wrap_i64_eq, wrap_u64, wrap_u8, ne_eq, not_true_eq_false, not_false_eq_true, Nat.zero_add, Nat.mul_one] <;> omega) | omega | (simp; done) | (simp; omega))) only [↓CR, MC, ↓PR, MR, flds_length, e1, ej]
    simp [pairUp]
  | succ n ih =>
    intro i k acc tg hi hk ha
    obtain ⟨k, rfl⟩ : ∃ m, k = m + 1 := ⟨k - 1, by omega⟩
    have h1 : i < fs.length := by omega
    have h2 : i + 1 < fs.length := by omega
    have e1 := succ_wrap (i := i) (by omega)
    have e2 : IntKind.i64.wrap ((i : Int) + 2) = ((i + 2 : Nat) : Int) := by rw [wrap_i64_id (by omega) (by omega)]; omega
    have ih' := fun tg => ih (i + 2) k (acc ++ [⟨fs[i], fs[i + 1]⟩]) tg (by omega) (by omega) (by simp; omega)
    have hd : fs.drop i = fs[i] :: fs[i + 1] :: fs.drop (i + 2) := by rw [List.drop_eq_getElem_cons h1, List.drop_eq_getElem_cons h2]
    rw [P31_1_eq, hd]
    simp (disch := (first | assumption | (simp only [Bool.and_eq_true, Bool.and_eq_false_iff, decide_eq_true_eq, decide_eq_false_iff_not, bne_iff_ne, beq_iff_eq, beq_eq_false_iff_ne, bne_eq_false_iff_eq, Bool.not_eq_true', Bool.not_eq_false', bys_length, List.length_append, List.length_cons, List.length_nil, List.length_map, List.length_drop, List.length_take, Int.natCast_add, wrap_i64_eq, wrap_u64, wrap_u8, ne_eq, not_true_eq_false, not_false_eq_true, Nat.zero_add, Nat.mul_one] <;> omega) | omega | (simp; done) | (simp; omega))) only [↓CR, MC, ↓PR, MR, flds_length, flds_getD h1, flds_getD h2, e1, e2, prs_length, prs_snoc, ih']
    simp [pairUp]
def prR (o : Option (List KPair)) : List AVal := match o with | none => [.sl true 0 [], .bool false] | some l => [.sl false 3 (prs l), .bool true]
theorem rpairs_loop (d : Nat) (f : Bool) (ps : List (List UInt8)) (hps : ps.length ≤ 100000) (hb : ∀ b ∈ ps, b.length ≤ 40000000) (h : Heap) (Q : Res → Prop) : ∀ (n i k : Nat) (acc : List KPair) (tg : Hid Q), ps.length = i + n → n < k → acc.length ≤ 400 * i →
    Run (P31_0 (d + 3) k f (flds ps) (prs acc) i h) Q tg = Q (prR (pcsF (ps.drop i) acc), h) := by
  intro n
  induction n with
  | zero =>
    intro i k acc tg hi hk ha
    obtain ⟨k, rfl⟩ : ∃ m, k = m + 1 := ⟨k - 1, by omega⟩
    have hd : ps.drop i = [] := List.drop_eq_nil_of_le (by omega)
    rw [P31_0_eq, hd]
    simp (disch := (first | assumption | (simp only [Bool.and_eq_true, Bool.and_eq_false_iff, decide_eq_true_eq, decide_eq_false_iff_not, bne_iff_ne, beq_iff_eq, beq_eq_false_iff_ne, bne_eq_false_iff_eq, Bool.not_eq_true', Bool.not_eq_false', bys_length, List.length_append, List.length_cons, List.length_nil, List.length_map, List.length_drop, List.length_take, Int.natCast_add, wrap_i64_eq, wrap_u64, wrap_u8, ne_eq, not_true_eq_false, not_false_eq_true, Nat.zero_add, Nat.mul_one] <;> omega) | omega | (simp; done) | (simp; omega))) only [↓CR, MC, ↓PR, MR, flds_length]
    rfl
  | succ n ih =>
    intro i k acc tg hi hk ha
    obtain ⟨k, rfl⟩ : ∃ m, k = m + 1 := ⟨k - 1, by omega⟩
    have h1 : i < ps.length := by omega
    have hbi := hb _ (List.getElem_mem h1)
    have hu := unp_len ps[i]
    have r := fun (Q : Res → Prop) (tg : Hid Q) => runp_run (d := d) (f := false) (l := ps[i]) (h := h) (Q := Q) (tg := tg) hbi
    have e4 : Int.tmod (((unp ps[i]).1.length : Nat) : Int) 2 = (((unp ps[i]).1.length % 2 : Nat) : Int) := by rw [Int.tmod_eq_emod_of_nonneg (by omega)]; omega
    rw [P31_0_eq, List.drop_eq_getElem_cons h1]
    unfold pcsF
    by_cases c1 : (unp ps[i]).2 = 0
    · have e1 : ((((unp ps[i]).2 : Nat) : Int) != 0) = false := by simp [c1]
      have e3 : decide ((unp ps[i]).2 ≠ 0) = false := by simp [c1]
      by_cases c2 : (unp ps[i]).1.length % 2 = 1
      · have e2 : ((((unp ps[i]).1.length % 2 : Nat) : Int) == 1) = true := by rw [c2]; rfl
        have hp : pcF ps[i] = none := by unfold pcF; rw [if_pos (.inr (.inl c2))]
        rw [hp]
        simp (disch := (first | assumption | (simp only [Bool.and_eq_true, Bool.and_eq_false_iff, decide_eq_true_eq, decide_eq_false_iff_not, bne_iff_ne, beq_iff_eq, beq_eq_false_iff_ne, bne_eq_false_iff_eq, Bool.not_eq_true', Bool.not_eq_false', bys_length, List.length_append, List.length_cons, List.length_nil, List.length_map, List.length_drop, List.length_take, Int.natCast_add, wrap_i64_eq, wrap_u64, wrap_u8, ne_eq, not_true_eq_false, not_false_eq_true, Nat.zero_add, Nat.mul_one] <;> omega) | omega | (simp; done) | (simp; omega))) only [↓CR, MC, ↓PR, MR, flds_length, flds_getD h1, r, e3, e1, e4, e2]
        rfl
      · have e2 : ((((unp ps[i]).1.length % 2 : Nat) : Int) == 1) = false := by simp; omega
        by_cases c3 : 400 < (ps[i]).length
        · have hp : pcF ps[i] = none := by unfold pcF; rw [if_pos (.inr (.inr c3))]
          rw [hp]
          simp (disch := (first | assumption | (simp only [Bool.and_eq_true, Bool.and_eq_false_iff, decide_eq_true_eq, decide_eq_false_iff_not, bne_iff_ne, beq_iff_eq, beq_eq_false_iff_ne, bne_eq_false_iff_eq, Bool.not_eq_true', Bool.not_eq_false', bys_length, List.length_append, List.length_cons, List.length_nil, List.length_map, List.length_drop, List.length_take, Int.natCast_add, wrap_i64_eq, wrap_u64, wrap_u8, ne_eq, not_true_eq_false, not_false_eq_true, Nat.zero_add, Nat.mul_one] <;> omega) | omega | (simp; done) | (simp; omega))) only [↓CR, MC, ↓PR, MR, flds_length, flds_getD h1, r, e3, e1, e4, e2, bys_length]
          rfl
        · have hp : pcF ps[i] = some (pairUp (unp ps[i]).1) := by
            unfold pcF; rw [if_neg (by rw [not_or, not_or]; exact ⟨by simp [c1], c2, c3⟩)]
          have hl1 := pcF_len hp
          rw [hp]
          have q := fun (Q : Res → Prop) (tg : Hid Q) => rpairs1_loop (d + 3) k f ps (unp ps[i]).1 i (by omega) (by omega) h Q ((unp ps[i]).1.length / 2) 0 rounds acc tg (by omega) (Nat.lt_of_lt_of_le (by omega) rounds_ge) (by omega)
          rw [e0, List.drop_zero] at q
          have ih' := fun tg => ih (i + 1) k (acc ++ pairUp (unp ps[i]).1) tg (by omega) (by omega) (by rw [List.length_append]; omega)
          simp (disch := (first | assumption | (simp only [Bool.and_eq_true, Bool.and_eq_false_iff, decide_eq_true_eq, decide_eq_false_iff_not, bne_iff_ne, beq_iff_eq, beq_eq_false_iff_ne, bne_eq_false_iff_eq, Bool.not_eq_true', Bool.not_eq_false', bys_length, List.length_append, List.length_cons, List.length_nil, List.length_map, List.length_drop, List.length_take, Int.natCast_add, wrap_i64_eq, wrap_u64, wrap_u8, ne_eq, not_true_eq_false, not_false_eq_true, Nat.zero_add, Nat.mul_one] <;> omega) | omega | (simp; done) | (simp; omega))) only [↓CR, MC, ↓PR, MR, flds_length, flds_getD h1, r, e3, e1, e4, e2, bys_length, q, ih']
    · have e1 : ((((unp ps[i]).2 : Nat) : Int) != 0) = true := by simp; exact c1
      have e3 : decide ((unp ps[i]).2 ≠ 0) = true := by simp [c1]
      have hp : pcF ps[i] = none := by unfold pcF; rw [if_pos (.inl c1)]
      rw [hp]
      simp (disch := (first | assumption | (simp only [Bool.and_eq_true, Bool.and_eq_false_iff, decide_eq_true_eq, decide_eq_false_iff_not, bne_iff_ne, beq_iff_eq, beq_eq_false_iff_ne, bne_eq_false_iff_eq, Bool.not_eq_true', Bool.not_eq_false', bys_length, List.length_append, List.length_cons, List.length_nil, List.length_map, List.length_drop, List.length_take, Int.natCast_add, wrap_i64_eq, wrap_u64, wrap_u8, ne_eq, not_true_eq_false, not_false_eq_true, Nat.zero_add, Nat.mul_one] <;> omega) | omega | (simp; done) | (simp; omega))) only [↓CR, MC, ↓PR, MR, flds_length, flds_getD h1, r, e3, e1]
      rfl
theorem rpairs_run {d : Nat} {f : Bool} {ps : List (List UInt8)} (hps : ps.length ≤ 100000) (hb : ∀ b ∈ ps, b.length ≤ 40000000) {h : Heap} {Q : Res → Prop} {tg : Hid Q} :
    Run (evFn Cw (d + 4) 31 [.sl f 0 (flds ps)] h) Q tg = Q (prR (pcsF ps []), h) := by
  have := rpairs_loop d f ps hps hb h Q ps.length 0 rounds [] ⟨⟩ (by omega) (Nat.lt_of_lt_of_le (by omega) rounds_ge) (by simp)
  rw [e0, prs_nil, List.drop_zero] at this
  rw [F31_eq]
  exact this
theorem rcat_loop (d : Nat) (f : Bool) (ps : List (List UInt8)) (hps : ps.length ≤ 100000) (hb : ∀ b ∈ ps, b.length ≤ 40000000) (l2 : List AVal) (h : Heap) (Q : Res → Prop) : ∀ (n i k : Nat) (acc : List UInt8) (tg : Hid Q), ps.length = i + n → n < k → acc.length ≤ 40000000 * i →
    Run (P50_0 (d + 3) k f (flds ps) l2 (bys acc) i 0 0 0 h) Q tg = Q ([.agg [.int .i64 ps.length, .int .i64 l2.length, .int .u32 (moreN 0 (acc ++ (ps.drop i).flatten) : Nat)]], h) := by
  intro n
  induction n with
  | zero =>
    intro i k acc tg hi hk ha
    obtain ⟨k, rfl⟩ : ∃ m, k = m + 1 := ⟨k - 1, by omega⟩
    have hd : ps.drop i = [] := List.drop_eq_nil_of_le (by omega)
    have rm := fun (Q : Res → Prop) (tg : Hid Q) => rmore_run (d := d) (f := false) (l := acc) (by omega) (h := h) (Q := Q) (tg := tg)
    rw [P50_0_eq, hd, List.flatten_nil, List.append_nil]
    simp (disch := (first | assumption | (simp only [Bool.and_eq_true, Bool.and_eq_false_iff, decide_eq_true_eq, decide_eq_false_iff_not, bne_iff_ne, beq_iff_eq, beq_eq_false_iff_ne, bne_eq_false_iff_eq, Bool.not_eq_true', Bool.not_eq_false', bys_length, List.length_append, List.length_cons, List.length_nil, List.length_map, List.length_drop, List.length_take, Int.natCast_add, wrap_i64_eq, wrap_u64, wrap_u8, ne_eq, not_true_eq_false, not_false_eq_true, Nat.zero_add, Nat.mul_one] <;> omega) | omega | (simp; done) | (simp; omega))) only [↓CR, MC, ↓PR, MR, flds_length, rm]
  | succ n ih =>
    intro i k acc tg hi hk ha
    obtain ⟨k, rfl⟩ : ∃ m, k = m + 1 := ⟨k - 1, by omega⟩
    have h1 : i < ps.length := by omega
    have e1 := succ_wrap (i := i) (by omega)
    have hbi := hb _ (List.getElem_mem h1)
    have ih' := fun tg => ih (i + 1) k (acc ++ ps[i]) tg (by omega) (by omega) (by rw [List.length_append]; omega)
    rw [P50_0_eq, List.drop_eq_getElem_cons h1, List.flatten_cons, ← List.append_assoc]
    simp (disch := (first | assumption | (simp only [Bool.and_eq_true, Bool.and_eq_false_iff, decide_eq_true_eq, decide_eq_false_iff_not, bne_iff_ne, beq_iff_eq, beq_eq_false_iff_ne, bne_eq_false_iff_eq, Bool.not_eq_true', Bool.not_eq_false', bys_length, List.length_append, List.length_cons, List.length_nil, List.length_map, List.length_drop, List.length_take, Int.natCast_add, wrap_i64_eq, wrap_u64, wrap_u8, ne_eq, not_true_eq_false, not_false_eq_true, Nat.zero_add, Nat.mul_one] <;> omega) | omega | (simp; done) | (simp; omega))) only [↓CR, MC, ↓PR, MR, flds_length, flds_getD h1, bys_length, ← bys_append, e1, ih']
theorem rptof_run {d : Nat} {f : Bool} {ps : List (List UInt8)} (hps : ps.length ≤ 100000) (hb : ∀ b ∈ ps, b.length ≤ 40000000) {l : List KPair} (hp : pcsF ps [] = some l) {h : Heap} {Q : Res → Prop} {tg : Hid Q} :
    Run (evFn Cw (d + 5) 50 [.sl f 0 (flds ps)] h) Q tg = Q ([.agg [.int .i64 ps.length, .int .i64 l.length, .int .u32 (sumN ps 0 : Nat)]], h) := by
  have r1 := fun (Q : Res → Prop) (tg : Hid Q) => rpairs_run (d := d) (f := f) hps hb (h := h) (Q := Q) (tg := tg)
  rw [hp] at r1
  have r2 := fun (Q : Res → Prop) (tg : Hid Q) => rcat_loop (d + 1) f ps hps hb (prs l) h Q ps.length 0 rounds [] tg (by omega) (Nat.lt_of_lt_of_le (by omega) rounds_ge) (by simp)
  have es : sumN ps 0 = moreN 0 ps.flatten := by
    have h0 : moreN 0 [] = 0 := by decide
    have := sumN_flat ps []
    rw [h0, List.nil_append] at this
    exact this
  rw [e0, bys_nil, List.drop_zero, List.nil_append, ← es, prs_length] at r2
  unfold prR at r1
  rw [F50_eq]
  simp (disch := (first | assumption | (simp only [Bool.and_eq_true, Bool.and_eq_false_iff, decide_eq_true_eq, decide_eq_false_iff_not, bne_iff_ne, beq_iff_eq, beq_eq_false_iff_ne, bne_eq_false_iff_eq, Bool.not_eq_true', Bool.not_eq_false', bys_length, List.length_append, List.length_cons, List.length_nil, List.length_map, List.length_drop, List.length_take, Int.natCast_add, wrap_i64_eq, wrap_u64, wrap_u8, ne_eq, not_true_eq_false, not_false_eq_true, Nat.zero_add, Nat.mul_one] <;> omega) | omega | (simp; done) | (simp; omega))) only [↓CR, MC, ↓PR, MR, r1, r2]
end Go.Proofs.YtdlcjibefbnckaaDoor.Wa
end

section
/- Points: joined; PointJoins. -/
namespace Go.Proofs.YtdlcjibefbnckaaDoor.Wa
open Go Go.Weave
set_option maxRecDepth 100000
set_option linter.unusedSimpArgs false
set_option linter.unusedVariables false
set_option linter.unusedSectionVars false

def okAt (l : List KPair) (i : Nat) : Bool :=
  decide (1 ≤ (l.getD i ⟨[], []⟩).key.length) && (decide ((l.getD i ⟨[], []⟩).key.length ≤ 24) && (decide ((l.getD i ⟨[], []⟩).val.length ≤ 128) &&
    (decide (i = 0) || !(blt (l.getD i ⟨[], []⟩).key (l.getD (i - 1) ⟨[], []⟩).key || ((l.getD i ⟨[], []⟩).key == (l.getD (i - 1) ⟨[], []⟩).key)))))
def rightFrom (l : List KPair) : Nat → Nat → Bool
  | 0, _ => true
  | n + 1, i => okAt l i && rightFrom l n (i + 1)
theorem okAt_at {l : List KPair} {i : Nat} (h : i < l.length) : okAt l i = (decide (1 ≤ l[i].key.length) && (decide (l[i].key.length ≤ 24) && (decide (l[i].val.length ≤ 128) &&
    (decide (i = 0) || !(blt l[i].key (l.getD (i - 1) ⟨[], []⟩).key || (l[i].key == (l.getD (i - 1) ⟨[], []⟩).key)))))) := by
  have e : l.getD i ⟨[], []⟩ = l[i] := by simp [h]
  unfold okAt
  rw [e]
theorem pright_loop (d : Nat) (f : Bool) (l : List KPair) (hl : l.length ≤ 40000000) (h : Heap) (Q : Res → Prop) : ∀ (n i k : Nat) (tg : Hid Q), l.length = i + n → n < k →
    Run (P39_0 d k f (prs l) f (prs l) (l.length : Nat) i h) Q tg = Q ([.bool (rightFrom l n i)], h) := by
  intro n
  induction n with
  | zero =>
    intro i k tg hi hk
    obtain ⟨k, rfl⟩ : ∃ m, k = m + 1 := ⟨k - 1, by omega⟩
    rw [P39_0_eq]
    simp (disch := (first | assumption | (simp only [Bool.and_eq_true, Bool.and_eq_false_iff, decide_eq_true_eq, decide_eq_false_iff_not, bne_iff_ne, beq_iff_eq, beq_eq_false_iff_ne, bne_eq_false_iff_eq, Bool.not_eq_true', Bool.not_eq_false', bys_length, List.length_append, List.length_cons, List.length_nil, List.length_map, List.length_drop, List.length_take, Int.natCast_add, wrap_i64_eq, wrap_u64, wrap_u8, ne_eq, not_true_eq_false, not_false_eq_true, Nat.zero_add, Nat.mul_one] <;> omega) | omega | (simp; done) | (simp; omega))) only [↓CR, MC, ↓PR, MR, prs_length]
    rfl
  | succ n ih =>
    intro i k tg hi hk
    obtain ⟨k, rfl⟩ : ∃ m, k = m + 1 := ⟨k - 1, by omega⟩
    have h1 : i < l.length := by omega
    have e1 := succ_wrap (i := i) (by omega)
    have ih' := fun tg => ih (i + 1) k tg (by omega) (by omega)
    rw [P39_0_eq]
    unfold rightFrom
    rw [okAt_at h1]
    by_cases c1 : 1 ≤ l[i].key.length
    · by_cases c2 : l[i].key.length ≤ 24
      · by_cases c3 : l[i].val.length ≤ 128
        · rw [decide_eq_true c1, decide_eq_true c2, decide_eq_true c3]
          simp only [Bool.true_and]
          by_cases c4 : i = 0
          · subst c4
            simp (disch := (first | assumption | (simp only [Bool.and_eq_true, Bool.and_eq_false_iff, decide_eq_true_eq, decide_eq_false_iff_not, bne_iff_ne, beq_iff_eq, beq_eq_false_iff_ne, bne_eq_false_iff_eq, Bool.not_eq_true', Bool.not_eq_false', bys_length, List.length_append, List.length_cons, List.length_nil, List.length_map, List.length_drop, List.length_take, Int.natCast_add, wrap_i64_eq, wrap_u64, wrap_u8, ne_eq, not_true_eq_false, not_false_eq_true, Nat.zero_add, Nat.mul_one] <;> omega) | omega | (simp; done) | (simp; omega))) only [↓CR, MC, ↓PR, MR, prs_length, prs_getD h1, e1, ih']
            rfl
          · have h2 : i - 1 < l.length := by omega
            have e2 : IntKind.i64.wrap ((i : Int) - 1) = ((i - 1 : Nat) : Int) := by rw [wrap_i64_id (by omega) (by omega)]; omega
            have e3 : l.getD (i - 1) ⟨[], []⟩ = l[i - 1] := by simp [h2]
            rw [decide_eq_false c4, e3]
            simp only [Bool.false_or]
            cases c5 : (blt l[i].key l[i - 1].key || (l[i].key == l[i - 1].key))
            · have c5' : (Go.Op.bytesLess l[i].key l[i - 1].key || (l[i].key == l[i - 1].key)) = false := c5
              simp (disch := (first | assumption | (simp only [Bool.and_eq_true, Bool.and_eq_false_iff, decide_eq_true_eq, decide_eq_false_iff_not, bne_iff_ne, beq_iff_eq, beq_eq_false_iff_ne, bne_eq_false_iff_eq, Bool.not_eq_true', Bool.not_eq_false', bys_length, List.length_append, List.length_cons, List.length_nil, List.length_map, List.length_drop, List.length_take, Int.natCast_add, wrap_i64_eq, wrap_u64, wrap_u8, ne_eq, not_true_eq_false, not_false_eq_true, Nat.zero_add, Nat.mul_one] <;> omega) | omega | (simp; done) | (simp; omega))) only [↓CR, MC, ↓PR, MR, prs_length, prs_getD h1, prs_getD h2, e2, c5', e1, ih']
              simp
            · have c5' : (Go.Op.bytesLess l[i].key l[i - 1].key || (l[i].key == l[i - 1].key)) = true := c5
              simp (disch := (first | assumption | (simp only [Bool.and_eq_true, Bool.and_eq_false_iff, decide_eq_true_eq, decide_eq_false_iff_not, bne_iff_ne, beq_iff_eq, beq_eq_false_iff_ne, bne_eq_false_iff_eq, Bool.not_eq_true', Bool.not_eq_false', bys_length, List.length_append, List.length_cons, List.length_nil, List.length_map, List.length_drop, List.length_take, Int.natCast_add, wrap_i64_eq, wrap_u64, wrap_u8, ne_eq, not_true_eq_false, not_false_eq_true, Nat.zero_add, Nat.mul_one] <;> omega) | omega | (simp; done) | (simp; omega))) only [↓CR, MC, ↓PR, MR, prs_length, prs_getD h1, prs_getD h2, e2, c5']
              simp
        · rw [decide_eq_false c3]
          simp (disch := (first | assumption | (simp only [Bool.and_eq_true, Bool.and_eq_false_iff, decide_eq_true_eq, decide_eq_false_iff_not, bne_iff_ne, beq_iff_eq, beq_eq_false_iff_ne, bne_eq_false_iff_eq, Bool.not_eq_true', Bool.not_eq_false', bys_length, List.length_append, List.length_cons, List.length_nil, List.length_map, List.length_drop, List.length_take, Int.natCast_add, wrap_i64_eq, wrap_u64, wrap_u8, ne_eq, not_true_eq_false, not_false_eq_true, Nat.zero_add, Nat.mul_one] <;> omega) | omega | (simp; done) | (simp; omega))) only [↓CR, MC, ↓PR, MR, prs_length, prs_getD h1]
          simp
      · rw [decide_eq_false c2]
        simp (disch := (first | assumption | (simp only [Bool.and_eq_true, Bool.and_eq_false_iff, decide_eq_true_eq, decide_eq_false_iff_not, bne_iff_ne, beq_iff_eq, beq_eq_false_iff_ne, bne_eq_false_iff_eq, Bool.not_eq_true', Bool.not_eq_false', bys_length, List.length_append, List.length_cons, List.length_nil, List.length_map, List.length_drop, List.length_take, Int.natCast_add, wrap_i64_eq, wrap_u64, wrap_u8, ne_eq, not_true_eq_false, not_false_eq_true, Nat.zero_add, Nat.mul_one] <;> omega) | omega | (simp; done) | (simp; omega))) only [↓CR, MC, ↓PR, MR, prs_length, prs_getD h1]
        simp
    · rw [decide_eq_false c1]
      simp (disch := (first | assumption | (simp only [Bool.and_eq_true, Bool.and_eq_false_iff, decide_eq_true_eq, decide_eq_false_iff_not, bne_iff_ne, beq_iff_eq, beq_eq_false_iff_ne, bne_eq_false_iff_eq, Bool.not_eq_true', Bool.not_eq_false', bys_length, List.length_append, List.length_cons, List.length_nil, List.length_map, List.length_drop, List.length_take, Int.natCast_add, wrap_i64_eq, wrap_u64, wrap_u8, ne_eq, not_true_eq_false, not_false_eq_true, Nat.zero_add, Nat.mul_one] <;> omega) | omega | (simp; done) | (simp; omega))) only [↓CR, MC, ↓PR, MR, prs_length, prs_getD h1]
      simp
theorem pright_run {d : Nat} {f : Bool} {l : List KPair} (hl : l.length ≤ 40000000) {h : Heap} {Q : Res → Prop} {tg : Hid Q} : Run (evFn Cw (d + 1) 39 [.sl f 3 (prs l)] h) Q tg = Q ([.bool (rightFrom l l.length 0)], h) := by
  have := pright_loop d f l hl h Q l.length 0 rounds ⟨⟩ (by omega) (Nat.lt_of_lt_of_le (by omega) rounds_ge)
  rw [e0] at this
  rw [F39_eq, prs_length]
  exact this
theorem rright34_loop (d : Nat) (f : Bool) (l : List KPair) (hl : l.length ≤ 40000000) (h : Heap) (Q : Res → Prop) : ∀ (n i k : Nat) (tg : Hid Q), l.length = i + n → n < k →
    Run (P49_0 d k f (prs l) i h) Q tg = Q ([.bool (rightFrom l n i)], h) := by
  intro n
  induction n with
  | zero =>
    intro i k tg hi hk
    obtain ⟨k, rfl⟩ : ∃ m, k = m + 1 := ⟨k - 1, by omega⟩
    rw [P49_0_eq]
    simp (disch := (first | assumption | (simp only [Bool.and_eq_true, Bool.and_eq_false_iff, decide_eq_true_eq, decide_eq_false_iff_not, bne_iff_ne, beq_iff_eq, beq_eq_false_iff_ne, bne_eq_false_iff_eq, Bool.not_eq_true', Bool.not_eq_false', bys_length, List.length_append, List.length_cons, List.length_nil, List.length_map, List.length_drop, List.length_take, Int.natCast_add, wrap_i64_eq, wrap_u64, wrap_u8, ne_eq, not_true_eq_false, not_false_eq_true, Nat.zero_add, Nat.mul_one] <;> omega) | omega | (simp; done) | (simp; omega))) only [↓CR, MC, ↓PR, MR, prs_length]
    rfl
  | succ n ih =>
    intro i k tg hi hk
    obtain ⟨k, rfl⟩ : ∃ m, k = m + 1 := ⟨k - 1, by omega⟩
    have h1 : i < l.length := by omega
    have e1 := succ_wrap (i := i) (by omega)
    have ih' := fun tg => ih (i + 1) k tg (by omega) (by omega)
    rw [P49_0_eq]
    unfold rightFrom
    rw [okAt_at h1]
    by_cases c1 : 1 ≤ l[i].key.length
    · have c0 : (l[i].key == []) = false := by simp; intro e; rw [e] at c1; simp at c1
      by_cases c2 : l[i].key.length ≤ 24
      · by_cases c3 : l[i].val.length ≤ 128
        · rw [decide_eq_true c1, decide_eq_true c2, decide_eq_true c3]
          simp only [Bool.true_and]
          by_cases c4 : i = 0
          · subst c4
            simp (disch := (first | assumption | (simp only [Bool.and_eq_true, Bool.and_eq_false_iff, decide_eq_true_eq, decide_eq_false_iff_not, bne_iff_ne, beq_iff_eq, beq_eq_false_iff_ne, bne_eq_false_iff_eq, Bool.not_eq_true', Bool.not_eq_false', bys_length, List.length_append, List.length_cons, List.length_nil, List.length_map, List.length_drop, List.length_take, Int.natCast_add, wrap_i64_eq, wrap_u64, wrap_u8, ne_eq, not_true_eq_false, not_false_eq_true, Nat.zero_add, Nat.mul_one] <;> omega) | omega | (simp; done) | (simp; omega))) only [↓CR, MC, ↓PR, MR, prs_length, prs_getD h1, c0, e1, ih']
            rfl
          · have h2 : i - 1 < l.length := by omega
            have e2 : IntKind.i64.wrap ((i : Int) - 1) = ((i - 1 : Nat) : Int) := by rw [wrap_i64_id (by omega) (by omega)]; omega
            have e3 : l.getD (i - 1) ⟨[], []⟩ = l[i - 1] := by simp [h2]
            rw [decide_eq_false c4, e3]
            simp only [Bool.false_or]
            cases c5 : (blt l[i].key l[i - 1].key || (l[i].key == l[i - 1].key))
            · have c5' : (Go.Op.bytesLess l[i].key l[i - 1].key || (l[i].key == l[i - 1].key)) = false := c5
              simp (disch := (first | assumption | (simp only [Bool.and_eq_true, Bool.and_eq_false_iff, decide_eq_true_eq, decide_eq_false_iff_not, bne_iff_ne, beq_iff_eq, beq_eq_false_iff_ne, bne_eq_false_iff_eq, Bool.not_eq_true', Bool.not_eq_false', bys_length, List.length_append, List.length_cons, List.length_nil, List.length_map, List.length_drop, List.length_take, Int.natCast_add, wrap_i64_eq, wrap_u64, wrap_u8, ne_eq, not_true_eq_false, not_false_eq_true, Nat.zero_add, Nat.mul_one] <;> omega) | omega | (simp; done) | (simp; omega))) only [↓CR, MC, ↓PR, MR, prs_length, prs_getD h1, c0, prs_getD h2, e2, c5', e1, ih']
              simp
            · have c5' : (Go.Op.bytesLess l[i].key l[i - 1].key || (l[i].key == l[i - 1].key)) = true := c5
              simp (disch := (first | assumption | (simp only [Bool.and_eq_true, Bool.and_eq_false_iff, decide_eq_true_eq, decide_eq_false_iff_not, bne_iff_ne, beq_iff_eq, beq_eq_false_iff_ne, bne_eq_false_iff_eq, Bool.not_eq_true', Bool.not_eq_false', bys_length, List.length_append, List.length_cons, List.length_nil, List.length_map, List.length_drop, List.length_take, Int.natCast_add, wrap_i64_eq, wrap_u64, wrap_u8, ne_eq, not_true_eq_false, not_false_eq_true, Nat.zero_add, Nat.mul_one] <;> omega) | omega | (simp; done) | (simp; omega))) only [↓CR, MC, ↓PR, MR, prs_length, prs_getD h1, c0, prs_getD h2, e2, c5']
              simp
        · rw [decide_eq_false c3]
          simp (disch := (first | assumption | (simp only [Bool.and_eq_true, Bool.and_eq_false_iff, decide_eq_true_eq, decide_eq_false_iff_not, bne_iff_ne, beq_iff_eq, beq_eq_false_iff_ne, bne_eq_false_iff_eq, Bool.not_eq_true', Bool.not_eq_false', bys_length, List.length_append, List.length_cons, List.length_nil, List.length_map, List.length_drop, List.length_take, Int.natCast_add, wrap_i64_eq, wrap_u64, wrap_u8, ne_eq, not_true_eq_false, not_false_eq_true, Nat.zero_add, Nat.mul_one] <;> omega) | omega | (simp; done) | (simp; omega))) only [↓CR, MC, ↓PR, MR, prs_length, prs_getD h1, c0]
          simp
      · rw [decide_eq_false c2]
        simp (disch := (first | assumption | (simp only [Bool.and_eq_true, Bool.and_eq_false_iff, decide_eq_true_eq, decide_eq_false_iff_not, bne_iff_ne, beq_iff_eq, beq_eq_false_iff_ne, bne_eq_false_iff_eq, Bool.not_eq_true', Bool.not_eq_false', bys_length, List.length_append, List.length_cons, List.length_nil, List.length_map, List.length_drop, List.length_take, Int.natCast_add, wrap_i64_eq, wrap_u64, wrap_u8, ne_eq, not_true_eq_false, not_false_eq_true, Nat.zero_add, Nat.mul_one] <;> omega) | omega | (simp; done) | (simp; omega))) only [↓CR, MC, ↓PR, MR, prs_length, prs_getD h1, c0]
        simp
    · have c0 : (l[i].key == []) = true := by
        have : l[i].key = [] := List.length_eq_zero_iff.1 (by omega)
        rw [this]; rfl
      rw [decide_eq_false c1]
      simp (disch := (first | assumption | (simp only [Bool.and_eq_true, Bool.and_eq_false_iff, decide_eq_true_eq, decide_eq_false_iff_not, bne_iff_ne, beq_iff_eq, beq_eq_false_iff_ne, bne_eq_false_iff_eq, Bool.not_eq_true', Bool.not_eq_false', bys_length, List.length_append, List.length_cons, List.length_nil, List.length_map, List.length_drop, List.length_take, Int.natCast_add, wrap_i64_eq, wrap_u64, wrap_u8, ne_eq, not_true_eq_false, not_false_eq_true, Nat.zero_add, Nat.mul_one] <;> omega) | omega | (simp; done) | (simp; omega))) only [↓CR, MC, ↓PR, MR, prs_length, prs_getD h1, c0]
      simp
theorem rright34_run {d : Nat} {f : Bool} {l : List KPair} (hl : l.length ≤ 40000000) {h : Heap} {Q : Res → Prop} {tg : Hid Q} : Run (evFn Cw (d + 1) 49 [.sl f 3 (prs l)] h) Q tg = Q ([.bool (rightFrom l l.length 0)], h) := by
  have := rright34_loop d f l hl h Q l.length 0 rounds ⟨⟩ (by omega) (Nat.lt_of_lt_of_le (by omega) rounds_ge)
  rw [e0] at this
  rw [F49_eq]
  exact this

/-! ### Joined -/
noncomputable def jF (x0 x1 : Int) (x2 : Nat) (ps : List (List UInt8)) : List KPair × Nat :=
  if (ps.length : Int) < x0 then ([], 1) else match pcsF ps [] with
    | none => ([], 2)
    | some l => if (ps.length : Int) ≠ x0 ∨ (l.length : Int) ≠ x1 ∨ rightFrom l l.length 0 = false then ([], 2) else if sumN ps 0 ≠ x2 then ([], 3) else (l, 0)
def jV (x : List KPair × Nat) : AVal := if x.2 = 0 then .sl false 3 (prs x.1) else .sl true 0 []
theorem join_run {d : Nat} {f : Bool} {x0 x1 : Int} {x2 : Nat} {ps : List (List UInt8)} (hps : ps.length ≤ 100000) (hb : ∀ b ∈ ps, b.length ≤ 40000000) {h : Heap} {Q : Res → Prop} {tg : Hid Q} :
    Run (evFn Cw (d + 6) 60 [.agg [.int .i64 x0, .int .i64 x1, .int .u32 x2], .sl f 0 (flds ps)] h) Q tg = Q ([jV (jF x0 x1 x2 ps), .int .i64 (jF x0 x1 x2 ps).2], h) := by
  rw [F60_eq]
  by_cases c1 : (ps.length : Int) < x0
  · have e : jF x0 x1 x2 ps = ([], 1) := by unfold jF; rw [if_pos c1]
    rw [e]
    simp (disch := (first | assumption | (simp only [Bool.and_eq_true, Bool.and_eq_false_iff, decide_eq_true_eq, decide_eq_false_iff_not, bne_iff_ne, beq_iff_eq, beq_eq_false_iff_ne, bne_eq_false_iff_eq, Bool.not_eq_true', Bool.not_eq_false', bys_length, List.length_append, List.length_cons, List.length_nil, List.length_map, List.length_drop, List.length_take, Int.natCast_add, wrap_i64_eq, wrap_u64, wrap_u8, ne_eq, not_true_eq_false, not_false_eq_true, Nat.zero_add, Nat.mul_one] <;> omega) | omega | (simp; done) | (simp; omega))) only [↓CR, MC, ↓PR, MR, flds_length]
    rfl
  · cases hp : pcsF ps [] with
    | none =>
      have e : jF x0 x1 x2 ps = ([], 2) := by unfold jF; rw [if_neg c1, hp]
      have r := fun (Q : Res → Prop) (tg : Hid Q) => all_run_none (d := d) (f := f) hps hb hp (h := h) (Q := Q) (tg := tg)
      rw [e]
      simp (disch := (first | assumption | (simp only [Bool.and_eq_true, Bool.and_eq_false_iff, decide_eq_true_eq, decide_eq_false_iff_not, bne_iff_ne, beq_iff_eq, beq_eq_false_iff_ne, bne_eq_false_iff_eq, Bool.not_eq_true', Bool.not_eq_false', bys_length, List.length_append, List.length_cons, List.length_nil, List.length_map, List.length_drop, List.length_take, Int.natCast_add, wrap_i64_eq, wrap_u64, wrap_u8, ne_eq, not_true_eq_false, not_false_eq_true, Nat.zero_add, Nat.mul_one] <;> omega) | omega | (simp; done) | (simp; omega))) only [↓CR, MC, ↓PR, MR, flds_length, r, Bool.not_false]
      rfl
    | some l =>
      have hl := pcsF_len ps hp
      simp only [List.length_nil] at hl
      have r := fun (Q : Res → Prop) (tg : Hid Q) => all_run_some (d := d) (f := f) hps hp (h := h) (Q := Q) (tg := tg)
      have q := fun (Q : Res → Prop) (tg : Hid Q) => pright_run (d := d + 4) (f := false) (l := l) (by omega) (h := h) (Q := Q) (tg := tg)
      by_cases c2 : (ps.length : Int) = x0
      · have c2' : ((ps.length : Int) != x0) = false := by simp [c2]
        by_cases c3 : (l.length : Int) = x1
        · have c3' : ((l.length : Int) != x1) = false := by simp [c3]
          cases c4 : rightFrom l l.length 0
          · have e : jF x0 x1 x2 ps = ([], 2) := by unfold jF; rw [if_neg c1, hp]; simp only; rw [if_pos (.inr (.inr c4))]
            rw [c4] at q
            rw [e]
            simp (disch := (first | assumption | (simp only [Bool.and_eq_true, Bool.and_eq_false_iff, decide_eq_true_eq, decide_eq_false_iff_not, bne_iff_ne, beq_iff_eq, beq_eq_false_iff_ne, bne_eq_false_iff_eq, Bool.not_eq_true', Bool.not_eq_false', bys_length, List.length_append, List.length_cons, List.length_nil, List.length_map, List.length_drop, List.length_take, Int.natCast_add, wrap_i64_eq, wrap_u64, wrap_u8, ne_eq, not_true_eq_false, not_false_eq_true, Nat.zero_add, Nat.mul_one] <;> omega) | omega | (simp; done) | (simp; omega))) only [↓CR, MC, ↓PR, MR, flds_length, r, Bool.not_true, c2', c3', q, Bool.not_false]
            rfl
          · rw [c4] at q
            by_cases c5 : sumN ps 0 = x2
            · have c5' : (((sumN ps 0 : Nat) : Int) != (x2 : Int)) = false := by simp [c5]
              have e : jF x0 x1 x2 ps = (l, 0) := by unfold jF; rw [if_neg c1, hp]; simp only; rw [if_neg (by rw [c4]; simp [c2, c3]), if_neg (by simp [c5])]
              rw [e]
              simp (disch := (first | assumption | (simp only [Bool.and_eq_true, Bool.and_eq_false_iff, decide_eq_true_eq, decide_eq_false_iff_not, bne_iff_ne, beq_iff_eq, beq_eq_false_iff_ne, bne_eq_false_iff_eq, Bool.not_eq_true', Bool.not_eq_false', bys_length, List.length_append, List.length_cons, List.length_nil, List.length_map, List.length_drop, List.length_take, Int.natCast_add, wrap_i64_eq, wrap_u64, wrap_u8, ne_eq, not_true_eq_false, not_false_eq_true, Nat.zero_add, Nat.mul_one] <;> omega) | omega | (simp; done) | (simp; omega))) only [↓CR, MC, ↓PR, MR, flds_length, r, Bool.not_true, c2', c3', q, c5']
              rfl
            · have c5' : (((sumN ps 0 : Nat) : Int) != (x2 : Int)) = true := by simp; omega
              have e : jF x0 x1 x2 ps = ([], 3) := by unfold jF; rw [if_neg c1, hp]; simp only; rw [if_neg (by rw [c4]; simp [c2, c3]), if_pos c5]
              rw [e]
              simp (disch := (first | assumption | (simp only [Bool.and_eq_true, Bool.and_eq_false_iff, decide_eq_true_eq, decide_eq_false_iff_not, bne_iff_ne, beq_iff_eq, beq_eq_false_iff_ne, bne_eq_false_iff_eq, Bool.not_eq_true', Bool.not_eq_false', bys_length, List.length_append, List.length_cons, List.length_nil, List.length_map, List.length_drop, List.length_take, Int.natCast_add, wrap_i64_eq, wrap_u64, wrap_u8, ne_eq, not_true_eq_false, not_false_eq_true, Nat.zero_add, Nat.mul_one] <;> omega) | omega | (simp; done) | (simp; omega))) only [↓CR, MC, ↓PR, MR, flds_length, r, Bool.not_true, c2', c3', q, c5']
              rfl
        · have c3' : ((l.length : Int) != x1) = true := by simp; exact c3
          have e : jF x0 x1 x2 ps = ([], 2) := by unfold jF; rw [if_neg c1, hp]; simp only; rw [if_pos (.inr (.inl c3))]
          rw [e]
          simp (disch := (first | assumption | (simp only [Bool.and_eq_true, Bool.and_eq_false_iff, decide_eq_true_eq, decide_eq_false_iff_not, bne_iff_ne, beq_iff_eq, beq_eq_false_iff_ne, bne_eq_false_iff_eq, Bool.not_eq_true', Bool.not_eq_false', bys_length, List.length_append, List.length_cons, List.length_nil, List.length_map, List.length_drop, List.length_take, Int.natCast_add, wrap_i64_eq, wrap_u64, wrap_u8, ne_eq, not_true_eq_false, not_false_eq_true, Nat.zero_add, Nat.mul_one] <;> omega) | omega | (simp; done) | (simp; omega))) only [↓CR, MC, ↓PR, MR, flds_length, r, Bool.not_true, c2', c3']
          rfl
      · have c2' : ((ps.length : Int) != x0) = true := by simp; exact c2
        have e : jF x0 x1 x2 ps = ([], 2) := by unfold jF; rw [if_neg c1, hp]; simp only; rw [if_pos (.inl c2)]
        rw [e]
        simp (disch := (first | assumption | (simp only [Bool.and_eq_true, Bool.and_eq_false_iff, decide_eq_true_eq, decide_eq_false_iff_not, bne_iff_ne, beq_iff_eq, beq_eq_false_iff_ne, bne_eq_false_iff_eq, Bool.not_eq_true', Bool.not_eq_false', bys_length, List.length_append, List.length_cons, List.length_nil, List.length_map, List.length_drop, List.length_take, Int.natCast_add, wrap_i64_eq, wrap_u64, wrap_u8, ne_eq, not_true_eq_false, not_false_eq_true, Nat.zero_add, Nat.mul_one] <;> omega) | omega | (simp; done) | (simp; omega))) only [↓CR, MC, ↓PR, MR, flds_length, r, Bool.not_true, c2']
        rfl
theorem rjoin_run {d : Nat} {f : Bool} {x0 x1 : Int} {x2 : Nat} {ps : List (List UInt8)} (hps : ps.length ≤ 100000) (hb : ∀ b ∈ ps, b.length ≤ 40000000) {h : Heap} {Q : Res → Prop} {tg : Hid Q} :
    Run (evFn Cw (d + 6) 32 [.agg [.int .i64 x0, .int .i64 x1, .int .u32 x2], .sl f 0 (flds ps)] h) Q tg = Q ([jV (jF x0 x1 x2 ps), .int .i64 (jF x0 x1 x2 ps).2], h) := by
  have r := fun (Q : Res → Prop) (tg : Hid Q) => rpairs_run (d := d + 1) (f := f) hps hb (h := h) (Q := Q) (tg := tg)
  rw [F32_eq]
  by_cases c1 : (ps.length : Int) < x0
  · have e : jF x0 x1 x2 ps = ([], 1) := by unfold jF; rw [if_pos c1]
    rw [e]
    simp (disch := (first | assumption | (simp only [Bool.and_eq_true, Bool.and_eq_false_iff, decide_eq_true_eq, decide_eq_false_iff_not, bne_iff_ne, beq_iff_eq, beq_eq_false_iff_ne, bne_eq_false_iff_eq, Bool.not_eq_true', Bool.not_eq_false', bys_length, List.length_append, List.length_cons, List.length_nil, List.length_map, List.length_drop, List.length_take, Int.natCast_add, wrap_i64_eq, wrap_u64, wrap_u8, ne_eq, not_true_eq_false, not_false_eq_true, Nat.zero_add, Nat.mul_one] <;> omega) | omega | (simp; done) | (simp; omega))) only [↓CR, MC, ↓PR, MR, flds_length]
    rfl
  · cases hp : pcsF ps [] with
    | none =>
      have e : jF x0 x1 x2 ps = ([], 2) := by unfold jF; rw [if_neg c1, hp]
      rw [hp] at r
      unfold prR at r
      rw [e]
      simp (disch := (first | assumption | (simp only [Bool.and_eq_true, Bool.and_eq_false_iff, decide_eq_true_eq, decide_eq_false_iff_not, bne_iff_ne, beq_iff_eq, beq_eq_false_iff_ne, bne_eq_false_iff_eq, Bool.not_eq_true', Bool.not_eq_false', bys_length, List.length_append, List.length_cons, List.length_nil, List.length_map, List.length_drop, List.length_take, Int.natCast_add, wrap_i64_eq, wrap_u64, wrap_u8, ne_eq, not_true_eq_false, not_false_eq_true, Nat.zero_add, Nat.mul_one] <;> omega) | omega | (simp; done) | (simp; omega))) only [↓CR, MC, ↓PR, MR, flds_length, r, Bool.not_false]
      rfl
    | some l =>
      have hl := pcsF_len ps hp
      simp only [List.length_nil] at hl
      rw [hp] at r
      unfold prR at r
      have q := fun (Q : Res → Prop) (tg : Hid Q) => rright34_run (d := d + 4) (f := false) (l := l) (by omega) (h := h) (Q := Q) (tg := tg)
      have ro := fun (Q : Res → Prop) (tg : Hid Q) => rptof_run (d := d) (f := f) hps hb hp (h := h) (Q := Q) (tg := tg)
      by_cases c2 : (ps.length : Int) > x0
      · have e : jF x0 x1 x2 ps = ([], 2) := by unfold jF; rw [if_neg c1, hp]; simp only; rw [if_pos (.inl (by omega))]
        rw [e]
        simp (disch := (first | assumption | (simp only [Bool.and_eq_true, Bool.and_eq_false_iff, decide_eq_true_eq, decide_eq_false_iff_not, bne_iff_ne, beq_iff_eq, beq_eq_false_iff_ne, bne_eq_false_iff_eq, Bool.not_eq_true', Bool.not_eq_false', bys_length, List.length_append, List.length_cons, List.length_nil, List.length_map, List.length_drop, List.length_take, Int.natCast_add, wrap_i64_eq, wrap_u64, wrap_u8, ne_eq, not_true_eq_false, not_false_eq_true, Nat.zero_add, Nat.mul_one] <;> omega) | omega | (simp; done) | (simp; omega))) only [↓CR, MC, ↓PR, MR, flds_length, r, Bool.not_true]
        rfl
      · have c2e : (ps.length : Int) = x0 := by omega
        by_cases c3 : (l.length : Int) = x1
        · have c3' : ((l.length : Int) != x1) = false := by simp [c3]
          cases c4 : rightFrom l l.length 0
          · have e : jF x0 x1 x2 ps = ([], 2) := by unfold jF; rw [if_neg c1, hp]; simp only; rw [if_pos (.inr (.inr c4))]
            rw [c4] at q
            rw [e]
            simp (disch := (first | assumption | (simp only [Bool.and_eq_true, Bool.and_eq_false_iff, decide_eq_true_eq, decide_eq_false_iff_not, bne_iff_ne, beq_iff_eq, beq_eq_false_iff_ne, bne_eq_false_iff_eq, Bool.not_eq_true', Bool.not_eq_false', bys_length, List.length_append, List.length_cons, List.length_nil, List.length_map, List.length_drop, List.length_take, Int.natCast_add, wrap_i64_eq, wrap_u64, wrap_u8, ne_eq, not_true_eq_false, not_false_eq_true, Nat.zero_add, Nat.mul_one] <;> omega) | omega | (simp; done) | (simp; omega))) only [↓CR, MC, ↓PR, MR, flds_length, r, Bool.not_true, prs_length, c3', q, Bool.not_false]
            rfl
          · rw [c4] at q
            by_cases c5 : sumN ps 0 = x2
            · have c5' : (((sumN ps 0 : Nat) : Int) != (x2 : Int)) = false := by simp [c5]
              have e : jF x0 x1 x2 ps = (l, 0) := by unfold jF; rw [if_neg c1, hp]; simp only; rw [if_neg (by rw [c4]; simp [c2e, c3]), if_neg (by simp [c5])]
              rw [e]
              simp (disch := (first | assumption | (simp only [Bool.and_eq_true, Bool.and_eq_false_iff, decide_eq_true_eq, decide_eq_false_iff_not, bne_iff_ne, beq_iff_eq, beq_eq_false_iff_ne, bne_eq_false_iff_eq, Bool.not_eq_true', Bool.not_eq_false', bys_length, List.length_append, List.length_cons, List.length_nil, List.length_map, List.length_drop, List.length_take, Int.natCast_add, wrap_i64_eq, wrap_u64, wrap_u8, ne_eq, not_true_eq_false, not_false_eq_true, Nat.zero_add, Nat.mul_one] <;> omega) | omega | (simp; done) | (simp; omega))) only [↓CR, MC, ↓PR, MR, flds_length, r, Bool.not_true, prs_length, c3', q, ro, c5']
              rfl
            · have c5' : (((sumN ps 0 : Nat) : Int) != (x2 : Int)) = true := by simp; omega
              have e : jF x0 x1 x2 ps = ([], 3) := by unfold jF; rw [if_neg c1, hp]; simp only; rw [if_neg (by rw [c4]; simp [c2e, c3]), if_pos c5]
              rw [e]
              simp (disch := (first | assumption | (simp only [Bool.and_eq_true, Bool.and_eq_false_iff, decide_eq_true_eq, decide_eq_false_iff_not, bne_iff_ne, beq_iff_eq, beq_eq_false_iff_ne, bne_eq_false_iff_eq, Bool.not_eq_true', Bool.not_eq_false', bys_length, List.length_append, List.length_cons, List.length_nil, List.length_map, List.length_drop, List.length_take, Int.natCast_add, wrap_i64_eq, wrap_u64, wrap_u8, ne_eq, not_true_eq_false, not_false_eq_true, Nat.zero_add, Nat.mul_one] <;> omega) | omega | (simp; done) | (simp; omega))) only [↓CR, MC, ↓PR, MR, flds_length, r, Bool.not_true, prs_length, c3', q, ro, c5']
              rfl
        · have c3' : ((l.length : Int) != x1) = true := by simp; exact c3
          have e : jF x0 x1 x2 ps = ([], 2) := by unfold jF; rw [if_neg c1, hp]; simp only; rw [if_pos (.inr (.inl c3))]
          rw [e]
          simp (disch := (first | assumption | (simp only [Bool.and_eq_true, Bool.and_eq_false_iff, decide_eq_true_eq, decide_eq_false_iff_not, bne_iff_ne, beq_iff_eq, beq_eq_false_iff_ne, bne_eq_false_iff_eq, Bool.not_eq_true', Bool.not_eq_false', bys_length, List.length_append, List.length_cons, List.length_nil, List.length_map, List.length_drop, List.length_take, Int.natCast_add, wrap_i64_eq, wrap_u64, wrap_u8, ne_eq, not_true_eq_false, not_false_eq_true, Nat.zero_add, Nat.mul_one] <;> omega) | omega | (simp; done) | (simp; omega))) only [↓CR, MC, ↓PR, MR, flds_length, r, Bool.not_true, prs_length, c3']
          rfl
end Go.Proofs.YtdlcjibefbnckaaDoor.Wa
end

section
/- Tables of pairs, batches put into pairs. -/
namespace Go.Proofs.YtdlcjibefbnckaaDoor.Wa
open Go Go.Weave
set_option maxRecDepth 100000
set_option linter.unusedSimpArgs false
set_option linter.unusedVariables false
set_option linter.unusedSectionVars false

theorem rapplys_loop (d : Nat) (f : Bool) (ops : List KOp) (ho : ops.length ≤ 1000) (h : Heap) : ∀ (n j k c : Nat) (g : Bool) (l : List KPair), Srt l → l.length + n ≤ 800000 → ops.length = j + n → n < k → c ≤ j →
    ∃ g', ∀ (Q : Res → Prop) (tg : Hid Q),
      Run (P34_0 (d + 2) k g (prs l) f (kops ops) c j h) Q tg = Q ([.sl g' 3 (prs (aps l (ops.drop j))), .int .i64 (c + cntO (ops.drop j) : Nat)], h) := by
  intro n
  induction n with
  | zero =>
    intro j k c g l hs hl hj hk hc
    obtain ⟨k, rfl⟩ : ∃ m, k = m + 1 := ⟨k - 1, by omega⟩
    have hd : ops.drop j = [] := List.drop_eq_nil_of_le (by omega)
    refine ⟨g, fun Q tg => ?_⟩
    rw [P34_0_eq, hd]
    have e : c + cntO [] = c := rfl
    rw [e, aps_nil]
    simp (disch := (first | assumption | (simp only [Bool.and_eq_true, Bool.and_eq_false_iff, decide_eq_true_eq, decide_eq_false_iff_not, bne_iff_ne, beq_iff_eq, beq_eq_false_iff_ne, bne_eq_false_iff_eq, Bool.not_eq_true', Bool.not_eq_false', bys_length, List.length_append, List.length_cons, List.length_nil, List.length_map, List.length_drop, List.length_take, Int.natCast_add, wrap_i64_eq, wrap_u64, wrap_u8, ne_eq, not_true_eq_false, not_false_eq_true, Nat.zero_add, Nat.mul_one] <;> omega) | omega | (simp; done) | (simp; omega))) only [↓CR, MC, ↓PR, MR, kops_length]
  | succ n ih =>
    intro j k c g l hs hl hj hk hc
    obtain ⟨k, rfl⟩ : ∃ m, k = m + 1 := ⟨k - 1, by omega⟩
    have h1 : j < ops.length := by omega
    have e1 := succ_wrap (i := j) (by omega)
    have e2 := succ_wrap (i := c) (by omega)
    have rr := fun (Q : Res → Prop) (tg : Hid Q) => r10right_run (d := d + 1) (o := ops[j]) (h := h) (Q := Q) (tg := tg)
    rw [List.drop_eq_getElem_cons h1, aps_cons, cntO_cons]
    cases hr : rightO ops[j]
    · rw [hr] at rr
      obtain ⟨g', r⟩ := ih (j + 1) k c g l hs (by omega) (by omega) (by omega) (by omega)
      refine ⟨g', fun Q tg => ?_⟩
      rw [P34_0_eq]
      simp (disch := (first | assumption | (simp only [Bool.and_eq_true, Bool.and_eq_false_iff, decide_eq_true_eq, decide_eq_false_iff_not, bne_iff_ne, beq_iff_eq, beq_eq_false_iff_ne, bne_eq_false_iff_eq, Bool.not_eq_true', Bool.not_eq_false', bys_length, List.length_append, List.length_cons, List.length_nil, List.length_map, List.length_drop, List.length_take, Int.natCast_add, wrap_i64_eq, wrap_u64, wrap_u8, ne_eq, not_true_eq_false, not_false_eq_true, Nat.zero_add, Nat.mul_one] <;> omega) | omega | (simp; done) | (simp; omega))) only [↓CR, MC, ↓PR, MR, kops_length, kops_getD h1, rr, Bool.not_false, e1, r]
      simp
    · rw [hr] at rr
      by_cases k1 : ops[j].kind = 1
      · have b1 : (ops[j].kind == 1) = true := by simp [k1]
        have ha : apO l ops[j] = lput ops[j].key ops[j].val l := by unfold apO; rw [if_pos k1]
        have hlen := lput_len_le (k := ops[j].key) (v := ops[j].val) hs
        obtain ⟨g', r⟩ := ih (j + 1) k (c + 1) false (lput ops[j].key ops[j].val l) hs.put (by omega) (by omega) (by omega) (by omega)
        have rp := fun (Q : Res → Prop) (tg : Hid Q) => rput31_run (d := d) (f := g) (l := l) (s := ops[j].key) (v := ops[j].val) (h := h) (Q := Q) (tg := tg) hs (by omega)
        refine ⟨g', fun Q tg => ?_⟩
        rw [P34_0_eq]
        simp (disch := (first | assumption | (simp only [Bool.and_eq_true, Bool.and_eq_false_iff, decide_eq_true_eq, decide_eq_false_iff_not, bne_iff_ne, beq_iff_eq, beq_eq_false_iff_ne, bne_eq_false_iff_eq, Bool.not_eq_true', Bool.not_eq_false', bys_length, List.length_append, List.length_cons, List.length_nil, List.length_map, List.length_drop, List.length_take, Int.natCast_add, wrap_i64_eq, wrap_u64, wrap_u8, ne_eq, not_true_eq_false, not_false_eq_true, Nat.zero_add, Nat.mul_one] <;> omega) | omega | (simp; done) | (simp; omega))) only [↓CR, MC, ↓PR, MR, kops_length, kops_getD h1, rr, Bool.not_true, cells_agg, b1, rp, e1, e2, r]
        simp only [if_true, ha]
        rw [show c + 1 + cntO (ops.drop (j + 1)) = c + (1 + cntO (ops.drop (j + 1))) by omega]
      · have b1 : (ops[j].kind == 1) = false := by simp [k1]
        have ha : apO l ops[j] = ldel ops[j].key l := by unfold apO; rw [if_neg k1]
        have hlen := ldel_len_le ops[j].key l
        obtain ⟨g', r⟩ := ih (j + 1) k (c + 1) false (ldel ops[j].key l) hs.del (by omega) (by omega) (by omega) (by omega)
        have rp := fun (Q : Res → Prop) (tg : Hid Q) => rdel31_run (d := d + 1) (f := g) (l := l) (s := ops[j].key) (h := h) (Q := Q) (tg := tg) (by omega)
        refine ⟨g', fun Q tg => ?_⟩
        rw [P34_0_eq]
        simp (disch := (first | assumption | (simp only [Bool.and_eq_true, Bool.and_eq_false_iff, decide_eq_true_eq, decide_eq_false_iff_not, bne_iff_ne, beq_iff_eq, beq_eq_false_iff_ne, bne_eq_false_iff_eq, Bool.not_eq_true', Bool.not_eq_false', bys_length, List.length_append, List.length_cons, List.length_nil, List.length_map, List.length_drop, List.length_take, Int.natCast_add, wrap_i64_eq, wrap_u64, wrap_u8, ne_eq, not_true_eq_false, not_false_eq_true, Nat.zero_add, Nat.mul_one] <;> omega) | omega | (simp; done) | (simp; omega))) only [↓CR, MC, ↓PR, MR, kops_length, kops_getD h1, rr, Bool.not_true, cells_agg, b1, rp, e1, e2, r]
        simp only [if_true, ha]
        rw [show c + 1 + cntO (ops.drop (j + 1)) = c + (1 + cntO (ops.drop (j + 1))) by omega]
theorem rapplys_run (d : Nat) (f g : Bool) (ops : List KOp) (ho : ops.length ≤ 1000) (l : List KPair) (hs : Srt l) (hl : l.length ≤ 700000) (h : Heap) : ∃ g', ∀ (Q : Res → Prop) (tg : Hid Q),
    Run (evFn Cw (d + 3) 34 [.sl g 3 (prs l), .sl f 4 (kops ops)] h) Q tg = Q ([.sl g' 3 (prs (aps l ops)), .int .i64 (cntO ops : Nat)], h) := by
  obtain ⟨g', r⟩ := rapplys_loop d f ops ho h ops.length 0 rounds 0 g l hs (by omega) (by omega) (Nat.lt_of_lt_of_le (by omega) rounds_ge) (by omega)
  rw [List.drop_zero] at r
  rw [e0, Nat.zero_add] at r
  refine ⟨g', fun Q tg => ?_⟩
  rw [F34_eq]
  exact r Q ⟨⟩

/-! ### A table of pairs -/
theorem lput_snoc {k v : List UInt8} {l : List KPair} (h : ∀ p ∈ l, blt p.key k = true) : lput k v l = l ++ [⟨k, v⟩] := by
  unfold lput
  rw [filter_all h, filter_none (fun p hp => blt_asym (h p hp))]
theorem tabof_loop (d i ti : Nat) (f : Bool) (l : List KPair) (hs : Srt l) (hl : l.length ≤ 30999) (hkv : ∀ p ∈ l, p.key.length ≤ 140737488351232 ∧ p.val.length ≤ 140737488351232) : ∀ (n j k : Nat) (t : Nd) (h : Heap), IsTab h i ti t → t.toL = l.take j → l.length = j + n → n < k →
    ∃ t', IsTab (tabH h i ti t') i ti t' ∧ t'.toL = l ∧ ∀ (Q : Res → Prop) (tg : Hid Q), Run (P61_0 (d + 31011) k (.obj i 0) f (prs l) (l.length : Nat) j h) Q tg = Q ([.obj i 0], tabH h i ti t') := by
  intro n
  induction n with
  | zero =>
    intro j k t h T ht hj hk
    obtain ⟨k, rfl⟩ : ∃ m, k = m + 1 := ⟨k - 1, by omega⟩
    refine ⟨t, by rw [tabH_self T]; exact T, by rw [ht, List.take_of_length_le (by omega)], fun Q tg => ?_⟩
    rw [tabH_self T, P61_0_eq]
    simp (disch := (first | assumption | (simp only [Bool.and_eq_true, Bool.and_eq_false_iff, decide_eq_true_eq, decide_eq_false_iff_not, bne_iff_ne, beq_iff_eq, beq_eq_false_iff_ne, bne_eq_false_iff_eq, Bool.not_eq_true', Bool.not_eq_false', bys_length, List.length_append, List.length_cons, List.length_nil, List.length_map, List.length_drop, List.length_take, Int.natCast_add, wrap_i64_eq, wrap_u64, wrap_u8, ne_eq, not_true_eq_false, not_false_eq_true, Nat.zero_add, Nat.mul_one] <;> omega) | omega | (simp; done) | (simp; omega))) only [↓CR, MC, ↓PR, MR]
  | succ n ih =>
    intro j k t h T ht hj hk
    obtain ⟨k, rfl⟩ : ∃ m, k = m + 1 := ⟨k - 1, by omega⟩
    have h1 : j < l.length := by omega
    have e1 := succ_wrap (i := j) (by omega)
    have hkj := hkv _ (List.getElem_mem h1)
    have hlen : t.toL.length ≤ 30999 := by rw [ht, List.length_take]; omega
    have rp := fun (Q : Res → Prop) (tg : Hid Q) => tabput_run (d := d + 31010) (k := l[j].key) (v := l[j].val) (Q := Q) (tg := tg) T hlen hkj.1 hkj.2 (by omega)
    obtain ⟨ok1, hP⟩ := T.ok.put l[j].key l[j].val hlen
    have hsn : lput l[j].key l[j].val t.toL = l.take (j + 1) := by
      rw [ht, lput_snoc (fun p hp => ?_), List.take_succ_eq_append_getElem h1]
      obtain ⟨q, hq, rfl⟩ := List.getElem_of_mem hp
      rw [List.length_take] at hq
      rw [List.getElem_take]
      exact List.pairwise_iff_getElem.1 hs q j (by omega) h1 (by omega)
    have T2 := T.step ok1 (fun p hp => by
      rw [hP, hsn] at hp
      exact hkv p (List.mem_of_mem_take hp))
    obtain ⟨t', T', ht', r⟩ := ih (j + 1) k (t.put l[j].key l[j].val) _ T2 (by rw [hP, hsn]) (by omega) (by omega)
    rw [tabH_tabH T.ne] at T' r
    refine ⟨t', T', ht', fun Q tg => ?_⟩
    rw [P61_0_eq]
    simp (disch := (first | assumption | (simp only [Bool.and_eq_true, Bool.and_eq_false_iff, decide_eq_true_eq, decide_eq_false_iff_not, bne_iff_ne, beq_iff_eq, beq_eq_false_iff_ne, bne_eq_false_iff_eq, Bool.not_eq_true', Bool.not_eq_false', bys_length, List.length_append, List.length_cons, List.length_nil, List.length_map, List.length_drop, List.length_take, Int.natCast_add, wrap_i64_eq, wrap_u64, wrap_u8, ne_eq, not_true_eq_false, not_false_eq_true, Nat.zero_add, Nat.mul_one] <;> omega) | omega | (simp; done) | (simp; omega))) only [↓CR, MC, ↓PR, MR, prs_length, prs_getD h1, rp, e1, r]
theorem tabof_run (d : Nat) (f : Bool) (l : List KPair) (hs : Srt l) (hl : l.length ≤ 30999) (hkv : ∀ p ∈ l, p.key.length ≤ 140737488351232 ∧ p.val.length ≤ 140737488351232) (h : Heap) :
    ∃ t h' i ti, h.objs.length ≤ i ∧ h.objs.length ≤ ti ∧ h.ext h' ∧ IsTab h' i ti t ∧ t.toL = l ∧ ∀ (Q : Res → Prop) (tg : Hid Q), Run (evFn Cw (d + 31012) 61 [.sl f 3 (prs l)] h) Q tg = Q ([.obj i 0], h') := by
  obtain ⟨E, T⟩ := tabnew_is h
  obtain ⟨t', T', ht', r⟩ := tabof_loop d (h.objs.length + 1) h.objs.length f l hs hl hkv l.length 0 rounds .nil _ T (by simp [Nd.toL]) (by omega) (Nat.lt_of_lt_of_le (by omega) rounds_ge)
  rw [e0] at r
  refine ⟨t', _, h.objs.length + 1, h.objs.length, by omega, Nat.le_refl _, (E.put (Nat.le_refl _)).put (by omega), T', ht', fun Q tg => ?_⟩
  have rn := fun (Q : Res → Prop) (tg : Hid Q) => tabnew_run (d := d + 31009) (h := h) (Q := Q) (tg := tg)
  rw [F61_eq]
  simp (disch := (first | assumption | (simp only [Bool.and_eq_true, Bool.and_eq_false_iff, decide_eq_true_eq, decide_eq_false_iff_not, bne_iff_ne, beq_iff_eq, beq_eq_false_iff_ne, bne_eq_false_iff_eq, Bool.not_eq_true', Bool.not_eq_false', bys_length, List.length_append, List.length_cons, List.length_nil, List.length_map, List.length_drop, List.length_take, Int.natCast_add, wrap_i64_eq, wrap_u64, wrap_u8, ne_eq, not_true_eq_false, not_false_eq_true, Nat.zero_add, Nat.mul_one] <;> omega) | omega | (simp; done) | (simp; omega))) only [↓CR, MC, ↓PR, MR, rn, prs_length, r]
  rfl

/-! ### Pairs that are right are sorted -/
theorem right_at : ∀ (n i : Nat) (l : List KPair), rightFrom l n i = true → ∀ j, i ≤ j → j < i + n → okAt l j = true
  | 0, _, _, _, _, _, _ => by omega
  | n + 1, i, l, h, j, h1, h2 => by
    unfold rightFrom at h
    rw [Bool.and_eq_true] at h
    by_cases e : j = i
    · rw [e]; exact h.1
    · exact right_at n (i + 1) l h.2 j (by omega) (by omega)
theorem right_srt {l : List KPair} (h : rightFrom l l.length 0 = true) : Srt l ∧ ∀ p ∈ l, p.key.length ≤ 24 ∧ p.val.length ≤ 128 := by
  have ha : ∀ j (hj : j < l.length), (1 ≤ l[j].key.length ∧ l[j].key.length ≤ 24 ∧ l[j].val.length ≤ 128) ∧ (j = 0 ∨ ∃ (h0 : j - 1 < l.length), blt l[j - 1].key l[j].key = true) := fun j hj => by
    have := right_at l.length 0 l h j (by omega) (by omega)
    rw [okAt_at hj] at this
    simp only [Bool.and_eq_true, decide_eq_true_eq, Bool.or_eq_true, Bool.not_eq_true', Bool.or_eq_false_iff] at this
    obtain ⟨h1, h2, h3, h4⟩ := this
    refine ⟨⟨h1, h2, h3⟩, ?_⟩
    rcases h4 with h4 | ⟨h4, h5⟩
    · exact .inl h4
    · by_cases j0 : j = 0
      · exact .inl j0
      · right
        have hj1 : j - 1 < l.length := by omega
        refine ⟨hj1, ?_⟩
        have e : l.getD (j - 1) ⟨[], []⟩ = l[j - 1] := by simp [hj1]
        rw [e] at h4 h5
        cases hb : blt l[j - 1].key l[j].key
        · have := blt_tri h4 hb
          rw [this] at h5
          simp at h5
        · rfl
  refine ⟨List.pairwise_iff_getElem.2 ?_, fun p hp => ?_⟩
  · intro i j hi hj hij
    obtain ⟨m, rfl⟩ : ∃ m, j = i + 1 + m := ⟨j - i - 1, by omega⟩
    induction m with
    | zero =>
      rcases (ha (i + 1) hj).2 with h0 | ⟨_, h0⟩
      · omega
      · simpa using h0
    | succ m ih =>
      have h1 := ih (by omega) (by omega)
      rcases (ha (i + 1 + (m + 1)) hj).2 with h0 | ⟨_, h0⟩
      · omega
      · exact blt_trans h1 (by simpa using h0)
  · obtain ⟨j, hj, rfl⟩ := List.getElem_of_mem hp
    exact ⟨(ha j hj).1.2.1, (ha j hj).1.2.2⟩
end Go.Proofs.YtdlcjibefbnckaaDoor.Wa
end

section
/- PointJoins. -/
namespace Go.Proofs.YtdlcjibefbnckaaDoor.Wa
open Go Go.Weave
set_option maxRecDepth 100000
set_option linter.unusedSimpArgs false
set_option linter.unusedVariables false
set_option linter.unusedSectionVars false

theorem ptof_some {d : Nat} {f : Bool} {ps : List (List UInt8)} {l : List KPair} (hps : ps.length ≤ 100000) (hp : pcsF ps [] = some l) {h : Heap} {Q : Res → Prop} {tg : Hid Q} :
    Run (evFn Cw (d + 6) 27 [.sl f 0 (flds ps)] h) Q tg = Q ([.agg [.int .i64 ps.length, .int .i64 l.length, .int .u32 (sumN ps 0 : Nat)], .int .i64 0], h) := by
  have r := fun (Q : Res → Prop) (tg : Hid Q) => all_run_some (d := d) (f := f) hps hp (h := h) (Q := Q) (tg := tg)
  rw [F27_eq]
  simp (disch := (first | assumption | (simp only [Bool.and_eq_true, Bool.and_eq_false_iff, decide_eq_true_eq, decide_eq_false_iff_not, bne_iff_ne, beq_iff_eq, beq_eq_false_iff_ne, bne_eq_false_iff_eq, Bool.not_eq_true', Bool.not_eq_false', bys_length, List.length_append, List.length_cons, List.length_nil, List.length_map, List.length_drop, List.length_take, Int.natCast_add, wrap_i64_eq, wrap_u64, wrap_u8, ne_eq, not_true_eq_false, not_false_eq_true, Nat.zero_add, Nat.mul_one] <;> omega) | omega | (simp; done) | (simp; omega))) only [↓CR, MC, ↓PR, MR, r, Bool.not_true]
theorem ptof_none {d : Nat} {f : Bool} {ps : List (List UInt8)} (hps : ps.length ≤ 100000) (hb : ∀ b ∈ ps, b.length ≤ 40000000) (hp : pcsF ps [] = none) {h : Heap} {Q : Res → Prop} {tg : Hid Q} :
    Run (evFn Cw (d + 6) 27 [.sl f 0 (flds ps)] h) Q tg = Q ([.agg [.int .i64 0, .int .i64 0, .int .u32 0], .int .i64 2], h) := by
  have r := fun (Q : Res → Prop) (tg : Hid Q) => all_run_none (d := d) (f := f) hps hb hp (h := h) (Q := Q) (tg := tg)
  rw [F27_eq]
  simp (disch := (first | assumption | (simp only [Bool.and_eq_true, Bool.and_eq_false_iff, decide_eq_true_eq, decide_eq_false_iff_not, bne_iff_ne, beq_iff_eq, beq_eq_false_iff_ne, bne_eq_false_iff_eq, Bool.not_eq_true', Bool.not_eq_false', bys_length, List.length_append, List.length_cons, List.length_nil, List.length_map, List.length_drop, List.length_take, Int.natCast_add, wrap_i64_eq, wrap_u64, wrap_u8, ne_eq, not_true_eq_false, not_false_eq_true, Nat.zero_add, Nat.mul_one] <;> omega) | omega | (simp; done) | (simp; omega))) only [↓CR, MC, ↓PR, MR, r, Bool.not_false]
end Go.Proofs.YtdlcjibefbnckaaDoor.Wa
end

section
/- Replay: what a record does, in plain words and on the machine. -/
namespace Go.Proofs.YtdlcjibefbnckaaDoor.Wa
open Go Go.Weave
set_option maxRecDepth 100000
set_option linter.unusedSimpArgs false
set_option linter.unusedVariables false
set_option linter.unusedSectionVars false

def rcs (l : List Rec) : List AVal := l.map Rec.A
theorem rcs_length (l : List Rec) : (rcs l).length = l.length := by simp [rcs]
theorem rcs_getD {l : List Rec} {i : Nat} (h : i < l.length) (hf : l[i].full = false) : (rcs l).getD i AVal.undef = .agg [.int .i64 l[i].kind, .int .i64 l[i].chain, .int .i64 l[i].lsn, .int .i64 l[i].prev, .sl false 0 (bys l[i].data)] := by simp [rcs, h, Rec.A, Rec.C, hf]

/-! ### In plain words -/
structure RSt where
  tab : Option (List KPair)
  pts : Nat
  bts : Nat
  pcs : List (List UInt8)
  yng : Bool
noncomputable def lastP (s : RSt) (b : List UInt8) : List (List UInt8) := s.pcs.drop (s.pcs.length - (decP b).1.1)
noncomputable def jP (s : RSt) (b : List UInt8) : List KPair × Nat := jF ((decP b).1.1 : Nat) ((decP b).1.2.1 : Nat) (decP b).1.2.2 (lastP s b)
noncomputable def rpt (s : RSt) (b : List UInt8) : Option RSt :=
  if (decP b).2 ≠ 0 then none else
  if (jP s b).2 ≠ 0 then (if s.yng then some { s with pcs := [], yng := false } else none)
  else some ⟨some (jP s b).1, s.pts + 1, 0, [], false⟩
noncomputable def rbt (s : RSt) (b : List UInt8) : Option RSt :=
  if (bdec (b.length + 1) b []).2 ≠ 0 then none
  else some ⟨s.tab.map (fun l => aps l (bdec (b.length + 1) b []).1), s.pts, if s.tab.isSome then s.bts + 1 else s.bts, [], false⟩
noncomputable def rstep (s : RSt) (r : Rec) : Option RSt :=
  if r.kind = 3 then (if (pcF r.data).isNone then none else some { s with pcs := s.pcs ++ [r.data] })
  else if r.kind = 4 then rpt s r.data
  else if r.kind = 2 then rbt s r.data
  else some s
noncomputable def rrun : RSt → List Rec → Option RSt
  | s, [] => some s
  | s, r :: l => match rstep s r with | none => none | some s' => rrun s' l
def rini (first : Int) : RSt := ⟨if first = 1 then some [] else none, 0, 0, [], !(first == 1)⟩

theorem pairUp_len2 : ∀ l : List (List UInt8), 2 * (pairUp l).length ≤ l.length
  | [] => by simp [pairUp]
  | [_] => by simp [pairUp]
  | k :: v :: r => by have := pairUp_len2 r; simp only [pairUp, List.length_cons]; omega
theorem pcF_len2 {b : List UInt8} {l : List KPair} (h : pcF b = some l) : l.length ≤ 200 := by
  unfold pcF at h
  split at h
  · cases h
  · rename_i hc
    have h1 := unp_len b
    have h2 := pairUp_len2 (unp b).1
    simp only [not_or] at hc
    simp only [Option.some.injEq] at h
    subst h
    omega
theorem pcsF_len2 : ∀ (ps : List (List UInt8)) {acc l : List KPair}, pcsF ps acc = some l → l.length ≤ acc.length + 200 * ps.length
  | [], acc, l, h => by simp only [pcsF, Option.some.injEq] at h; rw [← h]; simp
  | b :: r, acc, l, h => by
    unfold pcsF at h
    split at h
    · cases h
    · rename_i l1 h1
      have h2 := pcsF_len2 r h
      have h3 := pcF_len2 h1
      rw [List.length_append] at h2
      simp only [List.length_cons]; omega
theorem jF_ok {x0 x1 : Int} {x2 : Nat} {ps : List (List UInt8)} (h : (jF x0 x1 x2 ps).2 = 0) : (ps.length : Int) = x0 ∧ pcsF ps [] = some (jF x0 x1 x2 ps).1 ∧ rightFrom (jF x0 x1 x2 ps).1 (jF x0 x1 x2 ps).1.length 0 = true := by
  revert h
  unfold jF
  split
  · intro h; simp at h
  · split
    · intro h; simp at h
    · rename_i l hp
      split
      · intro h; simp at h
      · rename_i hc
        split
        · intro h; simp at h
        · intro _
          rw [not_or, not_or] at hc
          obtain ⟨h1, h2, h3⟩ := hc
          refine ⟨by omega, hp, by simpa using h3⟩

theorem decP_le (b : List UInt8) : (decP b).1.1 ≤ 2147483647 ∧ (decP b).1.2.1 ≤ 2147483647 := by
  have h1 := numF_len b
  have h2 := numF_len (numF b).2.1
  unfold decP
  split
  · simp
  · split
    · simp
    · split
      · simp
      · split
        · simp
        · exact ⟨h1.2, h2.2⟩
structure RInv (n : Nat) (s : RSt) : Prop where
  pcs : s.pcs.length ≤ n
  len : ∀ b ∈ s.pcs, b.length ≤ 600
  pts : s.pts ≤ n
  bts : s.bts ≤ n
  tab : ∀ l, s.tab = some l → Srt l ∧ l.length ≤ 24000 + 8 * n
theorem rini_inv (x : Int) : RInv 0 (rini x) := by
  refine ⟨by simp [rini], by simp [rini], by simp [rini], by simp [rini], fun l hl => ?_⟩
  unfold rini at hl
  simp only at hl
  split at hl
  · simp only [Option.some.injEq] at hl; subst hl; exact ⟨List.Pairwise.nil, by simp⟩
  · simp at hl
theorem apO_len {l : List KPair} {o : KOp} (hs : Srt l) : (apO l o).length ≤ l.length + 1 := by
  unfold apO
  split
  · exact lput_len_le hs
  · have := ldel_len_le o.key l; omega
theorem aps_len : ∀ {ops : List KOp} {l : List KPair}, Srt l → (aps l ops).length ≤ l.length + ops.length
  | [], l, _ => by rw [aps_nil]; simp
  | o :: ops, l, h => by
    rw [aps_cons]
    by_cases c : rightO o = true
    · rw [if_pos c]
      have h1 := aps_len (ops := ops) (apO_srt (o := o) h)
      have h2 := apO_len (o := o) h
      simp only [List.length_cons]; omega
    · rw [if_neg c]
      have h1 := aps_len (ops := ops) h
      simp only [List.length_cons]; omega
theorem rpt_inv {n : Nat} {s s' : RSt} {b : List UInt8} (I : RInv n s) (hn : n < 120) (h : rpt s b = some s') : RInv (n + 1) s' := by
  unfold rpt at h
  split at h
  · cases h
  · split at h
    · split at h
      · simp only [Option.some.injEq] at h
        subst h
        exact ⟨by simp, by simp, Nat.le_succ_of_le I.pts, Nat.le_succ_of_le I.bts, fun l hl => ⟨(I.tab l hl).1, by have := (I.tab l hl).2; omega⟩⟩
      · cases h
    · rename_i hj
      simp only [Option.some.injEq] at h
      subst h
      obtain ⟨h1, h2, h3⟩ := jF_ok (by simpa [jP] using hj : (jF ((decP b).1.1 : Nat) ((decP b).1.2.1 : Nat) (decP b).1.2.2 (lastP s b)).2 = 0)
      refine ⟨by simp, by simp, by have := I.pts; simp; omega, by simp, fun l hl => ?_⟩
      simp only [Option.some.injEq] at hl
      subst hl
      refine ⟨(right_srt h3).1, ?_⟩
      have h4 := pcsF_len2 _ h2
      have h5 : (lastP s b).length ≤ n := by unfold lastP; rw [List.length_drop]; have := I.pcs; omega
      simp only [List.length_nil] at h4
      show (jF _ _ _ _).1.length ≤ _
      omega
theorem rbt_inv {n : Nat} {s s' : RSt} {b : List UInt8} (I : RInv n s) (h : rbt s b = some s') : RInv (n + 1) s' := by
  unfold rbt at h
  split at h
  · cases h
  · rename_i hb
    simp only [Option.some.injEq] at h
    subst h
    refine ⟨by simp, by simp, Nat.le_succ_of_le I.pts, ?_, fun l hl => ?_⟩
    · have := I.bts; simp only; split <;> omega
    · simp only [Option.map_eq_some_iff] at hl
      obtain ⟨l0, h0, rfl⟩ := hl
      obtain ⟨h1, h2⟩ := I.tab l0 h0
      have h3 := aps_len (ops := (bdec (b.length + 1) b []).1) h1
      have h4 : (bdec (b.length + 1) b []).1.length ≤ 8 := bdec_ok (b.length + 1) b [] _ (Prod.ext rfl (by simpa using hb))
      exact ⟨aps_srt h1, by omega⟩
theorem rstep_inv {n : Nat} {s s' : RSt} {r : Rec} (I : RInv n s) (hn : n < 120) (hr : r.data.length ≤ 600) (h : rstep s r = some s') : RInv (n + 1) s' := by
  unfold rstep at h
  split at h
  · split at h
    · cases h
    · simp only [Option.some.injEq] at h
      subst h
      refine ⟨by have := I.pcs; simp; omega, fun b hb => ?_, Nat.le_succ_of_le I.pts, Nat.le_succ_of_le I.bts, fun l hl => ⟨(I.tab l hl).1, by have := (I.tab l hl).2; omega⟩⟩
      simp only [List.mem_append, List.mem_singleton] at hb
      rcases hb with hb | rfl
      · exact I.len b hb
      · exact hr
  · split at h
    · exact rpt_inv I hn h
    · split at h
      · exact rbt_inv I h
      · simp only [Option.some.injEq] at h
        subst h
        exact ⟨Nat.le_succ_of_le I.pcs, I.len, Nat.le_succ_of_le I.pts, Nat.le_succ_of_le I.bts, fun l hl => ⟨(I.tab l hl).1, by have := (I.tab l hl).2; omega⟩⟩

/-! ### On the machine -/
def rpO (tp : AVal) (pts bts : Nat) (pc : HCell) (yng : Bool) : Weave.Obj := .cells [HCell.val tp, HCell.val (.int .i64 pts), HCell.val (.int .i64 bts), pc, HCell.val (.bool yng)]
def pcOK (pc : HCell) (l : List (List UInt8)) : Prop := pc = .own 0 (flds l) ∨ (pc = .val (.sl true 0 []) ∧ l = [])
theorem pcOK.toA {pc : HCell} {l : List (List UInt8)} (h : pcOK pc l) : ∃ f, pc.toA = .sl f 0 (flds l) := by
  rcases h with rfl | ⟨rfl, rfl⟩
  · exact ⟨false, rfl⟩
  · exact ⟨true, rfl⟩
def TabP (m : Nat) (h : Heap) (i : Nat) (tp : AVal) : Option (List KPair) → Prop
  | none => tp = .nilp
  | some l => ∃ ti tr t, tp = .obj ti 0 ∧ IsTab h ti tr t ∧ t.toL = l ∧ ti ≠ i ∧ tr ≠ i ∧ m ≤ ti ∧ m ≤ tr
structure IsRp (m : Nat) (h : Heap) (i : Nat) (tp : AVal) (pc : HCell) (s : RSt) : Prop where
  at' : h.objs[i]? = some (rpO tp s.pts s.bts pc s.yng)
  pc : pcOK pc s.pcs
  tab : TabP m h i tp s.tab
  le : m ≤ i
theorem IsTab.put {h : Heap} {i ti tr : Nat} {t : Nd} {o : Weave.Obj} (T : IsTab h ti tr t) (h1 : ti ≠ i) (h2 : tr ≠ i) : IsTab (h.put i o) ti tr t :=
  ⟨by rw [Heap.put_ne (Ne.symm h1)]; exact T.tb, by rw [Heap.put_ne (Ne.symm h2)]; exact T.tr, T.ne, T.ok, T.kv⟩
theorem TabP.put {m : Nat} {h : Heap} {i : Nat} {tp : AVal} {o : Weave.Obj} : ∀ {x : Option (List KPair)}, TabP m h i tp x → TabP m (h.put i o) i tp x
  | none, H => H
  | some _, ⟨ti, tr, t, h1, h2, h3, h4, h5, h6⟩ => ⟨ti, tr, t, h1, h2.put h4 h5, h3, h4, h5, h6⟩
theorem part_fd {l : List (List UInt8)} {k : Nat} : Weave.part (k : Int) (l.length : Int) (flds l) = flds (l.drop k) := by
  have e : ((l.length : Int) - (k : Int)).toNat = l.length - k := by omega
  simp only [Weave.part, Int.toNat_natCast, e, flds, ← List.map_drop]
  rw [List.take_of_length_le (by simp)]
theorem rp_c0 {h : Heap} {i : Nat} {tp : AVal} {p b : Nat} {pc : HCell} {y : Bool} (hm : h.objs[i]? = some (rpO tp p b pc y)) : h.cell? i 0 = some (HCell.val tp) := by rw [Heap.cell_at hm]; rfl
theorem rp_c1 {h : Heap} {i : Nat} {tp : AVal} {p b : Nat} {pc : HCell} {y : Bool} (hm : h.objs[i]? = some (rpO tp p b pc y)) : h.cell? i 1 = some (HCell.val (.int .i64 p)) := by rw [Heap.cell_at hm]; rfl
theorem rp_c2 {h : Heap} {i : Nat} {tp : AVal} {p b : Nat} {pc : HCell} {y : Bool} (hm : h.objs[i]? = some (rpO tp p b pc y)) : h.cell? i 2 = some (HCell.val (.int .i64 b)) := by rw [Heap.cell_at hm]; rfl
theorem rp_c3 {h : Heap} {i : Nat} {tp : AVal} {p b : Nat} {pc : HCell} {y : Bool} (hm : h.objs[i]? = some (rpO tp p b pc y)) : h.cell? i 3 = some pc := by rw [Heap.cell_at hm]; rfl
theorem rp_c4 {h : Heap} {i : Nat} {tp : AVal} {p b : Nat} {pc : HCell} {y : Bool} (hm : h.objs[i]? = some (rpO tp p b pc y)) : h.cell? i 4 = some (HCell.val (.bool y)) := by rw [Heap.cell_at hm]; rfl
theorem rp_s2 {h : Heap} {i : Nat} {tp : AVal} {p b b' : Nat} {pc : HCell} {y : Bool} (hm : h.objs[i]? = some (rpO tp p b pc y)) : h.setCell i 2 (HCell.val (.int .i64 b')) = h.put i (rpO tp p b' pc y) := by rw [Heap.set_at hm]; rfl
theorem rp_s3 {h : Heap} {i : Nat} {tp : AVal} {p b : Nat} {pc pc' : HCell} {y : Bool} (hm : h.objs[i]? = some (rpO tp p b pc y)) : h.setCell i 3 pc' = h.put i (rpO tp p b pc' y) := by rw [Heap.set_at hm]; rfl
theorem rp_s4 {h : Heap} {i : Nat} {tp : AVal} {p b : Nat} {pc : HCell} {y y' : Bool} (hm : h.objs[i]? = some (rpO tp p b pc y)) : h.setCell i 4 (HCell.val (.bool y')) = h.put i (rpO tp p b pc y') := by rw [Heap.set_at hm]; rfl
end Go.Proofs.YtdlcjibefbnckaaDoor.Wa
end

section
/- Replay: what stands ahead of a whole point says nothing, in plain words. -/
namespace Go.Proofs.YtdlcjibefbnckaaDoor.Wa
open Go Go.Weave
set_option maxRecDepth 100000
set_option linter.unusedSimpArgs false
set_option linter.unusedVariables false
set_option linter.unusedSectionVars false

theorem rrun_cons (s : RSt) (r : Rec) (l : List Rec) : rrun s (r :: l) = match rstep s r with | none => none | some s' => rrun s' l := rfl
theorem rrun_append : ∀ (a b : List Rec) (s : RSt), rrun s (a ++ b) = match rrun s a with | none => none | some s' => rrun s' b
  | [], b, s => rfl
  | r :: a, b, s => by
    rw [List.cons_append, rrun_cons, rrun_cons]
    cases rstep s r with
    | none => rfl
    | some s' => exact rrun_append a b s'
/-- The chunks' bytes. -/
def cd : List Rec → List (List UInt8)
  | [] => []
  | r :: l => if r.kind = 3 then r.data :: cd l else cd l
theorem cd_append : ∀ a b : List Rec, cd (a ++ b) = cd a ++ cd b
  | [], b => rfl
  | r :: a, b => by
    simp only [List.cons_append, cd]
    split
    · rw [cd_append a b]; rfl
    · exact cd_append a b
/-- Neither a batch nor a point; chunks that are. -/
def Calm (l : List Rec) : Prop := ∀ r ∈ l, r.kind ≠ 2 ∧ r.kind ≠ 4 ∧ (r.kind = 3 → (pcF r.data).isSome = true)
theorem rrun_calm : ∀ (l : List Rec) (s : RSt), Calm l → rrun s l = some { s with pcs := s.pcs ++ cd l }
  | [], s, _ => by simp [rrun, cd]
  | r :: l, s, h => by
    obtain ⟨h2, h4, h3⟩ := h r (by simp)
    have hl : Calm l := fun x hx => h x (List.mem_cons_of_mem _ hx)
    rw [rrun_cons]
    unfold rstep
    by_cases k : r.kind = 3
    · have hp : (pcF r.data).isNone = false := by have := h3 k; cases hq : pcF r.data <;> simp_all
      rw [if_pos k, hp]
      simp only [Bool.false_eq_true, if_false]
      rw [rrun_calm l _ hl]
      simp [cd, k]
    · rw [if_neg k, if_neg h4, if_neg h2]
      simp only
      rw [rrun_calm l s hl]
      simp [cd, k]
/-- The same, but for the counts. -/
def Sim (u v : RSt) : Prop := u.tab = v.tab ∧ u.pcs = v.pcs ∧ u.yng = v.yng
theorem sim_step {u v v' : RSt} {r : Rec} (h : Sim u v) (hv : rstep v r = some v') : ∃ u', rstep u r = some u' ∧ Sim u' v' := by
  obtain ⟨h1, h2, h3⟩ := h
  have hl : ∀ b, lastP u b = lastP v b := fun b => by unfold lastP; rw [h2]
  have hj : ∀ b, jP u b = jP v b := fun b => by unfold jP; rw [hl]
  unfold rstep at hv ⊢
  by_cases k3 : r.kind = 3
  · rw [if_pos k3] at hv ⊢
    cases hp : (pcF r.data).isNone
    · rw [hp] at hv
      simp only [Bool.false_eq_true, if_false, Option.some.injEq] at hv ⊢
      subst hv
      exact ⟨_, rfl, h1, by simp [h2], h3⟩
    · rw [hp] at hv; simp at hv
  · rw [if_neg k3] at hv ⊢
    by_cases k4 : r.kind = 4
    · rw [if_pos k4] at hv ⊢
      unfold rpt at hv ⊢
      rw [hj, h3]
      split at hv
      · cases hv
      · rename_i e
        rw [if_neg e]
        split at hv
        · rename_i e2
          rw [if_pos e2]
          split at hv
          · rename_i e3
            rw [if_pos e3]
            simp only [Option.some.injEq] at hv
            subst hv
            exact ⟨_, rfl, h1, rfl, rfl⟩
          · cases hv
        · rename_i e2
          rw [if_neg e2]
          simp only [Option.some.injEq] at hv
          subst hv
          exact ⟨_, rfl, rfl, rfl, rfl⟩
    · rw [if_neg k4] at hv ⊢
      by_cases k2 : r.kind = 2
      · rw [if_pos k2] at hv ⊢
        unfold rbt at hv ⊢
        split at hv
        · cases hv
        · rename_i e
          rw [if_neg e]
          simp only [Option.some.injEq] at hv
          subst hv
          exact ⟨_, rfl, by simp [h1], rfl, rfl⟩
      · rw [if_neg k2] at hv ⊢
        simp only [Option.some.injEq] at hv
        subst hv
        exact ⟨_, rfl, h1, h2, h3⟩
theorem sim_run : ∀ (l : List Rec) {u v v' : RSt}, Sim u v → rrun v l = some v' → ∃ u', rrun u l = some u' ∧ Sim u' v'
  | [], u, v, v', h, hv => by
    simp only [rrun, Option.some.injEq] at hv
    subst hv
    exact ⟨u, rfl, h⟩
  | r :: l, u, v, v', h, hv => by
    rw [rrun_cons] at hv
    cases hs : rstep v r with
    | none => rw [hs] at hv; cases hv
    | some v1 =>
      rw [hs] at hv
      obtain ⟨u1, h1, h2⟩ := sim_step h hs
      obtain ⟨u', h3, h4⟩ := sim_run l h2 hv
      exact ⟨u', by rw [rrun_cons, h1]; exact h3, h4⟩
/-- The same statuses, with more pieces ahead. -/
def Wd (u v : RSt) : Prop := u.yng = v.yng ∧ (v.yng = false → u.pcs = v.pcs) ∧ ∃ X, u.pcs = X ++ v.pcs
theorem wd_step {u v v' : RSt} {r : Rec} (h : Wd u v) (hv : rstep v r = some v') : ∃ u', rstep u r = some u' ∧ Wd u' v' := by
  obtain ⟨h1, h2, X, h3⟩ := h
  unfold rstep at hv ⊢
  by_cases k3 : r.kind = 3
  · rw [if_pos k3] at hv ⊢
    cases hp : (pcF r.data).isNone
    · rw [hp] at hv
      simp only [Bool.false_eq_true, if_false, Option.some.injEq] at hv ⊢
      subst hv
      exact ⟨_, rfl, h1, fun e => by simp [h2 e], X, by simp [h3]⟩
    · rw [hp] at hv; simp at hv
  · rw [if_neg k3] at hv ⊢
    by_cases k4 : r.kind = 4
    · rw [if_pos k4] at hv ⊢
      unfold rpt at hv ⊢
      split at hv
      · cases hv
      · rename_i e
        rw [if_neg e]
        cases hy : v.yng
        · have hj : jP u r.data = jP v r.data := by unfold jP lastP; rw [h2 hy]
          rw [hj, h1, hy]
          split at hv
          · rename_i e2
            rw [hy] at hv; simp at hv
          · rename_i e2
            rw [if_neg e2]
            simp only [Option.some.injEq] at hv
            subst hv
            exact ⟨_, rfl, rfl, fun _ => rfl, [], rfl⟩
        · have hv' : v'.pcs = [] ∧ v'.yng = false := by
            split at hv
            · simp only [hy, if_true, Option.some.injEq] at hv
              subst hv
              exact ⟨rfl, rfl⟩
            · simp only [Option.some.injEq] at hv
              subst hv
              exact ⟨rfl, rfl⟩
          rw [h1, hy]
          by_cases e2 : (jP u r.data).2 ≠ 0
          · rw [if_pos e2, if_pos rfl]
            exact ⟨_, rfl, hv'.2.symm, fun _ => hv'.1.symm, [], by rw [hv'.1]; rfl⟩
          · rw [if_neg e2]
            exact ⟨_, rfl, hv'.2.symm, fun _ => hv'.1.symm, [], by rw [hv'.1]; rfl⟩
    · rw [if_neg k4] at hv ⊢
      by_cases k2 : r.kind = 2
      · rw [if_pos k2] at hv ⊢
        unfold rbt at hv ⊢
        split at hv
        · cases hv
        · rename_i e
          rw [if_neg e]
          simp only [Option.some.injEq] at hv
          subst hv
          exact ⟨_, rfl, rfl, fun _ => rfl, [], rfl⟩
      · rw [if_neg k2] at hv ⊢
        simp only [Option.some.injEq] at hv
        subst hv
        exact ⟨_, rfl, h1, h2, X, h3⟩
theorem wd_run : ∀ (l : List Rec) {u v v' : RSt}, Wd u v → rrun v l = some v' → ∃ u', rrun u l = some u' ∧ Wd u' v'
  | [], u, v, v', h, hv => by
    simp only [rrun, Option.some.injEq] at hv
    subst hv
    exact ⟨u, rfl, h⟩
  | r :: l, u, v, v', h, hv => by
    rw [rrun_cons] at hv
    cases hs : rstep v r with
    | none => rw [hs] at hv; cases hv
    | some v1 =>
      rw [hs] at hv
      obtain ⟨u1, h1, h2⟩ := wd_step h hs
      obtain ⟨u', h3, h4⟩ := wd_run l h2 hv
      exact ⟨u', by rw [rrun_cons, h1]; exact h3, h4⟩
/-- While nothing is known. -/
theorem none_step {v v' : RSt} {r : Rec} (k4 : r.kind ≠ 4) (ht : v.tab = none) (hv : rstep v r = some v') : v'.tab = none := by
  unfold rstep at hv
  split at hv
  · split at hv
    · cases hv
    · simp only [Option.some.injEq] at hv; subst hv; exact ht
  · first | rw [if_neg k4] at hv | skip
    split at hv
    · unfold rbt at hv
      split at hv
      · cases hv
      · simp only [Option.some.injEq] at hv; subst hv; simp [ht]
    · simp only [Option.some.injEq] at hv; subst hv; exact ht
theorem none_run : ∀ (l : List Rec) {v v' : RSt}, (∀ r ∈ l, r.kind ≠ 4) → v.tab = none → rrun v l = some v' → v'.tab = none
  | [], v, v', _, h, hv => by simp only [rrun, Option.some.injEq] at hv; subst hv; exact h
  | r :: l, v, v', hk, h, hv => by
    rw [rrun_cons] at hv
    cases hs : rstep v r with
    | none => rw [hs] at hv; cases hv
    | some v1 =>
      rw [hs] at hv
      exact none_run l (fun x hx => hk x (List.mem_cons_of_mem _ hx)) (none_step (hk r (by simp)) h hs) hv
theorem yng_step {v v' : RSt} {r : Rec} (h : v.yng = true → v.tab = none) (hv : rstep v r = some v') : v'.yng = true → v'.tab = none := by
  unfold rstep at hv
  split at hv
  · split at hv
    · cases hv
    · simp only [Option.some.injEq] at hv; subst hv; exact h
  · split at hv
    · unfold rpt at hv
      split at hv
      · cases hv
      · split at hv
        · split at hv
          · simp only [Option.some.injEq] at hv; subst hv; intro e; simp at e
          · cases hv
        · simp only [Option.some.injEq] at hv; subst hv; intro e; simp at e
    · split at hv
      · unfold rbt at hv
        split at hv
        · cases hv
        · simp only [Option.some.injEq] at hv; subst hv; intro e; simp at e
      · simp only [Option.some.injEq] at hv; subst hv; exact h
theorem yng_run : ∀ (l : List Rec) {v v' : RSt}, (v.yng = true → v.tab = none) → rrun v l = some v' → v'.yng = true → v'.tab = none
  | [], v, v', h, hv => by simp only [rrun, Option.some.injEq] at hv; subst hv; exact h
  | r :: l, v, v', h, hv => by
    rw [rrun_cons] at hv
    cases hs : rstep v r with
    | none => rw [hs] at hv; cases hv
    | some v1 =>
      rw [hs] at hv
      exact yng_run l (yng_step h hs) hv

/-! ### The last point -/
theorem split4 : ∀ l : List Rec, (∀ r ∈ l, r.kind ≠ 4) ∨ ∃ pre P C, l = pre ++ P :: C ∧ P.kind = 4 ∧ ∀ r ∈ C, r.kind ≠ 4
  | [] => .inl (by simp)
  | r :: l => by
    rcases split4 l with h | ⟨pre, P, C, rfl, h1, h2⟩
    · by_cases k : r.kind = 4
      · exact .inr ⟨[], r, l, rfl, k, h⟩
      · exact .inl (fun x hx => by
          rcases List.mem_cons.1 hx with rfl | hx
          · exact k
          · exact h x hx)
    · exact .inr ⟨r :: pre, P, C, rfl, h1, h2⟩
theorem back_ex (si : RSt) (hsi : si.pcs = []) : ∀ (m : Nat) (pre : List Rec) (n : Nat) (s : RSt), pre.length = m → rrun si pre = some s → n ≤ s.pcs.length →
    ∃ A B, pre = A ++ B ∧ Calm B ∧ cd B = s.pcs.drop (s.pcs.length - n) ∧ (B = [] ∨ ∃ r B', B = r :: B' ∧ r.kind = 3) := by
  intro m
  induction m with
  | zero =>
    intro pre n s hm hr hn
    have : pre = [] := List.length_eq_zero_iff.1 hm
    subst this
    simp only [rrun, Option.some.injEq] at hr
    subst hr
    exact ⟨[], [], rfl, by simp [Calm], by simp [cd, hsi], .inl rfl⟩
  | succ m ih =>
    intro pre n s hm hr hn
    match n, hn with
    | 0, _ => exact ⟨pre, [], by simp, by simp [Calm], by simp [cd], .inl rfl⟩
    | n + 1, hn =>
      obtain ⟨pre', r, rfl⟩ : ∃ p r, pre = p ++ [r] := by
        have : pre ≠ [] := by intro e; rw [e] at hm; simp at hm
        exact ⟨pre.dropLast, pre.getLast this, (List.dropLast_concat_getLast this).symm⟩
      have hm' : pre'.length = m := by simpa using hm
      rw [rrun_append] at hr
      cases hs : rrun si pre' with
      | none => rw [hs] at hr; cases hr
      | some s' =>
        rw [hs] at hr
        simp only [rrun_cons] at hr
        cases ht : rstep s' r with
        | none => rw [ht] at hr; cases hr
        | some s'' =>
          rw [ht] at hr
          simp only [rrun, Option.some.injEq] at hr
          subst hr
          unfold rstep at ht
          by_cases k3 : r.kind = 3
          · rw [if_pos k3] at ht
            cases hp : (pcF r.data).isNone
            · rw [hp] at ht
              simp only [Bool.false_eq_true, if_false, Option.some.injEq] at ht
              subst ht
              simp only [List.length_append, List.length_singleton] at hn ⊢
              obtain ⟨A, B, h1, h2, h3, h4⟩ := ih pre' n s' hm' hs (by omega)
              refine ⟨A, B ++ [r], by rw [h1, List.append_assoc], fun x hx => ?_, ?_, ?_⟩
              · rcases List.mem_append.1 hx with hx | hx
                · exact h2 x hx
                · simp only [List.mem_singleton] at hx
                  subst hx
                  exact ⟨by omega, by omega, fun _ => by cases hq : pcF x.data <;> simp_all⟩
              · have e : s'.pcs.length + 1 - (n + 1) = s'.pcs.length - n := by omega
                rw [cd_append, h3, e, List.drop_append_of_le_length (by omega)]
                simp [cd, k3]
              · rcases h4 with rfl | ⟨q, B', rfl, hq⟩
                · exact .inr ⟨r, [], rfl, k3⟩
                · exact .inr ⟨q, B' ++ [r], rfl, hq⟩
            · rw [hp] at ht; simp at ht
          · rw [if_neg k3] at ht
            by_cases k4 : r.kind = 4
            · rw [if_pos k4] at ht
              exfalso
              unfold rpt at ht
              split at ht
              · cases ht
              · split at ht
                · split at ht
                  · simp only [Option.some.injEq] at ht; subst ht; simp at hn
                  · cases ht
                · simp only [Option.some.injEq] at ht; subst ht; simp at hn
            · rw [if_neg k4] at ht
              by_cases k2 : r.kind = 2
              · rw [if_pos k2] at ht
                exfalso
                unfold rbt at ht
                split at ht
                · cases ht
                · simp only [Option.some.injEq] at ht; subst ht; simp at hn
              · rw [if_neg k2] at ht
                simp only [Option.some.injEq] at ht
                subst ht
                obtain ⟨A, B, h1, h2, h3, h4⟩ := ih pre' (n + 1) s' hm' hs hn
                have hB : B ≠ [] := by
                  intro e
                  rw [e] at h3
                  have := congrArg List.length h3
                  simp only [cd, List.length_nil, List.length_drop] at this
                  omega
                refine ⟨A, B ++ [r], by rw [h1, List.append_assoc], fun x hx => ?_, ?_, ?_⟩
                · rcases List.mem_append.1 hx with hx | hx
                  · exact h2 x hx
                  · simp only [List.mem_singleton] at hx
                    subst hx
                    exact ⟨k2, k4, fun e => absurd e k3⟩
                · rw [cd_append, h3]; simp [cd, k3]
                · rcases h4 with rfl | ⟨q, B', rfl, hq⟩
                  · exact absurd rfl hB
                  · exact .inr ⟨q, B' ++ [r], rfl, hq⟩
/-- P35.3, in plain words: records parted at the last point and at its first piece. -/
theorem cuts_plain {l : List Rec} {s : RSt} {L : List KPair} (hr : rrun (rini 2) l = some s) (hL : s.tab = some L) :
    ∃ A B P C, l = A ++ (B ++ P :: C) ∧ P.kind = 4 ∧ (∀ r ∈ C, r.kind ≠ 4) ∧ Calm B ∧ (B = [] ∨ ∃ r B', B = r :: B' ∧ r.kind = 3) ∧ (decP P.data).2 = 0 ∧ (cd B).length = (decP P.data).1.1 ∧
      (∃ w, rrun (rini 1) (B ++ P :: C) = some w ∧ w.tab = some L) ∧
      ∀ X, Calm X → (∃ w, rrun (rini 2) (X ++ l) = some w ∧ w.tab = some L) ∧ ∃ w, rrun (rini 2) (A ++ X ++ (B ++ P :: C)) = some w ∧ w.tab = some L := by
  rcases split4 l with h | ⟨pre, P, C, rfl, k4, hC⟩
  · have := none_run l h rfl hr
    rw [hL] at this; cases this
  · rw [rrun_append] at hr
    cases hs0 : rrun (rini 2) pre with
    | none => rw [hs0] at hr; cases hr
    | some s0 =>
      rw [hs0] at hr
      simp only [rrun_cons] at hr
      cases hs1 : rstep s0 P with
      | none => rw [hs1] at hr; cases hr
      | some s1 =>
        rw [hs1] at hr
        simp only at hr
        have hy := yng_run pre (fun _ => rfl) hs0
        have k3 : P.kind ≠ 3 := by omega
        have hs1' := hs1
        unfold rstep at hs1'
        rw [if_neg k3, if_pos k4] at hs1'
        unfold rpt at hs1'
        by_cases e1 : (decP P.data).2 ≠ 0
        · rw [if_pos e1] at hs1'; cases hs1'
        rw [if_neg e1] at hs1'
        by_cases e2 : (jP s0 P.data).2 ≠ 0
        · rw [if_pos e2] at hs1'
          cases hyy : s0.yng
          · rw [hyy] at hs1'; simp at hs1'
          · rw [if_pos hyy] at hs1'
            simp only [Option.some.injEq] at hs1'
            have ht1 : s1.tab = none := by rw [← hs1']; exact hy hyy
            have := none_run C hC ht1 hr
            rw [hL] at this; cases this
        rw [if_neg e2] at hs1'
        simp only [Option.some.injEq] at hs1'
        have e2' : (jF ((decP P.data).1.1 : Nat) ((decP P.data).1.2.1 : Nat) (decP P.data).1.2.2 (lastP s0 P.data)).2 = 0 := by simpa [jP] using e2
        have hlen := (jF_ok e2').1
        have hlen' : (lastP s0 P.data).length = (decP P.data).1.1 := by omega
        have hge : (decP P.data).1.1 ≤ s0.pcs.length := by unfold lastP at hlen'; rw [List.length_drop] at hlen'; omega
        obtain ⟨A, B, rfl, cB, hcd, hB⟩ := back_ex (rini 2) rfl pre.length pre (decP P.data).1.1 s0 rfl hs0 hge
        have hcd' : cd B = lastP s0 P.data := hcd
        -- from any state with the pieces at its end
        have tail : ∀ (u : RSt) (X : List (List UInt8)), u.pcs = X ++ lastP s0 P.data → ∃ w, rrun u (P :: C) = some w ∧ w.tab = some L := fun u X hu => by
          have hl : lastP u P.data = lastP s0 P.data := by
            rw [show lastP u P.data = u.pcs.drop (u.pcs.length - (decP P.data).1.1) from rfl, hu, List.length_append, hlen']
            rw [show X.length + (decP P.data).1.1 - (decP P.data).1.1 = X.length by omega, List.drop_left]
          have hj : jP u P.data = jP s0 P.data := by unfold jP; rw [hl]
          have hu1 : rstep u P = some ⟨some (jP s0 P.data).1, u.pts + 1, 0, [], false⟩ := by
            unfold rstep
            rw [if_neg k3, if_pos k4]
            unfold rpt
            rw [if_neg e1, hj, if_neg e2]
          obtain ⟨w, h1, h2⟩ := sim_run C (u := ⟨some (jP s0 P.data).1, u.pts + 1, 0, [], false⟩) (v := s1) (by rw [← hs1']; exact ⟨rfl, rfl, rfl⟩) hr
          exact ⟨w, by rw [rrun_cons, hu1]; exact h1, by rw [h2.1]; exact hL⟩
        refine ⟨A, B, P, C, by simp, k4, hC, cB, hB, by simpa using e1, by rw [hcd', hlen'], ?_, fun X cX => ⟨?_, ?_⟩⟩
        · rw [rrun_append, rrun_calm B _ cB]
          exact tail _ [] (by simp [rini, hcd'])
        · obtain ⟨u0, h1, h2, h3, Y, h4⟩ := wd_run (A ++ B) (u := { rini 2 with pcs := (rini 2).pcs ++ cd X }) (v := rini 2) ⟨rfl, fun e => by simp [rini] at e, cd X, by simp [rini]⟩ hs0
          rw [rrun_append, rrun_calm X _ cX]
          simp only
          rw [rrun_append, h1]
          refine tail u0 (Y ++ s0.pcs.take (s0.pcs.length - (decP P.data).1.1)) ?_
          rw [h4, List.append_assoc]
          unfold lastP
          rw [List.take_append_drop]
        · rw [rrun_append] at hs0
          cases hA : rrun (rini 2) A with
          | none => rw [hA] at hs0; cases hs0
          | some sA =>
            rw [rrun_append, rrun_append, hA]
            simp only
            rw [rrun_calm X _ cX]
            simp only
            rw [rrun_append, rrun_calm B _ cB]
            exact tail _ (sA.pcs ++ cd X) (by simp [hcd'])
end Go.Proofs.YtdlcjibefbnckaaDoor.Wa
end

section
/- Replay, run. -/
namespace Go.Proofs.YtdlcjibefbnckaaDoor.Wa
open Go Go.Weave
set_option maxRecDepth 100000
set_option linter.unusedSimpArgs false
set_option linter.unusedVariables false
set_option linter.unusedSectionVars false

section
variable {Q : Res → Prop} {tg : Hid Q}
theorem at_putRp {h : Heap} {i : Nat} {tp w : AVal} {p b : Nat} {pc : HCell} {y : Bool} {x z : Int} {K : Heap → Tr Res} (p' b' : Nat) (hm : h.objs[i]? = some (rpO tp p b pc y)) (hx : x = (p' : Int)) (hz : z = (b' : Int)) :
    Run (putCellsK h i 0 3 [w, .int .i64 x, .int .i64 z] K) Q tg = Run (K (h.put i (rpO w p' b' pc y))) Q ⟨⟩ := by
  refine at_eq ?_
  subst hx hz
  unfold putCellsK
  have hm' : h.objs[i]? = some (.cells [HCell.val tp, HCell.val (.int .i64 p), HCell.val (.int .i64 b), pc, HCell.val (.bool y)]) := hm
  rw [Heap.cells_at hm' (by simp), hm']
  rfl
end
theorem jV_yes {x : List KPair × Nat} (h : x.2 = 0) : jV x = .sl false 3 (prs x.1) := by unfold jV; rw [if_pos h]
theorem jV_no {x : List KPair × Nat} (h : ¬ x.2 = 0) : jV x = .sl true 0 [] := by unfold jV; rw [if_neg h]
theorem rp_s0 {h : Heap} {i : Nat} {tp tp' : AVal} {p b : Nat} {pc : HCell} {y : Bool} (hm : h.objs[i]? = some (rpO tp p b pc y)) : h.setCell i 0 (HCell.val tp') = h.put i (rpO tp' p b pc y) := by rw [Heap.set_at hm]; rfl
theorem TabP.ext {m : Nat} {h h' : Heap} {i : Nat} {tp : AVal} (E : h.ext h') : ∀ {x : Option (List KPair)}, TabP m h i tp x → TabP m h' i tp x
  | none, H => H
  | some _, ⟨ti, tr, t, h1, h2, h3, h4, h5, h6⟩ => ⟨ti, tr, t, h1, h2.ext E, h3, h4, h5, h6⟩
theorem IsRp.ext {m : Nat} {h h' : Heap} {i : Nat} {tp : AVal} {pc : HCell} {s : RSt} (R : IsRp m h i tp pc s) (E : h.ext h') : IsRp m h' i tp pc s := ⟨E.get R.at', R.pc, R.tab.ext E, R.le⟩
/-- What was there before is as it was. -/
def Old (m : Nat) (h h' : Heap) : Prop := ∀ h0 : Heap, h0.objs.length = m → h0.ext h → h0.ext h'
theorem Old.refl (m : Nat) (h : Heap) : Old m h h := fun _ _ h => h
theorem Old.ext {m : Nat} {h h' : Heap} (E : h.ext h') : Old m h h' := fun _ _ h => h.trans E
theorem Old.trans {m : Nat} {a b c : Heap} (h1 : Old m a b) (h2 : Old m b c) : Old m a c := fun h0 e h => h2 h0 e (h1 h0 e h)
theorem Old.put {m : Nat} {h : Heap} {i : Nat} {o : Weave.Obj} (hi : m ≤ i) : Old m h (h.put i o) := fun _ e h => h.put (by omega)
theorem Old.tab {m : Nat} {h : Heap} {i j : Nat} {t : Nd} (hi : m ≤ i) (hj : m ≤ j) : Old m h (tabH h i j t) := by unfold tabH; exact (Old.put hj).trans (Old.put hi)

theorem whole_none (d m n : Nat) (h : Heap) (i : Nat) (tp : AVal) (pc : HCell) (s : RSt) (R : IsRp m h i tp pc s) (I : RInv n s) (hn : n ≤ 120) (b : List UInt8) (hb : b.length ≤ 600) (hr : rpt s b = none) (Q : Res → Prop) (tg : Hid Q) :
    Run (evFn Cw (d + 31020) 46 [.obj i 0, .sl false 0 (bys b)] h) Q tg = Q ([.bool false], h) := by
  obtain ⟨fl, hpc⟩ := R.pc.toA
  have c3 := rp_c3 R.at'
  have c4 := rp_c4 R.at'
  have rd := fun (Q : Res → Prop) (tg : Hid Q) => pdec_run (d := d + 31016) (f := false) (b := b) (h := h) (by omega) Q tg
  unfold ptA at rd
  have hP := (decP_le b).1
  have hlen := I.pcs
  unfold rpt at hr
  rw [F46_eq]
  by_cases e1 : (decP b).2 = 0
  · have b1 : ((((decP b).2 : Nat) : Int) != 0) = false := by simp [e1]
    rw [if_neg (by simp [e1])] at hr
    have w1 : IntKind.i64.wrap ((s.pcs.length : Int) - ((decP b).1.1 : Nat)) = (s.pcs.length : Int) - ((decP b).1.1 : Nat) := wrap_i64_id (by omega) (by omega)
    have w2 : (if ((s.pcs.length : Int) - ((decP b).1.1 : Nat)) > 0 then ((s.pcs.length : Int) - ((decP b).1.1 : Nat)) else 0) = ((s.pcs.length - (decP b).1.1 : Nat) : Int) := by split <;> omega
    have rj := fun (Q : Res → Prop) (tg : Hid Q) => join_run (d := d + 31013) (f := false) (x0 := ((decP b).1.1 : Nat)) (x1 := ((decP b).1.2.1 : Nat)) (x2 := (decP b).1.2.2) (ps := lastP s b) (h := h) (Q := Q) (tg := tg) (by unfold lastP; rw [List.length_drop]; omega) (fun x hx => by have := I.len x (List.mem_of_mem_drop hx); omega)
    by_cases e2 : (jP s b).2 = 0
    · rw [if_neg (by simp [e2])] at hr; cases hr
    · rw [if_pos e2] at hr
      have hy : s.yng = false := by
        cases hy : s.yng
        · rfl
        · rw [hy] at hr; simp at hr
      have ej : jV (jF ((decP b).1.1 : Nat) ((decP b).1.2.1 : Nat) (decP b).1.2.2 (lastP s b)) = .sl true 0 [] := jV_no e2
      have b2 : ((((jF ((decP b).1.1 : Nat) ((decP b).1.2.1 : Nat) (decP b).1.2.2 (lastP s b)).2 : Nat) : Int) != 0) = true := by simp; exact e2
      rw [ej] at rj
      unfold lastP at rj b2
      rw [hy] at c4
      simp (disch := (first | assumption | (simp only [Bool.and_eq_true, Bool.and_eq_false_iff, decide_eq_true_eq, decide_eq_false_iff_not, bne_iff_ne, beq_iff_eq, beq_eq_false_iff_ne, bne_eq_false_iff_eq, Bool.not_eq_true', Bool.not_eq_false', bys_length, List.length_append, List.length_cons, List.length_nil, List.length_map, List.length_drop, List.length_take, Int.natCast_add, wrap_i64_eq, wrap_u64, wrap_u8, ne_eq, not_true_eq_false, not_false_eq_true, Nat.zero_add, Nat.mul_one] <;> omega) | omega | (simp; done) | (simp; omega))) only [↓CR, MC, ↓PR, MR, rd, b1, c3, hpc, flds_length, w1, w2, part_fd, rj, b2, c4]
  · have b1 : ((((decP b).2 : Nat) : Int) != 0) = true := by simp; exact e1
    simp (disch := (first | assumption | (simp only [Bool.and_eq_true, Bool.and_eq_false_iff, decide_eq_true_eq, decide_eq_false_iff_not, bne_iff_ne, beq_iff_eq, beq_eq_false_iff_ne, bne_eq_false_iff_eq, Bool.not_eq_true', Bool.not_eq_false', bys_length, List.length_append, List.length_cons, List.length_nil, List.length_map, List.length_drop, List.length_take, Int.natCast_add, wrap_i64_eq, wrap_u64, wrap_u8, ne_eq, not_true_eq_false, not_false_eq_true, Nat.zero_add, Nat.mul_one] <;> omega) | omega | (simp; done) | (simp; omega))) only [↓CR, MC, ↓PR, MR, rd, b1]
theorem whole_some (d m n : Nat) (h : Heap) (i : Nat) (tp : AVal) (pc : HCell) (s s' : RSt) (R : IsRp m h i tp pc s) (I : RInv n s) (hn : n ≤ 120) (b : List UInt8) (hb : b.length ≤ 600) (hr : rpt s b = some s') :
    ∃ h' tp', Old m h h' ∧ h'.objs[i]? = some (rpO tp' s'.pts s'.bts pc s.yng) ∧ TabP m h' i tp' s'.tab ∧ s'.pcs = [] ∧ s'.yng = false ∧ ∀ (Q : Res → Prop) (tg : Hid Q),
      Run (evFn Cw (d + 31020) 46 [.obj i 0, .sl false 0 (bys b)] h) Q tg = Q ([.bool true], h') := by
  obtain ⟨fl, hpc⟩ := R.pc.toA
  have c3 := rp_c3 R.at'
  have c4 := rp_c4 R.at'
  have c1 := rp_c1 R.at'
  have rd := fun (Q : Res → Prop) (tg : Hid Q) => pdec_run (d := d + 31016) (f := false) (b := b) (h := h) (by omega) Q tg
  unfold ptA at rd
  have hP := (decP_le b).1
  have hlen := I.pcs
  unfold rpt at hr
  by_cases e1 : (decP b).2 = 0
  · have b1 : ((((decP b).2 : Nat) : Int) != 0) = false := by simp [e1]
    rw [if_neg (by simp [e1])] at hr
    have w1 : IntKind.i64.wrap ((s.pcs.length : Int) - ((decP b).1.1 : Nat)) = (s.pcs.length : Int) - ((decP b).1.1 : Nat) := wrap_i64_id (by omega) (by omega)
    have w2 : (if ((s.pcs.length : Int) - ((decP b).1.1 : Nat)) > 0 then ((s.pcs.length : Int) - ((decP b).1.1 : Nat)) else 0) = ((s.pcs.length - (decP b).1.1 : Nat) : Int) := by split <;> omega
    have rj := fun (Q : Res → Prop) (tg : Hid Q) => join_run (d := d + 31013) (f := false) (x0 := ((decP b).1.1 : Nat)) (x1 := ((decP b).1.2.1 : Nat)) (x2 := (decP b).1.2.2) (ps := lastP s b) (h := h) (Q := Q) (tg := tg) (by unfold lastP; rw [List.length_drop]; omega) (fun x hx => by have := I.len x (List.mem_of_mem_drop hx); omega)
    by_cases e2 : (jP s b).2 = 0
    · rw [if_neg (by simp [e2])] at hr
      simp only [Option.some.injEq] at hr
      subst hr
      obtain ⟨j1, j2, j3⟩ := jF_ok (show (jF ((decP b).1.1 : Nat) ((decP b).1.2.1 : Nat) (decP b).1.2.2 (lastP s b)).2 = 0 from e2)
      have jl := pcsF_len2 _ j2
      have jn : (lastP s b).length ≤ n := by unfold lastP; rw [List.length_drop]; omega
      simp only [List.length_nil] at jl
      obtain ⟨js, jk⟩ := right_srt j3
      obtain ⟨t, h1, ti, tr, g1, g2, g3, g4, g5, ro⟩ := tabof_run (d + 7) false (jP s b).1 js (show (jF _ _ _ _).1.length ≤ _ by omega) (fun p hp => ⟨by have := (jk p hp).1; omega, by have := (jk p hp).2; omega⟩) h
      have hi := Heap.lt_of R.at'
      have m1 := g3.get R.at'
      have hpt := I.pts
      have ew := succ_wrap (i := s.pts) (by omega)
      refine ⟨h1.put i (rpO (.obj ti 0) (s.pts + 1) 0 pc s.yng), .obj ti 0, (Old.ext g3).trans (Old.put R.le), Heap.put_get m1, ⟨ti, tr, t, rfl, g4.put (by omega) (by omega), g5, by omega, by omega, by have := R.le; omega, by have := R.le; omega⟩, rfl, rfl, fun Q tg => ?_⟩
      have ej : jV (jF ((decP b).1.1 : Nat) ((decP b).1.2.1 : Nat) (decP b).1.2.2 (lastP s b)) = .sl false 3 (prs (jP s b).1) := jV_yes e2
      have b2 : ((((jF ((decP b).1.1 : Nat) ((decP b).1.2.1 : Nat) (decP b).1.2.2 (lastP s b)).2 : Nat) : Int) != 0) = false := by simp; exact e2
      rw [ej] at rj
      unfold lastP at rj b2
      have c1' := rp_c1 m1
      rw [F46_eq]
      simp (disch := (first | assumption | (simp only [Bool.and_eq_true, Bool.and_eq_false_iff, decide_eq_true_eq, decide_eq_false_iff_not, bne_iff_ne, beq_iff_eq, beq_eq_false_iff_ne, bne_eq_false_iff_eq, Bool.not_eq_true', Bool.not_eq_false', bys_length, List.length_append, List.length_cons, List.length_nil, List.length_map, List.length_drop, List.length_take, Int.natCast_add, wrap_i64_eq, wrap_u64, wrap_u8, ne_eq, not_true_eq_false, not_false_eq_true, Nat.zero_add, Nat.mul_one] <;> omega) | omega | (simp; done) | (simp; omega))) only [↓CR, MC, ↓PR, MR, rd, b1, c3, hpc, flds_length, w1, w2, part_fd, rj, b2, ro, c1, c1', isAgg_obj, Bool.not_false, at_putRp (s.pts + 1) 0 m1 ew e0.symm]
    · rw [if_pos e2] at hr
      have hy : s.yng = true := by
        cases hy : s.yng
        · rw [hy] at hr; simp at hr
        · rfl
      rw [if_pos hy] at hr
      simp only [Option.some.injEq] at hr
      subst hr
      have ej : jV (jF ((decP b).1.1 : Nat) ((decP b).1.2.1 : Nat) (decP b).1.2.2 (lastP s b)) = .sl true 0 [] := jV_no e2
      have b2 : ((((jF ((decP b).1.1 : Nat) ((decP b).1.2.1 : Nat) (decP b).1.2.2 (lastP s b)).2 : Nat) : Int) != 0) = true := by simp; exact e2
      rw [ej] at rj
      unfold lastP at rj b2
      refine ⟨h, tp, Old.refl m h, R.at', R.tab, rfl, rfl, fun Q tg => ?_⟩
      rw [hy] at c4
      rw [F46_eq]
      simp (disch := (first | assumption | (simp only [Bool.and_eq_true, Bool.and_eq_false_iff, decide_eq_true_eq, decide_eq_false_iff_not, bne_iff_ne, beq_iff_eq, beq_eq_false_iff_ne, bne_eq_false_iff_eq, Bool.not_eq_true', Bool.not_eq_false', bys_length, List.length_append, List.length_cons, List.length_nil, List.length_map, List.length_drop, List.length_take, Int.natCast_add, wrap_i64_eq, wrap_u64, wrap_u8, ne_eq, not_true_eq_false, not_false_eq_true, Nat.zero_add, Nat.mul_one] <;> omega) | omega | (simp; done) | (simp; omega))) only [↓CR, MC, ↓PR, MR, rd, b1, c3, hpc, flds_length, w1, w2, part_fd, rj, b2, c4]
  · rw [if_pos e1] at hr; cases hr
theorem rapply_none (d m : Nat) (h : Heap) (i : Nat) (tp : AVal) (pc : HCell) (s : RSt) (R : IsRp m h i tp pc s) (b : List UInt8) (hb : b.length ≤ 600) (hr : rbt s b = none) :
    ∃ h', h.ext h' ∧ ∀ (Q : Res → Prop) (tg : Hid Q), Run (evFn Cw (d + 31022) 47 [.obj i 0, .sl false 0 (bys b)] h) Q tg = Q ([.bool false], h') := by
  obtain ⟨h1, E, r⟩ := bdecode_run (d + 31016) false b (by omega) h
  unfold rbt at hr
  split at hr
  · rename_i e
    have b1 : ((((bdec (b.length + 1) b []).2 : Nat) : Int) != 0) = true := by simp; exact e
    have ev : bV (bdec (b.length + 1) b []) = .sl true 0 [] := by unfold bV; rw [if_neg e]
    rw [ev] at r
    refine ⟨h1, E, fun Q tg => ?_⟩
    rw [F47_eq]
    simp (disch := (first | assumption | (simp only [Bool.and_eq_true, Bool.and_eq_false_iff, decide_eq_true_eq, decide_eq_false_iff_not, bne_iff_ne, beq_iff_eq, beq_eq_false_iff_ne, bne_eq_false_iff_eq, Bool.not_eq_true', Bool.not_eq_false', bys_length, List.length_append, List.length_cons, List.length_nil, List.length_map, List.length_drop, List.length_take, Int.natCast_add, wrap_i64_eq, wrap_u64, wrap_u8, ne_eq, not_true_eq_false, not_false_eq_true, Nat.zero_add, Nat.mul_one] <;> omega) | omega | (simp; done) | (simp; omega))) only [↓CR, MC, ↓PR, MR, r, b1]
  · cases hr
theorem rapply_some (d m n : Nat) (h : Heap) (i : Nat) (tp : AVal) (pc : HCell) (s s' : RSt) (R : IsRp m h i tp pc s) (I : RInv n s) (hn : n ≤ 120) (b : List UInt8) (hb : b.length ≤ 600) (hr : rbt s b = some s') :
    ∃ h' tp', Old m h h' ∧ h'.objs[i]? = some (rpO tp' s'.pts s'.bts pc s.yng) ∧ TabP m h' i tp' s'.tab ∧ s'.pcs = [] ∧ s'.yng = false ∧ ∀ (Q : Res → Prop) (tg : Hid Q),
      Run (evFn Cw (d + 31022) 47 [.obj i 0, .sl false 0 (bys b)] h) Q tg = Q ([.bool true], h') := by
  obtain ⟨h1, E, r⟩ := bdecode_run (d + 31016) false b (by omega) h
  have R1 := R.ext E
  unfold rbt at hr
  split at hr
  · cases hr
  · rename_i e
    have e' : (bdec (b.length + 1) b []).2 = 0 := by simpa using e
    have b1 : ((((bdec (b.length + 1) b []).2 : Nat) : Int) != 0) = false := by simp [e']
    have ev : bV (bdec (b.length + 1) b []) = .sl false 4 (kops (bdec (b.length + 1) b []).1) := by unfold bV; rw [if_pos e']
    rw [ev] at r
    have ho : (bdec (b.length + 1) b []).1.length ≤ 8 := bdec_ok (b.length + 1) b [] _ (Prod.ext rfl e')
    simp only [Option.some.injEq] at hr
    subst hr
    have c0 := rp_c0 R1.at'
    cases ht : s.tab with
    | none =>
      have et : tp = .nilp := by have := R.tab; rw [ht] at this; exact this
      subst et
      refine ⟨h1, .nilp, Old.ext E, R1.at', rfl, rfl, rfl, fun Q tg => ?_⟩
      rw [F47_eq]
      simp (disch := (first | assumption | (simp only [Bool.and_eq_true, Bool.and_eq_false_iff, decide_eq_true_eq, decide_eq_false_iff_not, bne_iff_ne, beq_iff_eq, beq_eq_false_iff_ne, bne_eq_false_iff_eq, Bool.not_eq_true', Bool.not_eq_false', bys_length, List.length_append, List.length_cons, List.length_nil, List.length_map, List.length_drop, List.length_take, Int.natCast_add, wrap_i64_eq, wrap_u64, wrap_u8, ne_eq, not_true_eq_false, not_false_eq_true, Nat.zero_add, Nat.mul_one] <;> omega) | omega | (simp; done) | (simp; omega))) only [↓CR, MC, ↓PR, MR, r, b1, c0, isPtr_nilp, isNilp_nilp, Bool.not_true]
    | some L =>
      have hT := R1.tab
      rw [ht] at hT
      obtain ⟨ti, tr, t, rfl, T, hL, n1, n2, m1, m2⟩ := hT
      have hl := (I.tab L ht).2
      obtain ⟨t', T', hL', ra⟩ := tabapply_run d ti tr false (bdec (b.length + 1) b []).1 t h1 T (by rw [hL]; omega)
      have k1 : (tabH h1 ti tr t').objs[i]? = some (rpO (.obj ti 0) s.pts s.bts pc s.yng) := by rw [tabH_ne (Ne.symm n1) (Ne.symm n2)]; exact R1.at'
      have hbt := I.bts
      have ew := succ_wrap (i := s.bts) (by omega)
      have c2 := rp_c2 k1
      have s2 := rp_s2 (b' := s.bts + 1) k1
      refine ⟨(tabH h1 ti tr t').put i (rpO (.obj ti 0) s.pts (s.bts + 1) pc s.yng), .obj ti 0, (Old.ext E).trans ((Old.tab m1 m2).trans (Old.put R.le)), ?_, ⟨ti, tr, t', rfl, T'.put n1 n2, by rw [hL', hL], n1, n2, m1, m2⟩, rfl, rfl, fun Q tg => ?_⟩
      · exact Heap.put_get k1
      · rw [F47_eq]
        simp (disch := (first | assumption | (simp only [Bool.and_eq_true, Bool.and_eq_false_iff, decide_eq_true_eq, decide_eq_false_iff_not, bne_iff_ne, beq_iff_eq, beq_eq_false_iff_ne, bne_eq_false_iff_eq, Bool.not_eq_true', Bool.not_eq_false', bys_length, List.length_append, List.length_cons, List.length_nil, List.length_map, List.length_drop, List.length_take, Int.natCast_add, wrap_i64_eq, wrap_u64, wrap_u8, ne_eq, not_true_eq_false, not_false_eq_true, Nat.zero_add, Nat.mul_one] <;> omega) | omega | (simp; done) | (simp; omega))) only [↓CR, MC, ↓PR, MR, r, b1, c0, isPtr_obj, isNilp_obj, Bool.not_false, ra, c2, ew, s2]
end Go.Proofs.YtdlcjibefbnckaaDoor.Wa
end

section
/- Replay, run: a record; all records. -/
namespace Go.Proofs.YtdlcjibefbnckaaDoor.Wa
open Go Go.Weave
set_option maxRecDepth 100000
set_option linter.unusedSimpArgs false
set_option linter.unusedVariables false
set_option linter.unusedSectionVars false

theorem lent_end {h : Heap} {i : Nat} {tp : AVal} {pc : HCell} {s : RSt} (hm : h.objs[i]? = some (rpO tp s.pts s.bts pc s.yng)) (hp : pcOK pc s.pcs) {b : List UInt8} {x : List AVal} {K : Heap → Tr Res} {Q : Res → Prop} {tg : Hid Q}
    (hK : ∀ h2 : Heap, (∃ pc', h2.objs[i]? = some (rpO tp s.pts s.bts pc' s.yng)) → (∀ o, h2.put i o = h.put i o) → Run (K h2) Q ⟨⟩ = Run (Tr.ret (x, h.put i (rpO tp s.pts s.bts (.own 0 (flds (s.pcs ++ [b]))) s.yng))) Q ⟨⟩) :
    Run (lentK h i 3 0 (flds s.pcs) K) Q tg = Q (x, h.put i (rpO tp s.pts s.bts (.own 0 (flds (s.pcs ++ [b]))) s.yng)) := by
  have c3 := rp_c3 hm
  rcases hp with rfl | ⟨rfl, e⟩
  · rw [at_lentK_own c3, rp_s3 hm, hK _ ⟨_, Heap.put_get hm⟩ (fun o => Heap.put_put _ _ _ _), at_ret]
  · rw [at_lentK_full c3, hK _ ⟨_, hm⟩ (fun o => rfl), at_ret]
theorem one_none (d m n : Nat) (h : Heap) (i : Nat) (tp : AVal) (pc : HCell) (s : RSt) (R : IsRp m h i tp pc s) (I : RInv n s) (hn : n ≤ 120) (r : Rec) (hf : r.full = false) (hb : r.data.length ≤ 600) (hr : rstep s r = none) :
    ∃ h', Old m h h' ∧ ∀ (Q : Res → Prop) (tg : Hid Q), Run (evFn Cw (d + 31023) 30 [.obj i 0, .agg [.int .i64 r.kind, .int .i64 r.chain, .int .i64 r.lsn, .int .i64 r.prev, .sl false 0 (bys r.data)]] h) Q tg = Q ([.bool false], h') := by
  unfold rstep at hr
  by_cases k3 : r.kind = 3
  · rw [if_pos k3] at hr
    have hp : pcF r.data = none := by
      cases hp : pcF r.data
      · rfl
      · rw [hp] at hr; simp at hr
    have hps : pcsF [r.data] [] = none := by unfold pcsF; rw [hp]
    have ro := fun (Q : Res → Prop) (tg : Hid Q) => ptof_none (d := d + 31016) (f := true) (ps := [r.data]) (by simp) (fun b hb' => by simp at hb'; subst hb'; omega) hps (h := h) (Q := Q) (tg := tg)
    have b3 : ((r.kind : Int) == 3) = true := by simp [k3]
    obtain ⟨fl, hpc⟩ := R.pc.toA
    have c3 := rp_c3 R.at'
    have hl := I.pcs
    have ef : flds [r.data] = [.sl false 0 (bys r.data)] := of_eq_true (eq_self _)
    rw [ef] at ro
    have s3 : ∀ (h2 : Heap), (∃ pc', h2.objs[i]? = some (rpO tp s.pts s.bts pc' s.yng)) → h2.setCell i 3 (.own 0 (flds (s.pcs ++ [r.data]))) = h2.put i (rpO tp s.pts s.bts (.own 0 (flds (s.pcs ++ [r.data]))) s.yng) := fun h2 ⟨pc', e⟩ => rp_s3 e
    refine ⟨h.put i (rpO tp s.pts s.bts (.own 0 (flds (s.pcs ++ [r.data]))) s.yng), Old.put R.le, fun Q tg => ?_⟩
    rw [F30_eq]
    have z2 : ((2 : Int) == 0) = false := rfl
    simp (disch := (first | assumption | (simp only [Bool.and_eq_true, Bool.and_eq_false_iff, decide_eq_true_eq, decide_eq_false_iff_not, bne_iff_ne, beq_iff_eq, beq_eq_false_iff_ne, bne_eq_false_iff_eq, Bool.not_eq_true', Bool.not_eq_false', bys_length, List.length_append, List.length_cons, List.length_nil, List.length_map, List.length_drop, List.length_take, Int.natCast_add, wrap_i64_eq, wrap_u64, wrap_u8, ne_eq, not_true_eq_false, not_false_eq_true, Nat.zero_add, Nat.mul_one] <;> omega) | omega | (simp; done) | (simp; omega))) only [↓CR, MC, ↓PR, MR, b3, ro, c3, hpc, flds_length, flds_snoc]
    refine lent_end R.at' R.pc fun h2 hm2 hp2 => ?_
    have c4 : ∃ c, h2.cell? i 3 = some c := by obtain ⟨pc', e⟩ := hm2; exact ⟨pc', rp_c3 e⟩
    obtain ⟨c, c4⟩ := c4
    simp (disch := (first | assumption | (simp only [Bool.and_eq_true, Bool.and_eq_false_iff, decide_eq_true_eq, decide_eq_false_iff_not, bne_iff_ne, beq_iff_eq, beq_eq_false_iff_ne, bne_eq_false_iff_eq, Bool.not_eq_true', Bool.not_eq_false', bys_length, List.length_append, List.length_cons, List.length_nil, List.length_map, List.length_drop, List.length_take, Int.natCast_add, wrap_i64_eq, wrap_u64, wrap_u8, ne_eq, not_true_eq_false, not_false_eq_true, Nat.zero_add, Nat.mul_one] <;> omega) | omega | (simp; done) | (simp; omega))) only [↓CR, MC, ↓PR, MR, c4, s3 h2 hm2, hp2, z2]
  · rw [if_neg k3] at hr
    have b3 : ((r.kind : Int) == 3) = false := by simp [k3]
    by_cases k4 : r.kind = 4
    · rw [if_pos k4] at hr
      have b4 : ((r.kind : Int) == 4) = true := by simp [k4]
      have rw' := fun (Q : Res → Prop) (tg : Hid Q) => whole_none (d + 2) m n h i tp pc s R I hn r.data hb hr Q tg
      refine ⟨h, Old.refl m h, fun Q tg => ?_⟩
      rw [F30_eq]
      simp (disch := (first | assumption | (simp only [Bool.and_eq_true, Bool.and_eq_false_iff, decide_eq_true_eq, decide_eq_false_iff_not, bne_iff_ne, beq_iff_eq, beq_eq_false_iff_ne, bne_eq_false_iff_eq, Bool.not_eq_true', Bool.not_eq_false', bys_length, List.length_append, List.length_cons, List.length_nil, List.length_map, List.length_drop, List.length_take, Int.natCast_add, wrap_i64_eq, wrap_u64, wrap_u8, ne_eq, not_true_eq_false, not_false_eq_true, Nat.zero_add, Nat.mul_one] <;> omega) | omega | (simp; done) | (simp; omega))) only [↓CR, MC, ↓PR, MR, b3, b4, rw', Bool.not_false]
    · rw [if_neg k4] at hr
      have b4 : ((r.kind : Int) == 4) = false := by simp [k4]
      by_cases k2 : r.kind = 2
      · rw [if_pos k2] at hr
        have b2 : ((r.kind : Int) == 2) = true := by simp [k2]
        obtain ⟨h1, E, ra⟩ := rapply_none d m h i tp pc s R r.data hb hr
        have m1 := E.get R.at'
        have c3 := rp_c3 m1
        have s3 := rp_s3 (pc' := .val (.sl true 0 [])) m1
        have m2 : (h1.put i (rpO tp s.pts s.bts (.val (.sl true 0 [])) s.yng)).objs[i]? = some (rpO tp s.pts s.bts (.val (.sl true 0 [])) s.yng) := Heap.put_get m1
        have c4 := rp_c4 m2
        have s4 := rp_s4 (y' := false) m2
        rw [Heap.put_put] at s4
        refine ⟨h1.put i (rpO tp s.pts s.bts (.val (.sl true 0 [])) false), (Old.ext E).trans (Old.put R.le), fun Q tg => ?_⟩
        rw [F30_eq]
        simp (disch := (first | assumption | (simp only [Bool.and_eq_true, Bool.and_eq_false_iff, decide_eq_true_eq, decide_eq_false_iff_not, bne_iff_ne, beq_iff_eq, beq_eq_false_iff_ne, bne_eq_false_iff_eq, Bool.not_eq_true', Bool.not_eq_false', bys_length, List.length_append, List.length_cons, List.length_nil, List.length_map, List.length_drop, List.length_take, Int.natCast_add, wrap_i64_eq, wrap_u64, wrap_u8, ne_eq, not_true_eq_false, not_false_eq_true, Nat.zero_add, Nat.mul_one] <;> omega) | omega | (simp; done) | (simp; omega))) only [↓CR, MC, ↓PR, MR, b3, b4, b2, ra, c3, s3, c4, s4]
      · rw [if_neg k2] at hr; cases hr
theorem one_some (d m n : Nat) (h : Heap) (i : Nat) (tp : AVal) (pc : HCell) (s s' : RSt) (R : IsRp m h i tp pc s) (I : RInv n s) (hn : n ≤ 120) (r : Rec) (hf : r.full = false) (hb : r.data.length ≤ 600) (hr : rstep s r = some s') :
    ∃ h' tp' pc', Old m h h' ∧ IsRp m h' i tp' pc' s' ∧ ∀ (Q : Res → Prop) (tg : Hid Q), Run (evFn Cw (d + 31023) 30 [.obj i 0, .agg [.int .i64 r.kind, .int .i64 r.chain, .int .i64 r.lsn, .int .i64 r.prev, .sl false 0 (bys r.data)]] h) Q tg = Q ([.bool true], h') := by
  unfold rstep at hr
  by_cases k3 : r.kind = 3
  · rw [if_pos k3] at hr
    cases hp : pcF r.data with
    | none => rw [hp] at hr; simp at hr
    | some l =>
      rw [hp] at hr
      simp only [Option.isNone_some, Bool.false_eq_true, if_false, Option.some.injEq] at hr
      subst hr
      have hps : pcsF [r.data] [] = some ([] ++ l) := by unfold pcsF; rw [hp]; rfl
      have ro := fun (Q : Res → Prop) (tg : Hid Q) => ptof_some (d := d + 31016) (f := true) (ps := [r.data]) (by simp) hps (h := h) (Q := Q) (tg := tg)
      have b3 : ((r.kind : Int) == 3) = true := by simp [k3]
      obtain ⟨fl, hpc⟩ := R.pc.toA
      have c3 := rp_c3 R.at'
      have hl := I.pcs
      have ef : flds [r.data] = [.sl false 0 (bys r.data)] := of_eq_true (eq_self _)
      rw [ef] at ro
      have s3 : ∀ (h2 : Heap), (∃ pc', h2.objs[i]? = some (rpO tp s.pts s.bts pc' s.yng)) → h2.setCell i 3 (.own 0 (flds (s.pcs ++ [r.data]))) = h2.put i (rpO tp s.pts s.bts (.own 0 (flds (s.pcs ++ [r.data]))) s.yng) := fun h2 ⟨pc', e⟩ => rp_s3 e
      refine ⟨h.put i (rpO tp s.pts s.bts (.own 0 (flds (s.pcs ++ [r.data]))) s.yng), tp, .own 0 (flds (s.pcs ++ [r.data])), Old.put R.le, ⟨Heap.put_get R.at', .inl rfl, R.tab.put, R.le⟩, fun Q tg => ?_⟩
      rw [F30_eq]
      have z2 : ((0 : Int) == 0) = true := rfl
      simp (disch := (first | assumption | (simp only [Bool.and_eq_true, Bool.and_eq_false_iff, decide_eq_true_eq, decide_eq_false_iff_not, bne_iff_ne, beq_iff_eq, beq_eq_false_iff_ne, bne_eq_false_iff_eq, Bool.not_eq_true', Bool.not_eq_false', bys_length, List.length_append, List.length_cons, List.length_nil, List.length_map, List.length_drop, List.length_take, Int.natCast_add, wrap_i64_eq, wrap_u64, wrap_u8, ne_eq, not_true_eq_false, not_false_eq_true, Nat.zero_add, Nat.mul_one] <;> omega) | omega | (simp; done) | (simp; omega))) only [↓CR, MC, ↓PR, MR, b3, ro, c3, hpc, flds_length, flds_snoc]
      refine lent_end R.at' R.pc fun h2 hm2 hp2 => ?_
      have c4 : ∃ c, h2.cell? i 3 = some c := by obtain ⟨pc', e⟩ := hm2; exact ⟨pc', rp_c3 e⟩
      obtain ⟨c, c4⟩ := c4
      simp (disch := (first | assumption | (simp only [Bool.and_eq_true, Bool.and_eq_false_iff, decide_eq_true_eq, decide_eq_false_iff_not, bne_iff_ne, beq_iff_eq, beq_eq_false_iff_ne, bne_eq_false_iff_eq, Bool.not_eq_true', Bool.not_eq_false', bys_length, List.length_append, List.length_cons, List.length_nil, List.length_map, List.length_drop, List.length_take, Int.natCast_add, wrap_i64_eq, wrap_u64, wrap_u8, ne_eq, not_true_eq_false, not_false_eq_true, Nat.zero_add, Nat.mul_one] <;> omega) | omega | (simp; done) | (simp; omega))) only [↓CR, MC, ↓PR, MR, c4, s3 h2 hm2, hp2, z2]
  · rw [if_neg k3] at hr
    have b3 : ((r.kind : Int) == 3) = false := by simp [k3]
    have fin : ∀ (h1 : Heap) (tp' : AVal), Old m h h1 → h1.objs[i]? = some (rpO tp' s'.pts s'.bts pc s.yng) → TabP m h1 i tp' s'.tab → s'.pcs = [] → s'.yng = false →
        Old m h (h1.put i (rpO tp' s'.pts s'.bts (.val (.sl true 0 [])) false)) ∧ IsRp m (h1.put i (rpO tp' s'.pts s'.bts (.val (.sl true 0 [])) false)) i tp' (.val (.sl true 0 [])) s' := fun h1 tp' O hm T hp hy =>
      ⟨O.trans (Old.put R.le), by rw [hy]; exact Heap.put_get hm, .inr ⟨rfl, hp⟩, T.put, R.le⟩
    by_cases k4 : r.kind = 4
    · rw [if_pos k4] at hr
      have b4 : ((r.kind : Int) == 4) = true := by simp [k4]
      obtain ⟨h1, tp', O, m1, T, hp, hy, rw'⟩ := whole_some (d + 2) m n h i tp pc s s' R I hn r.data hb hr
      obtain ⟨f1, f2⟩ := fin h1 tp' O m1 T hp hy
      have c3 := rp_c3 m1
      have s3 := rp_s3 (pc' := .val (.sl true 0 [])) m1
      have m2 : (h1.put i (rpO tp' s'.pts s'.bts (.val (.sl true 0 [])) s.yng)).objs[i]? = some (rpO tp' s'.pts s'.bts (.val (.sl true 0 [])) s.yng) := Heap.put_get m1
      have c4 := rp_c4 m2
      have s4 := rp_s4 (y' := false) m2
      rw [Heap.put_put] at s4
      refine ⟨_, tp', _, f1, f2, fun Q tg => ?_⟩
      rw [F30_eq]
      simp (disch := (first | assumption | (simp only [Bool.and_eq_true, Bool.and_eq_false_iff, decide_eq_true_eq, decide_eq_false_iff_not, bne_iff_ne, beq_iff_eq, beq_eq_false_iff_ne, bne_eq_false_iff_eq, Bool.not_eq_true', Bool.not_eq_false', bys_length, List.length_append, List.length_cons, List.length_nil, List.length_map, List.length_drop, List.length_take, Int.natCast_add, wrap_i64_eq, wrap_u64, wrap_u8, ne_eq, not_true_eq_false, not_false_eq_true, Nat.zero_add, Nat.mul_one] <;> omega) | omega | (simp; done) | (simp; omega))) only [↓CR, MC, ↓PR, MR, b3, b4, rw', Bool.not_true, c3, s3, c4, s4]
    · rw [if_neg k4] at hr
      have b4 : ((r.kind : Int) == 4) = false := by simp [k4]
      by_cases k2 : r.kind = 2
      · rw [if_pos k2] at hr
        have b2 : ((r.kind : Int) == 2) = true := by simp [k2]
        obtain ⟨h1, tp', O, m1, T, hp, hy, ra⟩ := rapply_some d m n h i tp pc s s' R I hn r.data hb hr
        obtain ⟨f1, f2⟩ := fin h1 tp' O m1 T hp hy
        have c3 := rp_c3 m1
        have s3 := rp_s3 (pc' := .val (.sl true 0 [])) m1
        have m2 : (h1.put i (rpO tp' s'.pts s'.bts (.val (.sl true 0 [])) s.yng)).objs[i]? = some (rpO tp' s'.pts s'.bts (.val (.sl true 0 [])) s.yng) := Heap.put_get m1
        have c4 := rp_c4 m2
        have s4 := rp_s4 (y' := false) m2
        rw [Heap.put_put] at s4
        refine ⟨_, tp', _, f1, f2, fun Q tg => ?_⟩
        rw [F30_eq]
        simp (disch := (first | assumption | (simp only [Bool.and_eq_true, Bool.and_eq_false_iff, decide_eq_true_eq, decide_eq_false_iff_not, bne_iff_ne, beq_iff_eq, beq_eq_false_iff_ne, bne_eq_false_iff_eq, Bool.not_eq_true', Bool.not_eq_false', bys_length, List.length_append, List.length_cons, List.length_nil, List.length_map, List.length_drop, List.length_take, Int.natCast_add, wrap_i64_eq, wrap_u64, wrap_u8, ne_eq, not_true_eq_false, not_false_eq_true, Nat.zero_add, Nat.mul_one] <;> omega) | omega | (simp; done) | (simp; omega))) only [↓CR, MC, ↓PR, MR, b3, b4, b2, ra, c3, s3, c4, s4]
      · rw [if_neg k2] at hr
        have b2 : ((r.kind : Int) == 2) = false := by simp [k2]
        simp only [Option.some.injEq] at hr
        subst hr
        refine ⟨h, tp, pc, Old.refl m h, R, fun Q tg => ?_⟩
        rw [F30_eq]
        simp (disch := (first | assumption | (simp only [Bool.and_eq_true, Bool.and_eq_false_iff, decide_eq_true_eq, decide_eq_false_iff_not, bne_iff_ne, beq_iff_eq, beq_eq_false_iff_ne, bne_eq_false_iff_eq, Bool.not_eq_true', Bool.not_eq_false', bys_length, List.length_append, List.length_cons, List.length_nil, List.length_map, List.length_drop, List.length_take, Int.natCast_add, wrap_i64_eq, wrap_u64, wrap_u8, ne_eq, not_true_eq_false, not_false_eq_true, Nat.zero_add, Nat.mul_one] <;> omega) | omega | (simp; done) | (simp; omega))) only [↓CR, MC, ↓PR, MR, b3, b4, b2]

/-! ### All records -/
def rfin (s : Option RSt) : Option (List KPair × Nat × Nat) :=
  match s with | none => none | some s => match s.tab with | none => none | some L => some (L, s.pts, s.bts)
def rpOut (m : Nat) (h' : Heap) (vs : List AVal) : Option (List KPair × Nat × Nat) → Prop
  | none => vs = [.agg [.nilp, .int .i64 0, .int .i64 0], .int .i64 12]
  | some (L, p, b) => ∃ ti tr t, IsTab h' ti tr t ∧ t.toL = L ∧ m ≤ ti ∧ m ≤ tr ∧ vs = [.agg [.obj ti 0, .int .i64 p, .int .i64 b], .int .i64 0]
theorem replay_loop (d m i : Nat) (f : Bool) (l : List Rec) (hl : l.length ≤ 120) (hr : ∀ r ∈ l, r.data.length ≤ 600 ∧ r.full = false) : ∀ (n j k : Nat) (tp : AVal) (pc : HCell) (s : RSt) (h : Heap), IsRp m h i tp pc s → RInv j s → l.length = j + n → n < k →
    ∃ h' vs, Old m h h' ∧ rpOut m h' vs (rfin (rrun s (l.drop j))) ∧ ∀ (Q : Res → Prop) (tg : Hid Q), Run (P13_1 (d + 31023) k i f (rcs l) (l.length : Nat) j 0 0 h) Q tg = Q (vs, h') := by
  intro n
  induction n with
  | zero =>
    intro j k tp pc s h R I hj hk
    obtain ⟨k, rfl⟩ : ∃ m, k = m + 1 := ⟨k - 1, by omega⟩
    have hd : l.drop j = [] := List.drop_eq_nil_of_le (by omega)
    have c0 := rp_c0 R.at'
    rw [hd]
    simp only [rrun, rfin]
    cases ht : s.tab with
    | none =>
      have et : tp = .nilp := by have := R.tab; rw [ht] at this; exact this
      subst et
      refine ⟨h, _, Old.refl m h, rfl, fun Q tg => ?_⟩
      rw [P13_1_eq]
      simp (disch := (first | assumption | (simp only [Bool.and_eq_true, Bool.and_eq_false_iff, decide_eq_true_eq, decide_eq_false_iff_not, bne_iff_ne, beq_iff_eq, beq_eq_false_iff_ne, bne_eq_false_iff_eq, Bool.not_eq_true', Bool.not_eq_false', bys_length, List.length_append, List.length_cons, List.length_nil, List.length_map, List.length_drop, List.length_take, Int.natCast_add, wrap_i64_eq, wrap_u64, wrap_u8, ne_eq, not_true_eq_false, not_false_eq_true, Nat.zero_add, Nat.mul_one] <;> omega) | omega | (simp; done) | (simp; omega))) only [↓CR, MC, ↓PR, MR, c0, isPtr_nilp, isNilp_nilp]
    | some L =>
      have hT := R.tab
      rw [ht] at hT
      obtain ⟨ti, tr, t, rfl, T, hL, n1, n2, m1, m2⟩ := hT
      have hm' : h.objs[i]? = some (.cells [HCell.val (.obj ti 0), HCell.val (.int .i64 s.pts), HCell.val (.int .i64 s.bts), pc, HCell.val (.bool s.yng)]) := R.at'
      have cs : h.cells? i 0 3 = some [.obj ti 0, .int .i64 s.pts, .int .i64 s.bts] := by rw [Heap.cells_at hm' (by simp)]; rfl
      refine ⟨h, _, Old.refl m h, ⟨ti, tr, t, T, hL, m1, m2, rfl⟩, fun Q tg => ?_⟩
      rw [P13_1_eq]
      simp (disch := (first | assumption | (simp only [Bool.and_eq_true, Bool.and_eq_false_iff, decide_eq_true_eq, decide_eq_false_iff_not, bne_iff_ne, beq_iff_eq, beq_eq_false_iff_ne, bne_eq_false_iff_eq, Bool.not_eq_true', Bool.not_eq_false', bys_length, List.length_append, List.length_cons, List.length_nil, List.length_map, List.length_drop, List.length_take, Int.natCast_add, wrap_i64_eq, wrap_u64, wrap_u8, ne_eq, not_true_eq_false, not_false_eq_true, Nat.zero_add, Nat.mul_one] <;> omega) | omega | (simp; done) | (simp; omega))) only [↓CR, MC, ↓PR, MR, c0, isPtr_obj, isNilp_obj, cs]
  | succ n ih =>
    intro j k tp pc s h R I hj hk
    obtain ⟨k, rfl⟩ : ∃ m, k = m + 1 := ⟨k - 1, by omega⟩
    have h1 : j < l.length := by omega
    have e1 := succ_wrap (i := j) (by omega)
    obtain ⟨hb, hf⟩ := hr _ (List.getElem_mem h1)
    rw [List.drop_eq_getElem_cons h1]
    unfold rrun
    cases hs : rstep s l[j] with
    | none =>
      obtain ⟨h', O, r⟩ := one_none d m j h i tp pc s R I (by omega) l[j] hf hb hs
      refine ⟨h', _, O, rfl, fun Q tg => ?_⟩
      rw [P13_1_eq]
      simp (disch := (first | assumption | (simp only [Bool.and_eq_true, Bool.and_eq_false_iff, decide_eq_true_eq, decide_eq_false_iff_not, bne_iff_ne, beq_iff_eq, beq_eq_false_iff_ne, bne_eq_false_iff_eq, Bool.not_eq_true', Bool.not_eq_false', bys_length, List.length_append, List.length_cons, List.length_nil, List.length_map, List.length_drop, List.length_take, Int.natCast_add, wrap_i64_eq, wrap_u64, wrap_u8, ne_eq, not_true_eq_false, not_false_eq_true, Nat.zero_add, Nat.mul_one] <;> omega) | omega | (simp; done) | (simp; omega))) only [↓CR, MC, ↓PR, MR, rcs_length, rcs_getD h1 hf, r, Bool.not_false]
    | some s' =>
      obtain ⟨h1', tp', pc', O, R', r⟩ := one_some d m j h i tp pc s s' R I (by omega) l[j] hf hb hs
      obtain ⟨h2, vs, O2, ho, r2⟩ := ih (j + 1) k tp' pc' s' h1' R' (rstep_inv I (by omega) hb hs) (by omega) (by omega)
      refine ⟨h2, vs, O.trans O2, ho, fun Q tg => ?_⟩
      rw [P13_1_eq]
      simp (disch := (first | assumption | (simp only [Bool.and_eq_true, Bool.and_eq_false_iff, decide_eq_true_eq, decide_eq_false_iff_not, bne_iff_ne, beq_iff_eq, beq_eq_false_iff_ne, bne_eq_false_iff_eq, Bool.not_eq_true', Bool.not_eq_false', bys_length, List.length_append, List.length_cons, List.length_nil, List.length_map, List.length_drop, List.length_take, Int.natCast_add, wrap_i64_eq, wrap_u64, wrap_u8, ne_eq, not_true_eq_false, not_false_eq_true, Nat.zero_add, Nat.mul_one] <;> omega) | omega | (simp; done) | (simp; omega))) only [↓CR, MC, ↓PR, MR, rcs_length, rcs_getD h1 hf, r, Bool.not_true, e1, r2]
theorem replay_run (d : Nat) (f : Bool) (l : List Rec) (hl : l.length ≤ 120) (hr : ∀ r ∈ l, r.data.length ≤ 600 ∧ r.full = false) (x : Int) (h : Heap) :
    ∃ h' vs, h.ext h' ∧ rpOut h.objs.length h' vs (rfin (rrun (rini x) l)) ∧ ∀ (Q : Res → Prop) (tg : Hid Q), Run (evFn Cw (d + 31024) 13 [.sl f 6 (rcs l), .int .i64 x] h) Q tg = Q (vs, h') := by
  have eo : Weave.Obj.cells ([AVal.nilp, (AVal.int .i64 0), (AVal.int .i64 0), (AVal.sl true 0 []), (AVal.bool ((x : Int) != 1))].map HCell.val) = rpO .nilp 0 0 (.val (.sl true 0 [])) (x != 1) := of_eq_true (eq_self _)
  have E := Heap.ext.push h (rpO .nilp 0 0 (.val (.sl true 0 [])) (x != 1))
  have hm := Heap.push_new h (rpO .nilp 0 0 (.val (.sl true 0 [])) (x != 1))
  by_cases c : x = 1
  · subst c
    have b1 : ((1 : Int) == 1) = true := rfl
    obtain ⟨E2, T⟩ := tabnew_is (h.push (rpO .nilp 0 0 (.val (.sl true 0 [])) ((1 : Int) != 1)))
    have rn := fun (Q : Res → Prop) (tg : Hid Q) => tabnew_run (d := d + 31021) (h := h.push (rpO .nilp 0 0 (.val (.sl true 0 [])) ((1 : Int) != 1))) (Q := Q) (tg := tg)
    have m2 := E2.get hm
    have elen : (h.push (rpO .nilp 0 0 (.val (.sl true 0 [])) ((1 : Int) != 1))).objs.length = h.objs.length + 1 := Heap.push_len _ _
    rw [elen] at E2 T rn m2
    have c0 := rp_c0 m2
    have s0 := rp_s0 (tp' := .obj (h.objs.length + 2) 0) m2
    have R : IsRp h.objs.length ((((h.push (rpO .nilp 0 0 (.val (.sl true 0 [])) ((1 : Int) != 1))).push (trT .nil)).push (tabO (h.objs.length + 1) 0)).put h.objs.length (rpO (.obj (h.objs.length + 2) 0) 0 0 (.val (.sl true 0 [])) ((1 : Int) != 1))) h.objs.length (.obj (h.objs.length + 2) 0) (.val (.sl true 0 [])) (rini 1) :=
      ⟨Heap.put_get m2, .inr ⟨rfl, rfl⟩, ⟨h.objs.length + 2, h.objs.length + 1, .nil, rfl, T.put (by omega) (by omega), rfl, by omega, by omega, by omega, by omega⟩, Nat.le_refl _⟩
    obtain ⟨h', vs, O, ho, r⟩ := replay_loop d h.objs.length h.objs.length f l hl hr l.length 0 rounds _ _ _ _ R (rini_inv 1) (by omega) (Nat.lt_of_lt_of_le (by omega) rounds_ge)
    rw [List.drop_zero] at ho
    rw [e0] at r
    refine ⟨h', vs, O h rfl ((E.trans E2).put (Nat.le_refl _)), ho, fun Q tg => ?_⟩
    rw [F13_eq]
    simp (disch := (first | assumption | (simp only [Bool.and_eq_true, Bool.and_eq_false_iff, decide_eq_true_eq, decide_eq_false_iff_not, bne_iff_ne, beq_iff_eq, beq_eq_false_iff_ne, bne_eq_false_iff_eq, Bool.not_eq_true', Bool.not_eq_false', bys_length, List.length_append, List.length_cons, List.length_nil, List.length_map, List.length_drop, List.length_take, Int.natCast_add, wrap_i64_eq, wrap_u64, wrap_u8, ne_eq, not_true_eq_false, not_false_eq_true, Nat.zero_add, Nat.mul_one] <;> omega) | omega | (simp; done) | (simp; omega))) only [↓CR, MC, ↓PR, MR, b1, eo, rn, isAgg_obj, c0, s0, P13_0_eq, rcs_length, r]
  · have b1 : ((x : Int) == 1) = false := by simp [c]
    have R : IsRp h.objs.length (h.push (rpO .nilp 0 0 (.val (.sl true 0 [])) (x != 1))) h.objs.length .nilp (.val (.sl true 0 [])) (rini x) :=
      ⟨hm, .inr ⟨rfl, rfl⟩, by unfold rini; rw [if_neg c]; rfl, Nat.le_refl _⟩
    obtain ⟨h', vs, O, ho, r⟩ := replay_loop d h.objs.length h.objs.length f l hl hr l.length 0 rounds _ _ _ _ R (rini_inv x) (by omega) (Nat.lt_of_lt_of_le (by omega) rounds_ge)
    rw [List.drop_zero] at ho
    rw [e0] at r
    refine ⟨h', vs, O h rfl E, ho, fun Q tg => ?_⟩
    rw [F13_eq]
    simp (disch := (first | assumption | (simp only [Bool.and_eq_true, Bool.and_eq_false_iff, decide_eq_true_eq, decide_eq_false_iff_not, bne_iff_ne, beq_iff_eq, beq_eq_false_iff_ne, bne_eq_false_iff_eq, Bool.not_eq_true', Bool.not_eq_false', bys_length, List.length_append, List.length_cons, List.length_nil, List.length_map, List.length_drop, List.length_take, Int.natCast_add, wrap_i64_eq, wrap_u64, wrap_u8, ne_eq, not_true_eq_false, not_false_eq_true, Nat.zero_add, Nat.mul_one] <;> omega) | omega | (simp; done) | (simp; omega))) only [↓CR, MC, ↓PR, MR, b1, eo, P13_0_eq, rcs_length, r]
end Go.Proofs.YtdlcjibefbnckaaDoor.Wa
end

section
/- The reference's replay; kinds; small. -/
namespace Go.Proofs.YtdlcjibefbnckaaDoor.Wa
open Go Go.Weave
set_option maxRecDepth 100000
set_option linter.unusedSimpArgs false
set_option linter.unusedVariables false
set_option linter.unusedSectionVars false

def rfOut (vs : List AVal) : Option (List KPair × Nat × Nat) → Prop
  | none => vs = [.agg [.sl true 3 [], .int .i64 0, .int .i64 0], .int .i64 12]
  | some (L, p, b) => ∃ g, vs = [.agg [.sl g 3 (prs L), .int .i64 p, .int .i64 b], .int .i64 0]
abbrev rL (s : RSt) : List KPair := s.tab.getD []
theorem rref_none (d k n j : Nat) (f g : Bool) (l : List Rec) (hl : l.length ≤ 120) (h1 : j < l.length) (hf : l[j].full = false) (hb : l[j].data.length ≤ 600) (s : RSt) (I : RInv n s) (hn : n ≤ 120) (hr : rstep s l[j] = none) (h : Heap) (Q : Res → Prop) (tg : Hid Q) :
    Run (P14_0 (d + 12) (k + 1) f (rcs l) s.tab.isSome s.yng (flds s.pcs) j [] 0 0 g (prs (rL s)) s.pts s.bts h) Q tg = Q ([.agg [.sl true 3 [], .int .i64 0, .int .i64 0], .int .i64 12], h) := by
  have q1 : decide ((j : Int) < ((rcs l).length : Int)) = true := by rw [rcs_length]; simp; omega
  have q2 : (decide ((0 : Int) ≤ (j : Int)) && decide ((j : Int) < ((rcs l).length : Int))) = true := by rw [rcs_length]; simp; omega
  have q3 : decide (((flds s.pcs).length + 1) * 24 ≤ 140737488355328) = true := by have := I.pcs; rw [flds_length]; simp; omega
  unfold rstep at hr
  rw [P14_0_eq]
  by_cases k3 : l[j].kind = 3
  · rw [if_pos k3] at hr
    have hp : pcF l[j].data = none := by
      cases hp : pcF l[j].data
      · rfl
      · rw [hp] at hr; simp at hr
    have hps : pcsF [l[j].data] [] = none := by unfold pcsF; rw [hp]
    have ro := fun (Q : Res → Prop) (tg : Hid Q) => rpairs_run (d := d + 8) (f := true) (ps := [l[j].data]) (by simp) (fun b hb' => by simp at hb'; subst hb'; omega) (h := h) (Q := Q) (tg := tg)
    rw [hps] at ro
    unfold prR at ro
    have ef : flds [l[j].data] = [.sl false 0 (bys l[j].data)] := of_eq_true (eq_self _)
    rw [ef] at ro
    have b3 : ((l[j].kind : Int) == 3) = true := by simp [k3]
    simp (disch := (first | assumption | (simp only [Bool.and_eq_true, Bool.and_eq_false_iff, decide_eq_true_eq, decide_eq_false_iff_not, bne_iff_ne, beq_iff_eq, beq_eq_false_iff_ne, bne_eq_false_iff_eq, Bool.not_eq_true', Bool.not_eq_false', bys_length, List.length_append, List.length_cons, List.length_nil, List.length_map, List.length_drop, List.length_take, Int.natCast_add, wrap_i64_eq, wrap_u64, wrap_u8, ne_eq, not_true_eq_false, not_false_eq_true, Nat.zero_add, Nat.mul_one] <;> omega) | omega | (simp; done) | (simp; omega))) only [↓CR, MC, ↓PR, MR, rcs_length, rcs_getD h1 hf, b3, ro, Bool.not_false]
  · rw [if_neg k3] at hr
    have b3 : ((l[j].kind : Int) == 3) = false := by simp [k3]
    by_cases k4 : l[j].kind = 4
    · rw [if_pos k4] at hr
      have b4 : ((l[j].kind : Int) == 4) = true := by simp [k4]
      have rd := fun (Q : Res → Prop) (tg : Hid Q) => rpdec_run (d := d + 9) (f := false) (b := l[j].data) (h := h) (by omega) Q tg
      unfold ptA at rd
      have hP := (decP_le l[j].data).1
      have hlen := I.pcs
      unfold rpt at hr
      by_cases e1 : (decP l[j].data).2 = 0
      · have b1 : ((((decP l[j].data).2 : Nat) : Int) != 0) = false := by simp [e1]
        rw [if_neg (by simp [e1])] at hr
        by_cases e2 : (jP s l[j].data).2 = 0
        · rw [if_neg (by simp [e2])] at hr; cases hr
        · rw [if_pos e2] at hr
          have hy : s.yng = false := by
            cases hy : s.yng
            · rfl
            · rw [hy] at hr; simp at hr
          have rj := fun (Q : Res → Prop) (tg : Hid Q) => rjoin_run (d := d + 6) (f := false) (x0 := ((decP l[j].data).1.1 : Nat)) (x1 := ((decP l[j].data).1.2.1 : Nat)) (x2 := (decP l[j].data).1.2.2) (ps := lastP s l[j].data) (h := h) (Q := Q) (tg := tg) (by unfold lastP; rw [List.length_drop]; omega) (fun x hx => by have := I.len x (List.mem_of_mem_drop hx); omega)
          have b2 : ((((jF ((decP l[j].data).1.1 : Nat) ((decP l[j].data).1.2.1 : Nat) (decP l[j].data).1.2.2 (lastP s l[j].data)).2 : Nat) : Int) != 0) = true := by simp; exact e2
          rw [jV_no (show ¬ (jF ((decP l[j].data).1.1 : Nat) ((decP l[j].data).1.2.1 : Nat) (decP l[j].data).1.2.2 (lastP s l[j].data)).2 = 0 from e2)] at rj
          by_cases e3 : (decP l[j].data).1.1 < s.pcs.length
          · have w1 : IntKind.i64.wrap ((s.pcs.length : Int) - ((decP l[j].data).1.1 : Nat)) = ((s.pcs.length - (decP l[j].data).1.1 : Nat) : Int) := by rw [wrap_i64_id (by omega) (by omega)]; omega
            have q4 : decide (((flds s.pcs).length : Int) > ((decP l[j].data).1.1 : Nat)) = true := by rw [flds_length]; simp; omega
            unfold lastP at rj b2
            simp (disch := (first | assumption | (simp only [Bool.and_eq_true, Bool.and_eq_false_iff, decide_eq_true_eq, decide_eq_false_iff_not, bne_iff_ne, beq_iff_eq, beq_eq_false_iff_ne, bne_eq_false_iff_eq, Bool.not_eq_true', Bool.not_eq_false', bys_length, List.length_append, List.length_cons, List.length_nil, List.length_map, List.length_drop, List.length_take, Int.natCast_add, wrap_i64_eq, wrap_u64, wrap_u8, ne_eq, not_true_eq_false, not_false_eq_true, Nat.zero_add, Nat.mul_one] <;> omega) | omega | (simp; done) | (simp; omega))) only [↓CR, MC, ↓PR, MR, rcs_length, rcs_getD h1 hf, b3]
            rw [P14_1_eq]
            simp (disch := (first | assumption | (simp only [Bool.and_eq_true, Bool.and_eq_false_iff, decide_eq_true_eq, decide_eq_false_iff_not, bne_iff_ne, beq_iff_eq, beq_eq_false_iff_ne, bne_eq_false_iff_eq, Bool.not_eq_true', Bool.not_eq_false', bys_length, List.length_append, List.length_cons, List.length_nil, List.length_map, List.length_drop, List.length_take, Int.natCast_add, wrap_i64_eq, wrap_u64, wrap_u8, ne_eq, not_true_eq_false, not_false_eq_true, Nat.zero_add, Nat.mul_one] <;> omega) | omega | (simp; done) | (simp; omega))) only [↓CR, MC, ↓PR, MR, rcs_length, rcs_getD h1 hf, b4, rd, b1, flds_length, w1, part_fd]
            rw [P14_2_eq]
            simp (disch := (first | assumption | (simp only [Bool.and_eq_true, Bool.and_eq_false_iff, decide_eq_true_eq, decide_eq_false_iff_not, bne_iff_ne, beq_iff_eq, beq_eq_false_iff_ne, bne_eq_false_iff_eq, Bool.not_eq_true', Bool.not_eq_false', bys_length, List.length_append, List.length_cons, List.length_nil, List.length_map, List.length_drop, List.length_take, Int.natCast_add, wrap_i64_eq, wrap_u64, wrap_u8, ne_eq, not_true_eq_false, not_false_eq_true, Nat.zero_add, Nat.mul_one] <;> omega) | omega | (simp; done) | (simp; omega))) only [↓CR, MC, ↓PR, MR, rcs_length, rcs_getD h1 hf, rj, b2, hy, Bool.not_false]
          · have ed : lastP s l[j].data = s.pcs := by unfold lastP; rw [show s.pcs.length - (decP l[j].data).1.1 = 0 by omega]; rfl
            have q4 : decide (((flds s.pcs).length : Int) > ((decP l[j].data).1.1 : Nat)) = false := by rw [flds_length]; simp; omega
            rw [ed] at rj b2
            simp (disch := (first | assumption | (simp only [Bool.and_eq_true, Bool.and_eq_false_iff, decide_eq_true_eq, decide_eq_false_iff_not, bne_iff_ne, beq_iff_eq, beq_eq_false_iff_ne, bne_eq_false_iff_eq, Bool.not_eq_true', Bool.not_eq_false', bys_length, List.length_append, List.length_cons, List.length_nil, List.length_map, List.length_drop, List.length_take, Int.natCast_add, wrap_i64_eq, wrap_u64, wrap_u8, ne_eq, not_true_eq_false, not_false_eq_true, Nat.zero_add, Nat.mul_one] <;> omega) | omega | (simp; done) | (simp; omega))) only [↓CR, MC, ↓PR, MR, rcs_length, rcs_getD h1 hf, b3]
            rw [P14_1_eq]
            simp (disch := (first | assumption | (simp only [Bool.and_eq_true, Bool.and_eq_false_iff, decide_eq_true_eq, decide_eq_false_iff_not, bne_iff_ne, beq_iff_eq, beq_eq_false_iff_ne, bne_eq_false_iff_eq, Bool.not_eq_true', Bool.not_eq_false', bys_length, List.length_append, List.length_cons, List.length_nil, List.length_map, List.length_drop, List.length_take, Int.natCast_add, wrap_i64_eq, wrap_u64, wrap_u8, ne_eq, not_true_eq_false, not_false_eq_true, Nat.zero_add, Nat.mul_one] <;> omega) | omega | (simp; done) | (simp; omega))) only [↓CR, MC, ↓PR, MR, rcs_length, rcs_getD h1 hf, b4, rd, b1, flds_length]
            rw [P14_2_eq]
            simp (disch := (first | assumption | (simp only [Bool.and_eq_true, Bool.and_eq_false_iff, decide_eq_true_eq, decide_eq_false_iff_not, bne_iff_ne, beq_iff_eq, beq_eq_false_iff_ne, bne_eq_false_iff_eq, Bool.not_eq_true', Bool.not_eq_false', bys_length, List.length_append, List.length_cons, List.length_nil, List.length_map, List.length_drop, List.length_take, Int.natCast_add, wrap_i64_eq, wrap_u64, wrap_u8, ne_eq, not_true_eq_false, not_false_eq_true, Nat.zero_add, Nat.mul_one] <;> omega) | omega | (simp; done) | (simp; omega))) only [↓CR, MC, ↓PR, MR, rcs_length, rcs_getD h1 hf, rj, b2, hy, Bool.not_false]
      · have b1 : ((((decP l[j].data).2 : Nat) : Int) != 0) = true := by simp; exact e1
        simp (disch := (first | assumption | (simp only [Bool.and_eq_true, Bool.and_eq_false_iff, decide_eq_true_eq, decide_eq_false_iff_not, bne_iff_ne, beq_iff_eq, beq_eq_false_iff_ne, bne_eq_false_iff_eq, Bool.not_eq_true', Bool.not_eq_false', bys_length, List.length_append, List.length_cons, List.length_nil, List.length_map, List.length_drop, List.length_take, Int.natCast_add, wrap_i64_eq, wrap_u64, wrap_u8, ne_eq, not_true_eq_false, not_false_eq_true, Nat.zero_add, Nat.mul_one] <;> omega) | omega | (simp; done) | (simp; omega))) only [↓CR, MC, ↓PR, MR, rcs_length, rcs_getD h1 hf, b3]
        rw [P14_1_eq]
        simp (disch := (first | assumption | (simp only [Bool.and_eq_true, Bool.and_eq_false_iff, decide_eq_true_eq, decide_eq_false_iff_not, bne_iff_ne, beq_iff_eq, beq_eq_false_iff_ne, bne_eq_false_iff_eq, Bool.not_eq_true', Bool.not_eq_false', bys_length, List.length_append, List.length_cons, List.length_nil, List.length_map, List.length_drop, List.length_take, Int.natCast_add, wrap_i64_eq, wrap_u64, wrap_u8, ne_eq, not_true_eq_false, not_false_eq_true, Nat.zero_add, Nat.mul_one] <;> omega) | omega | (simp; done) | (simp; omega))) only [↓CR, MC, ↓PR, MR, rcs_length, rcs_getD h1 hf, b4, rd, b1]
    · rw [if_neg k4] at hr
      have b4 : ((l[j].kind : Int) == 4) = false := by simp [k4]
      by_cases k2 : l[j].kind = 2
      · rw [if_pos k2] at hr
        have b2 : ((l[j].kind : Int) == 2) = true := by simp [k2]
        have rb := fun (Q : Res → Prop) (tg : Hid Q) => r12decode_run (d := d + 8) (f := false) (b := l[j].data) (by omega) (h := h) (Q := Q) (tg := tg)
        unfold rbt at hr
        split at hr
        · rename_i e
          have b5 : ((((bdec (l[j].data.length + 1) l[j].data []).2 : Nat) : Int) != 0) = true := by simp; exact e
          have ev : bV (bdec (l[j].data.length + 1) l[j].data []) = .sl true 0 [] := by unfold bV; rw [if_neg e]
          rw [ev] at rb
          simp (disch := (first | assumption | (simp only [Bool.and_eq_true, Bool.and_eq_false_iff, decide_eq_true_eq, decide_eq_false_iff_not, bne_iff_ne, beq_iff_eq, beq_eq_false_iff_ne, bne_eq_false_iff_eq, Bool.not_eq_true', Bool.not_eq_false', bys_length, List.length_append, List.length_cons, List.length_nil, List.length_map, List.length_drop, List.length_take, Int.natCast_add, wrap_i64_eq, wrap_u64, wrap_u8, ne_eq, not_true_eq_false, not_false_eq_true, Nat.zero_add, Nat.mul_one] <;> omega) | omega | (simp; done) | (simp; omega))) only [↓CR, MC, ↓PR, MR, rcs_length, rcs_getD h1 hf, b3]
          rw [P14_1_eq]
          simp (disch := (first | assumption | (simp only [Bool.and_eq_true, Bool.and_eq_false_iff, decide_eq_true_eq, decide_eq_false_iff_not, bne_iff_ne, beq_iff_eq, beq_eq_false_iff_ne, bne_eq_false_iff_eq, Bool.not_eq_true', Bool.not_eq_false', bys_length, List.length_append, List.length_cons, List.length_nil, List.length_map, List.length_drop, List.length_take, Int.natCast_add, wrap_i64_eq, wrap_u64, wrap_u8, ne_eq, not_true_eq_false, not_false_eq_true, Nat.zero_add, Nat.mul_one] <;> omega) | omega | (simp; done) | (simp; omega))) only [↓CR, MC, ↓PR, MR, rcs_length, rcs_getD h1 hf, b4]
          rw [P14_3_eq]
          simp (disch := (first | assumption | (simp only [Bool.and_eq_true, Bool.and_eq_false_iff, decide_eq_true_eq, decide_eq_false_iff_not, bne_iff_ne, beq_iff_eq, beq_eq_false_iff_ne, bne_eq_false_iff_eq, Bool.not_eq_true', Bool.not_eq_false', bys_length, List.length_append, List.length_cons, List.length_nil, List.length_map, List.length_drop, List.length_take, Int.natCast_add, wrap_i64_eq, wrap_u64, wrap_u8, ne_eq, not_true_eq_false, not_false_eq_true, Nat.zero_add, Nat.mul_one] <;> omega) | omega | (simp; done) | (simp; omega))) only [↓CR, MC, ↓PR, MR, rcs_length, rcs_getD h1 hf, b2, rb, b5]
        · cases hr
      · rw [if_neg k2] at hr; cases hr
theorem rref_some (d k n j : Nat) (f g : Bool) (l : List Rec) (hl : l.length ≤ 120) (h1 : j < l.length) (hf : l[j].full = false) (hb : l[j].data.length ≤ 600) (s s' : RSt) (I : RInv n s) (hn : n ≤ 120) (hr : rstep s l[j] = some s') (h : Heap) :
    ∃ g', ∀ (Q : Res → Prop) (tg : Hid Q), Run (P14_0 (d + 12) (k + 1) f (rcs l) s.tab.isSome s.yng (flds s.pcs) j [] 0 0 g (prs (rL s)) s.pts s.bts h) Q tg
      = Run (P14_0 (d + 12) k f (rcs l) s'.tab.isSome s'.yng (flds s'.pcs) (j + 1 : Nat) [] 0 0 g' (prs (rL s')) s'.pts s'.bts h) Q ⟨⟩ := by
  have e1' := succ_wrap (i := j) (by omega)
  have q1 : decide ((j : Int) < ((rcs l).length : Int)) = true := by rw [rcs_length]; simp; omega
  have q2 : (decide ((0 : Int) ≤ (j : Int)) && decide ((j : Int) < ((rcs l).length : Int))) = true := by rw [rcs_length]; simp; omega
  have q3 : decide (((flds s.pcs).length + 1) * 24 ≤ 140737488355328) = true := by have := I.pcs; rw [flds_length]; simp; omega
  have en : flds [] = [] := of_eq_true (eq_self _)
  unfold rstep at hr
  by_cases k3 : l[j].kind = 3
  · rw [if_pos k3] at hr
    cases hp : pcF l[j].data with
    | none => rw [hp] at hr; simp at hr
    | some l1 =>
      rw [hp] at hr
      simp only [Option.isNone_some, Bool.false_eq_true, if_false, Option.some.injEq] at hr
      subst hr
      have hps : pcsF [l[j].data] [] = some ([] ++ l1) := by unfold pcsF; rw [hp]; rfl
      have ro := fun (Q : Res → Prop) (tg : Hid Q) => rpairs_run (d := d + 8) (f := true) (ps := [l[j].data]) (by simp) (fun b hb' => by simp at hb'; subst hb'; omega) (h := h) (Q := Q) (tg := tg)
      rw [hps] at ro
      unfold prR at ro
      have ef : flds [l[j].data] = [.sl false 0 (bys l[j].data)] := of_eq_true (eq_self _)
      rw [ef] at ro
      have b3 : ((l[j].kind : Int) == 3) = true := by simp [k3]
      have b4 : ((l[j].kind : Int) == 4) = false := by simp [k3]
      have b2 : ((l[j].kind : Int) == 2) = false := by simp [k3]
      have hlen := I.pcs
      refine ⟨g, fun Q tg => ?_⟩
      rw [P14_0_eq]
      simp (disch := (first | assumption | (simp only [Bool.and_eq_true, Bool.and_eq_false_iff, decide_eq_true_eq, decide_eq_false_iff_not, bne_iff_ne, beq_iff_eq, beq_eq_false_iff_ne, bne_eq_false_iff_eq, Bool.not_eq_true', Bool.not_eq_false', bys_length, List.length_append, List.length_cons, List.length_nil, List.length_map, List.length_drop, List.length_take, Int.natCast_add, wrap_i64_eq, wrap_u64, wrap_u8, ne_eq, not_true_eq_false, not_false_eq_true, Nat.zero_add, Nat.mul_one] <;> omega) | omega | (simp; done) | (simp; omega))) only [↓CR, MC, ↓PR, MR, rcs_length, rcs_getD h1 hf, b3, ro, Bool.not_true, flds_length]
      rw [P14_1_eq]
      simp (disch := (first | assumption | (simp only [Bool.and_eq_true, Bool.and_eq_false_iff, decide_eq_true_eq, decide_eq_false_iff_not, bne_iff_ne, beq_iff_eq, beq_eq_false_iff_ne, bne_eq_false_iff_eq, Bool.not_eq_true', Bool.not_eq_false', bys_length, List.length_append, List.length_cons, List.length_nil, List.length_map, List.length_drop, List.length_take, Int.natCast_add, wrap_i64_eq, wrap_u64, wrap_u8, ne_eq, not_true_eq_false, not_false_eq_true, Nat.zero_add, Nat.mul_one] <;> omega) | omega | (simp; done) | (simp; omega))) only [↓CR, MC, ↓PR, MR, rcs_length, rcs_getD h1 hf, b4]
      rw [P14_3_eq]
      simp (disch := (first | assumption | (simp only [Bool.and_eq_true, Bool.and_eq_false_iff, decide_eq_true_eq, decide_eq_false_iff_not, bne_iff_ne, beq_iff_eq, beq_eq_false_iff_ne, bne_eq_false_iff_eq, Bool.not_eq_true', Bool.not_eq_false', bys_length, List.length_append, List.length_cons, List.length_nil, List.length_map, List.length_drop, List.length_take, Int.natCast_add, wrap_i64_eq, wrap_u64, wrap_u8, ne_eq, not_true_eq_false, not_false_eq_true, Nat.zero_add, Nat.mul_one] <;> omega) | omega | (simp; done) | (simp; omega))) only [↓CR, MC, ↓PR, MR, rcs_length, rcs_getD h1 hf, b2, e1', flds_snoc]
  · rw [if_neg k3] at hr
    have b3 : ((l[j].kind : Int) == 3) = false := by simp [k3]
    by_cases k4 : l[j].kind = 4
    · rw [if_pos k4] at hr
      have b4 : ((l[j].kind : Int) == 4) = true := by simp [k4]
      have b2' : ((l[j].kind : Int) == 2) = false := by simp [k4]
      have rd := fun (Q : Res → Prop) (tg : Hid Q) => rpdec_run (d := d + 9) (f := false) (b := l[j].data) (h := h) (by omega) Q tg
      unfold ptA at rd
      have hP := (decP_le l[j].data).1
      have hlen := I.pcs
      unfold rpt at hr
      by_cases e1 : (decP l[j].data).2 = 0
      · have b1 : ((((decP l[j].data).2 : Nat) : Int) != 0) = false := by simp [e1]
        rw [if_neg (by simp [e1])] at hr
        have rj := fun (Q : Res → Prop) (tg : Hid Q) => rjoin_run (d := d + 6) (f := false) (x0 := ((decP l[j].data).1.1 : Nat)) (x1 := ((decP l[j].data).1.2.1 : Nat)) (x2 := (decP l[j].data).1.2.2) (ps := lastP s l[j].data) (h := h) (Q := Q) (tg := tg) (by unfold lastP; rw [List.length_drop]; omega) (fun x hx => by have := I.len x (List.mem_of_mem_drop hx); omega)
        by_cases e2 : (jP s l[j].data).2 = 0
        · rw [if_neg (by simp [e2])] at hr
          simp only [Option.some.injEq] at hr
          subst hr
          have hpt := I.pts
          have ew := succ_wrap (i := s.pts) (by omega)
          have b2 : ((((jF ((decP l[j].data).1.1 : Nat) ((decP l[j].data).1.2.1 : Nat) (decP l[j].data).1.2.2 (lastP s l[j].data)).2 : Nat) : Int) != 0) = false := by simp; exact e2
          have b5 : ((((jF ((decP l[j].data).1.1 : Nat) ((decP l[j].data).1.2.1 : Nat) (decP l[j].data).1.2.2 (lastP s l[j].data)).2 : Nat) : Int) == 0) = true := by simp; exact e2
          rw [jV_yes (show (jF ((decP l[j].data).1.1 : Nat) ((decP l[j].data).1.2.1 : Nat) (decP l[j].data).1.2.2 (lastP s l[j].data)).2 = 0 from e2)] at rj
          refine ⟨false, fun Q tg => ?_⟩
          rw [P14_0_eq]
          simp only [jP, Option.isSome_some, rL, Option.getD_some, en]
          by_cases e3 : (decP l[j].data).1.1 < s.pcs.length
          · have w1 : IntKind.i64.wrap ((s.pcs.length : Int) - ((decP l[j].data).1.1 : Nat)) = ((s.pcs.length - (decP l[j].data).1.1 : Nat) : Int) := by rw [wrap_i64_id (by omega) (by omega)]; omega
            have q4 : decide (((flds s.pcs).length : Int) > ((decP l[j].data).1.1 : Nat)) = true := by rw [flds_length]; simp; omega
            unfold lastP at rj b2 b5 ⊢
            simp (disch := (first | assumption | (simp only [Bool.and_eq_true, Bool.and_eq_false_iff, decide_eq_true_eq, decide_eq_false_iff_not, bne_iff_ne, beq_iff_eq, beq_eq_false_iff_ne, bne_eq_false_iff_eq, Bool.not_eq_true', Bool.not_eq_false', bys_length, List.length_append, List.length_cons, List.length_nil, List.length_map, List.length_drop, List.length_take, Int.natCast_add, wrap_i64_eq, wrap_u64, wrap_u8, ne_eq, not_true_eq_false, not_false_eq_true, Nat.zero_add, Nat.mul_one] <;> omega) | omega | (simp; done) | (simp; omega))) only [↓CR, MC, ↓PR, MR, rcs_length, rcs_getD h1 hf, b3]
            rw [P14_1_eq]
            simp (disch := (first | assumption | (simp only [Bool.and_eq_true, Bool.and_eq_false_iff, decide_eq_true_eq, decide_eq_false_iff_not, bne_iff_ne, beq_iff_eq, beq_eq_false_iff_ne, bne_eq_false_iff_eq, Bool.not_eq_true', Bool.not_eq_false', bys_length, List.length_append, List.length_cons, List.length_nil, List.length_map, List.length_drop, List.length_take, Int.natCast_add, wrap_i64_eq, wrap_u64, wrap_u8, ne_eq, not_true_eq_false, not_false_eq_true, Nat.zero_add, Nat.mul_one] <;> omega) | omega | (simp; done) | (simp; omega))) only [↓CR, MC, ↓PR, MR, rcs_length, rcs_getD h1 hf, b4, rd, b1, flds_length, w1, part_fd]
            rw [P14_2_eq]
            simp (disch := (first | assumption | (simp only [Bool.and_eq_true, Bool.and_eq_false_iff, decide_eq_true_eq, decide_eq_false_iff_not, bne_iff_ne, beq_iff_eq, beq_eq_false_iff_ne, bne_eq_false_iff_eq, Bool.not_eq_true', Bool.not_eq_false', bys_length, List.length_append, List.length_cons, List.length_nil, List.length_map, List.length_drop, List.length_take, Int.natCast_add, wrap_i64_eq, wrap_u64, wrap_u8, ne_eq, not_true_eq_false, not_false_eq_true, Nat.zero_add, Nat.mul_one] <;> omega) | omega | (simp; done) | (simp; omega))) only [↓CR, MC, ↓PR, MR, rcs_length, rcs_getD h1 hf, rj, b2, b5]
            rw [P14_3_eq]
            simp (disch := (first | assumption | (simp only [Bool.and_eq_true, Bool.and_eq_false_iff, decide_eq_true_eq, decide_eq_false_iff_not, bne_iff_ne, beq_iff_eq, beq_eq_false_iff_ne, bne_eq_false_iff_eq, Bool.not_eq_true', Bool.not_eq_false', bys_length, List.length_append, List.length_cons, List.length_nil, List.length_map, List.length_drop, List.length_take, Int.natCast_add, wrap_i64_eq, wrap_u64, wrap_u8, ne_eq, not_true_eq_false, not_false_eq_true, Nat.zero_add, Nat.mul_one] <;> omega) | omega | (simp; done) | (simp; omega))) only [↓CR, MC, ↓PR, MR, rcs_length, rcs_getD h1 hf, b2', e1', ew]
            rfl
          · have ed : lastP s l[j].data = s.pcs := by unfold lastP; rw [show s.pcs.length - (decP l[j].data).1.1 = 0 by omega]; rfl
            have q4 : decide (((flds s.pcs).length : Int) > ((decP l[j].data).1.1 : Nat)) = false := by rw [flds_length]; simp; omega
            rw [ed] at rj b2 b5 ⊢
            simp (disch := (first | assumption | (simp only [Bool.and_eq_true, Bool.and_eq_false_iff, decide_eq_true_eq, decide_eq_false_iff_not, bne_iff_ne, beq_iff_eq, beq_eq_false_iff_ne, bne_eq_false_iff_eq, Bool.not_eq_true', Bool.not_eq_false', bys_length, List.length_append, List.length_cons, List.length_nil, List.length_map, List.length_drop, List.length_take, Int.natCast_add, wrap_i64_eq, wrap_u64, wrap_u8, ne_eq, not_true_eq_false, not_false_eq_true, Nat.zero_add, Nat.mul_one] <;> omega) | omega | (simp; done) | (simp; omega))) only [↓CR, MC, ↓PR, MR, rcs_length, rcs_getD h1 hf, b3]
            rw [P14_1_eq]
            simp (disch := (first | assumption | (simp only [Bool.and_eq_true, Bool.and_eq_false_iff, decide_eq_true_eq, decide_eq_false_iff_not, bne_iff_ne, beq_iff_eq, beq_eq_false_iff_ne, bne_eq_false_iff_eq, Bool.not_eq_true', Bool.not_eq_false', bys_length, List.length_append, List.length_cons, List.length_nil, List.length_map, List.length_drop, List.length_take, Int.natCast_add, wrap_i64_eq, wrap_u64, wrap_u8, ne_eq, not_true_eq_false, not_false_eq_true, Nat.zero_add, Nat.mul_one] <;> omega) | omega | (simp; done) | (simp; omega))) only [↓CR, MC, ↓PR, MR, rcs_length, rcs_getD h1 hf, b4, rd, b1, flds_length]
            rw [P14_2_eq]
            simp (disch := (first | assumption | (simp only [Bool.and_eq_true, Bool.and_eq_false_iff, decide_eq_true_eq, decide_eq_false_iff_not, bne_iff_ne, beq_iff_eq, beq_eq_false_iff_ne, bne_eq_false_iff_eq, Bool.not_eq_true', Bool.not_eq_false', bys_length, List.length_append, List.length_cons, List.length_nil, List.length_map, List.length_drop, List.length_take, Int.natCast_add, wrap_i64_eq, wrap_u64, wrap_u8, ne_eq, not_true_eq_false, not_false_eq_true, Nat.zero_add, Nat.mul_one] <;> omega) | omega | (simp; done) | (simp; omega))) only [↓CR, MC, ↓PR, MR, rcs_length, rcs_getD h1 hf, rj, b2, b5]
            rw [P14_3_eq]
            simp (disch := (first | assumption | (simp only [Bool.and_eq_true, Bool.and_eq_false_iff, decide_eq_true_eq, decide_eq_false_iff_not, bne_iff_ne, beq_iff_eq, beq_eq_false_iff_ne, bne_eq_false_iff_eq, Bool.not_eq_true', Bool.not_eq_false', bys_length, List.length_append, List.length_cons, List.length_nil, List.length_map, List.length_drop, List.length_take, Int.natCast_add, wrap_i64_eq, wrap_u64, wrap_u8, ne_eq, not_true_eq_false, not_false_eq_true, Nat.zero_add, Nat.mul_one] <;> omega) | omega | (simp; done) | (simp; omega))) only [↓CR, MC, ↓PR, MR, rcs_length, rcs_getD h1 hf, b2', e1', ew]
            rfl
        · rw [if_pos e2] at hr
          have hy : s.yng = true := by
            cases hy : s.yng
            · rw [hy] at hr; simp at hr
            · rfl
          rw [if_pos hy] at hr
          simp only [Option.some.injEq] at hr
          subst hr
          have b2 : ((((jF ((decP l[j].data).1.1 : Nat) ((decP l[j].data).1.2.1 : Nat) (decP l[j].data).1.2.2 (lastP s l[j].data)).2 : Nat) : Int) != 0) = true := by simp; exact e2
          have b5 : ((((jF ((decP l[j].data).1.1 : Nat) ((decP l[j].data).1.2.1 : Nat) (decP l[j].data).1.2.2 (lastP s l[j].data)).2 : Nat) : Int) == 0) = false := by simp; exact e2
          rw [jV_no (show ¬ (jF ((decP l[j].data).1.1 : Nat) ((decP l[j].data).1.2.1 : Nat) (decP l[j].data).1.2.2 (lastP s l[j].data)).2 = 0 from e2)] at rj
          refine ⟨g, fun Q tg => ?_⟩
          rw [P14_0_eq]
          simp only [en, hy]
          by_cases e3 : (decP l[j].data).1.1 < s.pcs.length
          · have w1 : IntKind.i64.wrap ((s.pcs.length : Int) - ((decP l[j].data).1.1 : Nat)) = ((s.pcs.length - (decP l[j].data).1.1 : Nat) : Int) := by rw [wrap_i64_id (by omega) (by omega)]; omega
            have q4 : decide (((flds s.pcs).length : Int) > ((decP l[j].data).1.1 : Nat)) = true := by rw [flds_length]; simp; omega
            unfold lastP at rj b2 b5
            simp (disch := (first | assumption | (simp only [Bool.and_eq_true, Bool.and_eq_false_iff, decide_eq_true_eq, decide_eq_false_iff_not, bne_iff_ne, beq_iff_eq, beq_eq_false_iff_ne, bne_eq_false_iff_eq, Bool.not_eq_true', Bool.not_eq_false', bys_length, List.length_append, List.length_cons, List.length_nil, List.length_map, List.length_drop, List.length_take, Int.natCast_add, wrap_i64_eq, wrap_u64, wrap_u8, ne_eq, not_true_eq_false, not_false_eq_true, Nat.zero_add, Nat.mul_one] <;> omega) | omega | (simp; done) | (simp; omega))) only [↓CR, MC, ↓PR, MR, rcs_length, rcs_getD h1 hf, b3]
            rw [P14_1_eq]
            simp (disch := (first | assumption | (simp only [Bool.and_eq_true, Bool.and_eq_false_iff, decide_eq_true_eq, decide_eq_false_iff_not, bne_iff_ne, beq_iff_eq, beq_eq_false_iff_ne, bne_eq_false_iff_eq, Bool.not_eq_true', Bool.not_eq_false', bys_length, List.length_append, List.length_cons, List.length_nil, List.length_map, List.length_drop, List.length_take, Int.natCast_add, wrap_i64_eq, wrap_u64, wrap_u8, ne_eq, not_true_eq_false, not_false_eq_true, Nat.zero_add, Nat.mul_one] <;> omega) | omega | (simp; done) | (simp; omega))) only [↓CR, MC, ↓PR, MR, rcs_length, rcs_getD h1 hf, b4, rd, b1, flds_length, w1, part_fd]
            rw [P14_2_eq]
            simp (disch := (first | assumption | (simp only [Bool.and_eq_true, Bool.and_eq_false_iff, decide_eq_true_eq, decide_eq_false_iff_not, bne_iff_ne, beq_iff_eq, beq_eq_false_iff_ne, bne_eq_false_iff_eq, Bool.not_eq_true', Bool.not_eq_false', bys_length, List.length_append, List.length_cons, List.length_nil, List.length_map, List.length_drop, List.length_take, Int.natCast_add, wrap_i64_eq, wrap_u64, wrap_u8, ne_eq, not_true_eq_false, not_false_eq_true, Nat.zero_add, Nat.mul_one] <;> omega) | omega | (simp; done) | (simp; omega))) only [↓CR, MC, ↓PR, MR, rcs_length, rcs_getD h1 hf, rj, b2, Bool.not_true, b5]
            rw [P14_3_eq]
            simp (disch := (first | assumption | (simp only [Bool.and_eq_true, Bool.and_eq_false_iff, decide_eq_true_eq, decide_eq_false_iff_not, bne_iff_ne, beq_iff_eq, beq_eq_false_iff_ne, bne_eq_false_iff_eq, Bool.not_eq_true', Bool.not_eq_false', bys_length, List.length_append, List.length_cons, List.length_nil, List.length_map, List.length_drop, List.length_take, Int.natCast_add, wrap_i64_eq, wrap_u64, wrap_u8, ne_eq, not_true_eq_false, not_false_eq_true, Nat.zero_add, Nat.mul_one] <;> omega) | omega | (simp; done) | (simp; omega))) only [↓CR, MC, ↓PR, MR, rcs_length, rcs_getD h1 hf, b2', e1']
          · have ed : lastP s l[j].data = s.pcs := by unfold lastP; rw [show s.pcs.length - (decP l[j].data).1.1 = 0 by omega]; rfl
            have q4 : decide (((flds s.pcs).length : Int) > ((decP l[j].data).1.1 : Nat)) = false := by rw [flds_length]; simp; omega
            rw [ed] at rj b2 b5
            simp (disch := (first | assumption | (simp only [Bool.and_eq_true, Bool.and_eq_false_iff, decide_eq_true_eq, decide_eq_false_iff_not, bne_iff_ne, beq_iff_eq, beq_eq_false_iff_ne, bne_eq_false_iff_eq, Bool.not_eq_true', Bool.not_eq_false', bys_length, List.length_append, List.length_cons, List.length_nil, List.length_map, List.length_drop, List.length_take, Int.natCast_add, wrap_i64_eq, wrap_u64, wrap_u8, ne_eq, not_true_eq_false, not_false_eq_true, Nat.zero_add, Nat.mul_one] <;> omega) | omega | (simp; done) | (simp; omega))) only [↓CR, MC, ↓PR, MR, rcs_length, rcs_getD h1 hf, b3]
            rw [P14_1_eq]
            simp (disch := (first | assumption | (simp only [Bool.and_eq_true, Bool.and_eq_false_iff, decide_eq_true_eq, decide_eq_false_iff_not, bne_iff_ne, beq_iff_eq, beq_eq_false_iff_ne, bne_eq_false_iff_eq, Bool.not_eq_true', Bool.not_eq_false', bys_length, List.length_append, List.length_cons, List.length_nil, List.length_map, List.length_drop, List.length_take, Int.natCast_add, wrap_i64_eq, wrap_u64, wrap_u8, ne_eq, not_true_eq_false, not_false_eq_true, Nat.zero_add, Nat.mul_one] <;> omega) | omega | (simp; done) | (simp; omega))) only [↓CR, MC, ↓PR, MR, rcs_length, rcs_getD h1 hf, b4, rd, b1, flds_length]
            rw [P14_2_eq]
            simp (disch := (first | assumption | (simp only [Bool.and_eq_true, Bool.and_eq_false_iff, decide_eq_true_eq, decide_eq_false_iff_not, bne_iff_ne, beq_iff_eq, beq_eq_false_iff_ne, bne_eq_false_iff_eq, Bool.not_eq_true', Bool.not_eq_false', bys_length, List.length_append, List.length_cons, List.length_nil, List.length_map, List.length_drop, List.length_take, Int.natCast_add, wrap_i64_eq, wrap_u64, wrap_u8, ne_eq, not_true_eq_false, not_false_eq_true, Nat.zero_add, Nat.mul_one] <;> omega) | omega | (simp; done) | (simp; omega))) only [↓CR, MC, ↓PR, MR, rcs_length, rcs_getD h1 hf, rj, b2, Bool.not_true, b5]
            rw [P14_3_eq]
            simp (disch := (first | assumption | (simp only [Bool.and_eq_true, Bool.and_eq_false_iff, decide_eq_true_eq, decide_eq_false_iff_not, bne_iff_ne, beq_iff_eq, beq_eq_false_iff_ne, bne_eq_false_iff_eq, Bool.not_eq_true', Bool.not_eq_false', bys_length, List.length_append, List.length_cons, List.length_nil, List.length_map, List.length_drop, List.length_take, Int.natCast_add, wrap_i64_eq, wrap_u64, wrap_u8, ne_eq, not_true_eq_false, not_false_eq_true, Nat.zero_add, Nat.mul_one] <;> omega) | omega | (simp; done) | (simp; omega))) only [↓CR, MC, ↓PR, MR, rcs_length, rcs_getD h1 hf, b2', e1']
      · rw [if_pos e1] at hr; cases hr
    · rw [if_neg k4] at hr
      have b4 : ((l[j].kind : Int) == 4) = false := by simp [k4]
      by_cases k2 : l[j].kind = 2
      · rw [if_pos k2] at hr
        have b2 : ((l[j].kind : Int) == 2) = true := by simp [k2]
        have rb := fun (Q : Res → Prop) (tg : Hid Q) => r12decode_run (d := d + 8) (f := false) (b := l[j].data) (by omega) (h := h) (Q := Q) (tg := tg)
        unfold rbt at hr
        split at hr
        · cases hr
        · rename_i e
          have e' : (bdec (l[j].data.length + 1) l[j].data []).2 = 0 := by simpa using e
          have b5 : ((((bdec (l[j].data.length + 1) l[j].data []).2 : Nat) : Int) != 0) = false := by simp [e']
          have ev : bV (bdec (l[j].data.length + 1) l[j].data []) = .sl false 4 (kops (bdec (l[j].data.length + 1) l[j].data []).1) := by unfold bV; rw [if_pos e']
          rw [ev] at rb
          have ho : (bdec (l[j].data.length + 1) l[j].data []).1.length ≤ 8 := bdec_ok _ _ [] _ (Prod.ext rfl e')
          simp only [Option.some.injEq] at hr
          subst hr
          cases ht : s.tab with
          | none =>
            refine ⟨g, fun Q tg => ?_⟩
            rw [P14_0_eq]
            simp only [Option.isSome_none, rL, ht, Option.getD_none, Option.map_none, en, Bool.false_eq_true, if_false]
            simp (disch := (first | assumption | (simp only [Bool.and_eq_true, Bool.and_eq_false_iff, decide_eq_true_eq, decide_eq_false_iff_not, bne_iff_ne, beq_iff_eq, beq_eq_false_iff_ne, bne_eq_false_iff_eq, Bool.not_eq_true', Bool.not_eq_false', bys_length, List.length_append, List.length_cons, List.length_nil, List.length_map, List.length_drop, List.length_take, Int.natCast_add, wrap_i64_eq, wrap_u64, wrap_u8, ne_eq, not_true_eq_false, not_false_eq_true, Nat.zero_add, Nat.mul_one] <;> omega) | omega | (simp; done) | (simp; omega))) only [↓CR, MC, ↓PR, MR, rcs_length, rcs_getD h1 hf, b3]
            rw [P14_1_eq]
            simp (disch := (first | assumption | (simp only [Bool.and_eq_true, Bool.and_eq_false_iff, decide_eq_true_eq, decide_eq_false_iff_not, bne_iff_ne, beq_iff_eq, beq_eq_false_iff_ne, bne_eq_false_iff_eq, Bool.not_eq_true', Bool.not_eq_false', bys_length, List.length_append, List.length_cons, List.length_nil, List.length_map, List.length_drop, List.length_take, Int.natCast_add, wrap_i64_eq, wrap_u64, wrap_u8, ne_eq, not_true_eq_false, not_false_eq_true, Nat.zero_add, Nat.mul_one] <;> omega) | omega | (simp; done) | (simp; omega))) only [↓CR, MC, ↓PR, MR, rcs_length, rcs_getD h1 hf, b4]
            rw [P14_3_eq]
            simp (disch := (first | assumption | (simp only [Bool.and_eq_true, Bool.and_eq_false_iff, decide_eq_true_eq, decide_eq_false_iff_not, bne_iff_ne, beq_iff_eq, beq_eq_false_iff_ne, bne_eq_false_iff_eq, Bool.not_eq_true', Bool.not_eq_false', bys_length, List.length_append, List.length_cons, List.length_nil, List.length_map, List.length_drop, List.length_take, Int.natCast_add, wrap_i64_eq, wrap_u64, wrap_u8, ne_eq, not_true_eq_false, not_false_eq_true, Nat.zero_add, Nat.mul_one] <;> omega) | omega | (simp; done) | (simp; omega))) only [↓CR, MC, ↓PR, MR, rcs_length, rcs_getD h1 hf, b2, rb, b5, e1']
          | some L =>
            obtain ⟨t1, t2⟩ := I.tab L ht
            have hbt := I.bts
            have ew := succ_wrap (i := s.bts) (by omega)
            obtain ⟨g', ra⟩ := rapplys_run (d + 9) false g (bdec (l[j].data.length + 1) l[j].data []).1 (by omega) L t1 (by omega) h
            refine ⟨g', fun Q tg => ?_⟩
            rw [P14_0_eq]
            simp only [Option.isSome_some, rL, ht, Option.getD_some, Option.map_some, en, if_true]
            simp (disch := (first | assumption | (simp only [Bool.and_eq_true, Bool.and_eq_false_iff, decide_eq_true_eq, decide_eq_false_iff_not, bne_iff_ne, beq_iff_eq, beq_eq_false_iff_ne, bne_eq_false_iff_eq, Bool.not_eq_true', Bool.not_eq_false', bys_length, List.length_append, List.length_cons, List.length_nil, List.length_map, List.length_drop, List.length_take, Int.natCast_add, wrap_i64_eq, wrap_u64, wrap_u8, ne_eq, not_true_eq_false, not_false_eq_true, Nat.zero_add, Nat.mul_one] <;> omega) | omega | (simp; done) | (simp; omega))) only [↓CR, MC, ↓PR, MR, rcs_length, rcs_getD h1 hf, b3]
            rw [P14_1_eq]
            simp (disch := (first | assumption | (simp only [Bool.and_eq_true, Bool.and_eq_false_iff, decide_eq_true_eq, decide_eq_false_iff_not, bne_iff_ne, beq_iff_eq, beq_eq_false_iff_ne, bne_eq_false_iff_eq, Bool.not_eq_true', Bool.not_eq_false', bys_length, List.length_append, List.length_cons, List.length_nil, List.length_map, List.length_drop, List.length_take, Int.natCast_add, wrap_i64_eq, wrap_u64, wrap_u8, ne_eq, not_true_eq_false, not_false_eq_true, Nat.zero_add, Nat.mul_one] <;> omega) | omega | (simp; done) | (simp; omega))) only [↓CR, MC, ↓PR, MR, rcs_length, rcs_getD h1 hf, b4]
            rw [P14_3_eq]
            simp (disch := (first | assumption | (simp only [Bool.and_eq_true, Bool.and_eq_false_iff, decide_eq_true_eq, decide_eq_false_iff_not, bne_iff_ne, beq_iff_eq, beq_eq_false_iff_ne, bne_eq_false_iff_eq, Bool.not_eq_true', Bool.not_eq_false', bys_length, List.length_append, List.length_cons, List.length_nil, List.length_map, List.length_drop, List.length_take, Int.natCast_add, wrap_i64_eq, wrap_u64, wrap_u8, ne_eq, not_true_eq_false, not_false_eq_true, Nat.zero_add, Nat.mul_one] <;> omega) | omega | (simp; done) | (simp; omega))) only [↓CR, MC, ↓PR, MR, rcs_length, rcs_getD h1 hf, b2, rb, b5, ra, e1', ew]
      · rw [if_neg k2] at hr
        have b2 : ((l[j].kind : Int) == 2) = false := by simp [k2]
        simp only [Option.some.injEq] at hr
        subst hr
        refine ⟨g, fun Q tg => ?_⟩
        rw [P14_0_eq]
        simp (disch := (first | assumption | (simp only [Bool.and_eq_true, Bool.and_eq_false_iff, decide_eq_true_eq, decide_eq_false_iff_not, bne_iff_ne, beq_iff_eq, beq_eq_false_iff_ne, bne_eq_false_iff_eq, Bool.not_eq_true', Bool.not_eq_false', bys_length, List.length_append, List.length_cons, List.length_nil, List.length_map, List.length_drop, List.length_take, Int.natCast_add, wrap_i64_eq, wrap_u64, wrap_u8, ne_eq, not_true_eq_false, not_false_eq_true, Nat.zero_add, Nat.mul_one] <;> omega) | omega | (simp; done) | (simp; omega))) only [↓CR, MC, ↓PR, MR, rcs_length, rcs_getD h1 hf, b3]
        rw [P14_1_eq]
        simp (disch := (first | assumption | (simp only [Bool.and_eq_true, Bool.and_eq_false_iff, decide_eq_true_eq, decide_eq_false_iff_not, bne_iff_ne, beq_iff_eq, beq_eq_false_iff_ne, bne_eq_false_iff_eq, Bool.not_eq_true', Bool.not_eq_false', bys_length, List.length_append, List.length_cons, List.length_nil, List.length_map, List.length_drop, List.length_take, Int.natCast_add, wrap_i64_eq, wrap_u64, wrap_u8, ne_eq, not_true_eq_false, not_false_eq_true, Nat.zero_add, Nat.mul_one] <;> omega) | omega | (simp; done) | (simp; omega))) only [↓CR, MC, ↓PR, MR, rcs_length, rcs_getD h1 hf, b4]
        rw [P14_3_eq]
        simp (disch := (first | assumption | (simp only [Bool.and_eq_true, Bool.and_eq_false_iff, decide_eq_true_eq, decide_eq_false_iff_not, bne_iff_ne, beq_iff_eq, beq_eq_false_iff_ne, bne_eq_false_iff_eq, Bool.not_eq_true', Bool.not_eq_false', bys_length, List.length_append, List.length_cons, List.length_nil, List.length_map, List.length_drop, List.length_take, Int.natCast_add, wrap_i64_eq, wrap_u64, wrap_u8, ne_eq, not_true_eq_false, not_false_eq_true, Nat.zero_add, Nat.mul_one] <;> omega) | omega | (simp; done) | (simp; omega))) only [↓CR, MC, ↓PR, MR, rcs_length, rcs_getD h1 hf, b2, e1']
theorem rref_loop (d : Nat) (f : Bool) (l : List Rec) (hl : l.length ≤ 120) (hr : ∀ r ∈ l, r.data.length ≤ 600 ∧ r.full = false) (h : Heap) : ∀ (n j k : Nat) (g : Bool) (s : RSt), RInv j s → l.length = j + n → n < k →
    ∃ vs, rfOut vs (rfin (rrun s (l.drop j))) ∧ ∀ (Q : Res → Prop) (tg : Hid Q), Run (P14_0 (d + 12) k f (rcs l) s.tab.isSome s.yng (flds s.pcs) j [] 0 0 g (prs (rL s)) s.pts s.bts h) Q tg = Q (vs, h) := by
  intro n
  induction n with
  | zero =>
    intro j k g s I hj hk
    obtain ⟨k, rfl⟩ : ∃ m, k = m + 1 := ⟨k - 1, by omega⟩
    have hd : l.drop j = [] := List.drop_eq_nil_of_le (by omega)
    rw [hd]
    simp only [rrun, rfin]
    cases ht : s.tab with
    | none =>
      refine ⟨_, rfl, fun Q tg => ?_⟩
      rw [P14_0_eq]
      simp (disch := (first | assumption | (simp only [Bool.and_eq_true, Bool.and_eq_false_iff, decide_eq_true_eq, decide_eq_false_iff_not, bne_iff_ne, beq_iff_eq, beq_eq_false_iff_ne, bne_eq_false_iff_eq, Bool.not_eq_true', Bool.not_eq_false', bys_length, List.length_append, List.length_cons, List.length_nil, List.length_map, List.length_drop, List.length_take, Int.natCast_add, wrap_i64_eq, wrap_u64, wrap_u8, ne_eq, not_true_eq_false, not_false_eq_true, Nat.zero_add, Nat.mul_one] <;> omega) | omega | (simp; done) | (simp; omega))) only [↓CR, MC, ↓PR, MR, rcs_length, Option.isSome_none, Bool.not_false]
    | some L =>
      refine ⟨_, ⟨g, rfl⟩, fun Q tg => ?_⟩
      rw [P14_0_eq]
      simp only [rL, ht, Option.getD_some]
      simp (disch := (first | assumption | (simp only [Bool.and_eq_true, Bool.and_eq_false_iff, decide_eq_true_eq, decide_eq_false_iff_not, bne_iff_ne, beq_iff_eq, beq_eq_false_iff_ne, bne_eq_false_iff_eq, Bool.not_eq_true', Bool.not_eq_false', bys_length, List.length_append, List.length_cons, List.length_nil, List.length_map, List.length_drop, List.length_take, Int.natCast_add, wrap_i64_eq, wrap_u64, wrap_u8, ne_eq, not_true_eq_false, not_false_eq_true, Nat.zero_add, Nat.mul_one] <;> omega) | omega | (simp; done) | (simp; omega))) only [↓CR, MC, ↓PR, MR, rcs_length, Option.isSome_some, Bool.not_true]
  | succ n ih =>
    intro j k g s I hj hk
    obtain ⟨k, rfl⟩ : ∃ m, k = m + 1 := ⟨k - 1, by omega⟩
    have h1 : j < l.length := by omega
    obtain ⟨hb, hf⟩ := hr _ (List.getElem_mem h1)
    rw [List.drop_eq_getElem_cons h1]
    unfold rrun
    cases hs : rstep s l[j] with
    | none => exact ⟨_, rfl, fun Q tg => rref_none d k j j f g l hl h1 hf hb s I (by omega) hs h Q tg⟩
    | some s' =>
      obtain ⟨g', r⟩ := rref_some d k j j f g l hl h1 hf hb s s' I (by omega) hs h
      obtain ⟨vs, ho, r2⟩ := ih (j + 1) k g' s' (rstep_inv I (by omega) hb hs) (by omega) (by omega)
      exact ⟨vs, ho, fun Q tg => (r Q tg).trans (r2 Q ⟨⟩)⟩
theorem rref_run (d : Nat) (f : Bool) (l : List Rec) (hl : l.length ≤ 120) (hr : ∀ r ∈ l, r.data.length ≤ 600 ∧ r.full = false) (x : Int) (h : Heap) :
    ∃ vs, rfOut vs (rfin (rrun (rini x) l)) ∧ ∀ (Q : Res → Prop) (tg : Hid Q), Run (evFn Cw (d + 13) 14 [.sl f 6 (rcs l), .int .i64 x] h) Q tg = Q (vs, h) := by
  obtain ⟨vs, ho, r⟩ := rref_loop d f l hl hr h l.length 0 rounds true (rini x) (rini_inv x) (by omega) (Nat.lt_of_lt_of_le (by omega) rounds_ge)
  rw [List.drop_zero] at ho
  refine ⟨vs, ho, fun Q tg => ?_⟩
  have r' := r Q ⟨⟩
  have en : flds [] = [] := of_eq_true (eq_self _)
  have b1 : (rini x).tab.isSome = ((x : Int) == 1) := by unfold rini; by_cases c : x = 1 <;> simp [c]
  have b2 : (rini x).yng = ((x : Int) != 1) := rfl
  have b3 : rL (rini x) = [] := by unfold rL rini; by_cases c : x = 1 <;> simp [c]
  have b4 : (rini x).pcs = [] := rfl
  have b5 : (rini x).pts = 0 := rfl
  have b6 : (rini x).bts = 0 := rfl
  rw [b1, b2, b3, b4, b5, b6, en, prs_nil, e0] at r'
  rw [F14_eq]
  exact r'
end Go.Proofs.YtdlcjibefbnckaaDoor.Wa
end

section
/- Kinds; small; awake; ReplayTells. -/
namespace Go.Proofs.YtdlcjibefbnckaaDoor.Wa
open Go Go.Weave
set_option maxRecDepth 100000
set_option linter.unusedSimpArgs false
set_option linter.unusedVariables false
set_option linter.unusedSectionVars false

def smallF : List Rec → Bool
  | [] => true
  | r :: l => !decide (600 < r.data.length) && smallF l
def smallB (l : List Rec) : Bool := smallF l && decide (l.length ≤ 60)
theorem smallF_mem : ∀ {l : List Rec}, smallF l = true → ∀ r ∈ l, r.data.length ≤ 600
  | [], _, r, hr => by simp at hr
  | x :: l, h, r, hr => by
    unfold smallF at h
    simp only [Bool.and_eq_true, Bool.not_eq_true', decide_eq_false_iff_not] at h
    rcases List.mem_cons.1 hr with rfl | hr
    · omega
    · exact smallF_mem h.2 r hr
theorem small_loop (d : Nat) (f : Bool) (l : List Rec) (hl : l.length ≤ 140737488351232) (hr : ∀ r ∈ l, r.data.length ≤ 140737488351232 ∧ r.full = false) (h : Heap) (Q : Res → Prop) : ∀ (n j k : Nat) (tg : Hid Q), l.length = j + n → n < k →
    Run (P11_0 d k f (rcs l) j h) Q tg = Q ([.bool (smallF (l.drop j) && decide (l.length ≤ 60))], h) := by
  intro n
  induction n with
  | zero =>
    intro j k tg hj hk
    obtain ⟨k, rfl⟩ : ∃ m, k = m + 1 := ⟨k - 1, by omega⟩
    have hd : l.drop j = [] := List.drop_eq_nil_of_le (by omega)
    rw [P11_0_eq, hd]
    have eq : decide ((l.length : Int) ≤ 60) = decide (l.length ≤ 60) := by simp only [decide_eq_decide]; omega
    simp (disch := (first | assumption | (simp only [Bool.and_eq_true, Bool.and_eq_false_iff, decide_eq_true_eq, decide_eq_false_iff_not, bne_iff_ne, beq_iff_eq, beq_eq_false_iff_ne, bne_eq_false_iff_eq, Bool.not_eq_true', Bool.not_eq_false', bys_length, List.length_append, List.length_cons, List.length_nil, List.length_map, List.length_drop, List.length_take, Int.natCast_add, wrap_i64_eq, wrap_u64, wrap_u8, ne_eq, not_true_eq_false, not_false_eq_true, Nat.zero_add, Nat.mul_one] <;> omega) | omega | (simp; done) | (simp; omega))) only [↓CR, MC, ↓PR, MR, rcs_length, eq]
    simp [smallF]
  | succ n ih =>
    intro j k tg hj hk
    obtain ⟨k, rfl⟩ : ∃ m, k = m + 1 := ⟨k - 1, by omega⟩
    have h1 : j < l.length := by omega
    have e1 := succ_wrap (i := j) (by omega)
    obtain ⟨hb, hf⟩ := hr _ (List.getElem_mem h1)
    have ih' := fun tg => ih (j + 1) k tg (by omega) (by omega)
    rw [P11_0_eq, List.drop_eq_getElem_cons h1]
    unfold smallF
    by_cases c : 600 < (l[j]).data.length
    · rw [decide_eq_true c]
      simp (disch := (first | assumption | (simp only [Bool.and_eq_true, Bool.and_eq_false_iff, decide_eq_true_eq, decide_eq_false_iff_not, bne_iff_ne, beq_iff_eq, beq_eq_false_iff_ne, bne_eq_false_iff_eq, Bool.not_eq_true', Bool.not_eq_false', bys_length, List.length_append, List.length_cons, List.length_nil, List.length_map, List.length_drop, List.length_take, Int.natCast_add, wrap_i64_eq, wrap_u64, wrap_u8, ne_eq, not_true_eq_false, not_false_eq_true, Nat.zero_add, Nat.mul_one] <;> omega) | omega | (simp; done) | (simp; omega))) only [↓CR, MC, ↓PR, MR, rcs_length, rcs_getD h1 hf]
      rfl
    · rw [decide_eq_false c]
      simp (disch := (first | assumption | (simp only [Bool.and_eq_true, Bool.and_eq_false_iff, decide_eq_true_eq, decide_eq_false_iff_not, bne_iff_ne, beq_iff_eq, beq_eq_false_iff_ne, bne_eq_false_iff_eq, Bool.not_eq_true', Bool.not_eq_false', bys_length, List.length_append, List.length_cons, List.length_nil, List.length_map, List.length_drop, List.length_take, Int.natCast_add, wrap_i64_eq, wrap_u64, wrap_u8, ne_eq, not_true_eq_false, not_false_eq_true, Nat.zero_add, Nat.mul_one] <;> omega) | omega | (simp; done) | (simp; omega))) only [↓CR, MC, ↓PR, MR, rcs_length, rcs_getD h1 hf, e1, ih']
      simp
theorem small_run {d : Nat} {f : Bool} {l : List Rec} (hl : l.length ≤ 140737488351232) (hr : ∀ r ∈ l, r.data.length ≤ 140737488351232 ∧ r.full = false) {h : Heap} {Q : Res → Prop} {tg : Hid Q} :
    Run (evFn Cw (d + 1) 11 [.sl f 6 (rcs l)] h) Q tg = Q ([.bool (smallB l)], h) := by
  have := small_loop d f l hl hr h Q l.length 0 rounds ⟨⟩ (by omega) (Nat.lt_of_lt_of_le (by omega) rounds_ge)
  rw [e0, List.drop_zero] at this
  rw [F11_eq]
  exact this
/-! ### Awake -/
def awR : Rec := ⟨2, 0, 0, 0, false, [1, 1, 97, 1, 98]⟩
theorem aw_bdec : bdec 6 [1, 1, 97, 1, 98] [] = ([⟨1, [97], [98]⟩], 0) := by
  have f1 : fget [1, 97, 1, 98] = ([97], 2, 0) := fget_short (l := [97]) (r := [1, 98]) (by decide)
  have f2 : fget [1, 98] = ([98], 2, 0) := fget_short (l := [98]) (r := []) (by decide)
  have hr : rightO ⟨1, [97], [98]⟩ = true := by decide
  have ho : oget [1, 1, 97, 1, 98] = (⟨1, [97], [98]⟩, 5, 0) := by
    show (if (1 : UInt8) = 1 ∨ (1 : UInt8) = 2 then ogetR 1 [1, 97, 1, 98] else (oZ, 0, 2)) = _
    rw [if_pos (.inl rfl)]
    unfold ogetR
    rw [f1]
    simp only [ne_eq, not_true_eq_false, if_false, if_true]
    rw [show List.drop 2 ([1, 97, 1, 98] : List UInt8) = [1, 98] from rfl, f2]
    simp only [ne_eq, not_true_eq_false, if_false]
    rw [if_pos hr]
  rw [bdec_succ, if_neg (by decide), ho]
  simp only [ne_eq, not_true_eq_false, if_false]
  rw [show List.drop 5 ([1, 1, 97, 1, 98] : List UInt8) = [] from rfl, bdec_succ, if_pos (by rfl), if_pos (by decide)]
  rfl
theorem aw_fin : rfin (rrun (rini 1) [awR]) = some ([⟨[97], [98]⟩], 0, 1) := by
  have hs : rstep (rini 1) awR = some ⟨some [⟨[97], [98]⟩], 0, 1, [], false⟩ := by
    unfold rstep
    rw [if_neg (by decide), if_neg (by decide), if_pos (by rfl)]
    unfold rbt
    rw [show bdec (awR.data.length + 1) awR.data [] = ([⟨1, [97], [98]⟩], 0) from aw_bdec]
    simp only [ne_eq, not_true_eq_false, if_false]
    rfl
  unfold rrun
  rw [hs]
  rfl
theorem awake35_run (d : Nat) (h : Heap) : ∃ h', h.ext h' ∧ ∀ (Q : Res → Prop) (tg : Hid Q), Run (evFn Cw (d + 31025) 12 [] h) Q tg = Q ([.bool true], h') := by
  have e1 : [AVal.agg [(AVal.int .i64 2), (AVal.int .i64 0), (AVal.int .i64 0), (AVal.int .i64 0), (AVal.sl false 0 [(AVal.int .u8 1), (AVal.int .u8 1), (AVal.int .u8 97), (AVal.int .u8 1), (AVal.int .u8 98)])]] = rcs [awR] := of_eq_true (eq_self _)
  obtain ⟨h1, vs, E, ho, r1⟩ := replay_run d true [awR] (by simp) (fun r hr => by simp at hr; subst hr; exact ⟨by decide, rfl⟩) 1 h
  rw [aw_fin] at ho
  obtain ⟨ti, tr, t, T, hL, m1, m2, rfl⟩ := ho
  -- nothing is replayed
  have eo : Weave.Obj.cells ([AVal.nilp, (AVal.int .i64 0), (AVal.int .i64 0), (AVal.sl true 0 []), (AVal.bool ((2 : Int) != 1))].map HCell.val) = rpO .nilp 0 0 (.val (.sl true 0 [])) true := of_eq_true (eq_self _)
  have E2 := Heap.ext.push h1 (rpO .nilp 0 0 (.val (.sl true 0 [])) true)
  have hm := Heap.push_new h1 (rpO .nilp 0 0 (.val (.sl true 0 [])) true)
  have c0 := rp_c0 hm
  have r2 : ∀ (Q : Res → Prop) (tg : Hid Q), Run (evFn Cw (d + 31024) 13 [.sl true 0 [], .int .i64 2] h1) Q tg = Q ([.agg [.nilp, .int .i64 0, .int .i64 0], .int .i64 12], h1.push (rpO .nilp 0 0 (.val (.sl true 0 [])) true)) := fun Q tg => by
    obtain ⟨k, hk⟩ : ∃ k, rounds = k + 1 := ⟨rounds - 1, by have := rounds_ge; omega⟩
    have b1 : ((2 : Int) == 1) = false := rfl
    rw [F13n_eq]
    simp (disch := (first | assumption | (simp only [Bool.and_eq_true, Bool.and_eq_false_iff, decide_eq_true_eq, decide_eq_false_iff_not, bne_iff_ne, beq_iff_eq, beq_eq_false_iff_ne, bne_eq_false_iff_eq, Bool.not_eq_true', Bool.not_eq_false', bys_length, List.length_append, List.length_cons, List.length_nil, List.length_map, List.length_drop, List.length_take, Int.natCast_add, wrap_i64_eq, wrap_u64, wrap_u8, ne_eq, not_true_eq_false, not_false_eq_true, Nat.zero_add, Nat.mul_one] <;> omega) | omega | (simp; done) | (simp; omega))) only [↓CR, MC, ↓PR, MR, b1, eo, P13n_0_eq, hk, P13n_1_eq, c0, isPtr_nilp, isNilp_nilp]
  have T2 := T.ext E2
  have r3 := fun (Q : Res → Prop) (tg : Hid Q) => tablen_run (d := d + 31022) (Q := Q) (tg := tg) T2
  have hl1 : t.toL.length = 1 := by rw [hL]; rfl
  rw [hl1] at r3
  have z0 : (((0 : Int)) == 0) = true := rfl
  have z1 : (((12 : Int)) == 12) = true := rfl
  have z2 : ((((1 : Nat) : Int)) == 1) = true := rfl
  refine ⟨_, E.trans E2, fun Q tg => ?_⟩
  rw [F12_eq, e1]
  simp (disch := (first | assumption | (simp only [Bool.and_eq_true, Bool.and_eq_false_iff, decide_eq_true_eq, decide_eq_false_iff_not, bne_iff_ne, beq_iff_eq, beq_eq_false_iff_ne, bne_eq_false_iff_eq, Bool.not_eq_true', Bool.not_eq_false', bys_length, List.length_append, List.length_cons, List.length_nil, List.length_map, List.length_drop, List.length_take, Int.natCast_add, wrap_i64_eq, wrap_u64, wrap_u8, ne_eq, not_true_eq_false, not_false_eq_true, Nat.zero_add, Nat.mul_one] <;> omega) | omega | (simp; done) | (simp; omega))) only [↓CR, MC, ↓PR, MR, r1, r2, z0, z1, r3, z2]

/-! ### Kinds -/
end Go.Proofs.YtdlcjibefbnckaaDoor.Wa
end

section
/- ReplayTells. -/
namespace Go.Proofs.YtdlcjibefbnckaaDoor.Wa
open Go Go.Weave
set_option maxRecDepth 100000
set_option linter.unusedSimpArgs false
set_option linter.unusedVariables false
set_option linter.unusedSectionVars false

end Go.Proofs.YtdlcjibefbnckaaDoor.Wa
end

section
/- ReplayCuts. -/
namespace Go.Proofs.YtdlcjibefbnckaaDoor.Wa
open Go Go.Weave
set_option maxRecDepth 100000
set_option linter.unusedSimpArgs false
set_option linter.unusedVariables false
set_option linter.unusedSectionVars false

theorem part_rdrop {l : List Rec} {k : Nat} : Weave.part (k : Int) (l.length : Int) (rcs l) = rcs (l.drop k) := by
  have e : ((l.length : Int) - (k : Int)).toNat = l.length - k := by omega
  simp only [Weave.part, Int.toNat_natCast, e, rcs, ← List.map_drop]
  rw [List.take_of_length_le (by simp)]
theorem part_rtake {l : List Rec} {k : Nat} : Weave.part 0 (k : Int) (rcs l) = rcs (l.take k) := by
  simp [Weave.part, rcs, List.map_take]
theorem part_rone {l : List Rec} {j : Nat} (h : j < l.length) : Weave.part (j : Int) ((j + 1 : Nat) : Int) (rcs l) = rcs [l[j]] := by
  have e : (((j + 1 : Nat) : Int) - (j : Int)).toNat = 1 := by omega
  simp only [Weave.part, Int.toNat_natCast, e, rcs, ← List.map_drop]
  rw [List.drop_eq_getElem_cons h]
  rfl
theorem rcs_app (a b : List Rec) : rcs a ++ rcs b = rcs (a ++ b) := by simp [rcs]
noncomputable def lsF : List Rec → List Rec
  | [] => []
  | r :: l => if r.kind = 3 ∧ (pcF r.data).isSome = true then r :: lsF l else lsF l
theorem lsF_snoc (l : List Rec) (r : Rec) : lsF (l ++ [r]) = if r.kind = 3 ∧ (pcF r.data).isSome = true then lsF l ++ [r] else lsF l := by
  induction l with
  | nil => simp [lsF]
  | cons x l ih =>
    simp only [List.cons_append, lsF, ih]
    by_cases c : x.kind = 3 ∧ (pcF x.data).isSome = true <;> by_cases c2 : r.kind = 3 ∧ (pcF r.data).isSome = true <;> simp [c, c2]
theorem lsF_mem : ∀ {l : List Rec}, ∀ r ∈ lsF l, r ∈ l ∧ r.kind = 3 ∧ (pcF r.data).isSome = true
  | [], r, h => by simp [lsF] at h
  | x :: l, r, h => by
    unfold lsF at h
    split at h
    · rename_i c
      rcases List.mem_cons.1 h with rfl | h
      · exact ⟨by simp, c⟩
      · have := lsF_mem r h; exact ⟨List.mem_cons_of_mem _ this.1, this.2⟩
    · have := lsF_mem r h; exact ⟨List.mem_cons_of_mem _ this.1, this.2⟩
theorem lsF_len (l : List Rec) : (lsF l).length ≤ l.length := by
  induction l with
  | nil => simp [lsF]
  | cons x l ih => unfold lsF; split <;> simp only [List.length_cons] <;> omega
theorem lone {r : Rec} (k : r.kind = 3) : rfin (rrun (rini 1) [r]) = if (pcF r.data).isSome = true then some ([], 0, 0) else none := by
  rw [rrun_cons]
  unfold rstep
  rw [if_pos k]
  cases hp : pcF r.data <;> simp [rrun, rfin, rini]
theorem cuts0_loop (d : Nat) (f f3 : Bool) (x2 : Int) (l4 : List AVal) (c7 : List AVal) (h : Heap) (pre C : List Rec) (P : Rec) (k4 : P.kind = 4) (hC : ∀ r ∈ C, r.kind ≠ 4) (hl : (pre ++ P :: C).length ≤ 1000000) (hP : P.data.length ≤ 140737488351232)
    (hr : ∀ r ∈ pre ++ P :: C, r.full = false) (Q : Res → Prop) : ∀ (n j k acc : Nat) (tg : Hid Q), (pre ++ P :: C).length = j + n → n < k → (j ≤ pre.length ∨ acc = pre.length) →
      Run (P4_0 (d + 3) k f (rcs (pre ++ P :: C)) x2 f3 l4 acc j c7 h) Q tg = Run (P4_1 (d + 3) rounds f (rcs (pre ++ P :: C)) x2 f3 l4 (pre.length : Nat) ((decP P.data).1.1 : Nat) c7 h) Q ⟨⟩ := by
  intro n
  induction n with
  | zero =>
    intro j k acc tg hj hk ha
    obtain ⟨k, rfl⟩ : ∃ m, k = m + 1 := ⟨k - 1, by omega⟩
    have hlen : (pre ++ P :: C).length = pre.length + (C.length + 1) := by simp
    have ea : acc = pre.length := by omega
    subst ea
    have h1 : pre.length < (pre ++ P :: C).length := by omega
    have eg : (pre ++ P :: C)[pre.length] = P := by simp
    have hf : (pre ++ P :: C)[pre.length].full = false := hr _ (List.getElem_mem h1)
    have gp := rcs_getD h1 hf
    rw [eg] at gp
    have rd := fun (Q : Res → Prop) (tg : Hid Q) => rpdec_run (d := d) (f := false) (b := P.data) (h := h) hP Q tg
    unfold ptA at rd
    have q1 : decide ((j : Int) < ((rcs (pre ++ P :: C)).length : Int)) = false := by rw [rcs_length]; simp only [decide_eq_false_iff_not]; omega
    have q2 : (decide ((0 : Int) ≤ (pre.length : Int)) && decide ((pre.length : Int) < ((rcs (pre ++ P :: C)).length : Int))) = true := by rw [rcs_length]; simp only [Bool.and_eq_true, decide_eq_true_eq]; omega
    rw [P4_0_eq]
    simp (disch := (first | assumption | (simp only [Bool.and_eq_true, Bool.and_eq_false_iff, decide_eq_true_eq, decide_eq_false_iff_not, bne_iff_ne, beq_iff_eq, beq_eq_false_iff_ne, bne_eq_false_iff_eq, Bool.not_eq_true', Bool.not_eq_false', bys_length, List.length_append, List.length_cons, List.length_nil, List.length_map, List.length_drop, List.length_take, Int.natCast_add, wrap_i64_eq, wrap_u64, wrap_u8, ne_eq, not_true_eq_false, not_false_eq_true, Nat.zero_add, Nat.mul_one] <;> omega) | omega | (simp; done) | (simp; omega))) only [↓CR, MC, ↓PR, MR, gp, rd]
  | succ n ih =>
    intro j k acc tg hj hk ha
    obtain ⟨k, rfl⟩ : ∃ m, k = m + 1 := ⟨k - 1, by omega⟩
    have h1 : j < (pre ++ P :: C).length := by omega
    have e1 := succ_wrap (i := j) (by omega)
    have hf := hr _ (List.getElem_mem h1)
    have q1 : decide ((j : Int) < ((rcs (pre ++ P :: C)).length : Int)) = true := by rw [rcs_length]; simp only [decide_eq_true_eq]; omega
    have q2 : (decide ((0 : Int) ≤ (j : Int)) && decide ((j : Int) < ((rcs (pre ++ P :: C)).length : Int))) = true := by rw [rcs_length]; simp only [Bool.and_eq_true, decide_eq_true_eq]; omega
    have gj := rcs_getD h1 hf
    rw [P4_0_eq]
    by_cases c : (pre ++ P :: C)[j].kind = 4
    · have b : (((pre ++ P :: C)[j].kind : Int) == 4) = true := by simp only [beq_iff_eq]; exact c
      have hj' : j ≤ pre.length := by
        rcases Nat.lt_or_ge pre.length j with hlt | hge
        · have : (pre ++ P :: C)[j] ∈ C := by
            rw [List.getElem_append_right (by omega)]
            obtain ⟨q, hq⟩ : ∃ q, j - pre.length = q + 1 := ⟨j - pre.length - 1, by omega⟩
            simp only [hq, List.getElem_cons_succ]
            exact List.getElem_mem _
          exact absurd c (hC _ this)
        · exact hge
      have ih' := fun tg => ih (j + 1) k j tg (by omega) (by omega) (by omega)
      simp (disch := (first | assumption | (simp only [Bool.and_eq_true, Bool.and_eq_false_iff, decide_eq_true_eq, decide_eq_false_iff_not, bne_iff_ne, beq_iff_eq, beq_eq_false_iff_ne, bne_eq_false_iff_eq, Bool.not_eq_true', Bool.not_eq_false', bys_length, List.length_append, List.length_cons, List.length_nil, List.length_map, List.length_drop, List.length_take, Int.natCast_add, wrap_i64_eq, wrap_u64, wrap_u8, ne_eq, not_true_eq_false, not_false_eq_true, Nat.zero_add, Nat.mul_one] <;> omega) | omega | (simp; done) | (simp; omega))) only [↓CR, MC, ↓PR, MR, gj, b, e1, ih']
    · have b : (((pre ++ P :: C)[j].kind : Int) == 4) = false := by simp only [beq_eq_false_iff_ne, ne_eq]; exact c
      have hj' : j + 1 ≤ pre.length ∨ acc = pre.length := by
        rcases ha with ha | ha
        · rcases Nat.lt_or_eq_of_le ha with h2 | h2
          · exact .inl (by omega)
          · exfalso
            apply c
            have : (pre ++ P :: C)[j] = P := by simp [h2]
            rw [this]; exact k4
        · exact .inr ha
      have ih' := fun tg => ih (j + 1) k acc tg (by omega) (by omega) hj'
      simp (disch := (first | assumption | (simp only [Bool.and_eq_true, Bool.and_eq_false_iff, decide_eq_true_eq, decide_eq_false_iff_not, bne_iff_ne, beq_iff_eq, beq_eq_false_iff_ne, bne_eq_false_iff_eq, Bool.not_eq_true', Bool.not_eq_false', bys_length, List.length_append, List.length_cons, List.length_nil, List.length_map, List.length_drop, List.length_take, Int.natCast_add, wrap_i64_eq, wrap_u64, wrap_u8, ne_eq, not_true_eq_false, not_false_eq_true, Nat.zero_add, Nat.mul_one] <;> omega) | omega | (simp; done) | (simp; omega))) only [↓CR, MC, ↓PR, MR, gj, b, e1, ih']
theorem cuts1_loop (d : Nat) (f f3 : Bool) (x2 : Int) (l4 : List AVal) (c7 : List AVal) (h : Heap) (A B D : List Rec) (hl : (A ++ (B ++ D)).length ≤ 1000000) (hr : ∀ r ∈ A ++ (B ++ D), r.full = false)
    (hB : B = [] ∨ ∃ r B', B = r :: B' ∧ r.kind = 3) (Q : Res → Prop) (R : Prop)
    (hR : ∀ (k : Nat) (tg : Hid Q), Run (P4_1 d (k + 1) f (rcs (A ++ (B ++ D))) x2 f3 l4 (A.length : Nat) 0 c7 h) Q tg = R) :
    ∀ (j k : Nat) (tg : Hid Q), j ≤ B.length → j < k → Run (P4_1 d k f (rcs (A ++ (B ++ D))) x2 f3 l4 (A.length + j : Nat) ((cd (B.take j)).length : Nat) c7 h) Q tg = R := by
  intro j
  induction j with
  | zero =>
    intro k tg _ hk
    obtain ⟨k, rfl⟩ : ∃ m, k = m + 1 := ⟨k - 1, by omega⟩
    have := hR k tg
    simpa [cd] using this
  | succ j ih =>
    intro k tg hj hk
    obtain ⟨k, rfl⟩ : ∃ m, k = m + 1 := ⟨k - 1, by omega⟩
    have hjB : j < B.length := by omega
    have hlen : (A ++ (B ++ D)).length = A.length + (B.length + D.length) := by simp
    have h1 : A.length + j < (A ++ (B ++ D)).length := by omega
    have eg : (A ++ (B ++ D))[A.length + j] = B[j] := by
      rw [List.getElem_append_right (by omega)]
      simp only [Nat.add_sub_cancel_left]
      rw [List.getElem_append_left hjB]
    have hf := hr _ (List.getElem_mem h1)
    have gj := rcs_getD h1 hf
    rw [eg] at gj
    have hcd : cd (B.take (j + 1)) = cd (B.take j) ++ cd [B[j]] := by rw [List.take_succ_eq_append_getElem hjB, cd_append]
    have hpos : 1 ≤ (cd (B.take (j + 1))).length := by
      rcases hB with rfl | ⟨r, B', rfl, hk3⟩
      · simp at hj
      · simp [cd, hk3]
    have hle : (cd (B.take (j + 1))).length ≤ 1000000 := by
      have : ∀ l : List Rec, (cd l).length ≤ l.length := fun l => by
        induction l with
        | nil => simp [cd]
        | cons x l ih => unfold cd; split <;> simp only [List.length_cons] <;> omega
      have := this (B.take (j + 1))
      rw [List.length_take] at this
      omega
    have e1 : IntKind.i64.wrap (((A.length + (j + 1) : Nat) : Int) - 1) = ((A.length + j : Nat) : Int) := by rw [wrap_i64_id (by omega) (by omega)]; omega
    have e2 : IntKind.i64.wrap (((cd (B.take (j + 1))).length : Int) - 1) = (((cd (B.take (j + 1))).length - 1 : Nat) : Int) := by rw [wrap_i64_id (by omega) (by omega)]; omega
    have q1 : decide ((((cd (B.take (j + 1))).length : Nat) : Int) > 0) = true := by simp only [decide_eq_true_eq]; omega
    have q3 : decide (((A.length + (j + 1) : Nat) : Int) > 0) = true := by simp only [decide_eq_true_eq]; omega
    have q2 : (decide ((0 : Int) ≤ ((A.length + j : Nat) : Int)) && decide (((A.length + j : Nat) : Int) < ((rcs (A ++ (B ++ D))).length : Int))) = true := by rw [rcs_length]; simp only [Bool.and_eq_true, decide_eq_true_eq]; omega
    have ih' := fun tg => ih k tg (by omega) (by omega)
    rw [P4_1_eq, e1, e2]
    by_cases c : B[j].kind = 3
    · have b : ((B[j].kind : Int) == 3) = true := by simp only [beq_iff_eq]; exact c
      have el : (cd (B.take (j + 1))).length - 1 = (cd (B.take j)).length := by rw [hcd]; simp [cd, c]
      rw [el]
      simp (disch := (first | assumption | (simp only [Bool.and_eq_true, Bool.and_eq_false_iff, decide_eq_true_eq, decide_eq_false_iff_not, bne_iff_ne, beq_iff_eq, beq_eq_false_iff_ne, bne_eq_false_iff_eq, Bool.not_eq_true', Bool.not_eq_false', bys_length, List.length_append, List.length_cons, List.length_nil, List.length_map, List.length_drop, List.length_take, Int.natCast_add, wrap_i64_eq, wrap_u64, wrap_u8, ne_eq, not_true_eq_false, not_false_eq_true, Nat.zero_add, Nat.mul_one] <;> omega) | omega | (simp; done) | (simp; omega))) only [↓CR, MC, ↓PR, MR, gj, b, ih']
    · have b : ((B[j].kind : Int) == 3) = false := by simp only [beq_eq_false_iff_ne, ne_eq]; exact c
      have el : (cd (B.take (j + 1))).length = (cd (B.take j)).length := by rw [hcd]; simp [cd, c]
      rw [el] at q1 ⊢
      simp (disch := (first | assumption | (simp only [Bool.and_eq_true, Bool.and_eq_false_iff, decide_eq_true_eq, decide_eq_false_iff_not, bne_iff_ne, beq_iff_eq, beq_eq_false_iff_ne, bne_eq_false_iff_eq, Bool.not_eq_true', Bool.not_eq_false', bys_length, List.length_append, List.length_cons, List.length_nil, List.length_map, List.length_drop, List.length_take, Int.natCast_add, wrap_i64_eq, wrap_u64, wrap_u8, ne_eq, not_true_eq_false, not_false_eq_true, Nat.zero_add, Nat.mul_one] <;> omega) | omega | (simp; done) | (simp; omega))) only [↓CR, MC, ↓PR, MR, gj, b, ih']
theorem cuts2_loop (d : Nat) (f f3 : Bool) (x2 x5 x6 : Int) (l1 : List AVal) (more : List Rec) (hm : more.length ≤ 60) (hr : ∀ r ∈ more, r.data.length ≤ 600 ∧ r.full = false) (c9 c10 : List AVal) (h : Heap) (Q : Res → Prop) (R : Prop)
    (hR : ∀ (k : Nat) (tg : Hid Q), Run (P4_2 (d + 13) (k + 1) f l1 x2 f3 (rcs more) x5 x6 (rcs (lsF more)) (more.length : Nat) c9 c10 h) Q tg = R) :
    ∀ (n j k : Nat) (tg : Hid Q), more.length = j + n → n < k → Run (P4_2 (d + 13) k f l1 x2 f3 (rcs more) x5 x6 (rcs (lsF (more.take j))) j c9 c10 h) Q tg = R := by
  intro n
  induction n with
  | zero =>
    intro j k tg hj hk
    obtain ⟨k, rfl⟩ : ∃ m, k = m + 1 := ⟨k - 1, by omega⟩
    have ej : j = more.length := by omega
    subst ej
    rw [List.take_of_length_le (Nat.le_refl _)]
    exact hR k tg
  | succ n ih =>
    intro j k tg hj hk
    obtain ⟨k, rfl⟩ : ∃ m, k = m + 1 := ⟨k - 1, by omega⟩
    have h1 : j < more.length := by omega
    have e1 := succ_wrap (i := j) (by omega)
    obtain ⟨hb, hf⟩ := hr _ (List.getElem_mem h1)
    have gj := rcs_getD h1 hf
    obtain ⟨vs, ho, rr⟩ := rref_run d false [more[j]] (by simp) (fun r hx => by simp at hx; subst hx; exact ⟨hb, hf⟩) 1 h
    have ih' := fun tg => ih (j + 1) k tg (by omega) (by omega)
    rw [List.take_succ_eq_append_getElem h1, lsF_snoc] at ih'
    have q1 : decide ((j : Int) < ((rcs more).length : Int)) = true := by rw [rcs_length]; simp only [decide_eq_true_eq]; omega
    have q2 : (decide ((0 : Int) ≤ (j : Int)) && decide ((j : Int) < ((rcs more).length : Int))) = true := by rw [rcs_length]; simp only [Bool.and_eq_true, decide_eq_true_eq]; omega
    have q3 : ((decide ((0 : Int) ≤ (j : Int)) && decide ((j : Int) ≤ ((j + 1 : Nat) : Int))) && decide (((j + 1 : Nat) : Int) ≤ ((rcs more).length : Int))) = true := by rw [rcs_length]; simp only [Bool.and_eq_true, decide_eq_true_eq]; omega
    have q4 : decide (((rcs (lsF (more.take j))).length + (1 : Nat)) * 56 ≤ 140737488355328) = true := by
      have := lsF_len (more.take j)
      rw [List.length_take] at this
      rw [rcs_length]; simp only [decide_eq_true_eq]; omega
    have ea : rcs (lsF (more.take j)) ++ [.agg [.int .i64 more[j].kind, .int .i64 more[j].chain, .int .i64 more[j].lsn, .int .i64 more[j].prev, .sl false 0 (bys more[j].data)]] = rcs (lsF (more.take j) ++ [more[j]]) := by
      rw [← rcs_app]; simp [rcs, Rec.A, Rec.C, hf]
    rw [P4_2_eq, e1, part_rone h1]
    have z12 : ((12 : Int) == 0) = false := rfl
    have z0 : ((0 : Int) == 0) = true := rfl
    by_cases c : more[j].kind = 3
    · have b : ((more[j].kind : Int) == 3) = true := by simp only [beq_iff_eq]; exact c
      rw [lone c] at ho
      by_cases c2 : (pcF more[j].data).isSome = true
      · rw [if_pos c2] at ho
        obtain ⟨g, rfl⟩ := ho
        rw [if_pos ⟨c, c2⟩] at ih'
        simp (disch := (first | assumption | (simp only [Bool.and_eq_true, Bool.and_eq_false_iff, decide_eq_true_eq, decide_eq_false_iff_not, bne_iff_ne, beq_iff_eq, beq_eq_false_iff_ne, bne_eq_false_iff_eq, Bool.not_eq_true', Bool.not_eq_false', bys_length, List.length_append, List.length_cons, List.length_nil, List.length_map, List.length_drop, List.length_take, Int.natCast_add, wrap_i64_eq, wrap_u64, wrap_u8, ne_eq, not_true_eq_false, not_false_eq_true, Nat.zero_add, Nat.mul_one] <;> omega) | omega | (simp; done) | (simp; omega))) only [↓CR, MC, ↓PR, MR, gj, rr, b, z0, ea, ih']
      · rw [if_neg c2] at ho
        have ho' : vs = [.agg [.sl true 3 [], .int .i64 0, .int .i64 0], .int .i64 12] := ho
        subst ho'
        rw [if_neg (by simp [c2])] at ih'
        simp (disch := (first | assumption | (simp only [Bool.and_eq_true, Bool.and_eq_false_iff, decide_eq_true_eq, decide_eq_false_iff_not, bne_iff_ne, beq_iff_eq, beq_eq_false_iff_ne, bne_eq_false_iff_eq, Bool.not_eq_true', Bool.not_eq_false', bys_length, List.length_append, List.length_cons, List.length_nil, List.length_map, List.length_drop, List.length_take, Int.natCast_add, wrap_i64_eq, wrap_u64, wrap_u8, ne_eq, not_true_eq_false, not_false_eq_true, Nat.zero_add, Nat.mul_one] <;> omega) | omega | (simp; done) | (simp; omega))) only [↓CR, MC, ↓PR, MR, gj, rr, b, z12, ih']
    · have b : ((more[j].kind : Int) == 3) = false := by simp only [beq_eq_false_iff_ne, ne_eq]; exact c
      rw [if_neg (by simp [c])] at ih'
      cases hR2 : rfin (rrun (rini 1) [more[j]]) with
      | none =>
        rw [hR2] at ho
        have ho' : vs = [.agg [.sl true 3 [], .int .i64 0, .int .i64 0], .int .i64 12] := ho
        subst ho'
        simp (disch := (first | assumption | (simp only [Bool.and_eq_true, Bool.and_eq_false_iff, decide_eq_true_eq, decide_eq_false_iff_not, bne_iff_ne, beq_iff_eq, beq_eq_false_iff_ne, bne_eq_false_iff_eq, Bool.not_eq_true', Bool.not_eq_false', bys_length, List.length_append, List.length_cons, List.length_nil, List.length_map, List.length_drop, List.length_take, Int.natCast_add, wrap_i64_eq, wrap_u64, wrap_u8, ne_eq, not_true_eq_false, not_false_eq_true, Nat.zero_add, Nat.mul_one] <;> omega) | omega | (simp; done) | (simp; omega))) only [↓CR, MC, ↓PR, MR, gj, rr, b, ih']
      | some p =>
        obtain ⟨L, pp, bb⟩ := p
        rw [hR2] at ho
        obtain ⟨g, rfl⟩ := ho
        simp (disch := (first | assumption | (simp only [Bool.and_eq_true, Bool.and_eq_false_iff, decide_eq_true_eq, decide_eq_false_iff_not, bne_iff_ne, beq_iff_eq, beq_eq_false_iff_ne, bne_eq_false_iff_eq, Bool.not_eq_true', Bool.not_eq_false', bys_length, List.length_append, List.length_cons, List.length_nil, List.length_map, List.length_drop, List.length_take, Int.natCast_add, wrap_i64_eq, wrap_u64, wrap_u8, ne_eq, not_true_eq_false, not_false_eq_true, Nat.zero_add, Nat.mul_one] <;> omega) | omega | (simp; done) | (simp; omega))) only [↓CR, MC, ↓PR, MR, gj, rr, b, ih']
theorem at_and (x2 : Int) (n : Nat) (hn : n ≤ 1000000) : ∃ a : Nat, (a = 0 ∨ a = n) ∧ IntKind.i64.wrap ((n : Int) * (IntKind.i64.wrap ((BitVec.ofInt 64 x2 &&& BitVec.ofInt 64 1).toNat : Int))) = (a : Int) := by
  have h1 : (BitVec.ofInt 64 x2 &&& BitVec.ofInt 64 1).toNat ≤ 1 := by
    rw [BitVec.toNat_and]
    exact Nat.and_le_right
  generalize (BitVec.ofInt 64 x2 &&& BitVec.ofInt 64 1).toNat = m at h1
  have hm : m = 0 ∨ m = 1 := by omega
  rcases hm with rfl | rfl
  · exact ⟨0, .inl rfl, by simp [IntKind.wrap, IntKind.bits, IntKind.signed]⟩
  · refine ⟨n, .inr rfl, ?_⟩
    have : IntKind.i64.wrap ((1 : Nat) : Int) = 1 := by decide
    rw [this, Int.mul_one, wrap_i64_id (by omega) (by omega)]
/-- ReplayCuts. -/
theorem rcuts_true (f f3 : Bool) (l more : List Rec) (x : Int) (hl : l.length ≤ 140737488351232) (hr : ∀ r ∈ l, r.data.length ≤ 140737488351232 ∧ r.full = false) (hml : more.length ≤ 140737488351232) (hmr : ∀ r ∈ more, r.data.length ≤ 140737488351232 ∧ r.full = false) (h : Heap) :
    ∃ d h', Ans (evFn Cw d 4 [.sl f 6 (rcs l), .int .i64 x, .sl f3 6 (rcs more)] h) ([.bool true], h') := by
  have rs := fun (Q : Res → Prop) (tg : Hid Q) => small_run (d := 31025) (f := f) hl hr (h := h) (Q := Q) (tg := tg)
  have rm := fun (Q : Res → Prop) (tg : Hid Q) => small_run (d := 31025) (f := f3) hml hmr (h := h) (Q := Q) (tg := tg)
  cases hs : smallB l with
  | false =>
    obtain ⟨h1, E1, ra⟩ := awake35_run 1 h
    rw [hs] at rs
    refine ⟨31027, h1, Run.ans ?_⟩
    rw [F4_eq]
    simp (disch := (first | assumption | (simp only [Bool.and_eq_true, Bool.and_eq_false_iff, decide_eq_true_eq, decide_eq_false_iff_not, bne_iff_ne, beq_iff_eq, beq_eq_false_iff_ne, bne_eq_false_iff_eq, Bool.not_eq_true', Bool.not_eq_false', bys_length, List.length_append, List.length_cons, List.length_nil, List.length_map, List.length_drop, List.length_take, Int.natCast_add, wrap_i64_eq, wrap_u64, wrap_u8, ne_eq, not_true_eq_false, not_false_eq_true, Nat.zero_add, Nat.mul_one] <;> omega) | omega | (simp; done) | (simp; omega))) only [↓CR, MC, ↓PR, MR, rs, Bool.not_false, ra]
  | true =>
  rw [hs] at rs
  cases hms : smallB more with
  | false =>
    obtain ⟨h1, E1, ra⟩ := awake35_run 1 h
    rw [hms] at rm
    refine ⟨31027, h1, Run.ans ?_⟩
    rw [F4_eq]
    simp (disch := (first | assumption | (simp only [Bool.and_eq_true, Bool.and_eq_false_iff, decide_eq_true_eq, decide_eq_false_iff_not, bne_iff_ne, beq_iff_eq, beq_eq_false_iff_ne, bne_eq_false_iff_eq, Bool.not_eq_true', Bool.not_eq_false', bys_length, List.length_append, List.length_cons, List.length_nil, List.length_map, List.length_drop, List.length_take, Int.natCast_add, wrap_i64_eq, wrap_u64, wrap_u8, ne_eq, not_true_eq_false, not_false_eq_true, Nat.zero_add, Nat.mul_one] <;> omega) | omega | (simp; done) | (simp; omega))) only [↓CR, MC, ↓PR, MR, rs, Bool.not_true, rm, Bool.not_false, ra]
  | true =>
  rw [hms] at rm
  unfold smallB at hs hms
  simp only [Bool.and_eq_true, decide_eq_true_eq] at hs hms
  have hr' : ∀ r ∈ l, r.data.length ≤ 600 ∧ r.full = false := fun r hx => ⟨smallF_mem hs.1 r hx, (hr r hx).2⟩
  have hmr' : ∀ r ∈ more, r.data.length ≤ 600 ∧ r.full = false := fun r hx => ⟨smallF_mem hms.1 r hx, (hmr r hx).2⟩
  obtain ⟨h1, vs, E1, ho, r1⟩ := replay_run 2 f l (by omega) hr' 2 h
  cases hR : rfin (rrun (rini 2) l) with
  | none =>
    rw [hR] at ho
    have ho' : vs = [.agg [.nilp, .int .i64 0, .int .i64 0], .int .i64 12] := ho
    subst ho'
    obtain ⟨h2, E2, ra⟩ := awake35_run 1 h1
    have zb : ((12 : Int) != 0) = true := rfl
    refine ⟨31027, h2, Run.ans ?_⟩
    rw [F4_eq]
    simp (disch := (first | assumption | (simp only [Bool.and_eq_true, Bool.and_eq_false_iff, decide_eq_true_eq, decide_eq_false_iff_not, bne_iff_ne, beq_iff_eq, beq_eq_false_iff_ne, bne_eq_false_iff_eq, Bool.not_eq_true', Bool.not_eq_false', bys_length, List.length_append, List.length_cons, List.length_nil, List.length_map, List.length_drop, List.length_take, Int.natCast_add, wrap_i64_eq, wrap_u64, wrap_u8, ne_eq, not_true_eq_false, not_false_eq_true, Nat.zero_add, Nat.mul_one] <;> omega) | omega | (simp; done) | (simp; omega))) only [↓CR, MC, ↓PR, MR, rs, Bool.not_true, rm, r1, zb, ra]
  | some p =>
    obtain ⟨L, pp, bb⟩ := p
    rw [hR] at ho
    obtain ⟨ti, tr, t, T, hL, m1, m2, rfl⟩ := ho
    obtain ⟨s, hs1, hs2⟩ : ∃ s, rrun (rini 2) l = some s ∧ s.tab = some L := by
      cases hq : rrun (rini 2) l with
      | none => rw [hq] at hR; simp [rfin] at hR
      | some s =>
        rw [hq] at hR
        simp only [rfin] at hR
        cases hq2 : s.tab with
        | none => rw [hq2] at hR; simp at hR
        | some L' => rw [hq2] at hR; simp only [Option.some.injEq, Prod.mk.injEq] at hR; exact ⟨s, rfl, by rw [hq2, hR.1]⟩
    obtain ⟨A, B, P, C, el, k4, hC, cB, hB, hdec, hcd, ⟨wb, hb1, hb2⟩, hX⟩ := cuts_plain hs1 hs2
    -- b
    have hsub : ∀ r ∈ B ++ P :: C, r ∈ l := fun r hx => by rw [el]; exact List.mem_append_right _ hx
    have hlenl : l.length = A.length + (B ++ P :: C).length := by rw [el]; simp
    have hlenB : B.length ≤ (B ++ P :: C).length := by simp
    obtain ⟨h2, vb, E2, hob, r2⟩ := replay_run 2 f (B ++ P :: C) (by omega) (fun r hx => hr' r (hsub r hx)) 1 h1
    have hRb : rfin (rrun (rini 1) (B ++ P :: C)) = some (L, wb.pts, wb.bts) := by rw [hb1]; simp only [rfin, hb2]
    rw [hRb] at hob
    obtain ⟨tib, trb, tb, Tb, hLb, mb1, mb2, rfl⟩ := hob
    -- c
    obtain ⟨a, ha, hat⟩ := at_and x A.length (by omega)
    have cX : Calm (lsF more) := fun r hx => by
      obtain ⟨_, q1, q2⟩ := lsF_mem r hx
      exact ⟨by omega, by omega, fun _ => q2⟩
    obtain ⟨wc, hc1, hc2⟩ : ∃ w, rrun (rini 2) (l.take a ++ lsF more ++ l.drop a) = some w ∧ w.tab = some L := by
      rcases ha with rfl | rfl
      · simpa [el] using (hX (lsF more) cX).1
      · have e1 : l.take A.length = A := by rw [el]; simp
        have e2 : l.drop A.length = B ++ P :: C := by rw [el]; simp
        rw [e1, e2]; exact (hX (lsF more) cX).2
    have hal : a ≤ l.length := by omega
    have hll := lsF_len more
    have hclen : (l.take a ++ lsF more ++ l.drop a).length ≤ 120 := by simp only [List.length_append, List.length_take, List.length_drop]; omega
    obtain ⟨h3, vc, E3, hoc, r3⟩ := replay_run 2 false (l.take a ++ lsF more ++ l.drop a) hclen (fun r hx => by
      rcases List.mem_append.1 hx with hx | hx
      · rcases List.mem_append.1 hx with hx | hx
        · exact hr' r (List.mem_of_mem_take hx)
        · exact hmr' r (lsF_mem r hx).1
      · exact hr' r (List.mem_of_mem_drop hx)) 2 h2
    have hRc : rfin (rrun (rini 2) (l.take a ++ lsF more ++ l.drop a)) = some (L, wc.pts, wc.bts) := by rw [hc1]; simp only [rfin, hc2]
    rw [hRc] at hoc
    obtain ⟨tic, trc, tc, Tc, hLc, mc1, mc2, rfl⟩ := hoc
    -- pairs
    have Ta3 := (T.ext E2).ext E3
    have Tb3 := Tb.ext E3
    obtain ⟨h4, E4, p1⟩ := tabpairs_run 31019 ti tr t h3 Ta3
    obtain ⟨h5, E5, p2⟩ := tabpairs_run 31019 tib trb tb h4 (Tb3.ext E4)
    obtain ⟨h6, E6, p3⟩ := tabpairs_run 31019 tic trc tc h5 ((Tc.ext E4).ext E5)
    obtain ⟨h7, E7, p4⟩ := tabpairs_run 31019 ti tr t h6 (((Ta3.ext E4).ext E5).ext E6)
    rw [hL] at p1 p4
    rw [hLb] at p2
    rw [hLc] at p3
    have hlen := T.ok.len
    rw [hL] at hlen
    have sm1 := fun (Q : Res → Prop) (tg : Hid Q) => same31_run (d := 31025) (f := false) (g := false) (l := L) (h := h5) (Q := Q) (tg := tg) (by omega)
    have sm2 := fun (Q : Res → Prop) (tg : Hid Q) => same31_run (d := 31025) (f := false) (g := false) (l := L) (h := h7) (Q := Q) (tg := tg) (by omega)
    obtain ⟨h8, E8, ra⟩ := awake35_run 1 h7
    have zc : ((0 : Int) != 0) = false := rfl
    have z0 : ((0 : Int) == 0) = true := rfl
    have hf : ∀ r ∈ l, r.full = false := fun r hx => (hr r hx).2
    have bridge2 : ∀ (Q : Res → Prop) (k : Nat) (tg : Hid Q), Run (P4_2 31026 (k + 1) f (rcs l) x f3 (rcs more) (A.length : Nat) 0 (rcs (lsF more)) (more.length : Nat) [.obj ti 0, .int .i64 pp, .int .i64 bb] [.obj tib 0, .int .i64 wb.pts, .int .i64 wb.bts] h2) Q tg = Q ([.bool true], h8) := fun Q k tg => by
      rw [P4_2_eq]
      have g1 : decide (((more.length : Nat) : Int) < ((rcs more).length : Int)) = false := by rw [rcs_length]; simp
      rw [hat]
      simp only [rcs_length, part_rtake, part_rdrop, List.nil_append, rcs_app]
      rw [rcs_length] at g1
      have g2 : decide ((((a : Nat) : Int) : Int) ≤ (l.length : Int)) = true := by simp; omega
      simp (disch := (first | assumption | (simp only [Bool.and_eq_true, Bool.and_eq_false_iff, decide_eq_true_eq, decide_eq_false_iff_not, bne_iff_ne, beq_iff_eq, beq_eq_false_iff_ne, bne_eq_false_iff_eq, Bool.not_eq_true', Bool.not_eq_false', bys_length, List.length_append, List.length_cons, List.length_nil, List.length_map, List.length_drop, List.length_take, Int.natCast_add, wrap_i64_eq, wrap_u64, wrap_u8, ne_eq, not_true_eq_false, not_false_eq_true, Nat.zero_add, Nat.mul_one] <;> omega) | omega | (simp; done) | (simp; omega))) only [↓CR, MC, ↓PR, MR, r3, z0, p1, p2, sm1, p3, p4, sm2, ra]
    have bridge1 : ∀ (Q : Res → Prop) (k : Nat) (tg : Hid Q), Run (P4_1 31026 (k + 1) f (rcs l) x f3 (rcs more) (A.length : Nat) 0 [.obj ti 0, .int .i64 pp, .int .i64 bb] h1) Q tg = Q ([.bool true], h8) := fun Q k tg => by
      rw [P4_1_eq]
      simp only [rcs_length, part_rdrop]
      have e2 : l.drop A.length = B ++ P :: C := by rw [el]; simp
      rw [e2]
      have r5 := fun tg => cuts2_loop 31013 f f3 x (A.length : Nat) 0 (rcs l) more hms.2 hmr' [.obj ti 0, .int .i64 pp, .int .i64 bb] [.obj tib 0, .int .i64 wb.pts, .int .i64 wb.bts] h2 Q (Q ([.bool true], h8)) (bridge2 Q) more.length 0 rounds tg (by omega) (Nat.lt_of_lt_of_le (by omega) rounds_ge)
      have en : rcs (lsF (more.take 0)) = [] := rfl
      rw [en, e0] at r5
      simp (disch := (first | assumption | (simp only [Bool.and_eq_true, Bool.and_eq_false_iff, decide_eq_true_eq, decide_eq_false_iff_not, bne_iff_ne, beq_iff_eq, beq_eq_false_iff_ne, bne_eq_false_iff_eq, Bool.not_eq_true', Bool.not_eq_false', bys_length, List.length_append, List.length_cons, List.length_nil, List.length_map, List.length_drop, List.length_take, Int.natCast_add, wrap_i64_eq, wrap_u64, wrap_u8, ne_eq, not_true_eq_false, not_false_eq_true, Nat.zero_add, Nat.mul_one] <;> omega) | omega | (simp; done) | (simp; omega))) only [↓CR, MC, ↓PR, MR, r2, r5]
    refine ⟨31027, h8, Run.ans ?_⟩
    rw [F4_eq]
    have c0 : ∀ (Q : Res → Prop) (tg : Hid Q), Run (P4_0 31026 rounds f (rcs l) x f3 (rcs more) 0 0 [.obj ti 0, .int .i64 pp, .int .i64 bb] h1) Q tg = Q ([.bool true], h8) := fun Q tg => by
      have el2 : l = (A ++ B) ++ P :: C := by rw [el]; simp
      have hPm : P ∈ l := by rw [el]; simp
      have q0 := cuts0_loop 31023 f f3 x (rcs more) [.obj ti 0, .int .i64 pp, .int .i64 bb] h1 (A ++ B) C P k4 hC (by rw [← el2]; omega) (by have := (hr' P hPm).1; omega) (by rw [← el2]; exact hf) Q ((A ++ B) ++ P :: C).length 0 rounds 0 tg (by omega) (Nat.lt_of_lt_of_le (by rw [← el2]; omega) rounds_ge) (by omega)
      rw [← el2, e0] at q0
      have q1 := cuts1_loop 31026 f f3 x (rcs more) [.obj ti 0, .int .i64 pp, .int .i64 bb] h1 A B (P :: C) (by rw [← el]; omega) (by rw [← el]; exact hf) hB Q (Q ([.bool true], h8)) (by rw [← el]; exact bridge1 Q) B.length rounds ⟨⟩ (Nat.le_refl _) (Nat.lt_of_lt_of_le (by omega) rounds_ge)
      rw [← el, List.take_of_length_le (Nat.le_refl _), hcd] at q1
      rw [q0, show (A ++ B).length = A.length + B.length by simp]
      exact q1
    simp (disch := (first | assumption | (simp only [Bool.and_eq_true, Bool.and_eq_false_iff, decide_eq_true_eq, decide_eq_false_iff_not, bne_iff_ne, beq_iff_eq, beq_eq_false_iff_ne, bne_eq_false_iff_eq, Bool.not_eq_true', Bool.not_eq_false', bys_length, List.length_append, List.length_cons, List.length_nil, List.length_map, List.length_drop, List.length_take, Int.natCast_add, wrap_i64_eq, wrap_u64, wrap_u8, ne_eq, not_true_eq_false, not_false_eq_true, Nat.zero_add, Nat.mul_one] <;> omega) | omega | (simp; done) | (simp; omega))) only [↓CR, MC, ↓PR, MR, rs, Bool.not_true, rm, r1, zc, c0]
end Go.Proofs.YtdlcjibefbnckaaDoor.Wa
end
