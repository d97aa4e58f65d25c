/- Points: coded. -/
import Derived.Test.YtnhhmgcjbnocfaaDoorVpa
namespace Go.Proofs.YtnhhmgcjbnocfaaDoor.Wa
open Go Go.Weave
set_option maxRecDepth 100000
set_option linter.unusedSimpArgs false
set_option linter.unusedVariables false
set_option linter.unusedSectionVars false

def numF (b : List UInt8) : Nat × List UInt8 × Nat :=
  if (getF b 0 0).2.2 ≠ 0 then (0, [], (getF b 0 0).2.2) else if 2147483647 < (getF b 0 0).1 then (0, [], 4) else ((getF b 0 0).1, b.drop (getF b 0 0).2.1, 0)
def decP (b : List UInt8) : (Nat × Nat × Nat) × Nat :=
  if (numF b).2.2 ≠ 0 then ((0, 0, 0), (numF b).2.2) else if (numF (numF b).2.1).2.2 ≠ 0 then ((0, 0, 0), (numF (numF b).2.1).2.2)
  else if (numF (numF b).2.1).2.1.length < 4 then ((0, 0, 0), 1) else if 4 < (numF (numF b).2.1).2.1.length then ((0, 0, 0), 2)
  else (((numF b).1, (numF (numF b).2.1).1, get4 (numF (numF b).2.1).2.1), 0)
theorem getF_err (b : List UInt8) : (getF b 0 0).2.2 ≤ 4 ∧ ((getF b 0 0).2.2 ≠ 0 → getF b 0 0 = (0, 0, (getF b 0 0).2.2)) ∧ ((getF b 0 0).2.2 = 0 → (getF b 0 0).2.1 ≤ b.length ∧ (getF b 0 0).1 < 18446744073709551616) := by
  rcases getF_spec0 b with ⟨m, h1, h2, h3, h4⟩ | ⟨e, h1, he⟩
  · rw [h1]; exact ⟨by simp, fun h => absurd rfl h, fun _ => ⟨h3, h4⟩⟩
  · rw [h1]
    refine ⟨?_, fun _ => rfl, fun h => ?_⟩
    · simp only; omega
    · simp only at h; omega
theorem numF_len (b : List UInt8) : (numF b).2.1.length ≤ b.length ∧ (numF b).1 ≤ 2147483647 := by
  unfold numF
  split
  · simp
  · split
    · simp
    · simp; omega
theorem numF_errle (b : List UInt8) : (numF b).2.2 ≤ 4 := by
  have := (getF_err b).1
  unfold numF
  split
  · exact this
  · split <;> simp
def ptA (x : (Nat × Nat × Nat)) : AVal := .agg [.int .i64 x.1, .int .i64 x.2.1, .int .u32 x.2.2]
theorem u32_id {n : Nat} (h : n < 4294967296) : IntKind.u32.wrap (n : Int) = (n : Int) := by
  simp [IntKind.wrap, IntKind.bits, IntKind.signed]; omega
/-- A point's bytes. -/
noncomputable def encP (n m s : Nat) : List UInt8 := enc n ++ enc m ++ le4 s
theorem numF_enc {n : Nat} (hn : n < 18446744073709551616) (r : List UInt8) : numF (enc n ++ r) = if 2147483647 < n then (0, [], 4) else (n, r, 0) := by
  unfold numF
  rw [get_enc0 n r hn]
  simp
theorem decP_enc {n m s : Nat} (hn : n ≤ 2147483647) (hm : m ≤ 2147483647) (hs : s < 4294967296) : decP (encP n m s) = ((n, m, s), 0) := by
  have n2 : numF (enc m ++ le4 s) = (m, le4 s, 0) := by rw [numF_enc (by omega), if_neg (by omega)]
  have n1 : numF (enc n ++ (enc m ++ le4 s)) = (n, enc m ++ le4 s, 0) := by rw [numF_enc (by omega), if_neg (by omega)]
  unfold encP decP
  rw [List.append_assoc, n1]
  simp only
  rw [n2]
  simp [le4_len, get4_le4 hs]
end Go.Proofs.YtnhhmgcjbnocfaaDoor.Wa
