/- All the numbers that bytes are; VarintAll. -/
import Derived.Test.YtkpjkaikeeldfaaVb
import Derived.Test.YtkpjkaikeeldfaaWvLb
namespace Go.Proofs.Ytkpjkaikeeldfaa.Wa
open Go Go.Weave
set_option maxRecDepth 100000
set_option linter.unusedSimpArgs false
set_option linter.unusedVariables false
set_option linter.unusedSectionVars false

def nums (l : List Nat) : List AVal := l.map fun (n : Nat) => AVal.int .u64 (n : Int)
theorem nums_length (l : List Nat) : (nums l).length = l.length := by simp [nums]
theorem nums_nil : nums [] = [] := of_eq_true (eq_self _)
theorem nums_snoc (l : List Nat) (n : Nat) : nums l ++ [AVal.int .u64 n] = nums (l ++ [n]) := by simp [nums]
theorem nums_getD {l : List Nat} {i : Nat} (h : i < l.length) : (nums l).getD i AVal.undef = .int .u64 (l[i] : Nat) := by simp [nums, h]

theorem get_run {d : Nat} {f : Bool} {l : List UInt8} {h : Heap} {Q : Res → Prop} {tg : Hid Q} (hl : l.length ≤ 140737488355328) :
    Run (evFn Cw (d + 1) 21 [.sl f 0 (bys l)] h) Q tg = Q ([.int .u64 (getF l 0 0).1, .int .i64 (getF l 0 0).2.1, .int .i64 (getF l 0 0).2.2], h) := (get_ok d f l h hl).at
theorem rget_run {d : Nat} {f : Bool} {l : List UInt8} {h : Heap} {Q : Res → Prop} {tg : Hid Q} (hl : l.length ≤ 140737488355328) :
    Run (evFn Cw (d + 1) 31 [.sl f 0 (bys l)] h) Q tg = Q ([.int .u64 (getF l 0 0).1, .int .i64 (getF l 0 0).2.1, .int .i64 (getF l 0 0).2.2], h) := (rget_ok d f l h hl).at
theorem put_run {d : Nat} {f : Bool} {l : List UInt8} {n : Nat} {h : Heap} {Q : Res → Prop} {tg : Hid Q} (hn : n < 18446744073709551616) (hl : l.length ≤ 140737488355000) :
    Run (evFn Cw (d + 1) 19 [.sl f 0 (bys l), .int .u64 n] h) Q tg = Q ([.sl false 0 (bys (l ++ enc n))], h) := (put_ok d f l n h hn hl).at
/-- All numbers that bytes are, behind those that were found; or why there are none. -/
def allW : Nat → List UInt8 → List Nat → List Nat × Nat
  | 0, _, acc => (acc, 0)
  | n + 1, l, acc => if l.length = 0 then (acc, 0) else if (getF l 0 0).2.2 = 0 then allW n (l.drop (getF l 0 0).2.1) (acc ++ [(getF l 0 0).1]) else ([], (getF l 0 0).2.2)
theorem allF_ex : ∃ f : Nat → List UInt8 → List Nat → List Nat × Nat, (∀ l acc, f 0 l acc = (acc, 0)) ∧ ∀ n l acc, f (n + 1) l acc = if l.length = 0 then (acc, 0) else if (getF l 0 0).2.2 = 0 then f n (l.drop (getF l 0 0).2.1) (acc ++ [(getF l 0 0).1]) else ([], (getF l 0 0).2.2) := ⟨allW, fun _ _ => rfl, fun _ _ _ => rfl⟩
noncomputable def allF : Nat → List UInt8 → List Nat → List Nat × Nat := Classical.choose allF_ex
theorem allF_zero (l : List UInt8) (acc : List Nat) : allF 0 l acc = (acc, 0) := (Classical.choose_spec allF_ex).1 l acc
theorem allF_succ (n : Nat) (l : List UInt8) (acc : List Nat) : allF (n + 1) l acc = if l.length = 0 then (acc, 0) else if (getF l 0 0).2.2 = 0 then allF n (l.drop (getF l 0 0).2.1) (acc ++ [(getF l 0 0).1]) else ([], (getF l 0 0).2.2) := (Classical.choose_spec allF_ex).2 n l acc

theorem getF_ok {l : List UInt8} (h : (getF l 0 0).2.2 = 0) : 1 ≤ (getF l 0 0).2.1 ∧ (getF l 0 0).2.1 ≤ l.length ∧ (getF l 0 0).1 < 18446744073709551616 := by
  rcases getF_spec0 l with ⟨m, h1, _, h3, h4⟩ | ⟨e, h1, he⟩
  · rw [h1]; exact ⟨(enc_length 9 m (lt_128_10 h4)).1, h3, h4⟩
  · rw [h1] at h; simp at h; omega

theorem part_drop {l : List UInt8} {k : Nat} : Weave.part (k : Int) ((bys l).length : Int) (bys l) = bys (l.drop k) := by
  rw [part_bys, bys_length]
  congr 1
  simp only [Weave.part, Int.toNat_natCast]
  rw [List.take_of_length_le (by simp)]

theorem e0 : ((0 : Nat) : Int) = 0 := by omega
noncomputable def allR (l : List UInt8) : List Nat × Nat := allF l.length l []
/-- The bytes of numbers. -/
noncomputable def encs (l : List Nat) : List UInt8 := l.flatMap enc
theorem encs_len : ∀ (l : List Nat), (∀ n ∈ l, n < 18446744073709551616) → (encs l).length ≤ 10 * l.length
  | [], _ => by simp [encs]
  | n :: l, h => by
    have h1 := encs_len l fun m hm => h m (by simp [hm])
    have h2 := (enc_length 9 n (lt_128_10 (h n (by simp)))).2
    simp only [encs, List.flatMap_cons, List.length_append, List.length_cons] at h1 ⊢
    omega
theorem allF_encs : ∀ (l : List Nat) (n : Nat) (acc : List Nat), (∀ m ∈ l, m < 18446744073709551616) → (encs l).length ≤ n → allF n (encs l) acc = (acc ++ l, 0)
  | [], n, acc, _, _ => by
    cases n with
    | zero => rw [allF_zero]; simp
    | succ n => rw [allF_succ, if_pos (by simp [encs])]; simp
  | m :: l, n, acc, h, hn => by
    have hm := h m (by simp)
    have hlen := enc_length 9 m (lt_128_10 hm)
    have e : encs (m :: l) = enc m ++ encs l := by simp [encs]
    rw [e, List.length_append] at hn
    obtain ⟨n, rfl⟩ : ∃ q, n = q + 1 := ⟨n - 1, by omega⟩
    have hg := get_enc0 m (encs l) hm
    rw [allF_succ, e, hg, if_neg (by rw [List.length_append]; omega), if_pos rfl]
    simp only [List.drop_left]
    rw [allF_encs l n (acc ++ [m]) (fun q hq => h q (by simp [hq])) (by omega)]
    simp
theorem allR_encs (l : List Nat) (h : ∀ m ∈ l, m < 18446744073709551616) : allR (encs l) = (l, 0) := by
  unfold allR
  rw [allF_encs l _ [] h (Nat.le_refl _)]
  simp

theorem allF_len : ∀ (n : Nat) (l : List UInt8) (acc : List Nat), (allF n l acc).1.length ≤ acc.length + n
  | 0, l, acc => by rw [allF_zero]; simp
  | n + 1, l, acc => by
    rw [allF_succ]
    split
    · simp
    · split
      · have := allF_len n (l.drop (getF l 0 0).2.1) (acc ++ [(getF l 0 0).1])
        simp at this
        omega
      · simp

end Go.Proofs.Ytkpjkaikeeldfaa.Wa
