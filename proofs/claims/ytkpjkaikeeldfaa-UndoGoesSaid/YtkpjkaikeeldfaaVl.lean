/- Records that follow one another; chains; recoveries. ListFollows, ListMays. -/
import Derived.Test.YtkpjkaikeeldfaaVd
import Derived.Test.YtkpjkaikeeldfaaWvLc
import Derived.Test.YtkpjkaikeeldfaaVapi
import Derived.Test.YtkpjkaikeeldfaaVq
namespace Go.Proofs.Ytkpjkaikeeldfaa.Wa
open Go Go.Weave
set_option maxRecDepth 100000
set_option linter.unusedSimpArgs false
set_option linter.unusedVariables false
set_option linter.unusedSectionVars false


def recs (l : List Rec) : List AVal := l.map Rec.A
theorem recs_length (l : List Rec) : (recs l).length = l.length := by simp [recs]
theorem recs_getD {l : List Rec} {i : Nat} (h : i < l.length) : (recs l).getD i AVal.undef = .agg [.int .i64 l[i].kind, .int .i64 l[i].chain, .int .i64 l[i].lsn, .int .i64 l[i].prev, .sl l[i].full 0 (bys l[i].data)] := by simp [recs, h, Rec.A, Rec.C]
theorem recs_nil : recs [] = [] := of_eq_true (eq_self _)
theorem recs_take (l : List Rec) (i : Nat) : (recs l).take i = recs (l.take i) := by simp [recs]
theorem recs_part0 {l : List Rec} {i : Nat} : Weave.part 0 (i : Int) (recs l) = recs (l.take i) := by
  simp only [Weave.part, Int.toNat_zero, List.drop_zero, Int.sub_zero, Int.toNat_natCast, recs_take]
theorem recs_snoc (l : List Rec) (r : Rec) : recs l ++ [AVal.agg [.int .i64 r.kind, .int .i64 r.chain, .int .i64 r.lsn, .int .i64 r.prev, .sl r.full 0 (bys r.data)]] = recs (l ++ [r]) := by simp [recs, Rec.A, Rec.C]

/-! ### Heads -/
def headsL : List Rec → List Int → List Int
  | [], hs => hs
  | r :: rs, hs => headsL rs (if 0 ≤ r.chain ∧ r.chain < 4 then hs.set r.chain.toNat r.lsn else hs)
def headAt : List Rec → Int → Int → Int
  | [], _, a => a
  | r :: rs, c, a => headAt rs c (if r.chain = c then r.lsn else a)
theorem headsL_length : ∀ (l : List Rec) (hs : List Int), (headsL l hs).length = hs.length
  | [], _ => rfl
  | r :: rs, hs => by
    unfold headsL
    rw [headsL_length rs]
    split <;> simp
theorem headsL_four : ∀ (l : List Rec) (a b c e : Int), headsL l [a, b, c, e] = [headAt l 0 a, headAt l 1 b, headAt l 2 c, headAt l 3 e]
  | [], _, _, _, _ => rfl
  | r :: rs, a, b, c, e => by
    unfold headsL headAt
    by_cases h0 : r.chain = 0
    · rw [h0]; exact headsL_four rs r.lsn b c e
    · by_cases h1 : r.chain = 1
      · rw [h1]; exact headsL_four rs a r.lsn c e
      · by_cases h2 : r.chain = 2
        · rw [h2]; exact headsL_four rs a b r.lsn e
        · by_cases h3 : r.chain = 3
          · rw [h3]; exact headsL_four rs a b c r.lsn
          · rw [if_neg (by omega), if_neg h0, if_neg h1, if_neg h2, if_neg h3]
            exact headsL_four rs a b c e
theorem headsL_snoc : ∀ (l : List Rec) (r : Rec) (hs : List Int), headsL (l ++ [r]) hs = if 0 ≤ r.chain ∧ r.chain < 4 then (headsL l hs).set r.chain.toNat r.lsn else headsL l hs
  | [], r, hs => rfl
  | x :: l, r, hs => by
    simp only [List.cons_append, headsL]
    rw [headsL_snoc l r]
theorem four {l : List Int} (h : l.length = 4) : ∃ a b c e, l = [a, b, c, e] := by
  match l, h with
  | [a, b, c, e], _ => exact ⟨a, b, c, e, rfl⟩
theorem ints4 {hs : List Int} (h : hs.length = 4) : (ints hs).take 4 = ints hs := List.take_of_length_le (by simp [ints_length, h])

end Go.Proofs.Ytkpjkaikeeldfaa.Wa
