/- Records decoded by the reference; RecordDecodes, RecordEncodes. -/
import Derived.Test.YtkpjkaikeeldfaaVr
namespace Go.Proofs.Ytkpjkaikeeldfaa.Wa
open Go Go.Weave
set_option maxRecDepth 100000
set_option linter.unusedSimpArgs false
set_option linter.unusedVariables false
set_option linter.unusedSectionVars false

theorem part_drop' {l : List UInt8} {k : Nat} : Weave.part (k : Int) (l.length : Int) (bys l) = bys (l.drop k) := by
  have := part_drop (l := l) (k := k)
  rw [bys_length] at this
  exact this
theorem rsame'_self (k c l p : Int) (dt : List UInt8) : rsame' k c l p dt k c l p dt = true := by simp [rsame']
theorem part_two {l : List UInt8} : Weave.part 2 (l.length : Int) (bys l) = bys (l.drop 2) := part_drop' (k := 2)

theorem get_run' {d : Nat} {f : Bool} {l : List UInt8} {h : Heap} {Q : Res → Prop} {tg : Hid Q} (hl : l.length ≤ 140737488355328) :
    Run (evFn Cw (d + 1) 31 [.sl f 0 (bys l)] h) Q tg = Q ([.int .u64 (getF l 0 0).1, .int .i64 (getF l 0 0).2.1, .int .i64 (getF l 0 0).2.2], h) := (rget_ok d f l h hl).at
theorem two_of : ∀ {b : List UInt8} (h : 2 ≤ b.length), b = [b[0]'(by omega), b[1]'(by omega)] ++ b.drop 2
  | _ :: _ :: _, _ => rfl
/-- What is decoded is encoded by the same bytes. -/
theorem rdec_spec {b : List UInt8} (he : (rdec b).e = 0) : rencE (rdec b).k (rdec b).c (rdec b).l (rdec b).p (rdec b).dt = 0 ∧ rbytes (rdec b).k (rdec b).c (rdec b).l (rdec b).p (rdec b).dt = b := by
  unfold rdec at he ⊢
  by_cases h1 : 512 < b.length
  · rw [dif_pos h1] at he; simp [RD.bad] at he
  · rw [dif_neg h1] at he ⊢
    by_cases h2 : b.length < 2
    · rw [dif_pos h2] at he; simp [RD.bad] at he
    · rw [dif_neg h2] at he ⊢
      by_cases e1 : (getF (b.drop 2) 0 0).2.2 = 0
      · rw [if_neg (by simp [e1])] at he ⊢
        by_cases e2 : (getF (b.drop (2 + (getF (b.drop 2) 0 0).2.1)) 0 0).2.2 = 0
        · rw [if_neg (by simp [e2])] at he ⊢
          split at he
          · rename_i hok
            rw [if_pos hok]
            have key : rbytes ((b[0]'(by omega)).toNat : Nat) ((b[1]'(by omega)).toNat : Nat) (getF (b.drop 2) 0 0).1 ((getF (b.drop 2) 0 0).1 - (getF (b.drop (2 + (getF (b.drop 2) 0 0).2.1)) 0 0).1)
                (b.drop (2 + (getF (b.drop 2) 0 0).2.1 + (getF (b.drop (2 + (getF (b.drop 2) 0 0).2.1)) 0 0).2.1)) = b := by
              obtain ⟨c1, c2, c3, _⟩ := hok
              rcases getF_spec0 (b.drop 2) with ⟨m, g1, g2, g3, g4⟩ | ⟨e, g1, ge⟩
              · rw [g1] at c1 c2 c3 e2 ⊢
                simp only at c1 c2 c3 e2 ⊢
                rcases getF_spec0 (b.drop (2 + (enc m).length)) with ⟨q, k1, k2, k3, k4⟩ | ⟨e, k1, ke⟩
                · rw [k1] at c2 c3 ⊢
                  simp only at c2 c3 ⊢
                  unfold rbytes
                  have t1 : (((b[0]'(by omega)).toNat : Nat) : Int).toNat = (b[0]'(by omega)).toNat := by omega
                  have t2 : (((b[1]'(by omega)).toNat : Nat) : Int).toNat = (b[1]'(by omega)).toNat := by omega
                  have t3 : ((m : Nat) : Int).toNat = m := by omega
                  have t4 : ((m : Int) - ((m : Int) - (q : Int))).toNat = q := by omega
                  rw [t1, t2, t3, t4]
                  have u0 : UInt8.ofNat (b[0]'(by omega)).toNat = b[0]'(by omega) := by simp
                  have u1 : UInt8.ofNat (b[1]'(by omega)).toNat = b[1]'(by omega) := by simp
                  rw [u0, u1, ← g2, ← k2]
                  have v0 : b = [b[0]'(by omega), b[1]'(by omega)] ++ b.drop 2 := two_of (by omega)
                  have v1 : b.drop 2 = (b.drop 2).take (enc m).length ++ b.drop (2 + (enc m).length) := by
                    have := List.take_append_drop (enc m).length (b.drop 2)
                    rw [List.drop_drop] at this
                    exact this.symm
                  have v2 : b.drop (2 + (enc m).length) = (b.drop (2 + (enc m).length)).take (enc q).length ++ b.drop (2 + (enc m).length + (enc q).length) := by
                    have := List.take_append_drop (enc q).length (b.drop (2 + (enc m).length))
                    rw [List.drop_drop] at this
                    exact this.symm
                  have hq : (enc q).length ≤ (b.drop (2 + (enc m).length)).length := k3
                  have hm : (enc m).length ≤ (b.drop 2).length := g3
                  have t5 : ((b.drop 2).take (enc m).length).length = (enc m).length := by rw [List.length_take]; omega
                  have t6 : ((b.drop (2 + (enc m).length)).take (enc q).length).length = (enc q).length := by rw [List.length_take]; omega
                  rw [t5, t6]
                  rw [List.append_assoc, List.append_assoc, ← v2, ← v1, ← v0]
                · rw [k1] at c2; simp at c2
              · rw [g1] at e1; simp at e1; omega
            refine ⟨?_, key⟩
            simp only
            unfold rencE
            rw [key, hok.2.2.2, if_neg (by simp), if_neg (by omega)]
          · simp [RD.bad] at he
        · rw [if_pos e2] at he; simp [RD.bad] at he; exact absurd he e2
      · rw [if_pos e1] at he; simp [RD.bad] at he; exact absurd he e1
theorem rdec_len (b : List UInt8) : (rdec b).dt.length ≤ b.length := by
  unfold rdec
  repeat' split
  all_goals (simp [RD.bad]; try omega)

/-- What is encoded is decoded. -/
theorem rdec_enc {k c l p : Int} {dt : List UInt8} (he : rencE k c l p dt = 0) : rdec (rbytes k c l p dt) = ⟨0, k, c, l, p, dt⟩ := by
  unfold rencE at he
  cases hr : rright k c l p
  · rw [hr] at he; simp at he
  · rw [hr, if_neg (by simp)] at he
    split at he
    · simp at he
    · rename_i hlen
      have hs := hr
      simp only [rright, decide_eq_true_eq] at hs
      have b2 : (rbytes k c l p dt).drop 2 = enc l.toNat ++ (enc (l - p).toNat ++ dt) := by simp [rbytes]
      have g1 := get_enc0 l.toNat (enc (l - p).toNat ++ dt) (by omega)
      have b3 : (rbytes k c l p dt).drop (2 + (enc l.toNat).length) = enc (l - p).toNat ++ dt := by rw [← List.drop_drop, b2]; simp
      have g2 := get_enc0 (l - p).toNat dt (by omega)
      have b4 : (rbytes k c l p dt).drop (2 + (enc l.toNat).length + (enc (l - p).toNat).length) = dt := by rw [← List.drop_drop, b3]; simp
      have hlen2 : ¬ (rbytes k c l p dt).length < 2 := by simp [rbytes]
      have c0 : ((rbytes k c l p dt)[0]'(by omega)) = UInt8.ofNat k.toNat := by simp [rbytes]
      have c1 : ((rbytes k c l p dt)[1]'(by omega)) = UInt8.ofNat c.toNat := by simp [rbytes]
      have d0 : (((UInt8.ofNat k.toNat).toNat : Nat) : Int) = k := by simp; omega
      have d1 : (((UInt8.ofNat c.toNat).toNat : Nat) : Int) = c := by simp; omega
      have d2 : ((l.toNat : Nat) : Int) = l := by omega
      have d3 : ((l.toNat : Nat) : Int) - (((l - p).toNat : Nat) : Int) = p := by omega
      unfold rdec
      rw [dif_neg (by omega), dif_neg hlen2]
      simp only [b2, g1, b3, g2, b4, c0, c1, d0, d1, d2, ne_eq, not_true_eq_false, if_false]
      have d4 : l - (((l - p).toNat : Nat) : Int) = p := by omega
      rw [d4, if_pos ⟨by omega, by omega, by omega, hr⟩]
end Go.Proofs.Ytkpjkaikeeldfaa.Wa
