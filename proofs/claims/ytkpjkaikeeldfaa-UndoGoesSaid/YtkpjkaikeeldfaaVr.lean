/- Records: encoded and decoded; RecordDecodes, RecordEncodes. -/
import Derived.Test.YtkpjkaikeeldfaaVd
import Derived.Test.YtkpjkaikeeldfaaWvLc
import Derived.Test.YtkpjkaikeeldfaaVapi
import Derived.Test.YtkpjkaikeeldfaaVq
namespace Go.Proofs.Ytkpjkaikeeldfaa.Wa
open Go Go.Weave
set_option maxRecDepth 100000
set_option linter.unusedSimpArgs false
set_option linter.unusedVariables false
set_option linter.unusedSectionVars false

theorem rput_run' {d : Nat} {f : Bool} {l : List UInt8} {n : Nat} {h : Heap} {Q : Res → Prop} {tg : Hid Q} (hn : n < 18446744073709551616) (hl : l.length ≤ 140737488355000) :
    Run (evFn Cw (d + 1) 23 [.sl f 0 (bys l), .int .u64 n] h) Q tg = Q ([.sl false 0 (bys (l ++ enc n))], h) := (rput_ok d f l n h hn hl).at

/-! ### Encoded -/
noncomputable def rbytes (k c l p : Int) (dt : List UInt8) : List UInt8 := [UInt8.ofNat k.toNat, UInt8.ofNat c.toNat] ++ enc l.toNat ++ enc (l - p).toNat ++ dt
theorem two_bytes {k c : Int} (hk : 0 ≤ k ∧ k < 256) (hc : 0 ≤ c ∧ c < 256) : [AVal.int .u8 (IntKind.u8.wrap k), AVal.int .u8 (IntKind.u8.wrap c)] = bys [UInt8.ofNat k.toNat, UInt8.ofNat c.toNat] := by
  have h1 := bys_one k.toNat (by omega)
  have h2 := bys_one c.toNat (by omega)
  have e1 : ((k.toNat : Nat) : Int) = k := by omega
  have e2 : ((c.toNat : Nat) : Int) = c := by omega
  rw [e1] at h1
  rw [e2] at h2
  rw [wrap_u8_id (by omega) (by omega), wrap_u8_id (by omega) (by omega)]
  have : bys [UInt8.ofNat k.toNat, UInt8.ofNat c.toNat] = bys [UInt8.ofNat k.toNat] ++ bys [UInt8.ofNat c.toNat] := of_eq_true (eq_self _)
  rw [this, ← h1, ← h2]; rfl
theorem rbytes_len {k c l p : Int} {dt : List UInt8} (hr : rright k c l p = true) : (rbytes k c l p dt).length ≤ dt.length + 22 := by
  have hs := hr
  simp only [rright, decide_eq_true_eq] at hs
  have h1 := (enc_length 9 l.toNat (lt_128_10 (by omega))).2
  have h2 := (enc_length 9 (l - p).toNat (lt_128_10 (by omega))).2
  simp only [rbytes, List.length_append, List.length_cons, List.length_nil]
  omega
/-- What comes of encoding: nothing (not right, or too long), or the bytes. -/
noncomputable def rencE (k c l p : Int) (dt : List UInt8) : Nat := if rright k c l p = false then 13 else if (rbytes k c l p dt).length > 512 then 5 else 0
/-! ### Decoded -/
structure RD where
  e : Nat
  k : Int
  c : Int
  l : Int
  p : Int
  dt : List UInt8
def RD.bad (e : Nat) : RD := ⟨e, 0, 0, 0, 0, []⟩
noncomputable def rdec (b : List UInt8) : RD :=
  if h : 512 < b.length then .bad 5 else if h2 : b.length < 2 then .bad 1 else
  if (getF (b.drop 2) 0 0).2.2 ≠ 0 then .bad (getF (b.drop 2) 0 0).2.2 else
  if (getF (b.drop (2 + (getF (b.drop 2) 0 0).2.1)) 0 0).2.2 ≠ 0 then .bad (getF (b.drop (2 + (getF (b.drop 2) 0 0).2.1)) 0 0).2.2 else
  if (getF (b.drop 2) 0 0).1 ≤ 2147483647 ∧ 1 ≤ (getF (b.drop (2 + (getF (b.drop 2) 0 0).2.1)) 0 0).1 ∧ (getF (b.drop (2 + (getF (b.drop 2) 0 0).2.1)) 0 0).1 ≤ (getF (b.drop 2) 0 0).1 ∧
      rright ((b[0]'(by omega)).toNat : Nat) ((b[1]'(by omega)).toNat : Nat) (getF (b.drop 2) 0 0).1 ((getF (b.drop 2) 0 0).1 - (getF (b.drop (2 + (getF (b.drop 2) 0 0).2.1)) 0 0).1) = true then
    ⟨0, ((b[0]'(by omega)).toNat : Nat), ((b[1]'(by omega)).toNat : Nat), (getF (b.drop 2) 0 0).1, (getF (b.drop 2) 0 0).1 - (getF (b.drop (2 + (getF (b.drop 2) 0 0).2.1)) 0 0).1,
      b.drop (2 + (getF (b.drop 2) 0 0).2.1 + (getF (b.drop (2 + (getF (b.drop 2) 0 0).2.1)) 0 0).2.1)⟩
  else .bad 2
noncomputable def RD.A (r : RD) : AVal := .agg [.int .i64 r.k, .int .i64 r.c, .int .i64 r.l, .int .i64 r.p, .sl (decide (r.e ≠ 0)) 0 (bys r.dt)]
theorem RD.bad_A {e : Nat} (he : e ≠ 0) : (RD.bad e).A = .agg [.int .i64 0, .int .i64 0, .int .i64 0, .int .i64 0, .sl true 0 []] := by simp [RD.bad, RD.A, he, bys_nil]

def capN (n : Nat) : Nat := if 2147483648 < n then 2147483648 else n
theorem byte_wrap (x : UInt8) : IntKind.i64.wrap ((x.toNat : Nat) : Int) = (x.toNat : Nat) := by
  have := x.toNat_lt
  exact wrap_i64_id (by omega) (by omega)
theorem ofByte_int (x : UInt8) : ofByte x = AVal.int .u8 (x.toNat : Int) := of_eq_true (eq_self _)
end Go.Proofs.Ytkpjkaikeeldfaa.Wa
