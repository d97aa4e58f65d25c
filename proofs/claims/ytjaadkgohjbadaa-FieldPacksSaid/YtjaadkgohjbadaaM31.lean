/- Texts of this proof, laid together: the evaluator, what it comes to, and the laws. No condition. -/
import Derived.Test.YtjaadkgohjbadaaWvZ
import Derived.Test.YtjaadkgohjbadaaProg
import Derived.KernelRfl
import Derived.Test.YtjaadkgohjbadaaWvLa
import Derived.Test.YtjaadkgohjbadaaWvLb
section
/- What the evaluator is told ahead of each function (nothing of it is trusted). -/
namespace Go.Proofs.Ytjaadkgohjbadaa.Wa
open Go Go.Weave
set_option maxRecDepth 100000
set_option linter.unusedVariables false
def annw : FuncId → Ann := fun f => match f with
  | 13 => { keep := [(2, [.plain 1, .own 5 0])], rown := [0] }
  | 16 => { keep := [(3, [.plain 5, .plain 8, .plain 9, .plain 10])] }
  | 12 => { keep := [(2, [.plain 1, .own 5 0])], rown := [0] }
  | 17 => { keep := [(4, [.plain 0, .plain 5, .plain 6, .plain 7])] }
  | 14 => { rown := [0] }
  | 15 => { rown := [0] }
  | 8 => { rown := [0] }
  | 6 => { keep := [(3, [.own 3 0, .plain 6, .plain 7, .plain 8])], rown := [0] }
  | 7 => { keep := [(3, [.plain 0, .own 3 0, .plain 4])], rown := [0] }
  | 9 => { keep := [(2, [.plain 0, .own 4 0])], rown := [0] }
  | 10 => { keep := [(3, [.plain 0, .own 4 0, .plain 5])], rown := [0] }
  | 11 => { keep := [(4, [.plain 0, .plain 1, .plain 5])] }
  | 3 => { keep := [(7, [.plain 0, .plain 1, .own 5 0, .plain 6])] }
  | _ => {}
noncomputable def Cw : Cfg := ⟨Try.prog, annw, fun _ => none, fun _ => none⟩
end Go.Proofs.Ytjaadkgohjbadaa.Wa
end

section
/- What the evaluator comes to in these functions. -/
namespace Go.Proofs.Ytjaadkgohjbadaa.Wa
open Go Go.Weave
set_option maxRecDepth 100000
set_option linter.unusedVariables false
/- f13 strandline/varint.Put -/
noncomputable def P13_0 (d k : Nat) (x0 : Int) (l1 : List AVal) (h : Heap) : Tr Res :=
  loopPt Cw d 13 [true, true, false, true] [] k ⟨[(1, (EV.one (SV.val (AVal.int .u64 x0)))), (5, (EV.one (SV.own (tokOf 5 0) 0 l1)))], []⟩ h
theorem P13_0_eq (d k : Nat) (x0 : Int) (l1 : List AVal) (h : Heap) : P13_0 d (k + 1) x0 l1 h =
  (bif (decide ((x0 : Int) ≥ 128)) then
    (bif decide ((l1.length + (1 : Nat)) * 1 ≤ 140737489403904) then
      (P13_0 d k (Int.fdiv x0 (2 ^ 7)) (l1 ++ [(AVal.int .u8 (IntKind.u8.wrap (BitVec.ofInt 8 (IntKind.u8.wrap x0) ||| BitVec.ofInt 8 128).toNat))]) h)
    else
      Tr.fail)
  else
    (bif decide ((l1.length + (1 : Nat)) * 1 ≤ 140737489403904) then (Tr.ret ([(AVal.sl false 0 (l1 ++ [(AVal.int .u8 (IntKind.u8.wrap x0))]))], h)) else Tr.fail)) := by kernel_rfl
theorem F13_eq (d : Nat) (f0 : Bool) (l1 : List AVal) (x2 : Int) (h : Heap) : evFn Cw (d + 1) 13 [(AVal.sl f0 0 l1), (AVal.int .u64 x2)] h =
  (bif decide (((0 : Nat) + l1.length) * 1 ≤ 140737489403904) then (P13_0 d rounds x2 ([] ++ l1) h) else Tr.fail) := by kernel_rfl
/- f16 strandline/varint.Get -/
noncomputable def P16_0 (d k : Nat) (x0 : Int) (f1 : Bool) (l2 : List AVal) (x3 : Int) (x4 : Int) (h : Heap) : Tr Res :=
  loopPt Cw d 16 [true, true, false, true, true] [] k ⟨[(5, (EV.one (SV.val (AVal.int .u64 x0)))), (8, (EV.one (SV.val (AVal.sl f1 0 l2)))), (9, (EV.one (SV.val (AVal.int .i64 x3)))), (10, (EV.one (SV.val (AVal.int .i64 x4))))], []⟩ h
theorem P16_0_eq (d k : Nat) (x0 : Int) (f1 : Bool) (l2 : List AVal) (x3 : Int) (x4 : Int) (h : Heap) : P16_0 d (k + 1) x0 f1 l2 x3 x4 h =
  (bif (decide ((x4 : Int) < x3)) then
    (bif (decide ((0 : Int) ≤ x4) && decide ((x4 : Int) < (l2.length : Int))) then
      (bif AVal.isInt .u8 (l2.getD (Int.toNat x4) AVal.undef) then
        (bif ((x4 : Int) == 9) then
          (bif (decide (((AVal.toInt (l2.getD (Int.toNat x4) AVal.undef)) : Int) > 1)) then
            (Tr.ret ([(AVal.int .u64 0), (AVal.int .i64 0), (AVal.int .i64 4)], h))
          else
            (bif decide ((IntKind.i64.wrap (7 * x4)) < 0) then
              Tr.fail
            else
              (bif (decide (((AVal.toInt (l2.getD (Int.toNat x4) AVal.undef)) : Int) < 128)) then
                (bif (((AVal.toInt (l2.getD (Int.toNat x4) AVal.undef)) : Int) == 0) then
                  (bif (decide ((x4 : Int) > 0)) then
                    (Tr.ret ([(AVal.int .u64 0), (AVal.int .i64 0), (AVal.int .i64 2)], h))
                  else
                    (Tr.ret ([(AVal.int .u64 (IntKind.u64.wrap (BitVec.ofInt 64 x0 ||| BitVec.ofInt 64 (IntKind.u64.wrap ((IntKind.u64.wrap (IntKind.u8.wrap (BitVec.ofInt 8 (AVal.toInt (l2.getD (Int.toNat x4) AVal.undef)) &&& BitVec.ofInt 8 127).toNat)) * 2 ^ (min (Int.toNat (IntKind.i64.wrap (7 * x4))) 64)))).toNat)), (AVal.int .i64 (IntKind.i64.wrap (x4 + 1))), (AVal.int .i64 0)], h)))
                else
                  (Tr.ret ([(AVal.int .u64 (IntKind.u64.wrap (BitVec.ofInt 64 x0 ||| BitVec.ofInt 64 (IntKind.u64.wrap ((IntKind.u64.wrap (IntKind.u8.wrap (BitVec.ofInt 8 (AVal.toInt (l2.getD (Int.toNat x4) AVal.undef)) &&& BitVec.ofInt 8 127).toNat)) * 2 ^ (min (Int.toNat (IntKind.i64.wrap (7 * x4))) 64)))).toNat)), (AVal.int .i64 (IntKind.i64.wrap (x4 + 1))), (AVal.int .i64 0)], h)))
              else
                (P16_0 d k (IntKind.u64.wrap (BitVec.ofInt 64 x0 ||| BitVec.ofInt 64 (IntKind.u64.wrap ((IntKind.u64.wrap (IntKind.u8.wrap (BitVec.ofInt 8 (AVal.toInt (l2.getD (Int.toNat x4) AVal.undef)) &&& BitVec.ofInt 8 127).toNat)) * 2 ^ (min (Int.toNat (IntKind.i64.wrap (7 * x4))) 64)))).toNat) f1 l2 x3 (IntKind.i64.wrap (x4 + 1)) h))))
        else
          (bif decide ((IntKind.i64.wrap (7 * x4)) < 0) then
            Tr.fail
          else
            (bif (decide (((AVal.toInt (l2.getD (Int.toNat x4) AVal.undef)) : Int) < 128)) then
              (bif (((AVal.toInt (l2.getD (Int.toNat x4) AVal.undef)) : Int) == 0) then
                (bif (decide ((x4 : Int) > 0)) then
                  (Tr.ret ([(AVal.int .u64 0), (AVal.int .i64 0), (AVal.int .i64 2)], h))
                else
                  (Tr.ret ([(AVal.int .u64 (IntKind.u64.wrap (BitVec.ofInt 64 x0 ||| BitVec.ofInt 64 (IntKind.u64.wrap ((IntKind.u64.wrap (IntKind.u8.wrap (BitVec.ofInt 8 (AVal.toInt (l2.getD (Int.toNat x4) AVal.undef)) &&& BitVec.ofInt 8 127).toNat)) * 2 ^ (min (Int.toNat (IntKind.i64.wrap (7 * x4))) 64)))).toNat)), (AVal.int .i64 (IntKind.i64.wrap (x4 + 1))), (AVal.int .i64 0)], h)))
              else
                (Tr.ret ([(AVal.int .u64 (IntKind.u64.wrap (BitVec.ofInt 64 x0 ||| BitVec.ofInt 64 (IntKind.u64.wrap ((IntKind.u64.wrap (IntKind.u8.wrap (BitVec.ofInt 8 (AVal.toInt (l2.getD (Int.toNat x4) AVal.undef)) &&& BitVec.ofInt 8 127).toNat)) * 2 ^ (min (Int.toNat (IntKind.i64.wrap (7 * x4))) 64)))).toNat)), (AVal.int .i64 (IntKind.i64.wrap (x4 + 1))), (AVal.int .i64 0)], h)))
            else
              (P16_0 d k (IntKind.u64.wrap (BitVec.ofInt 64 x0 ||| BitVec.ofInt 64 (IntKind.u64.wrap ((IntKind.u64.wrap (IntKind.u8.wrap (BitVec.ofInt 8 (AVal.toInt (l2.getD (Int.toNat x4) AVal.undef)) &&& BitVec.ofInt 8 127).toNat)) * 2 ^ (min (Int.toNat (IntKind.i64.wrap (7 * x4))) 64)))).toNat) f1 l2 x3 (IntKind.i64.wrap (x4 + 1)) h))))
      else
        Tr.fail)
    else
      Tr.fail)
  else
    (Tr.ret ([(AVal.int .u64 0), (AVal.int .i64 0), (AVal.int .i64 1)], h))) := by kernel_rfl
theorem F16_eq (d : Nat) (f0 : Bool) (l1 : List AVal) (h : Heap) : evFn Cw (d + 1) 16 [(AVal.sl f0 0 l1)] h =
  (P16_0 d rounds 0 f0 l1 (l1.length : Int) 0 h) := by kernel_rfl
/- f12 strandline/strandlineref02.Put -/
noncomputable def P12_0 (d k : Nat) (x0 : Int) (l1 : List AVal) (h : Heap) : Tr Res :=
  loopPt Cw d 12 [true, true, false, true] [] k ⟨[(1, (EV.one (SV.val (AVal.int .u64 x0)))), (5, (EV.one (SV.own (tokOf 5 0) 0 l1)))], []⟩ h
theorem P12_0_eq (d k : Nat) (x0 : Int) (l1 : List AVal) (h : Heap) : P12_0 d (k + 1) x0 l1 h =
  (bif (decide (((IntKind.u64.wrap (Int.tdiv x0 128)) : Int) > 0)) then
    (bif decide ((l1.length + (1 : Nat)) * 1 ≤ 140737489403904) then
      (P12_0 d k (IntKind.u64.wrap (Int.tdiv x0 128)) (l1 ++ [(AVal.int .u8 (IntKind.u8.wrap (IntKind.u64.wrap (128 + (Int.tmod x0 128)))))]) h)
    else
      Tr.fail)
  else
    (bif decide ((l1.length + (1 : Nat)) * 1 ≤ 140737489403904) then (Tr.ret ([(AVal.sl false 0 (l1 ++ [(AVal.int .u8 (IntKind.u8.wrap x0))]))], h)) else Tr.fail)) := by kernel_rfl
theorem F12_eq (d : Nat) (f0 : Bool) (l1 : List AVal) (x2 : Int) (h : Heap) : evFn Cw (d + 1) 12 [(AVal.sl f0 0 l1), (AVal.int .u64 x2)] h =
  (bif decide (((0 : Nat) + l1.length) * 1 ≤ 140737489403904) then (P12_0 d rounds x2 ([] ++ l1) h) else Tr.fail) := by kernel_rfl
/- f17 strandline/strandlineref02.Get -/
noncomputable def P17_0 (d k : Nat) (f0 : Bool) (l1 : List AVal) (x2 : Int) (x3 : Int) (x4 : Int) (h : Heap) : Tr Res :=
  loopPt Cw d 17 [true, true, true, false, true, true] [] k ⟨[(0, (EV.one (SV.val (AVal.sl f0 0 l1)))), (5, (EV.one (SV.val (AVal.int .u64 x2)))), (6, (EV.one (SV.val (AVal.int .u64 x3)))), (7, (EV.one (SV.val (AVal.int .i64 x4))))], []⟩ h
theorem P17_0_eq (d k : Nat) (f0 : Bool) (l1 : List AVal) (x2 : Int) (x3 : Int) (x4 : Int) (h : Heap) : P17_0 d (k + 1) f0 l1 x2 x3 x4 h =
  (bif (decide ((x4 : Int) < (l1.length : Int))) then
    (bif (decide ((0 : Int) ≤ x4) && decide ((x4 : Int) < (l1.length : Int))) then
      (bif AVal.isInt .u8 (l1.getD (Int.toNat x4) AVal.undef) then
        (bif ((x4 : Int) == 9) then
          (bif (decide (((IntKind.u64.wrap (AVal.toInt (l1.getD (Int.toNat x4) AVal.undef))) : Int) > 1)) then
            (Tr.ret ([(AVal.int .u64 0), (AVal.int .i64 0), (AVal.int .i64 4)], h))
          else
            (bif (decide (((IntKind.u64.wrap (AVal.toInt (l1.getD (Int.toNat x4) AVal.undef))) : Int) < 128)) then
              (bif (((IntKind.u64.wrap (AVal.toInt (l1.getD (Int.toNat x4) AVal.undef))) : Int) == 0) then
                (bif (decide ((x4 : Int) > 0)) then
                  (Tr.ret ([(AVal.int .u64 0), (AVal.int .i64 0), (AVal.int .i64 2)], h))
                else
                  (bif (decide (((IntKind.u64.wrap (AVal.toInt (l1.getD (Int.toNat x4) AVal.undef))) : Int) < 128)) then
                    (Tr.ret ([(AVal.int .u64 (IntKind.u64.wrap (x2 + (IntKind.u64.wrap ((Int.tmod (IntKind.u64.wrap (AVal.toInt (l1.getD (Int.toNat x4) AVal.undef))) 128) * x3))))), (AVal.int .i64 (IntKind.i64.wrap (x4 + 1))), (AVal.int .i64 0)], h))
                  else
                    (P17_0 d k f0 l1 (IntKind.u64.wrap (x2 + (IntKind.u64.wrap ((Int.tmod (IntKind.u64.wrap (AVal.toInt (l1.getD (Int.toNat x4) AVal.undef))) 128) * x3)))) (IntKind.u64.wrap (x3 * 128)) (IntKind.i64.wrap (x4 + 1)) h)))
              else
                (bif (decide (((IntKind.u64.wrap (AVal.toInt (l1.getD (Int.toNat x4) AVal.undef))) : Int) < 128)) then
                  (Tr.ret ([(AVal.int .u64 (IntKind.u64.wrap (x2 + (IntKind.u64.wrap ((Int.tmod (IntKind.u64.wrap (AVal.toInt (l1.getD (Int.toNat x4) AVal.undef))) 128) * x3))))), (AVal.int .i64 (IntKind.i64.wrap (x4 + 1))), (AVal.int .i64 0)], h))
                else
                  (P17_0 d k f0 l1 (IntKind.u64.wrap (x2 + (IntKind.u64.wrap ((Int.tmod (IntKind.u64.wrap (AVal.toInt (l1.getD (Int.toNat x4) AVal.undef))) 128) * x3)))) (IntKind.u64.wrap (x3 * 128)) (IntKind.i64.wrap (x4 + 1)) h)))
            else
              (bif (decide (((IntKind.u64.wrap (AVal.toInt (l1.getD (Int.toNat x4) AVal.undef))) : Int) < 128)) then
                (Tr.ret ([(AVal.int .u64 (IntKind.u64.wrap (x2 + (IntKind.u64.wrap ((Int.tmod (IntKind.u64.wrap (AVal.toInt (l1.getD (Int.toNat x4) AVal.undef))) 128) * x3))))), (AVal.int .i64 (IntKind.i64.wrap (x4 + 1))), (AVal.int .i64 0)], h))
              else
                (P17_0 d k f0 l1 (IntKind.u64.wrap (x2 + (IntKind.u64.wrap ((Int.tmod (IntKind.u64.wrap (AVal.toInt (l1.getD (Int.toNat x4) AVal.undef))) 128) * x3)))) (IntKind.u64.wrap (x3 * 128)) (IntKind.i64.wrap (x4 + 1)) h))))
        else
          (bif (decide (((IntKind.u64.wrap (AVal.toInt (l1.getD (Int.toNat x4) AVal.undef))) : Int) < 128)) then
            (bif (((IntKind.u64.wrap (AVal.toInt (l1.getD (Int.toNat x4) AVal.undef))) : Int) == 0) then
              (bif (decide ((x4 : Int) > 0)) then
                (Tr.ret ([(AVal.int .u64 0), (AVal.int .i64 0), (AVal.int .i64 2)], h))
              else
                (bif (decide (((IntKind.u64.wrap (AVal.toInt (l1.getD (Int.toNat x4) AVal.undef))) : Int) < 128)) then
                  (Tr.ret ([(AVal.int .u64 (IntKind.u64.wrap (x2 + (IntKind.u64.wrap ((Int.tmod (IntKind.u64.wrap (AVal.toInt (l1.getD (Int.toNat x4) AVal.undef))) 128) * x3))))), (AVal.int .i64 (IntKind.i64.wrap (x4 + 1))), (AVal.int .i64 0)], h))
                else
                  (P17_0 d k f0 l1 (IntKind.u64.wrap (x2 + (IntKind.u64.wrap ((Int.tmod (IntKind.u64.wrap (AVal.toInt (l1.getD (Int.toNat x4) AVal.undef))) 128) * x3)))) (IntKind.u64.wrap (x3 * 128)) (IntKind.i64.wrap (x4 + 1)) h)))
            else
              (bif (decide (((IntKind.u64.wrap (AVal.toInt (l1.getD (Int.toNat x4) AVal.undef))) : Int) < 128)) then
                (Tr.ret ([(AVal.int .u64 (IntKind.u64.wrap (x2 + (IntKind.u64.wrap ((Int.tmod (IntKind.u64.wrap (AVal.toInt (l1.getD (Int.toNat x4) AVal.undef))) 128) * x3))))), (AVal.int .i64 (IntKind.i64.wrap (x4 + 1))), (AVal.int .i64 0)], h))
              else
                (P17_0 d k f0 l1 (IntKind.u64.wrap (x2 + (IntKind.u64.wrap ((Int.tmod (IntKind.u64.wrap (AVal.toInt (l1.getD (Int.toNat x4) AVal.undef))) 128) * x3)))) (IntKind.u64.wrap (x3 * 128)) (IntKind.i64.wrap (x4 + 1)) h)))
          else
            (bif (decide (((IntKind.u64.wrap (AVal.toInt (l1.getD (Int.toNat x4) AVal.undef))) : Int) < 128)) then
              (Tr.ret ([(AVal.int .u64 (IntKind.u64.wrap (x2 + (IntKind.u64.wrap ((Int.tmod (IntKind.u64.wrap (AVal.toInt (l1.getD (Int.toNat x4) AVal.undef))) 128) * x3))))), (AVal.int .i64 (IntKind.i64.wrap (x4 + 1))), (AVal.int .i64 0)], h))
            else
              (P17_0 d k f0 l1 (IntKind.u64.wrap (x2 + (IntKind.u64.wrap ((Int.tmod (IntKind.u64.wrap (AVal.toInt (l1.getD (Int.toNat x4) AVal.undef))) 128) * x3)))) (IntKind.u64.wrap (x3 * 128)) (IntKind.i64.wrap (x4 + 1)) h))))
      else
        Tr.fail)
    else
      Tr.fail)
  else
    (Tr.ret ([(AVal.int .u64 0), (AVal.int .i64 0), (AVal.int .i64 1)], h))) := by kernel_rfl
theorem F17_eq (d : Nat) (f0 : Bool) (l1 : List AVal) (h : Heap) : evFn Cw (d + 1) 17 [(AVal.sl f0 0 l1)] h =
  (P17_0 d rounds f0 l1 0 1 0 h) := by kernel_rfl
end Go.Proofs.Ytjaadkgohjbadaa.Wa
end

section
/- What the functions of the short numbers come to. -/
namespace Go.Proofs.Ytjaadkgohjbadaa.Wa
open Go Go.Weave
set_option maxRecDepth 100000
set_option linter.unusedSimpArgs false
set_option linter.unusedVariables false
set_option linter.unusedSectionVars false

def encW (n : Nat) : List UInt8 := if n < 128 then [UInt8.ofNat n] else UInt8.ofNat (n % 128 + 128) :: encW (n / 128)
  termination_by n
  decreasing_by omega
theorem enc_ex : ∃ f : Nat → List UInt8, ∀ n, f n = if n < 128 then [UInt8.ofNat n] else UInt8.ofNat (n % 128 + 128) :: f (n / 128) := ⟨encW, fun n => by rw [encW]⟩
/-- A number's short bytes. (By choice: so that no reduction looks into it.) -/
noncomputable def enc : Nat → List UInt8 := Classical.choose enc_ex
theorem enc_lt {n : Nat} (h : n < 128) : enc n = [UInt8.ofNat n] := by
  have := Classical.choose_spec enc_ex n
  rw [if_pos h] at this; exact this
theorem enc_ge {n : Nat} (h : ¬ n < 128) : enc n = UInt8.ofNat (n % 128 + 128) :: enc (n / 128) := by
  have := Classical.choose_spec enc_ex n
  rw [if_neg h] at this; exact this

theorem enc_length : ∀ (j n : Nat), n < 128 ^ (j + 1) → 1 ≤ (enc n).length ∧ (enc n).length ≤ j + 1
  | 0, n, h => by rw [enc_lt (by simpa using h)]; simp
  | j + 1, n, h => by
    by_cases hn : n < 128
    · rw [enc_lt hn]; simp
    · rw [enc_ge hn]
      have := enc_length j (n / 128) (Nat.div_lt_of_lt_mul (by rw [Nat.pow_succ] at h; omega))
      simp; omega

theorem or128 (m : Nat) (h : m < 256) : m ||| 128 = m % 128 + 128 := by
  have : ∀ m : Fin 256, (m.val ||| 128) = m.val % 128 + 128 := by decide +kernel
  exact this ⟨m, h⟩
theorem and127 (m : Nat) (h : m < 256) : m &&& 127 = m % 128 := by
  have : ∀ m : Fin 256, (m.val &&& 127) = m.val % 128 := by decide +kernel
  exact this ⟨m, h⟩

theorem put_byte (n : Nat) : IntKind.u8.wrap (BitVec.ofInt 8 (IntKind.u8.wrap (n : Int)) ||| BitVec.ofInt 8 128).toNat = ((n % 128 + 128 : Nat) : Int) := by
  have e1 : IntKind.u8.wrap (n : Int) = ((n % 256 : Nat) : Int) := by rw [wrap_u8]; omega
  have e2 : (BitVec.ofInt 8 ((n % 256 : Nat) : Int)).toNat = n % 256 := by simp [BitVec.toNat_ofInt]; omega
  have e3 : (BitVec.ofInt 8 128).toNat = 128 := by decide
  rw [e1, BitVec.toNat_or, e2, e3, or128 _ (by omega), wrap_u8]
  omega

/-- varint.Put's loop. -/
theorem put_loop (d : Nat) (h : Heap) : ∀ (j k n : Nat) (l : List UInt8), n < 128 ^ (j + 1) → j < k → l.length + j + 1 ≤ 140737488355328 →
    Ans (P13_0 d k n (bys l) h) ([.sl false 0 (bys (l ++ enc n))], h) := by
  intro j
  induction j with
  | zero =>
    intro k n l hn hk hl
    obtain ⟨k, rfl⟩ : ∃ m, k = m + 1 := ⟨k - 1, by omega⟩
    have h1 : n < 128 := by simpa using hn
    rw [P13_0_eq, cond_of_not (by simp; omega), cond_of (by simp [bys_length]; omega), enc_lt h1, wrap_u8_id (by omega) (by omega), bys_one n (by omega), ← bys_append]
    exact Ans.ret _
  | succ j ih =>
    intro k n l hn hk hl
    obtain ⟨k, rfl⟩ : ∃ m, k = m + 1 := ⟨k - 1, by omega⟩
    by_cases h1 : n < 128
    · rw [P13_0_eq, cond_of_not (by simp; omega), cond_of (by simp [bys_length]; omega), enc_lt h1, wrap_u8_id (by omega) (by omega), bys_one n (by omega), ← bys_append]
      exact Ans.ret _
    · rw [P13_0_eq, cond_of (by simp; omega), cond_of (by simp [bys_length]; omega), enc_ge h1, put_byte, bys_one _ (by omega), ← bys_append]
      have e : Int.fdiv (n : Int) (2 ^ 7) = ((n / 128 : Nat) : Int) := by
        have : (2 ^ 7 : Int) = 128 := by decide
        rw [this, Int.fdiv_eq_ediv_of_nonneg _ (by omega)]; omega
      rw [e]
      have := ih k (n / 128) (l ++ [UInt8.ofNat (n % 128 + 128)]) (Nat.div_lt_of_lt_mul (by rw [Nat.pow_succ] at hn; omega)) (by omega) (by simp; omega)
      rw [List.append_assoc] at this
      exact this

theorem lt_128_10 {n : Nat} (h : n < 18446744073709551616) : n < 128 ^ (9 + 1) := Nat.lt_trans h (by decide)
theorem rounds_gt (n : Nat) (h : n < 4611686018427387904) : n < rounds := Nat.lt_of_lt_of_le h rounds_ge

theorem put_ok (d : Nat) (f : Bool) (l : List UInt8) (n : Nat) (h : Heap) (hn : n < 18446744073709551616) (hl : l.length ≤ 140737488355000) :
    Ans (evFn Cw (d + 1) 13 [.sl f 0 (bys l), .int .u64 n] h) ([.sl false 0 (bys (l ++ enc n))], h) := by
  rw [F13_eq, cond_of (by simp [bys_length]; omega), List.nil_append]
  exact put_loop d h 9 rounds n l (lt_128_10 hn) (rounds_gt _ (by omega)) (by omega)

/-- The document's. -/
theorem rput_loop (d : Nat) (h : Heap) : ∀ (j k n : Nat) (l : List UInt8), n < 18446744073709551616 → n < 128 ^ (j + 1) → j < k → l.length + j + 1 ≤ 140737488355328 →
    Ans (P12_0 d k n (bys l) h) ([.sl false 0 (bys (l ++ enc n))], h) := by
  intro j
  have hd : ∀ n : Nat, n < 18446744073709551616 → IntKind.u64.wrap (Int.tdiv (n : Int) 128) = ((n / 128 : Nat) : Int) := fun n hn => by
    rw [Int.tdiv_eq_ediv_of_nonneg (by omega), wrap_u64_id (by omega) (by omega)]; omega
  have hb : ∀ n : Nat, IntKind.u8.wrap (IntKind.u64.wrap (128 + (Int.tmod (n : Int) 128))) = ((n % 128 + 128 : Nat) : Int) := fun n => by
    rw [Int.tmod_eq_emod_of_nonneg (by omega), wrap_u64_id (by omega) (by omega), wrap_u8_id (by omega) (by omega)]; omega
  induction j with
  | zero =>
    intro k n l hm hn hk hl
    obtain ⟨k, rfl⟩ : ∃ m, k = m + 1 := ⟨k - 1, by omega⟩
    have h1 : n < 128 := by simpa using hn
    rw [P12_0_eq, hd n hm, cond_of_not (by simp; omega), cond_of (by simp [bys_length]; omega), enc_lt h1, wrap_u8_id (by omega) (by omega), bys_one n (by omega), ← bys_append]
    exact Ans.ret _
  | succ j ih =>
    intro k n l hm hn hk hl
    obtain ⟨k, rfl⟩ : ∃ m, k = m + 1 := ⟨k - 1, by omega⟩
    by_cases h1 : n < 128
    · rw [P12_0_eq, hd n hm, cond_of_not (by simp; omega), cond_of (by simp [bys_length]; omega), enc_lt h1, wrap_u8_id (by omega) (by omega), bys_one n (by omega), ← bys_append]
      exact Ans.ret _
    · rw [P12_0_eq, hd n hm, cond_of (by simp; omega), cond_of (by simp [bys_length]; omega), enc_ge h1, hb, bys_one _ (by omega), ← bys_append]
      have := ih k (n / 128) (l ++ [UInt8.ofNat (n % 128 + 128)]) (by omega) (Nat.div_lt_of_lt_mul (by rw [Nat.pow_succ] at hn; omega)) (by omega) (by simp; omega)
      rw [List.append_assoc] at this
      exact this

theorem rput_ok (d : Nat) (f : Bool) (l : List UInt8) (n : Nat) (h : Heap) (hn : n < 18446744073709551616) (hl : l.length ≤ 140737488355000) :
    Ans (evFn Cw (d + 1) 12 [.sl f 0 (bys l), .int .u64 n] h) ([.sl false 0 (bys (l ++ enc n))], h) := by
  rw [F12_eq, cond_of (by simp [bys_length]; omega), List.nil_append]
  exact rput_loop d h 9 rounds n l hn (lt_128_10 hn) (rounds_gt _ (by omega)) (by omega)

/-- The number that bytes begin with: from the i-th byte on. -/
def getF : List UInt8 → Nat → Nat → Nat × Nat × Nat
  | [], _, _ => (0, 0, 1)
  | c :: r, i, acc =>
    if i = 9 ∧ 1 < c.toNat then (0, 0, 4) else
    if c.toNat < 128 then (if c.toNat = 0 ∧ 0 < i then (0, 0, 2) else (acc + c.toNat * 2 ^ (7 * i), i + 1, 0)) else getF r (i + 1) (acc + (c.toNat % 128) * 2 ^ (7 * i))
def tri (x : Nat × Nat × Nat) : List AVal := [.int .u64 x.1, .int .i64 x.2.1, .int .i64 x.2.2]

theorem pow_le {i : Nat} (h : i ≤ 9) : 2 ^ (7 * i) ≤ 9223372036854775808 := by
  have : 2 ^ (7 * i) ≤ 2 ^ 63 := Nat.pow_le_pow_right (by omega) (by omega)
  simpa using this

theorem get_or {acc i c : Nat} (h : acc < 2 ^ (7 * i)) (hi : i ≤ 9) (hc : c < 256) (h9 : i = 9 → c ≤ 1) :
    IntKind.u64.wrap (BitVec.ofInt 64 (acc : Int) ||| BitVec.ofInt 64 (IntKind.u64.wrap ((IntKind.u64.wrap (IntKind.u8.wrap (BitVec.ofInt 8 (c : Int) &&& BitVec.ofInt 8 127).toNat)) * 2 ^ (min (Int.toNat (IntKind.i64.wrap (7 * (i : Int)))) 64)))).toNat
      = ((acc + (c % 128) * 2 ^ (7 * i) : Nat) : Int) ∧ acc + (c % 128) * 2 ^ (7 * i) < 18446744073709551616 := by
  have e1 : (BitVec.ofInt 8 (c : Int)).toNat = c := by simp; omega
  have e2 : (BitVec.ofInt 8 127).toNat = 127 := by decide
  have e3 : IntKind.u8.wrap (BitVec.ofInt 8 (c : Int) &&& BitVec.ofInt 8 127).toNat = ((c % 128 : Nat) : Int) := by
    rw [BitVec.toNat_and, e1, e2, and127 _ hc, wrap_u8]; omega
  have e4 : min (Int.toNat (IntKind.i64.wrap (7 * (i : Int)))) 64 = 7 * i := by rw [wrap_i64_id (by omega) (by omega)]; omega
  have hp := pow_le hi
  have hle : (c % 128) * 2 ^ (7 * i) ≤ 18446744073709551616 - 2 ^ (7 * i) := by
    by_cases h' : i = 9
    · have := h9 h'
      subst h'
      have : c % 128 ≤ 1 := by omega
      have h2 : (c % 128) * 2 ^ (7 * 9) ≤ 1 * 2 ^ (7 * 9) := Nat.mul_le_mul_right _ this
      have h3 : (2 : Nat) ^ (7 * 9) = 9223372036854775808 := by decide
      rw [h3] at h2 ⊢
      omega
    · have h2 : (c % 128) * 2 ^ (7 * i) ≤ 127 * 2 ^ (7 * i) := Nat.mul_le_mul_right _ (by omega)
      have h3 : 2 ^ (7 * i) ≤ 2 ^ 56 := Nat.pow_le_pow_right (by omega) (by omega)
      have h4 : (2 : Nat) ^ 56 = 72057594037927936 := by decide
      rw [h4] at h3
      omega
  have hsum : acc + (c % 128) * 2 ^ (7 * i) < 18446744073709551616 := by omega
  refine ⟨?_, hsum⟩
  rw [e3, e4]
  have e5 : IntKind.u64.wrap ((c % 128 : Nat) : Int) = ((c % 128 : Nat) : Int) := wrap_u64_id (by omega) (by omega)
  have e6 : ((c % 128 : Nat) : Int) * 2 ^ (7 * i) = (((c % 128) * 2 ^ (7 * i) : Nat) : Int) := by rw [Int.natCast_mul, Int.natCast_pow]; rfl
  rw [e5, e6, wrap_u64_id (n := (((c % 128) * 2 ^ (7 * i) : Nat) : Int)) (by omega) (by omega)]
  have e7 : (BitVec.ofInt 64 (acc : Int)).toNat = acc := by simp; omega
  have e8 : (BitVec.ofInt 64 (((c % 128) * 2 ^ (7 * i) : Nat) : Int)).toNat = (c % 128) * 2 ^ (7 * i) := by
    rw [BitVec.toNat_ofInt]
    have : ((2 ^ 64 : Nat) : Int) = 18446744073709551616 := by decide
    rw [this]; omega
  have e9 : acc ||| (c % 128) * 2 ^ (7 * i) = acc + (c % 128) * 2 ^ (7 * i) := by
    rw [Nat.or_comm, Nat.mul_comm (c % 128), Nat.add_comm]
    exact (Nat.two_pow_add_eq_or_of_lt h (c % 128)).symm
  rw [BitVec.toNat_or, e7, e8, e9]
  exact wrap_u64_id (by omega) (by omega)

theorem get_loop (d : Nat) (f : Bool) (h : Heap) : ∀ (r pre : List UInt8) (k acc : Nat), pre.length ≤ 9 → acc < 2 ^ (7 * pre.length) → r.length < k → pre.length + r.length ≤ 140737488355328 →
    Ans (P16_0 d k acc f (bys (pre ++ r)) ((pre ++ r).length : Nat) (pre.length : Nat) h) (tri (getF r pre.length acc), h) := by
  intro r
  induction r with
  | nil =>
    intro pre k acc hi ha hk hb
    obtain ⟨k, rfl⟩ : ∃ m, k = m + 1 := ⟨k - 1, by omega⟩
    rw [P16_0_eq, cond_of_not (by simp)]
    exact Ans.ret _
  | cons c r ih =>
    intro pre k acc hi ha hk hb
    obtain ⟨k, rfl⟩ : ∃ m, k = m + 1 := ⟨k - 1, by omega⟩
    have hc : c.toNat < 256 := c.toNat_lt
    have hlt : pre.length < (pre ++ c :: r).length := by simp
    have hget : (bys (pre ++ c :: r)).getD (Int.toNat (pre.length : Int)) AVal.undef = ofByte c := by
      rw [Int.toNat_natCast, bys_getD hlt]
      congr 1
      simp
    have hneg : decide ((IntKind.i64.wrap (7 * (pre.length : Int))) < 0) = false := by
      rw [wrap_i64_id (by omega) (by omega)]; simp; omega
    have hnext : IntKind.i64.wrap ((pre.length : Int) + 1) = ((pre.length + 1 : Nat) : Int) := by rw [wrap_i64_id (by omega) (by omega)]; omega
    have hrec : (pre.length = 9 → c.toNat ≤ 1) → ¬ c.toNat < 128 → Ans (P16_0 d k ((acc + (c.toNat % 128) * 2 ^ (7 * pre.length) : Nat) : Int) f (bys (pre ++ c :: r)) ((pre ++ c :: r).length : Nat) ((pre.length + 1 : Nat) : Int) h)
        (tri (getF r (pre.length + 1) (acc + (c.toNat % 128) * 2 ^ (7 * pre.length))), h) := fun h9 h128 => by
      have hp : pre.length < 9 := by
        have : pre.length ≠ 9 := fun e => by have := h9 e; omega
        omega
      have e1 : pre ++ c :: r = (pre ++ [c]) ++ r := by simp
      have e2 : (pre ++ [c]).length = pre.length + 1 := by simp
      have := ih (pre ++ [c]) k (acc + (c.toNat % 128) * 2 ^ (7 * pre.length)) (by rw [e2]; omega) (by
        rw [e2, show 7 * (pre.length + 1) = 7 * pre.length + 7 by omega, Nat.pow_add]
        have h3 : (c.toNat % 128) * 2 ^ (7 * pre.length) ≤ 127 * 2 ^ (7 * pre.length) := Nat.mul_le_mul_right _ (by omega)
        have h4 : (2 : Nat) ^ 7 = 128 := by decide
        rw [h4]
        omega) (by simp at hk; omega) (by rw [e2]; simp at hb; omega)
      rw [← e1, e2] at this
      exact this
    rw [P16_0_eq, cond_of (by simp; omega), cond_of (by simp [bys_length]; omega), hget, isInt_ofByte, cond_true, toInt_ofByte, hneg, cond_false, hnext]
    unfold getF
    by_cases h9 : pre.length = 9
    · rw [cond_of (by simp; omega)]
      by_cases h1 : 1 < c.toNat
      · rw [cond_of (by simp; omega), if_pos ⟨h9, h1⟩]; exact Ans.ret _
      · rw [cond_of_not (by simp; omega), if_neg (by omega), (get_or ha hi hc (fun _ => by omega)).1, cond_of (by simp; omega), if_pos (by omega)]
        by_cases h0 : c.toNat = 0
        · rw [cond_of (by simp [h0]), cond_of (by simp; omega), if_pos (by omega)]; exact Ans.ret _
        · rw [cond_of_not (by simp; omega), if_neg (by omega), Nat.mod_eq_of_lt (by omega : c.toNat < 128)]; exact Ans.ret _
    · have hno : pre.length = 9 → c.toNat ≤ 1 := fun e => absurd e h9
      rw [cond_of_not (by simp; omega), if_neg (by omega), (get_or ha hi hc hno).1]
      by_cases h128 : c.toNat < 128
      · rw [cond_of (by simp; omega), if_pos h128]
        by_cases h0 : c.toNat = 0
        · rw [cond_of (by simp [h0])]
          by_cases hz : 0 < pre.length
          · rw [cond_of (by simp; omega), if_pos ⟨h0, hz⟩]; exact Ans.ret _
          · rw [cond_of_not (by rw [decide_eq_false_iff_not]; omega), if_neg (fun e => hz e.2), Nat.mod_eq_of_lt h128]; exact Ans.ret _
        · rw [cond_of_not (by simp; omega), if_neg (fun e => h0 e.1), Nat.mod_eq_of_lt h128]; exact Ans.ret _
      · rw [cond_of_not (by simp; omega), if_neg h128]
        exact hrec hno h128

theorem get_ok (d : Nat) (f : Bool) (l : List UInt8) (h : Heap) (hl : l.length ≤ 140737488355328) : Ans (evFn Cw (d + 1) 16 [.sl f 0 (bys l)] h) (tri (getF l 0 0), h) := by
  rw [F16_eq]
  have := get_loop d f h l [] rounds 0 (by simp) (by simp) (rounds_gt _ (by omega)) (by simpa using hl)
  simpa [bys_length] using this

/-- What is put is got, whatever stands behind. -/
theorem get_enc : ∀ (j n i acc : Nat) (rest : List UInt8), n < 128 ^ (j + 1) → i + j ≤ 9 → (i + j = 9 → n < 2 * 128 ^ j) → (0 < i → 0 < n) → getF (enc n ++ rest) i acc = (acc + n * 2 ^ (7 * i), i + (enc n).length, 0)
  | 0, n, i, acc, rest, hn, hi, h9, h0 => by
    have h1 : n < 128 := by simpa using hn
    have e : (UInt8.ofNat n).toNat = n := by simp; omega
    rw [enc_lt h1]
    simp only [List.singleton_append, getF, e]
    rw [if_neg (by intro ⟨a, b⟩; have := h9 (by omega); omega), if_pos h1, if_neg (by intro ⟨a, b⟩; have := h0 b; omega)]
    simp
  | j + 1, n, i, acc, rest, hn, hi, h9, h0 => by
    by_cases h1 : n < 128
    · have e : (UInt8.ofNat n).toNat = n := by simp; omega
      rw [enc_lt h1]
      simp only [List.singleton_append, getF, e]
      rw [if_neg (by intro ⟨a, b⟩; omega), if_pos h1, if_neg (by intro ⟨a, b⟩; have := h0 b; omega)]
      simp
    · have e : (UInt8.ofNat (n % 128 + 128)).toNat = n % 128 + 128 := by simp; omega
      rw [enc_ge h1]
      simp only [List.cons_append, getF, e]
      rw [if_neg (by intro ⟨a, b⟩; omega), if_neg (by omega)]
      rw [get_enc j (n / 128) (i + 1) _ rest (Nat.div_lt_of_lt_mul (by rw [Nat.pow_succ] at hn; omega)) (by omega) (fun hh => by
        have := h9 (by omega)
        rw [Nat.pow_succ] at this
        exact Nat.div_lt_of_lt_mul (by omega)) (fun _ => by omega)]
      have e2 : (n % 128 + 128) % 128 = n % 128 := by omega
      have e3 : 2 ^ (7 * (i + 1)) = 128 * 2 ^ (7 * i) := by rw [show 7 * (i + 1) = 7 + 7 * i by omega, Nat.pow_add]
      rw [e2, e3]
      have e4 : n = n % 128 + n / 128 * 128 := by omega
      simp only [List.length_cons, Prod.mk.injEq, and_true]
      refine ⟨?_, by omega⟩
      have : n * 2 ^ (7 * i) = (n % 128) * 2 ^ (7 * i) + n / 128 * (128 * 2 ^ (7 * i)) := by
        rw [← Nat.mul_assoc, ← Nat.add_mul]; congr 1
      omega

theorem get_enc0 (n : Nat) (rest : List UInt8) (hn : n < 18446744073709551616) : getF (enc n ++ rest) 0 0 = (n, (enc n).length, 0) := by
  have := get_enc 9 n 0 0 rest (lt_128_10 hn) (by omega) (fun _ => Nat.lt_of_lt_of_le hn (by decide)) (fun h => by omega)
  simpa using this

end Go.Proofs.Ytjaadkgohjbadaa.Wa
end

section
/- The number that bytes begin with, as the document has it; and VarintGets. -/
namespace Go.Proofs.Ytjaadkgohjbadaa.Wa
open Go Go.Weave
set_option maxRecDepth 100000
set_option linter.unusedSimpArgs false
set_option linter.unusedVariables false
set_option linter.unusedSectionVars false

theorem rget_sum {acc i c : Nat} (h : acc < 2 ^ (7 * i)) (hi : i ≤ 9) (hc : c < 256) (h9 : i = 9 → c ≤ 1) :
    IntKind.u64.wrap ((acc : Int) + (IntKind.u64.wrap ((Int.tmod (c : Int) 128) * ((2 ^ (7 * i) : Nat) : Int)))) = ((acc + (c % 128) * 2 ^ (7 * i) : Nat) : Int) := by
  have hs := (get_or h hi hc h9).2
  have e1 : Int.tmod (c : Int) 128 = ((c % 128 : Nat) : Int) := by rw [Int.tmod_eq_emod_of_nonneg (by omega)]; omega
  have e2 : ((c % 128 : Nat) : Int) * ((2 ^ (7 * i) : Nat) : Int) = (((c % 128) * 2 ^ (7 * i) : Nat) : Int) := by rw [Int.natCast_mul]
  rw [e1, e2, wrap_u64_id (n := (((c % 128) * 2 ^ (7 * i) : Nat) : Int)) (by omega) (by omega), wrap_u64_id (by omega) (by omega)]
  omega

theorem rget_loop (d : Nat) (f : Bool) (h : Heap) : ∀ (r pre : List UInt8) (k acc : Nat), pre.length ≤ 9 → acc < 2 ^ (7 * pre.length) → r.length < k → pre.length + r.length ≤ 140737488355328 →
    Ans (P17_0 d k f (bys (pre ++ r)) acc ((2 ^ (7 * pre.length) : Nat) : Int) (pre.length : Nat) h) (tri (getF r pre.length acc), h) := by
  intro r
  induction r with
  | nil =>
    intro pre k acc hi ha hk hb
    obtain ⟨k, rfl⟩ : ∃ m, k = m + 1 := ⟨k - 1, by omega⟩
    rw [P17_0_eq, cond_of_not (by simp [bys_length])]
    exact Ans.ret _
  | cons c r ih =>
    intro pre k acc hi ha hk hb
    obtain ⟨k, rfl⟩ : ∃ m, k = m + 1 := ⟨k - 1, by omega⟩
    have hc : c.toNat < 256 := c.toNat_lt
    have hlt : pre.length < (pre ++ c :: r).length := by simp
    have hget : (bys (pre ++ c :: r)).getD (Int.toNat (pre.length : Int)) AVal.undef = ofByte c := by
      rw [Int.toNat_natCast, bys_getD hlt]
      congr 1
      simp
    have hw : IntKind.u64.wrap ((c.toNat : Nat) : Int) = ((c.toNat : Nat) : Int) := wrap_u64_id (by omega) (by omega)
    have hnext : IntKind.i64.wrap ((pre.length : Int) + 1) = ((pre.length + 1 : Nat) : Int) := by rw [wrap_i64_id (by omega) (by omega)]; omega
    have hrec : (pre.length = 9 → c.toNat ≤ 1) → ¬ c.toNat < 128 → Ans (P17_0 d k f (bys (pre ++ c :: r)) ((acc + (c.toNat % 128) * 2 ^ (7 * pre.length) : Nat) : Int) (IntKind.u64.wrap (((2 ^ (7 * pre.length) : Nat) : Int) * 128)) ((pre.length + 1 : Nat) : Int) h)
        (tri (getF r (pre.length + 1) (acc + (c.toNat % 128) * 2 ^ (7 * pre.length))), h) := fun h9 h128 => by
      have hp : pre.length < 9 := by
        have : pre.length ≠ 9 := fun e => by have := h9 e; omega
        omega
      have e1 : pre ++ c :: r = (pre ++ [c]) ++ r := by simp
      have e2 : (pre ++ [c]).length = pre.length + 1 := by simp
      have e4 : 2 ^ (7 * (pre.length + 1)) = 2 ^ (7 * pre.length) * 128 := by
        rw [show 7 * (pre.length + 1) = 7 * pre.length + 7 by omega, Nat.pow_add]
      have e5 := pow_le (i := pre.length + 1) (by omega)
      have e6 : IntKind.u64.wrap (((2 ^ (7 * pre.length) : Nat) : Int) * 128) = ((2 ^ (7 * (pre.length + 1)) : Nat) : Int) := by
        rw [e4] at e5 ⊢
        rw [wrap_u64_id (by omega) (by omega)]
        omega
      have := ih (pre ++ [c]) k (acc + (c.toNat % 128) * 2 ^ (7 * pre.length)) (by rw [e2]; omega) (by
        rw [e2, e4]
        have h3 : (c.toNat % 128) * 2 ^ (7 * pre.length) ≤ 127 * 2 ^ (7 * pre.length) := Nat.mul_le_mul_right _ (by omega)
        omega) (by simp at hk; omega) (by rw [e2]; simp at hb; omega)
      rw [← e1, e2] at this
      rw [e6]
      exact this
    rw [P17_0_eq, cond_of (by simp [bys_length]; omega), cond_of (by simp [bys_length]; omega), hget, isInt_ofByte, cond_true, toInt_ofByte, hw, hnext]
    unfold getF
    by_cases h9 : pre.length = 9
    · rw [cond_of (by simp; omega)]
      by_cases h1 : 1 < c.toNat
      · rw [cond_of (by simp; omega), if_pos ⟨h9, h1⟩]; exact Ans.ret _
      · rw [cond_of_not (by simp; omega), if_neg (by omega), rget_sum ha hi hc (fun _ => by omega), cond_of (by simp; omega), if_pos (by omega)]
        by_cases h0 : c.toNat = 0
        · rw [cond_of (by simp [h0]), cond_of (by simp; omega), if_pos (by omega)]; exact Ans.ret _
        · rw [cond_of_not (by simp; omega), if_neg (fun e => h0 e.1), cond_of (by simp; omega), Nat.mod_eq_of_lt (by omega : c.toNat < 128)]; exact Ans.ret _
    · have hno : pre.length = 9 → c.toNat ≤ 1 := fun e => absurd e h9
      rw [cond_of_not (by simp; omega), if_neg (fun e => h9 e.1), rget_sum ha hi hc hno]
      by_cases h128 : c.toNat < 128
      · rw [cond_of (by simp; omega), if_pos h128]
        by_cases h0 : c.toNat = 0
        · rw [cond_of (by simp [h0])]
          by_cases hz : 0 < pre.length
          · rw [cond_of (by rw [decide_eq_true_iff]; omega), if_pos ⟨h0, hz⟩]; exact Ans.ret _
          · rw [cond_of_not (by rw [decide_eq_false_iff_not]; omega), if_neg (fun e => hz e.2), cond_of (by simp; omega), Nat.mod_eq_of_lt h128]; exact Ans.ret _
        · rw [cond_of_not (by simp; omega), if_neg (fun e => h0 e.1), cond_of (by simp; omega), Nat.mod_eq_of_lt h128]; exact Ans.ret _
      · rw [cond_of_not (by simp; omega), if_neg h128, cond_of_not (by simp; omega)]
        exact hrec hno h128

theorem rget_ok (d : Nat) (f : Bool) (l : List UInt8) (h : Heap) (hl : l.length ≤ 140737488355328) : Ans (evFn Cw (d + 1) 17 [.sl f 0 (bys l)] h) (tri (getF l 0 0), h) := by
  rw [F17_eq]
  have := rget_loop d f h l [] rounds 0 (by simp) (by simp) (rounds_gt _ (by omega)) (by simpa using hl)
  simpa using this

/-- What is got: a number that is put by the same bytes; or why there is none. -/
theorem getF_spec : ∀ (r : List UInt8) (i acc : Nat), i ≤ 9 →
    (∃ m, getF r i acc = (acc + m * 2 ^ (7 * i), i + (enc m).length, 0) ∧ r.take (enc m).length = enc m ∧ (enc m).length ≤ r.length ∧ m < 2 * 128 ^ (9 - i) ∧ (0 < i → 0 < m)) ∨
    (∃ e, getF r i acc = (0, 0, e) ∧ (e = 1 ∨ e = 2 ∨ e = 4))
  | [], i, acc, _ => .inr ⟨1, rfl, .inl rfl⟩
  | c :: r, i, acc, hi => by
    have hc : c.toNat < 256 := c.toNat_lt
    unfold getF
    by_cases h9 : i = 9 ∧ 1 < c.toNat
    · rw [if_pos h9]; exact .inr ⟨4, rfl, .inr (.inr rfl)⟩
    · rw [if_neg h9]
      by_cases h128 : c.toNat < 128
      · rw [if_pos h128]
        by_cases h0 : c.toNat = 0 ∧ 0 < i
        · rw [if_pos h0]; exact .inr ⟨2, rfl, .inr (.inl rfl)⟩
        · rw [if_neg h0]
          have e : enc c.toNat = [c] := by rw [enc_lt h128]; simp
          refine .inl ⟨c.toNat, by rw [e]; rfl, by rw [e]; rfl, by rw [e]; simp, ?_, fun hi0 => by
            have : c.toNat ≠ 0 := fun e => h0 ⟨e, hi0⟩
            omega⟩
          by_cases hi9 : i = 9
          · subst hi9
            have : ¬ 1 < c.toNat := fun e => h9 ⟨rfl, e⟩
            simp; omega
          · have h1 : (128 : Nat) ^ 1 ≤ 128 ^ (9 - i) := Nat.pow_le_pow_right (by omega) (by omega)
            simp at h1
            omega
      · rw [if_neg h128]
        have hi9 : i ≠ 9 := fun e => h9 ⟨e, by omega⟩
        rcases getF_spec r (i + 1) (acc + (c.toNat % 128) * 2 ^ (7 * i)) (by omega) with ⟨m, h1, h2, h3, h4, h5⟩ | h
        · left
          have hm := h5 (by omega)
          have e : enc (c.toNat % 128 + 128 * m) = c :: enc m := by
            rw [enc_ge (by omega)]
            have e1 : (c.toNat % 128 + 128 * m) % 128 + 128 = c.toNat := by omega
            have e2 : (c.toNat % 128 + 128 * m) / 128 = m := by omega
            rw [e1, e2]
            simp
          refine ⟨c.toNat % 128 + 128 * m, ?_, by rw [e]; simp [h2], by rw [e]; simp; exact h3, ?_, fun _ => by omega⟩
          · rw [h1, e]
            have e3 : 2 ^ (7 * (i + 1)) = 128 * 2 ^ (7 * i) := by rw [show 7 * (i + 1) = 7 + 7 * i by omega, Nat.pow_add]
            rw [e3]
            simp only [List.length_cons, Prod.mk.injEq, and_true]
            refine ⟨?_, by omega⟩
            rw [Nat.add_mul, Nat.mul_comm 128 m, Nat.mul_assoc]
            omega
          · have e4 : 9 - i = (9 - (i + 1)) + 1 := by omega
            rw [e4, Nat.pow_succ]
            omega
        · exact .inr h

theorem getF_spec0 (l : List UInt8) : (∃ m, getF l 0 0 = (m, (enc m).length, 0) ∧ l.take (enc m).length = enc m ∧ (enc m).length ≤ l.length ∧ m < 18446744073709551616) ∨ (∃ e, getF l 0 0 = (0, 0, e) ∧ (e = 1 ∨ e = 2 ∨ e = 4)) := by
  rcases getF_spec l 0 0 (by omega) with ⟨m, h1, h2, h3, h4, _⟩ | h
  · refine .inl ⟨m, by simpa using h1, h2, h3, Nat.lt_of_lt_of_le h4 (by decide)⟩
  · exact .inr h

end Go.Proofs.Ytjaadkgohjbadaa.Wa
end

section
/- All the numbers that bytes are; VarintAll. -/
namespace Go.Proofs.Ytjaadkgohjbadaa.Wa
open Go Go.Weave
set_option maxRecDepth 100000
set_option linter.unusedSimpArgs false
set_option linter.unusedVariables false
set_option linter.unusedSectionVars false

theorem get_run {d : Nat} {f : Bool} {l : List UInt8} {h : Heap} {Q : Res → Prop} {tg : Hid Q} (hl : l.length ≤ 140737488355328) :
    Run (evFn Cw (d + 1) 16 [.sl f 0 (bys l)] h) Q tg = Q ([.int .u64 (getF l 0 0).1, .int .i64 (getF l 0 0).2.1, .int .i64 (getF l 0 0).2.2], h) := (get_ok d f l h hl).at
theorem rget_run {d : Nat} {f : Bool} {l : List UInt8} {h : Heap} {Q : Res → Prop} {tg : Hid Q} (hl : l.length ≤ 140737488355328) :
    Run (evFn Cw (d + 1) 17 [.sl f 0 (bys l)] h) Q tg = Q ([.int .u64 (getF l 0 0).1, .int .i64 (getF l 0 0).2.1, .int .i64 (getF l 0 0).2.2], h) := (rget_ok d f l h hl).at
theorem put_run {d : Nat} {f : Bool} {l : List UInt8} {n : Nat} {h : Heap} {Q : Res → Prop} {tg : Hid Q} (hn : n < 18446744073709551616) (hl : l.length ≤ 140737488355000) :
    Run (evFn Cw (d + 1) 13 [.sl f 0 (bys l), .int .u64 n] h) Q tg = Q ([.sl false 0 (bys (l ++ enc n))], h) := (put_ok d f l n h hn hl).at
theorem getF_ok {l : List UInt8} (h : (getF l 0 0).2.2 = 0) : 1 ≤ (getF l 0 0).2.1 ∧ (getF l 0 0).2.1 ≤ l.length ∧ (getF l 0 0).1 < 18446744073709551616 := by
  rcases getF_spec0 l with ⟨m, h1, _, h3, h4⟩ | ⟨e, h1, he⟩
  · rw [h1]; exact ⟨(enc_length 9 m (lt_128_10 h4)).1, h3, h4⟩
  · rw [h1] at h; simp at h; omega

theorem part_drop {l : List UInt8} {k : Nat} : Weave.part (k : Int) ((bys l).length : Int) (bys l) = bys (l.drop k) := by
  rw [part_bys, bys_length]
  congr 1
  simp only [Weave.part, Int.toNat_natCast]
  rw [List.take_of_length_le (by simp)]

theorem e0 : ((0 : Nat) : Int) = 0 := by omega
end Go.Proofs.Ytjaadkgohjbadaa.Wa
end

section
/- What the evaluator comes to in these functions. -/
namespace Go.Proofs.Ytjaadkgohjbadaa.Wa
open Go Go.Weave
set_option maxRecDepth 100000
set_option linter.unusedVariables false
/- f14 strandline/field.Get -/
theorem F14_eq (d : Nat) (f0 : Bool) (l1 : List AVal) (h : Heap) : evFn Cw (d + 1) 14 [(AVal.sl f0 0 l1)] h =
  (runK (evFn Cw d 16 [(AVal.sl f0 0 l1)] h) fun r1 h1 =>
    (consK r1 fun w2 ws3 =>
      (intK .u64 w2 fun y4 =>
        (consK ws3 fun w5 ws6 =>
          (intK .i64 w5 fun y7 =>
            (consK ws6 fun w8 ws9 =>
              (intK .i64 w8 fun y10 =>
                (nilK ws9
                  (bif ((y10 : Int) != 0) then
                    (Tr.ret ([(AVal.sl true 0 []), (AVal.int .i64 0), (AVal.int .i64 y10)], h1))
                  else
                    (bif (decide ((y4 : Int) > 65536)) then
                      (Tr.ret ([(AVal.sl true 0 []), (AVal.int .i64 0), (AVal.int .i64 5)], h1))
                    else
                      (bif (decide (((IntKind.i64.wrap (y7 + (IntKind.i64.wrap y4))) : Int) > (l1.length : Int))) then
                        (Tr.ret ([(AVal.sl true 0 []), (AVal.int .i64 0), (AVal.int .i64 1)], h1))
                      else
                        (bif ((decide ((0 : Int) ≤ y7) && decide ((y7 : Int) ≤ (IntKind.i64.wrap (y7 + (IntKind.i64.wrap y4))))) && decide (((IntKind.i64.wrap (y7 + (IntKind.i64.wrap y4))) : Int) ≤ (l1.length : Int))) then
                          (bif decide (((IntKind.i64.wrap (y7 + (IntKind.i64.wrap y4))) : Int) = (IntKind.i64.wrap (y7 + (IntKind.i64.wrap y4)))) then
                            (bif decide (((0 : Nat) + (Go.Weave.part y7 (IntKind.i64.wrap (y7 + (IntKind.i64.wrap y4))) l1).length) * 1 ≤ 140737489403904) then
                              (Tr.ret ([(AVal.sl false 0 ([] ++ (Go.Weave.part y7 (IntKind.i64.wrap (y7 + (IntKind.i64.wrap y4))) l1))), (AVal.int .i64 (IntKind.i64.wrap (y7 + (IntKind.i64.wrap y4)))), (AVal.int .i64 0)], h1))
                            else
                              Tr.fail)
                          else
                            Tr.fail)
                        else
                          Tr.fail)))))))))))) := by kernel_rfl
/- f15 strandline/strandlineref04.Get -/
theorem F15_eq (d : Nat) (f0 : Bool) (l1 : List AVal) (h : Heap) : evFn Cw (d + 1) 15 [(AVal.sl f0 0 l1)] h =
  (runK (evFn Cw d 17 [(AVal.sl f0 0 l1)] h) fun r1 h1 =>
    (consK r1 fun w2 ws3 =>
      (intK .u64 w2 fun y4 =>
        (consK ws3 fun w5 ws6 =>
          (intK .i64 w5 fun y7 =>
            (consK ws6 fun w8 ws9 =>
              (intK .i64 w8 fun y10 =>
                (nilK ws9
                  (bif ((y10 : Int) != 0) then
                    (Tr.ret ([(AVal.sl true 0 []), (AVal.int .i64 0), (AVal.int .i64 y10)], h1))
                  else
                    (bif (decide ((y4 : Int) > 65536)) then
                      (Tr.ret ([(AVal.sl true 0 []), (AVal.int .i64 0), (AVal.int .i64 5)], h1))
                    else
                      (bif (decide (((IntKind.i64.wrap y4) : Int) > (IntKind.i64.wrap ((l1.length : Int) - y7)))) then
                        (Tr.ret ([(AVal.sl true 0 []), (AVal.int .i64 0), (AVal.int .i64 1)], h1))
                      else
                        (bif ((decide ((0 : Int) ≤ y7) && decide ((y7 : Int) ≤ (IntKind.i64.wrap (y7 + (IntKind.i64.wrap y4))))) && decide (((IntKind.i64.wrap (y7 + (IntKind.i64.wrap y4))) : Int) ≤ (l1.length : Int))) then
                          (bif decide (((0 : Nat) + (Go.Weave.part y7 (IntKind.i64.wrap (y7 + (IntKind.i64.wrap y4))) l1).length) * 1 ≤ 140737489403904) then
                            (Tr.ret ([(AVal.sl false 0 ([] ++ (Go.Weave.part y7 (IntKind.i64.wrap (y7 + (IntKind.i64.wrap y4))) l1))), (AVal.int .i64 (IntKind.i64.wrap (y7 + (IntKind.i64.wrap y4)))), (AVal.int .i64 0)], h1))
                          else
                            Tr.fail)
                        else
                          Tr.fail)))))))))))) := by kernel_rfl
/- f8 strandline/field.Put -/
theorem F8_eq (d : Nat) (f0 : Bool) (l1 : List AVal) (f2 : Bool) (l3 : List AVal) (h : Heap) : evFn Cw (d + 1) 8 [(AVal.sl f0 0 l1), (AVal.sl f2 0 l3)] h =
  (bif (decide (((l3.length : Int) : Int) > 65536)) then
    (bif decide (((0 : Nat) + l1.length) * 1 ≤ 140737489403904) then (Tr.ret ([(AVal.sl false 0 ([] ++ l1))], h)) else Tr.fail)
  else
    (runK (evFn Cw d 13 [(AVal.sl f0 0 l1), (AVal.int .u64 (IntKind.u64.wrap (l3.length : Int)))] h) fun r1 h1 =>
      (consK r1 fun w2 ws3 =>
        (slOK 0 w2 fun es4 =>
          (nilK ws3
            (bif decide ((es4.length + l3.length) * 1 ≤ 140737489403904) then (Tr.ret ([(AVal.sl false 0 (es4 ++ l3))], h1)) else Tr.fail)))))) := by kernel_rfl
/- f6 strandline/field.Pack -/
noncomputable def P6_0 (d k : Nat) (l0 : List AVal) (f1 : Bool) (l2 : List AVal) (x3 : Int) (x4 : Int) (h : Heap) : Tr Res :=
  loopPt Cw d 6 [true, true, false, true, true] [] k ⟨[(3, (EV.one (SV.own (tokOf 3 0) 0 l0))), (6, (EV.one (SV.val (AVal.sl f1 0 l2)))), (7, (EV.one (SV.val (AVal.int .i64 x3)))), (8, (EV.one (SV.val (AVal.int .i64 x4))))], []⟩ h
theorem P6_0_eq (d k : Nat) (l0 : List AVal) (f1 : Bool) (l2 : List AVal) (x3 : Int) (x4 : Int) (h : Heap) : P6_0 d (k + 1) l0 f1 l2 x3 x4 h =
  (bif (decide ((x4 : Int) < x3)) then
    (bif (decide ((0 : Int) ≤ x4) && decide ((x4 : Int) < (l2.length : Int))) then
      (slK 0 (l2.getD (Int.toNat x4) AVal.undef) fun fl1 es2 =>
        (runK (evFn Cw d 8 [(AVal.sl false 0 l0), (AVal.sl fl1 0 es2)] h) fun r3 h3 =>
          (consK r3 fun w4 ws5 =>
            (slOK 0 w4 fun es6 =>
              (nilK ws5
                (P6_0 d k es6 f1 l2 x3 (IntKind.i64.wrap (x4 + 1)) h3))))))
    else
      Tr.fail)
  else
    (Tr.ret ([(AVal.sl false 0 l0)], h))) := by kernel_rfl
theorem F6_eq (d : Nat) (f0 : Bool) (l1 : List AVal) (h : Heap) : evFn Cw (d + 1) 6 [(AVal.sl f0 0 l1)] h =
  (P6_0 d rounds [] f0 l1 (l1.length : Int) 0 h) := by kernel_rfl
/- f7 strandline/strandlineref04.Pack -/
noncomputable def P7_0 (d k : Nat) (f0 : Bool) (l1 : List AVal) (l2 : List AVal) (x3 : Int) (h : Heap) : Tr Res :=
  loopPt Cw d 7 [true, true, false, true, true] [] k ⟨[(0, (EV.one (SV.val (AVal.sl f0 0 l1)))), (3, (EV.one (SV.own (tokOf 3 0) 0 l2))), (4, (EV.one (SV.val (AVal.int .i64 x3))))], []⟩ h
theorem P7_0_eq (d k : Nat) (f0 : Bool) (l1 : List AVal) (l2 : List AVal) (x3 : Int) (h : Heap) : P7_0 d (k + 1) f0 l1 l2 x3 h =
  (bif (decide ((x3 : Int) < (l1.length : Int))) then
    (bif (decide ((0 : Int) ≤ x3) && decide ((x3 : Int) < (l1.length : Int))) then
      (slK 0 (l1.getD (Int.toNat x3) AVal.undef) fun fl1 es2 =>
        (bif (decide (((es2.length : Int) : Int) ≤ 65536)) then
          (bif (decide ((0 : Int) ≤ x3) && decide ((x3 : Int) < (l1.length : Int))) then
            (slK 0 (l1.getD (Int.toNat x3) AVal.undef) fun fl3 es4 =>
              (runK (evFn Cw d 12 [(AVal.sl false 0 l2), (AVal.int .u64 (IntKind.u64.wrap (es4.length : Int)))] h) fun r5 h5 =>
                (consK r5 fun w6 ws7 =>
                  (slOK 0 w6 fun es8 =>
                    (nilK ws7
                      (bif (decide ((0 : Int) ≤ x3) && decide ((x3 : Int) < (l1.length : Int))) then
                        (slK 0 (l1.getD (Int.toNat x3) AVal.undef) fun fl9 es10 =>
                          (bif decide ((es8.length + es10.length) * 1 ≤ 140737489403904) then (P7_0 d k f0 l1 (es8 ++ es10) (IntKind.i64.wrap (x3 + 1)) h5) else Tr.fail))
                      else
                        Tr.fail))))))
          else
            Tr.fail)
        else
          (P7_0 d k f0 l1 l2 (IntKind.i64.wrap (x3 + 1)) h)))
    else
      Tr.fail)
  else
    (Tr.ret ([(AVal.sl false 0 l2)], h))) := by kernel_rfl
theorem F7_eq (d : Nat) (f0 : Bool) (l1 : List AVal) (h : Heap) : evFn Cw (d + 1) 7 [(AVal.sl f0 0 l1)] h =
  (P7_0 d rounds f0 l1 [] 0 h) := by kernel_rfl
/- f9 strandline/field.Unpack -/
noncomputable def P9_0 (d k : Nat) (f0 : Bool) (l1 : List AVal) (l2 : List AVal) (h : Heap) : Tr Res :=
  loopPt Cw d 9 [true, true, false, true] [] k ⟨[(0, (EV.one (SV.val (AVal.sl f0 0 l1)))), (4, (EV.one (SV.own (tokOf 4 0) 0 l2)))], []⟩ h
theorem P9_0_eq (d k : Nat) (f0 : Bool) (l1 : List AVal) (l2 : List AVal) (h : Heap) : P9_0 d (k + 1) f0 l1 l2 h =
  (bif (decide (((l1.length : Int) : Int) > 0)) then
    (runK (evFn Cw d 14 [(AVal.sl f0 0 l1)] h) fun r1 h1 =>
      (consK r1 fun w2 ws3 =>
        (slOK 0 w2 fun es4 =>
          (consK ws3 fun w5 ws6 =>
            (intK .i64 w5 fun y7 =>
              (consK ws6 fun w8 ws9 =>
                (intK .i64 w8 fun y10 =>
                  (nilK ws9
                    (bif ((y10 : Int) != 0) then
                      (Tr.ret ([(AVal.sl true 0 []), (AVal.int .i64 y10)], h1))
                    else
                      (bif ((decide ((0 : Int) ≤ y7) && decide ((y7 : Int) ≤ (l1.length : Int))) && decide (((l1.length : Int) : Int) ≤ (l1.length : Int))) then
                        (bif decide ((l2.length + (1 : Nat)) * 24 ≤ 140737488355328) then
                          (P9_0 d k f0 (Go.Weave.part y7 (l1.length : Int) l1) (l2 ++ [(AVal.sl false 0 es4)]) h1)
                        else
                          Tr.fail)
                      else
                        Tr.fail))))))))))
  else
    (Tr.ret ([(AVal.sl false 0 l2), (AVal.int .i64 0)], h))) := by kernel_rfl
theorem F9_eq (d : Nat) (f0 : Bool) (l1 : List AVal) (h : Heap) : evFn Cw (d + 1) 9 [(AVal.sl f0 0 l1)] h =
  (P9_0 d rounds f0 l1 [] h) := by kernel_rfl
/- f10 strandline/strandlineref04.Unpack -/
noncomputable def P10_0 (d k : Nat) (f0 : Bool) (l1 : List AVal) (l2 : List AVal) (x3 : Int) (h : Heap) : Tr Res :=
  loopPt Cw d 10 [true, true, false, true, true] [] k ⟨[(0, (EV.one (SV.val (AVal.sl f0 0 l1)))), (4, (EV.one (SV.own (tokOf 4 0) 0 l2))), (5, (EV.one (SV.val (AVal.int .i64 x3))))], []⟩ h
theorem P10_0_eq (d k : Nat) (f0 : Bool) (l1 : List AVal) (l2 : List AVal) (x3 : Int) (h : Heap) : P10_0 d (k + 1) f0 l1 l2 x3 h =
  (bif (decide ((x3 : Int) < (l1.length : Int))) then
    (bif ((decide ((0 : Int) ≤ x3) && decide ((x3 : Int) ≤ (l1.length : Int))) && decide (((l1.length : Int) : Int) ≤ (l1.length : Int))) then
      (runK (evFn Cw d 15 [(AVal.sl f0 0 (Go.Weave.part x3 (l1.length : Int) l1))] h) fun r1 h1 =>
        (consK r1 fun w2 ws3 =>
          (slOK 0 w2 fun es4 =>
            (consK ws3 fun w5 ws6 =>
              (intK .i64 w5 fun y7 =>
                (consK ws6 fun w8 ws9 =>
                  (intK .i64 w8 fun y10 =>
                    (nilK ws9
                      (bif ((y10 : Int) != 0) then
                        (Tr.ret ([(AVal.sl true 0 []), (AVal.int .i64 y10)], h1))
                      else
                        (bif decide ((l2.length + (1 : Nat)) * 24 ≤ 140737488355328) then (P10_0 d k f0 l1 (l2 ++ [(AVal.sl false 0 es4)]) (IntKind.i64.wrap (x3 + y7)) h1) else Tr.fail))))))))))
    else
      Tr.fail)
  else
    (Tr.ret ([(AVal.sl false 0 l2), (AVal.int .i64 0)], h))) := by kernel_rfl
theorem F10_eq (d : Nat) (f0 : Bool) (l1 : List AVal) (h : Heap) : evFn Cw (d + 1) 10 [(AVal.sl f0 0 l1)] h =
  (P10_0 d rounds f0 l1 [] 0 h) := by kernel_rfl
/- f11 strandline/strandlineref04.Same -/
noncomputable def P11_0 (d k : Nat) (f0 : Bool) (l1 : List AVal) (f2 : Bool) (l3 : List AVal) (x4 : Int) (h : Heap) : Tr Res :=
  loopPt Cw d 11 [true, true, false, true, true] [] k ⟨[(0, (EV.one (SV.val (AVal.sl f0 0 l1)))), (1, (EV.one (SV.val (AVal.sl f2 0 l3)))), (5, (EV.one (SV.val (AVal.int .i64 x4))))], []⟩ h
theorem P11_0_eq (d k : Nat) (f0 : Bool) (l1 : List AVal) (f2 : Bool) (l3 : List AVal) (x4 : Int) (h : Heap) : P11_0 d (k + 1) f0 l1 f2 l3 x4 h =
  (bif (decide ((x4 : Int) < (l1.length : Int))) then
    (bif (decide ((0 : Int) ≤ x4) && decide ((x4 : Int) < (l1.length : Int))) then
      (slK 0 (l1.getD (Int.toNat x4) AVal.undef) fun fl1 es2 =>
        (optK (toBytes es2) fun ss3 =>
          (bif (decide ((0 : Int) ≤ x4) && decide ((x4 : Int) < (l3.length : Int))) then
            (slK 0 (l3.getD (Int.toNat x4) AVal.undef) fun fl4 es5 =>
              (optK (toBytes es5) fun ss6 =>
                (bif (!(ss3 == ss6)) then (Tr.ret ([(AVal.bool false)], h)) else (P11_0 d k f0 l1 f2 l3 (IntKind.i64.wrap (x4 + 1)) h))))
          else
            Tr.fail)))
    else
      Tr.fail)
  else
    (Tr.ret ([(AVal.bool true)], h))) := by kernel_rfl
theorem F11_eq (d : Nat) (f0 : Bool) (l1 : List AVal) (f2 : Bool) (l3 : List AVal) (h : Heap) : evFn Cw (d + 1) 11 [(AVal.sl f0 0 l1), (AVal.sl f2 0 l3)] h =
  (bif (((l1.length : Int) : Int) != (l3.length : Int)) then (Tr.ret ([(AVal.bool false)], h)) else (P11_0 d rounds f0 l1 f2 l3 0 h)) := by kernel_rfl
/- f4 strandline/strandlinelaw04.Few -/
theorem F4_eq (d : Nat) (f0 : Bool) (l1 : List AVal) (h : Heap) : evFn Cw (d + 1) 4 [(AVal.sl f0 0 l1)] h =
  (Tr.ret ([(AVal.bool (decide (((l1.length : Int) : Int) ≤ 200)))], h)) := by kernel_rfl
/- f5 strandline/strandlinelaw04.awake -/
theorem F5_eq (d : Nat) (h : Heap) : evFn Cw (d + 1) 5 [] h =
  (runK (evFn Cw d 9 [(AVal.sl true 0 [(AVal.int .u8 2), (AVal.int .u8 97), (AVal.int .u8 98), (AVal.int .u8 0)])] h) fun r1 h1 =>
    (consK r1 fun w2 ws3 =>
      (slOK 0 w2 fun es4 =>
        (consK ws3 fun w5 ws6 =>
          (intK .i64 w5 fun y7 =>
            (nilK ws6
              (bif ((y7 : Int) == 0) then
                (bif (((es4.length : Int) : Int) == 2) then
                  (bif decide ((0 : Int) < (es4.length : Int)) then
                    (slK 0 (es4.getD 0 AVal.undef) fun fl8 es9 =>
                      (optK (toBytes es9) fun ss10 =>
                        (bif (ss10 == [97, 98]) then
                          (bif decide ((1 : Int) < (es4.length : Int)) then
                            (slK 0 (es4.getD 1 AVal.undef) fun fl11 es12 =>
                              (Tr.ret ([(AVal.bool (((es12.length : Int) : Int) == 0))], h1)))
                          else
                            Tr.fail)
                        else
                          (Tr.ret ([(AVal.bool false)], h1)))))
                  else
                    Tr.fail)
                else
                  (Tr.ret ([(AVal.bool false)], h1)))
              else
                (Tr.ret ([(AVal.bool false)], h1))))))))) := by kernel_rfl
/- f3 strandline/strandlinelaw04.FieldPacks -/
noncomputable def P3_0 (d k : Nat) (f0 : Bool) (l1 : List AVal) (f2 : Bool) (l3 : List AVal) (l4 : List AVal) (x5 : Int) (h : Heap) : Tr Res :=
  loopPt Cw d 3 [true, true, true, true, false, true, true] [] k ⟨[(0, (EV.one (SV.val (AVal.sl f0 0 l1)))), (1, (EV.one (SV.val (AVal.sl f2 0 l3)))), (5, (EV.one (SV.own (tokOf 5 0) 0 l4))), (6, (EV.one (SV.val (AVal.int .i64 x5))))], []⟩ h
theorem P3_0_eq (d k : Nat) (f0 : Bool) (l1 : List AVal) (f2 : Bool) (l3 : List AVal) (l4 : List AVal) (x5 : Int) (h : Heap) : P3_0 d (k + 1) f0 l1 f2 l3 l4 x5 h =
  (bif (decide ((x5 : Int) < (l3.length : Int))) then
    (bif (decide ((0 : Int) ≤ x5) && decide ((x5 : Int) < (l3.length : Int))) then
      (slK 0 (l3.getD (Int.toNat x5) AVal.undef) fun fl1 es2 =>
        (bif ((decide ((0 : Int) ≤ x5) && decide ((x5 : Int) ≤ (IntKind.i64.wrap (x5 + 1)))) && decide (((IntKind.i64.wrap (x5 + 1)) : Int) ≤ (l3.length : Int))) then
          (sameL 2
            (runK (evFn Cw d 8 [(AVal.sl f0 0 l1), (AVal.sl fl1 0 es2)] h) fun r3 h3 =>
              (consK r3 fun w4 ws5 =>
                (slOK 0 w4 fun es6 =>
                  (nilK ws5
                    (optK (toBytes es6) fun ss7 =>
                      (bif decide (((0 : Nat) + l1.length) * 1 ≤ 140737489403904) then
                        (runK (evFn Cw d 7 [(AVal.sl false 0 (Go.Weave.part x5 (IntKind.i64.wrap (x5 + 1)) l3))] h3) fun r8 h8 =>
                          (consK r8 fun w9 ws10 =>
                            (slOK 0 w9 fun es11 =>
                              (nilK ws10
                                (bif decide ((([] ++ l1).length + es11.length) * 1 ≤ 140737489403904) then
                                  (optK (toBytes (([] ++ l1) ++ es11)) fun ss12 =>
                                    (bif (!(ss7 == ss12)) then (Tr.ret ([(AVal.bool false)], h8)) else (P3_0 d k f0 l1 f2 l3 l4 (IntKind.i64.wrap (x5 + 1)) h8)))
                                else
                                  Tr.fail)))))
                      else
                        Tr.fail)))))))
        else
          Tr.fail))
    else
      Tr.fail)
  else
    (runK (evFn Cw d 9 [(AVal.sl false 0 l4)] h) fun r13 h13 =>
      (consK r13 fun w14 ws15 =>
        (slOK 0 w14 fun es16 =>
          (consK ws15 fun w17 ws18 =>
            (intK .i64 w17 fun y19 =>
              (nilK ws18
                (runK (evFn Cw d 7 [(AVal.sl f2 0 l3)] h13) fun r20 h20 =>
                  (consK r20 fun w21 ws22 =>
                    (slOK 0 w21 fun es23 =>
                      (nilK ws22
                        (runK (evFn Cw d 10 [(AVal.sl false 0 es23)] h20) fun r24 h24 =>
                          (consK r24 fun w25 ws26 =>
                            (slOK 0 w25 fun es27 =>
                              (consK ws26 fun w28 ws29 =>
                                (intK .i64 w28 fun y30 =>
                                  (nilK ws29
                                    (bif ((y19 : Int) == 0) then
                                      (runK (evFn Cw d 11 [(AVal.sl false 0 es16), (AVal.sl false 0 es27)] h24) fun r31 h31 =>
                                        (consK r31 fun w32 ws33 =>
                                          (boolK w32 fun bb34 =>
                                            (nilK ws33
                                              (bif bb34 then
                                                (runK (evFn Cw d 5 [] h31) fun r35 h35 =>
                                                  (consK r35 fun w36 ws37 =>
                                                    (boolK w36 fun bb38 =>
                                                      (nilK ws37
                                                        (Tr.ret ([(AVal.bool bb38)], h35))))))
                                              else
                                                (Tr.ret ([(AVal.bool false)], h31)))))))
                                    else
                                      (Tr.ret ([(AVal.bool false)], h24)))))))))))))))))))) := by kernel_rfl
theorem F3_eq (d : Nat) (f0 : Bool) (l1 : List AVal) (f2 : Bool) (l3 : List AVal) (h : Heap) : evFn Cw (d + 1) 3 [(AVal.sl f0 0 l1), (AVal.sl f2 0 l3)] h =
  (runK (evFn Cw d 4 [(AVal.sl f2 0 l3)] h) fun r1 h1 =>
    (consK r1 fun w2 ws3 =>
      (boolK w2 fun bb4 =>
        (nilK ws3
          (bif (!bb4) then
            (runK (evFn Cw d 5 [] h1) fun r5 h5 =>
              (consK r5 fun w6 ws7 =>
                (boolK w6 fun bb8 =>
                  (nilK ws7
                    (Tr.ret ([(AVal.bool bb8)], h5))))))
          else
            (runK (evFn Cw d 6 [(AVal.sl f2 0 l3)] h1) fun r9 h9 =>
              (consK r9 fun w10 ws11 =>
                (slOK 0 w10 fun es12 =>
                  (nilK ws11
                    (optK (toBytes es12) fun ss13 =>
                      (runK (evFn Cw d 7 [(AVal.sl f2 0 l3)] h9) fun r14 h14 =>
                        (consK r14 fun w15 ws16 =>
                          (slOK 0 w15 fun es17 =>
                            (nilK ws16
                              (optK (toBytes es17) fun ss18 =>
                                (bif (!(ss13 == ss18)) then (Tr.ret ([(AVal.bool false)], h14)) else (P3_0 d rounds f0 l1 f2 l3 es12 0 h14))))))))))))))))) := by kernel_rfl
end Go.Proofs.Ytjaadkgohjbadaa.Wa
end

section
/- (Over the second weave.) Fields: got, put, packed, unpacked; FieldGets, FieldUnpacks, FieldPacks. -/
namespace Go.Proofs.Ytjaadkgohjbadaa.Wa
open Go Go.Weave
set_option maxRecDepth 100000
set_option linter.unusedSimpArgs false
set_option linter.unusedVariables false
set_option linter.unusedSectionVars false

theorem rput_run {d : Nat} {f : Bool} {l : List UInt8} {n : Nat} {h : Heap} {Q : Res → Prop} {tg : Hid Q} (hn : n < 18446744073709551616) (hl : l.length ≤ 140737488355000) :
    Run (evFn Cw (d + 1) 12 [.sl f 0 (bys l), .int .u64 n] h) Q tg = Q ([.sl false 0 (bys (l ++ enc n))], h) := (rput_ok d f l n h hn hl).at
/-- The field that bytes begin with. -/
def fgetW (l : List UInt8) : List UInt8 × Nat × Nat :=
  if (getF l 0 0).2.2 ≠ 0 then ([], 0, (getF l 0 0).2.2) else if 65536 < (getF l 0 0).1 then ([], 0, 5) else if l.length < (getF l 0 0).2.1 + (getF l 0 0).1 then ([], 0, 1) else
    ((l.drop (getF l 0 0).2.1).take (getF l 0 0).1, (getF l 0 0).2.1 + (getF l 0 0).1, 0)
theorem fget_ex : ∃ f : List UInt8 → List UInt8 × Nat × Nat, ∀ l, f l = fgetW l := ⟨fgetW, fun _ => rfl⟩
noncomputable def fget : List UInt8 → List UInt8 × Nat × Nat := Classical.choose fget_ex
theorem fget_eq (l : List UInt8) : fget l = fgetW l := Classical.choose_spec fget_ex l

theorem part_mid {l : List UInt8} {k m : Nat} : Weave.part (k : Int) ((k + m : Nat) : Int) (bys l) = bys ((l.drop k).take m) := by
  rw [part_bys]
  congr 1
  simp only [Weave.part, Int.toNat_natCast]
  congr 1
  omega

theorem fget_ok (d : Nat) (f : Bool) (l : List UInt8) (h : Heap) (hl : l.length ≤ 140737488351232) :
    Ans (evFn Cw (d + 2) 14 [.sl f 0 (bys l)] h) ([.sl (decide ((fget l).2.2 ≠ 0)) 0 (bys (fget l).1), .int .i64 (fget l).2.1, .int .i64 (fget l).2.2], h) := by
  refine Run.ans ?_
  rw [F14_eq, fget_eq]
  unfold fgetW
  by_cases he : (getF l 0 0).2.2 = 0
  · have ⟨h1, h2, h3⟩ := getF_ok he
    rw [if_neg (by omega)]
    by_cases hb : 65536 < (getF l 0 0).1
    · rw [if_pos hb]
      simp (disch := (first | assumption | (simp only [Bool.and_eq_true, Bool.and_eq_false_iff, decide_eq_true_eq, decide_eq_false_iff_not, bne_iff_ne, beq_iff_eq, beq_eq_false_iff_ne, bne_eq_false_iff_eq, Bool.not_eq_true', Bool.not_eq_false', bys_length, List.length_append, List.length_cons, List.length_nil, List.length_map, List.length_drop, List.length_take, Int.natCast_add, wrap_i64_eq, wrap_u64, wrap_u8, ne_eq, not_true_eq_false, not_false_eq_true, Nat.zero_add, Nat.mul_one] <;> omega) | omega | (simp; done) | (simp; omega))) only [↓CR, MC, get_run]
      simp [bys_nil]
    · have e1 : IntKind.i64.wrap (((getF l 0 0).1 : Nat) : Int) = (((getF l 0 0).1 : Nat) : Int) := wrap_i64_id (by omega) (by omega)
      have e2 : IntKind.i64.wrap ((((getF l 0 0).2.1 : Nat) : Int) + (((getF l 0 0).1 : Nat) : Int)) = (((getF l 0 0).2.1 + (getF l 0 0).1 : Nat) : Int) := by rw [wrap_i64_id (by omega) (by omega)]; omega
      rw [if_neg hb]
      by_cases hs : l.length < (getF l 0 0).2.1 + (getF l 0 0).1
      · rw [if_pos hs]
        simp (disch := (first | assumption | (simp only [Bool.and_eq_true, Bool.and_eq_false_iff, decide_eq_true_eq, decide_eq_false_iff_not, bne_iff_ne, beq_iff_eq, beq_eq_false_iff_ne, bne_eq_false_iff_eq, Bool.not_eq_true', Bool.not_eq_false', bys_length, List.length_append, List.length_cons, List.length_nil, List.length_map, List.length_drop, List.length_take, Int.natCast_add, wrap_i64_eq, wrap_u64, wrap_u8, ne_eq, not_true_eq_false, not_false_eq_true, Nat.zero_add, Nat.mul_one] <;> omega) | omega | (simp; done) | (simp; omega))) only [↓CR, MC, get_run, e1, e2]
        simp [bys_nil]
      · rw [if_neg hs]
        simp (disch := (first | assumption | (simp only [Bool.and_eq_true, Bool.and_eq_false_iff, decide_eq_true_eq, decide_eq_false_iff_not, bne_iff_ne, beq_iff_eq, beq_eq_false_iff_ne, bne_eq_false_iff_eq, Bool.not_eq_true', Bool.not_eq_false', bys_length, List.length_append, List.length_cons, List.length_nil, List.length_map, List.length_drop, List.length_take, Int.natCast_add, wrap_i64_eq, wrap_u64, wrap_u8, ne_eq, not_true_eq_false, not_false_eq_true, Nat.zero_add, Nat.mul_one] <;> omega) | omega | (simp; done) | (simp; omega))) only [↓CR, MC, get_run, e1, e2, part_mid, List.length_take]
        simp
  · rw [if_pos he]
    simp (disch := (first | assumption | (simp only [Bool.and_eq_true, Bool.and_eq_false_iff, decide_eq_true_eq, decide_eq_false_iff_not, bne_iff_ne, beq_iff_eq, beq_eq_false_iff_ne, bne_eq_false_iff_eq, Bool.not_eq_true', Bool.not_eq_false', bys_length, List.length_append, List.length_cons, List.length_nil, List.length_map, List.length_drop, List.length_take, Int.natCast_add, wrap_i64_eq, wrap_u64, wrap_u8, ne_eq, not_true_eq_false, not_false_eq_true, Nat.zero_add, Nat.mul_one] <;> omega) | omega | (simp; done) | (simp; omega))) only [↓CR, MC, get_run]
    simp [he, bys_nil]

theorem rfget_ok (d : Nat) (f : Bool) (l : List UInt8) (h : Heap) (hl : l.length ≤ 140737488351232) :
    Ans (evFn Cw (d + 2) 15 [.sl f 0 (bys l)] h) ([.sl (decide ((fget l).2.2 ≠ 0)) 0 (bys (fget l).1), .int .i64 (fget l).2.1, .int .i64 (fget l).2.2], h) := by
  refine Run.ans ?_
  rw [F15_eq, fget_eq]
  unfold fgetW
  by_cases he : (getF l 0 0).2.2 = 0
  · have ⟨h1, h2, h3⟩ := getF_ok he
    rw [if_neg (by omega)]
    by_cases hb : 65536 < (getF l 0 0).1
    · rw [if_pos hb]
      simp (disch := (first | assumption | (simp only [Bool.and_eq_true, Bool.and_eq_false_iff, decide_eq_true_eq, decide_eq_false_iff_not, bne_iff_ne, beq_iff_eq, beq_eq_false_iff_ne, bne_eq_false_iff_eq, Bool.not_eq_true', Bool.not_eq_false', bys_length, List.length_append, List.length_cons, List.length_nil, List.length_map, List.length_drop, List.length_take, Int.natCast_add, wrap_i64_eq, wrap_u64, wrap_u8, ne_eq, not_true_eq_false, not_false_eq_true, Nat.zero_add, Nat.mul_one] <;> omega) | omega | (simp; done) | (simp; omega))) only [↓CR, MC, rget_run]
      simp [bys_nil]
    · have e1 : IntKind.i64.wrap (((getF l 0 0).1 : Nat) : Int) = (((getF l 0 0).1 : Nat) : Int) := wrap_i64_id (by omega) (by omega)
      have e2 : IntKind.i64.wrap ((((getF l 0 0).2.1 : Nat) : Int) + (((getF l 0 0).1 : Nat) : Int)) = (((getF l 0 0).2.1 + (getF l 0 0).1 : Nat) : Int) := by rw [wrap_i64_id (by omega) (by omega)]; omega
      rw [if_neg hb]
      by_cases hs : l.length < (getF l 0 0).2.1 + (getF l 0 0).1
      · rw [if_pos hs]
        simp (disch := (first | assumption | (simp only [Bool.and_eq_true, Bool.and_eq_false_iff, decide_eq_true_eq, decide_eq_false_iff_not, bne_iff_ne, beq_iff_eq, beq_eq_false_iff_ne, bne_eq_false_iff_eq, Bool.not_eq_true', Bool.not_eq_false', bys_length, List.length_append, List.length_cons, List.length_nil, List.length_map, List.length_drop, List.length_take, Int.natCast_add, wrap_i64_eq, wrap_u64, wrap_u8, ne_eq, not_true_eq_false, not_false_eq_true, Nat.zero_add, Nat.mul_one] <;> omega) | omega | (simp; done) | (simp; omega))) only [↓CR, MC, rget_run, e1, e2]
        simp [bys_nil]
      · rw [if_neg hs]
        simp (disch := (first | assumption | (simp only [Bool.and_eq_true, Bool.and_eq_false_iff, decide_eq_true_eq, decide_eq_false_iff_not, bne_iff_ne, beq_iff_eq, beq_eq_false_iff_ne, bne_eq_false_iff_eq, Bool.not_eq_true', Bool.not_eq_false', bys_length, List.length_append, List.length_cons, List.length_nil, List.length_map, List.length_drop, List.length_take, Int.natCast_add, wrap_i64_eq, wrap_u64, wrap_u8, ne_eq, not_true_eq_false, not_false_eq_true, Nat.zero_add, Nat.mul_one] <;> omega) | omega | (simp; done) | (simp; omega))) only [↓CR, MC, rget_run, e1, e2, part_mid, List.length_take]
        simp
  · rw [if_pos he]
    simp (disch := (first | assumption | (simp only [Bool.and_eq_true, Bool.and_eq_false_iff, decide_eq_true_eq, decide_eq_false_iff_not, bne_iff_ne, beq_iff_eq, beq_eq_false_iff_ne, bne_eq_false_iff_eq, Bool.not_eq_true', Bool.not_eq_false', bys_length, List.length_append, List.length_cons, List.length_nil, List.length_map, List.length_drop, List.length_take, Int.natCast_add, wrap_i64_eq, wrap_u64, wrap_u8, ne_eq, not_true_eq_false, not_false_eq_true, Nat.zero_add, Nat.mul_one] <;> omega) | omega | (simp; done) | (simp; omega))) only [↓CR, MC, rget_run]
    simp [he, bys_nil]
theorem fget_run {d : Nat} {f : Bool} {l : List UInt8} {h : Heap} {Q : Res → Prop} {tg : Hid Q} (hl : l.length ≤ 140737488351232) :
    Run (evFn Cw (d + 2) 14 [.sl f 0 (bys l)] h) Q tg = Q ([.sl (decide ((fget l).2.2 ≠ 0)) 0 (bys (fget l).1), .int .i64 (fget l).2.1, .int .i64 (fget l).2.2], h) := (fget_ok d f l h hl).at
theorem rfget_run {d : Nat} {f : Bool} {l : List UInt8} {h : Heap} {Q : Res → Prop} {tg : Hid Q} (hl : l.length ≤ 140737488351232) :
    Run (evFn Cw (d + 2) 15 [.sl f 0 (bys l)] h) Q tg = Q ([.sl (decide ((fget l).2.2 ≠ 0)) 0 (bys (fget l).1), .int .i64 (fget l).2.1, .int .i64 (fget l).2.2], h) := (rfget_ok d f l h hl).at

/-- A field's bytes. -/
noncomputable def pk (f : List UInt8) : List UInt8 := if 65536 < f.length then [] else enc f.length ++ f
theorem pk_len (f : List UInt8) : (pk f).length ≤ 65546 := by
  unfold pk
  split
  · simp
  · have := (enc_length 9 f.length (lt_128_10 (by omega))).2
    simp; omega
theorem fget_spec {l : List UInt8} (h : (fget l).2.2 = 0) : (fget l).1.length ≤ 65536 ∧ 1 ≤ (fget l).2.1 ∧ (fget l).2.1 ≤ l.length ∧ l.take (fget l).2.1 = pk (fget l).1 := by
  rw [fget_eq] at h ⊢
  unfold fgetW at h ⊢
  rcases getF_spec0 l with ⟨m, h1, h2, h3, h4⟩ | ⟨e, h1, he⟩
  · rw [h1] at h ⊢
    simp only [ne_eq, not_true_eq_false, if_false] at h ⊢
    split at h
    · simp at h
    · rename_i hm
      rw [if_neg hm]
      split at h
      · simp at h
      · rename_i hs
        rw [if_neg hs]
        have hlen := (enc_length 9 m (lt_128_10 h4)).1
        have e1 : ((l.drop (enc m).length).take m).length = m := by simp; omega
        refine ⟨by rw [e1]; omega, by simp only; omega, by simp only; omega, ?_⟩
        unfold pk
        rw [e1, if_neg hm]
        simp only
        rw [List.take_add, h2]
  · rw [h1] at h
    rw [if_pos (by simp; omega)] at h
    simp at h; omega

theorem fput_ok (d : Nat) (f g : Bool) (b x : List UInt8) (h : Heap) (hb : b.length ≤ 140737488351232) :
    Ans (evFn Cw (d + 2) 8 [.sl f 0 (bys b), .sl g 0 (bys x)] h) ([.sl false 0 (bys (b ++ pk x))], h) := by
  refine Run.ans ?_
  rw [F8_eq]
  unfold pk
  by_cases hx : 65536 < x.length
  · rw [if_pos hx]
    simp (disch := (first | assumption | (simp only [Bool.and_eq_true, Bool.and_eq_false_iff, decide_eq_true_eq, decide_eq_false_iff_not, bne_iff_ne, beq_iff_eq, beq_eq_false_iff_ne, bne_eq_false_iff_eq, Bool.not_eq_true', Bool.not_eq_false', bys_length, List.length_append, List.length_cons, List.length_nil, List.length_map, List.length_drop, List.length_take, Int.natCast_add, wrap_i64_eq, wrap_u64, wrap_u8, ne_eq, not_true_eq_false, not_false_eq_true, Nat.zero_add, Nat.mul_one] <;> omega) | omega | (simp; done) | (simp; omega))) only [↓CR, MC]
  · rw [if_neg hx]
    have e1 : IntKind.u64.wrap (((bys x).length : Nat) : Int) = ((x.length : Nat) : Int) := by rw [bys_length, wrap_u64_id (by omega) (by omega)]
    have h2 := (enc_length 9 x.length (lt_128_10 (by omega))).2
    simp (disch := (first | assumption | (simp only [Bool.and_eq_true, Bool.and_eq_false_iff, decide_eq_true_eq, decide_eq_false_iff_not, bne_iff_ne, beq_iff_eq, beq_eq_false_iff_ne, bne_eq_false_iff_eq, Bool.not_eq_true', Bool.not_eq_false', bys_length, List.length_append, List.length_cons, List.length_nil, List.length_map, List.length_drop, List.length_take, Int.natCast_add, wrap_i64_eq, wrap_u64, wrap_u8, ne_eq, not_true_eq_false, not_false_eq_true, Nat.zero_add, Nat.mul_one] <;> omega) | omega | (simp; done) | (simp; omega))) only [↓CR, MC, put_run, e1, ← bys_append, List.append_assoc]
theorem fput_run {d : Nat} {f g : Bool} {b x : List UInt8} {h : Heap} {Q : Res → Prop} {tg : Hid Q} (hb : b.length ≤ 140737488351232) :
    Run (evFn Cw (d + 2) 8 [.sl f 0 (bys b), .sl g 0 (bys x)] h) Q tg = Q ([.sl false 0 (bys (b ++ pk x))], h) := (fput_ok d f g b x h hb).at
/-- Rows of bytes. -/
def flds (l : List (List UInt8)) : List AVal := l.map fun b => .sl false 0 (bys b)
theorem flds_length (l : List (List UInt8)) : (flds l).length = l.length := by simp [flds]
theorem flds_nil : flds [] = [] := of_eq_true (eq_self _)
theorem flds_snoc (l : List (List UInt8)) (n : List UInt8) : flds l ++ [AVal.sl false 0 (bys n)] = flds (l ++ [n]) := by simp [flds]
theorem flds_getD {l : List (List UInt8)} {i : Nat} (h : i < l.length) : (flds l).getD i AVal.undef = .sl false 0 (bys l[i]) := by simp [flds, h]

/-- All fields that bytes are. -/
noncomputable def unpW : Nat → List UInt8 → List (List UInt8) → List (List UInt8) × Nat
  | 0, _, acc => (acc, 0)
  | n + 1, l, acc => if l.length = 0 then (acc, 0) else if (fget l).2.2 = 0 then unpW n (l.drop (fget l).2.1) (acc ++ [(fget l).1]) else ([], (fget l).2.2)
theorem unp_ex : ∃ f : Nat → List UInt8 → List (List UInt8) → List (List UInt8) × Nat, (∀ l acc, f 0 l acc = (acc, 0)) ∧ ∀ n l acc, f (n + 1) l acc = if l.length = 0 then (acc, 0) else if (fget l).2.2 = 0 then f n (l.drop (fget l).2.1) (acc ++ [(fget l).1]) else ([], (fget l).2.2) := ⟨unpW, fun _ _ => rfl, fun _ _ _ => rfl⟩
noncomputable def unpF : Nat → List UInt8 → List (List UInt8) → List (List UInt8) × Nat := Classical.choose unp_ex
theorem unpF_zero (l : List UInt8) (acc : List (List UInt8)) : unpF 0 l acc = (acc, 0) := (Classical.choose_spec unp_ex).1 l acc
theorem unpF_succ (n : Nat) (l : List UInt8) (acc : List (List UInt8)) : unpF (n + 1) l acc = if l.length = 0 then (acc, 0) else if (fget l).2.2 = 0 then unpF n (l.drop (fget l).2.1) (acc ++ [(fget l).1]) else ([], (fget l).2.2) := (Classical.choose_spec unp_ex).2 n l acc

theorem unp_loop (d : Nat) (f : Bool) (h : Heap) : ∀ (n : Nat) (l : List UInt8) (acc : List (List UInt8)) (k : Nat), l.length ≤ n → n < k → acc.length + n ≤ 40000000 →
    Ans (P9_0 (d + 2) k f (bys l) (flds acc) h) ([.sl (decide ((unpF n l acc).2 ≠ 0)) 0 (flds (unpF n l acc).1), .int .i64 (unpF n l acc).2], h) := by
  intro n
  induction n with
  | zero =>
    intro l acc k hl hk hb
    obtain ⟨k, rfl⟩ : ∃ m, k = m + 1 := ⟨k - 1, by omega⟩
    refine Run.ans ?_
    rw [P9_0_eq]
    simp (disch := (first | assumption | (simp only [Bool.and_eq_true, Bool.and_eq_false_iff, decide_eq_true_eq, decide_eq_false_iff_not, bne_iff_ne, beq_iff_eq, beq_eq_false_iff_ne, bne_eq_false_iff_eq, Bool.not_eq_true', Bool.not_eq_false', bys_length, List.length_append, List.length_cons, List.length_nil, List.length_map, List.length_drop, List.length_take, Int.natCast_add, wrap_i64_eq, wrap_u64, wrap_u8, ne_eq, not_true_eq_false, not_false_eq_true, Nat.zero_add, Nat.mul_one] <;> omega) | omega | (simp; done) | (simp; omega))) only [↓CR, MC, unpF_zero]
    simp
  | succ n ih =>
    intro l acc k hl hk hb
    obtain ⟨k, rfl⟩ : ∃ m, k = m + 1 := ⟨k - 1, by omega⟩
    refine Run.ans ?_
    rw [P9_0_eq, unpF_succ]
    by_cases h0 : l.length = 0
    · rw [if_pos h0]
      simp (disch := (first | assumption | (simp only [Bool.and_eq_true, Bool.and_eq_false_iff, decide_eq_true_eq, decide_eq_false_iff_not, bne_iff_ne, beq_iff_eq, beq_eq_false_iff_ne, bne_eq_false_iff_eq, Bool.not_eq_true', Bool.not_eq_false', bys_length, List.length_append, List.length_cons, List.length_nil, List.length_map, List.length_drop, List.length_take, Int.natCast_add, wrap_i64_eq, wrap_u64, wrap_u8, ne_eq, not_true_eq_false, not_false_eq_true, Nat.zero_add, Nat.mul_one] <;> omega) | omega | (simp; done) | (simp; omega))) only [↓CR, MC]
      simp
    · rw [if_neg h0]
      by_cases he : (fget l).2.2 = 0
      · rw [if_pos he]
        have ⟨h1, h2, h3, h4⟩ := fget_spec he
        have := ih (l.drop (fget l).2.1) (acc ++ [(fget l).1]) k (by simp; omega) (by omega) (by simp; omega)
        simp (disch := (first | assumption | (simp only [Bool.and_eq_true, Bool.and_eq_false_iff, decide_eq_true_eq, decide_eq_false_iff_not, bne_iff_ne, beq_iff_eq, beq_eq_false_iff_ne, bne_eq_false_iff_eq, Bool.not_eq_true', Bool.not_eq_false', bys_length, List.length_append, List.length_cons, List.length_nil, List.length_map, List.length_drop, List.length_take, Int.natCast_add, wrap_i64_eq, wrap_u64, wrap_u8, ne_eq, not_true_eq_false, not_false_eq_true, Nat.zero_add, Nat.mul_one] <;> omega) | omega | (simp; done) | (simp; omega))) only [↓CR, MC, fget_run, part_drop, flds_length, flds_snoc, Ans.at this]
      · rw [if_neg he]
        simp (disch := (first | assumption | (simp only [Bool.and_eq_true, Bool.and_eq_false_iff, decide_eq_true_eq, decide_eq_false_iff_not, bne_iff_ne, beq_iff_eq, beq_eq_false_iff_ne, bne_eq_false_iff_eq, Bool.not_eq_true', Bool.not_eq_false', bys_length, List.length_append, List.length_cons, List.length_nil, List.length_map, List.length_drop, List.length_take, Int.natCast_add, wrap_i64_eq, wrap_u64, wrap_u8, ne_eq, not_true_eq_false, not_false_eq_true, Nat.zero_add, Nat.mul_one] <;> omega) | omega | (simp; done) | (simp; omega))) only [↓CR, MC, fget_run]
        simp [he, flds_nil]
theorem runp_loop (d : Nat) (f : Bool) (h : Heap) (l : List UInt8) (hbig : l.length ≤ 40000000) : ∀ (n at_ : Nat) (acc : List (List UInt8)) (k : Nat), l.length ≤ n + at_ → at_ ≤ l.length → n < k → acc.length + n ≤ 40000000 →
    Ans (P10_0 (d + 2) k f (bys l) (flds acc) at_ h) ([.sl (decide ((unpF n (l.drop at_) acc).2 ≠ 0)) 0 (flds (unpF n (l.drop at_) acc).1), .int .i64 (unpF n (l.drop at_) acc).2], h) := by
  intro n
  induction n with
  | zero =>
    intro at_ acc k hl hle hk hb
    obtain ⟨k, rfl⟩ : ∃ m, k = m + 1 := ⟨k - 1, by omega⟩
    refine Run.ans ?_
    rw [P10_0_eq]
    simp (disch := (first | assumption | (simp only [Bool.and_eq_true, Bool.and_eq_false_iff, decide_eq_true_eq, decide_eq_false_iff_not, bne_iff_ne, beq_iff_eq, beq_eq_false_iff_ne, bne_eq_false_iff_eq, Bool.not_eq_true', Bool.not_eq_false', bys_length, List.length_append, List.length_cons, List.length_nil, List.length_map, List.length_drop, List.length_take, Int.natCast_add, wrap_i64_eq, wrap_u64, wrap_u8, ne_eq, not_true_eq_false, not_false_eq_true, Nat.zero_add, Nat.mul_one] <;> omega) | omega | (simp; done) | (simp; omega))) only [↓CR, MC, unpF_zero]
    simp
  | succ n ih =>
    intro at_ acc k hl hle hk hb
    obtain ⟨k, rfl⟩ : ∃ m, k = m + 1 := ⟨k - 1, by omega⟩
    refine Run.ans ?_
    rw [P10_0_eq, unpF_succ]
    by_cases h0 : at_ = l.length
    · rw [if_pos (by simp; omega)]
      simp (disch := (first | assumption | (simp only [Bool.and_eq_true, Bool.and_eq_false_iff, decide_eq_true_eq, decide_eq_false_iff_not, bne_iff_ne, beq_iff_eq, beq_eq_false_iff_ne, bne_eq_false_iff_eq, Bool.not_eq_true', Bool.not_eq_false', bys_length, List.length_append, List.length_cons, List.length_nil, List.length_map, List.length_drop, List.length_take, Int.natCast_add, wrap_i64_eq, wrap_u64, wrap_u8, ne_eq, not_true_eq_false, not_false_eq_true, Nat.zero_add, Nat.mul_one] <;> omega) | omega | (simp; done) | (simp; omega))) only [↓CR, MC]
      simp
    · rw [if_neg (by simp; omega)]
      by_cases he : (fget (l.drop at_)).2.2 = 0
      · rw [if_pos he]
        have ⟨h1, h2, h3, h4⟩ := fget_spec he
        rw [List.length_drop] at h3
        have := ih (at_ + (fget (l.drop at_)).2.1) (acc ++ [(fget (l.drop at_)).1]) k (by omega) (by omega) (by omega) (by simp; omega)
        have e : IntKind.i64.wrap ((at_ : Int) + ((fget (l.drop at_)).2.1 : Int)) = ((at_ + (fget (l.drop at_)).2.1 : Nat) : Int) := by rw [wrap_i64_id (by omega) (by omega)]; omega
        rw [← List.drop_drop] at this
        simp (disch := (first | assumption | (simp only [Bool.and_eq_true, Bool.and_eq_false_iff, decide_eq_true_eq, decide_eq_false_iff_not, bne_iff_ne, beq_iff_eq, beq_eq_false_iff_ne, bne_eq_false_iff_eq, Bool.not_eq_true', Bool.not_eq_false', bys_length, List.length_append, List.length_cons, List.length_nil, List.length_map, List.length_drop, List.length_take, Int.natCast_add, wrap_i64_eq, wrap_u64, wrap_u8, ne_eq, not_true_eq_false, not_false_eq_true, Nat.zero_add, Nat.mul_one] <;> omega) | omega | (simp; done) | (simp; omega))) only [↓CR, MC, rfget_run, part_drop, flds_length, flds_snoc, e, Ans.at this]
      · rw [if_neg he]
        simp (disch := (first | assumption | (simp only [Bool.and_eq_true, Bool.and_eq_false_iff, decide_eq_true_eq, decide_eq_false_iff_not, bne_iff_ne, beq_iff_eq, beq_eq_false_iff_ne, bne_eq_false_iff_eq, Bool.not_eq_true', Bool.not_eq_false', bys_length, List.length_append, List.length_cons, List.length_nil, List.length_map, List.length_drop, List.length_take, Int.natCast_add, wrap_i64_eq, wrap_u64, wrap_u8, ne_eq, not_true_eq_false, not_false_eq_true, Nat.zero_add, Nat.mul_one] <;> omega) | omega | (simp; done) | (simp; omega))) only [↓CR, MC, rfget_run, part_drop]
        simp [he, flds_nil]
noncomputable def unp (l : List UInt8) : List (List UInt8) × Nat := unpF l.length l []
theorem unp_run {d : Nat} {f : Bool} {l : List UInt8} {h : Heap} {Q : Res → Prop} {tg : Hid Q} (hl : l.length ≤ 40000000) :
    Run (evFn Cw (d + 3) 9 [.sl f 0 (bys l)] h) Q tg = Q ([.sl (decide ((unp l).2 ≠ 0)) 0 (flds (unp l).1), .int .i64 (unp l).2], h) := by
  have h1 := unp_loop d f h l.length l [] rounds (by omega) (rounds_gt l.length (by omega)) (by simp; omega)
  rw [flds_nil] at h1
  rw [F9_eq]
  exact h1.at
theorem runp_run {d : Nat} {f : Bool} {l : List UInt8} {h : Heap} {Q : Res → Prop} {tg : Hid Q} (hl : l.length ≤ 40000000) :
    Run (evFn Cw (d + 3) 10 [.sl f 0 (bys l)] h) Q tg = Q ([.sl (decide ((unp l).2 ≠ 0)) 0 (flds (unp l).1), .int .i64 (unp l).2], h) := by
  have h1 := runp_loop d f h l (by omega) l.length 0 [] rounds (by omega) (by omega) (rounds_gt l.length (by omega)) (by simp; omega)
  rw [e0, List.drop_zero, flds_nil] at h1
  rw [F10_eq]
  exact h1.at

theorem awake_unp : unp [2, 97, 98, 0] = ([[97, 98], []], 0) := by
  have g1 : fget [2, 97, 98, 0] = ([97, 98], 3, 0) := by rw [fget_eq]; decide
  have g2 : fget [0] = ([], 1, 0) := by rw [fget_eq]; decide
  unfold unp
  have e : ([2, 97, 98, 0] : List UInt8).length = 3 + 1 := rfl
  rw [e, unpF_succ, g1, if_neg (by decide), if_pos rfl]
  have e2 : ([2, 97, 98, 0] : List UInt8).drop (([97, 98], 3, 0) : List UInt8 × Nat × Nat).2.1 = [0] := rfl
  rw [e2, unpF_succ, g2, if_neg (by decide), if_pos rfl]
  have e3 : ([0] : List UInt8).drop (([], 1, 0) : List UInt8 × Nat × Nat).2.1 = [] := rfl
  rw [e3, unpF_succ, if_pos (by decide)]
  rfl
theorem awake4_run {d : Nat} {h : Heap} {Q : Res → Prop} {tg : Hid Q} : Run (evFn Cw (d + 4) 5 [] h) Q tg = Q ([.bool true], h) := by
  have e : [(AVal.int .u8 2), (AVal.int .u8 97), (AVal.int .u8 98), (AVal.int .u8 0)] = bys [2, 97, 98, 0] := rfl
  have g0 : (flds [[97, 98], []]).getD 0 AVal.undef = .sl false 0 (bys [97, 98]) := rfl
  have g1 : (flds [[97, 98], []]).getD 1 AVal.undef = .sl false 0 (bys []) := rfl
  have : Ans (evFn Cw (d + 4) 5 [] h) ([.bool true], h) := by
    refine Run.ans ?_
    rw [F5_eq, e]
    simp (disch := (first | assumption | (simp only [Bool.and_eq_true, Bool.and_eq_false_iff, decide_eq_true_eq, decide_eq_false_iff_not, bne_iff_ne, beq_iff_eq, beq_eq_false_iff_ne, bne_eq_false_iff_eq, Bool.not_eq_true', Bool.not_eq_false', bys_length, List.length_append, List.length_cons, List.length_nil, List.length_map, List.length_drop, List.length_take, Int.natCast_add, wrap_i64_eq, wrap_u64, wrap_u8, ne_eq, not_true_eq_false, not_false_eq_true, Nat.zero_add, Nat.mul_one] <;> omega) | omega | (simp; done) | (simp; omega))) only [↓CR, MC, unp_run, awake_unp, flds_length, g0, g1]
    simp [bys_nil]
  exact this.at

/-- The bytes of fields. -/
noncomputable def pks (l : List (List UInt8)) : List UInt8 := l.flatMap pk
theorem pks_take (l : List (List UInt8)) (i : Nat) (h : i < l.length) : pks (l.take i) ++ pk l[i] = pks (l.take (i + 1)) := by
  rw [List.take_succ_eq_append_getElem h]
  simp only [pks, List.flatMap_append, List.flatMap_cons, List.flatMap_nil, List.append_nil]
theorem pks_le (l : List (List UInt8)) (i : Nat) : (pks (l.take i)).length ≤ (pks l).length := by
  have : pks l = pks (l.take i) ++ pks (l.drop i) := by
    unfold pks
    rw [← List.flatMap_append, List.take_append_drop]
  rw [this, List.length_append]; omega
theorem pks_len : ∀ l : List (List UInt8), (pks l).length ≤ 65546 * l.length
  | [] => by simp [pks]
  | f :: l => by
    have h1 := pks_len l
    have h2 := pk_len f
    have e : pks (f :: l) = pk f ++ pks l := by simp [pks]
    rw [e, List.length_append, List.length_cons]
    omega
theorem pack_loop (d : Nat) (f : Bool) (h : Heap) (l : List (List UInt8)) (hb : (pks l).length ≤ 140737488351232) (hlen : l.length ≤ 40000000) : ∀ (n i k : Nat), l.length = i + n → n < k →
    Ans (P6_0 (d + 2) k (bys (pks (l.take i))) f (flds l) ((flds l).length : Nat) i h) ([.sl false 0 (bys (pks l))], h) := by
  intro n
  induction n with
  | zero =>
    intro i k hi hk
    obtain ⟨k, rfl⟩ : ∃ m, k = m + 1 := ⟨k - 1, by omega⟩
    refine Run.ans ?_
    rw [P6_0_eq, List.take_of_length_le (by omega)]
    simp (disch := (first | assumption | (simp only [Bool.and_eq_true, Bool.and_eq_false_iff, decide_eq_true_eq, decide_eq_false_iff_not, bne_iff_ne, beq_iff_eq, beq_eq_false_iff_ne, bne_eq_false_iff_eq, Bool.not_eq_true', Bool.not_eq_false', bys_length, List.length_append, List.length_cons, List.length_nil, List.length_map, List.length_drop, List.length_take, Int.natCast_add, wrap_i64_eq, wrap_u64, wrap_u8, ne_eq, not_true_eq_false, not_false_eq_true, Nat.zero_add, Nat.mul_one] <;> omega) | omega | (simp; done) | (simp; omega))) only [↓CR, MC, flds_length]
  | succ n ih =>
    intro i k hi hk
    obtain ⟨k, rfl⟩ : ∃ m, k = m + 1 := ⟨k - 1, by omega⟩
    have hi' : i < l.length := by omega
    have e : IntKind.i64.wrap ((i : Int) + 1) = ((i + 1 : Nat) : Int) := by rw [wrap_i64_id (by omega) (by omega)]; omega
    have hle := pks_le l i
    refine Run.ans ?_
    rw [P6_0_eq]
    rw [flds_length] at ih ⊢
    simp (disch := (first | assumption | (simp only [Bool.and_eq_true, Bool.and_eq_false_iff, decide_eq_true_eq, decide_eq_false_iff_not, bne_iff_ne, beq_iff_eq, beq_eq_false_iff_ne, bne_eq_false_iff_eq, Bool.not_eq_true', Bool.not_eq_false', bys_length, List.length_append, List.length_cons, List.length_nil, List.length_map, List.length_drop, List.length_take, Int.natCast_add, wrap_i64_eq, wrap_u64, wrap_u8, ne_eq, not_true_eq_false, not_false_eq_true, Nat.zero_add, Nat.mul_one] <;> omega) | omega | (simp; done) | (simp; omega))) only [↓CR, MC, flds_length, Int.toNat_natCast, flds_getD hi', e, fput_run, pks_take l i hi', Ans.at (ih (i + 1) k (by omega) (by omega))]
theorem rpack_loop (d : Nat) (f : Bool) (h : Heap) (l : List (List UInt8)) (hb : (pks l).length ≤ 140737488351232) (hlen : l.length ≤ 40000000) : ∀ (n i k : Nat), l.length = i + n → n < k →
    Ans (P7_0 (d + 1) k f (flds l) (bys (pks (l.take i))) i h) ([.sl false 0 (bys (pks l))], h) := by
  intro n
  induction n with
  | zero =>
    intro i k hi hk
    obtain ⟨k, rfl⟩ : ∃ m, k = m + 1 := ⟨k - 1, by omega⟩
    refine Run.ans ?_
    rw [P7_0_eq, List.take_of_length_le (by omega)]
    simp (disch := (first | assumption | (simp only [Bool.and_eq_true, Bool.and_eq_false_iff, decide_eq_true_eq, decide_eq_false_iff_not, bne_iff_ne, beq_iff_eq, beq_eq_false_iff_ne, bne_eq_false_iff_eq, Bool.not_eq_true', Bool.not_eq_false', bys_length, List.length_append, List.length_cons, List.length_nil, List.length_map, List.length_drop, List.length_take, Int.natCast_add, wrap_i64_eq, wrap_u64, wrap_u8, ne_eq, not_true_eq_false, not_false_eq_true, Nat.zero_add, Nat.mul_one] <;> omega) | omega | (simp; done) | (simp; omega))) only [↓CR, MC, flds_length]
  | succ n ih =>
    intro i k hi hk
    obtain ⟨k, rfl⟩ : ∃ m, k = m + 1 := ⟨k - 1, by omega⟩
    have hi' : i < l.length := by omega
    have e : IntKind.i64.wrap ((i : Int) + 1) = ((i + 1 : Nat) : Int) := by rw [wrap_i64_id (by omega) (by omega)]; omega
    have hle := pks_le l i
    have ht := pks_take l i hi'
    refine Run.ans ?_
    rw [P7_0_eq]
    by_cases hx : 65536 < (l[i]).length
    · have e0 : pk l[i] = [] := by unfold pk; rw [if_pos hx]
      rw [e0, List.append_nil] at ht
      simp (disch := (first | assumption | (simp only [Bool.and_eq_true, Bool.and_eq_false_iff, decide_eq_true_eq, decide_eq_false_iff_not, bne_iff_ne, beq_iff_eq, beq_eq_false_iff_ne, bne_eq_false_iff_eq, Bool.not_eq_true', Bool.not_eq_false', bys_length, List.length_append, List.length_cons, List.length_nil, List.length_map, List.length_drop, List.length_take, Int.natCast_add, wrap_i64_eq, wrap_u64, wrap_u8, ne_eq, not_true_eq_false, not_false_eq_true, Nat.zero_add, Nat.mul_one] <;> omega) | omega | (simp; done) | (simp; omega))) only [↓CR, MC, flds_length, Int.toNat_natCast, flds_getD hi', e, ht, Ans.at (ih (i + 1) k (by omega) (by omega))]
    · have e0 : pk l[i] = enc (l[i]).length ++ l[i] := by unfold pk; rw [if_neg hx]
      have e1 : IntKind.u64.wrap (((bys l[i]).length : Nat) : Int) = (((l[i]).length : Nat) : Int) := by rw [bys_length, wrap_u64_id (by omega) (by omega)]
      have h2 := (enc_length 9 (l[i]).length (lt_128_10 (by omega))).2
      rw [e0, ← List.append_assoc] at ht
      simp (disch := (first | assumption | (simp only [Bool.and_eq_true, Bool.and_eq_false_iff, decide_eq_true_eq, decide_eq_false_iff_not, bne_iff_ne, beq_iff_eq, beq_eq_false_iff_ne, bne_eq_false_iff_eq, Bool.not_eq_true', Bool.not_eq_false', bys_length, List.length_append, List.length_cons, List.length_nil, List.length_map, List.length_drop, List.length_take, Int.natCast_add, wrap_i64_eq, wrap_u64, wrap_u8, ne_eq, not_true_eq_false, not_false_eq_true, Nat.zero_add, Nat.mul_one] <;> omega) | omega | (simp; done) | (simp; omega))) only [↓CR, MC, flds_length, Int.toNat_natCast, flds_getD hi', e, e1, rput_run, ← bys_append, ht, Ans.at (ih (i + 1) k (by omega) (by omega))]
theorem pack_run {d : Nat} {f : Bool} {l : List (List UInt8)} {h : Heap} {Q : Res → Prop} {tg : Hid Q} (hb : (pks l).length ≤ 140737488351232) (hlen : l.length ≤ 40000000) :
    Run (evFn Cw (d + 3) 6 [.sl f 0 (flds l)] h) Q tg = Q ([.sl false 0 (bys (pks l))], h) := by
  have h1 := pack_loop d f h l hb hlen l.length 0 rounds (by omega) (rounds_gt _ (by omega))
  have e : pks (l.take 0) = [] := by simp [pks]
  rw [e0, e, bys_nil] at h1
  rw [F6_eq]
  exact h1.at
theorem rpack_run {d : Nat} {f : Bool} {l : List (List UInt8)} {h : Heap} {Q : Res → Prop} {tg : Hid Q} (hb : (pks l).length ≤ 140737488351232) (hlen : l.length ≤ 40000000) :
    Run (evFn Cw (d + 2) 7 [.sl f 0 (flds l)] h) Q tg = Q ([.sl false 0 (bys (pks l))], h) := by
  have h1 := rpack_loop d f h l hb hlen l.length 0 rounds (by omega) (rounds_gt _ (by omega))
  have e : pks (l.take 0) = [] := by simp [pks]
  rw [e0, e, bys_nil] at h1
  rw [F7_eq]
  exact h1.at
theorem same_loop (d : Nat) (f g : Bool) (h : Heap) (l : List (List UInt8)) (hlen : l.length ≤ 40000000) : ∀ (n i k : Nat), l.length = i + n → n < k →
    Ans (P11_0 d k f (flds l) g (flds l) i h) ([.bool true], h) := by
  intro n
  induction n with
  | zero =>
    intro i k hi hk
    obtain ⟨k, rfl⟩ : ∃ m, k = m + 1 := ⟨k - 1, by omega⟩
    refine Run.ans ?_
    rw [P11_0_eq]
    simp (disch := (first | assumption | (simp only [Bool.and_eq_true, Bool.and_eq_false_iff, decide_eq_true_eq, decide_eq_false_iff_not, bne_iff_ne, beq_iff_eq, beq_eq_false_iff_ne, bne_eq_false_iff_eq, Bool.not_eq_true', Bool.not_eq_false', bys_length, List.length_append, List.length_cons, List.length_nil, List.length_map, List.length_drop, List.length_take, Int.natCast_add, wrap_i64_eq, wrap_u64, wrap_u8, ne_eq, not_true_eq_false, not_false_eq_true, Nat.zero_add, Nat.mul_one] <;> omega) | omega | (simp; done) | (simp; omega))) only [↓CR, MC, flds_length]
  | succ n ih =>
    intro i k hi hk
    obtain ⟨k, rfl⟩ : ∃ m, k = m + 1 := ⟨k - 1, by omega⟩
    have hi' : i < l.length := by omega
    have e : IntKind.i64.wrap ((i : Int) + 1) = ((i + 1 : Nat) : Int) := by rw [wrap_i64_id (by omega) (by omega)]; omega
    refine Run.ans ?_
    rw [P11_0_eq]
    simp (disch := (first | assumption | (simp only [Bool.and_eq_true, Bool.and_eq_false_iff, decide_eq_true_eq, decide_eq_false_iff_not, bne_iff_ne, beq_iff_eq, beq_eq_false_iff_ne, bne_eq_false_iff_eq, Bool.not_eq_true', Bool.not_eq_false', bys_length, List.length_append, List.length_cons, List.length_nil, List.length_map, List.length_drop, List.length_take, Int.natCast_add, wrap_i64_eq, wrap_u64, wrap_u8, ne_eq, not_true_eq_false, not_false_eq_true, Nat.zero_add, Nat.mul_one] <;> omega) | omega | (simp; done) | (simp; omega))) only [↓CR, MC, flds_length, Int.toNat_natCast, flds_getD hi', e, Ans.at (ih (i + 1) k (by omega) (by omega))]
theorem same4_run {d : Nat} {f g : Bool} {l : List (List UInt8)} {h : Heap} {Q : Res → Prop} {tg : Hid Q} (hlen : l.length ≤ 40000000) :
    Run (evFn Cw (d + 1) 11 [.sl f 0 (flds l), .sl g 0 (flds l)] h) Q tg = Q ([.bool true], h) := by
  have h1 := same_loop d f g h l hlen l.length 0 rounds (by omega) (rounds_gt _ (by omega))
  rw [e0] at h1
  rw [F11_eq]
  simp (disch := (first | assumption | (simp only [Bool.and_eq_true, Bool.and_eq_false_iff, decide_eq_true_eq, decide_eq_false_iff_not, bne_iff_ne, beq_iff_eq, beq_eq_false_iff_ne, bne_eq_false_iff_eq, Bool.not_eq_true', Bool.not_eq_false', bys_length, List.length_append, List.length_cons, List.length_nil, List.length_map, List.length_drop, List.length_take, Int.natCast_add, wrap_i64_eq, wrap_u64, wrap_u8, ne_eq, not_true_eq_false, not_false_eq_true, Nat.zero_add, Nat.mul_one] <;> omega) | omega | (simp; done) | (simp; omega))) only [↓CR, MC, Ans.at h1]

theorem unpF_len : ∀ (n : Nat) (l : List UInt8) (acc : List (List UInt8)), (unpF n l acc).1.length ≤ acc.length + n
  | 0, l, acc => by rw [unpF_zero]; simp
  | n + 1, l, acc => by
    rw [unpF_succ]
    split
    · simp
    · split
      · have := unpF_len n (l.drop (fget l).2.1) (acc ++ [(fget l).1])
        simp at this
        omega
      · simp
theorem unp_len (l : List UInt8) : (unp l).1.length ≤ l.length := by
  have := unpF_len l.length l []
  unfold unp
  simpa using this

theorem part_flds {l : List (List UInt8)} {i : Nat} (h : i < l.length) : Weave.part (i : Int) ((i + 1 : Nat) : Int) (flds l) = flds [l[i]] := by
  have e : ((l.drop i).take 1) = [l[i]] := by
    rw [List.drop_eq_getElem_cons h]; rfl
  simp only [Weave.part, Int.toNat_natCast]
  have e2 : (((i + 1 : Nat) : Int) - (i : Int)).toNat = 1 := by omega
  rw [e2]
  unfold flds
  rw [← List.map_drop, ← List.map_take, e]
theorem pks_one (f : List UInt8) : pks [f] = pk f := by simp [pks]
theorem packs_loop (d : Nat) (f g : Bool) (h : Heap) (b : List UInt8) (l : List (List UInt8)) (hb : b.length ≤ 140737488351232) (hlen : l.length ≤ 200)
    (hx : unp (pks l) = unp (pks l)) (hok : (unp (pks l)).2 = 0) : ∀ (n i k : Nat), l.length = i + n → n < k →
    Ans (P3_0 (d + 4) k f (bys b) g (flds l) (bys (pks l)) i h) ([.bool true], h) := by
  have hpl := pks_len l
  intro n
  induction n with
  | zero =>
    intro i k hi hk
    obtain ⟨k, rfl⟩ : ∃ m, k = m + 1 := ⟨k - 1, by omega⟩
    have hul := unp_len (pks l)
    refine Run.ans ?_
    rw [P3_0_eq]
    simp (disch := (first | assumption | (simp only [Bool.and_eq_true, Bool.and_eq_false_iff, decide_eq_true_eq, decide_eq_false_iff_not, bne_iff_ne, beq_iff_eq, beq_eq_false_iff_ne, bne_eq_false_iff_eq, Bool.not_eq_true', Bool.not_eq_false', bys_length, List.length_append, List.length_cons, List.length_nil, List.length_map, List.length_drop, List.length_take, Int.natCast_add, wrap_i64_eq, wrap_u64, wrap_u8, ne_eq, not_true_eq_false, not_false_eq_true, Nat.zero_add, Nat.mul_one] <;> omega) | omega | (simp; done) | (simp; omega))) only [↓CR, MC, flds_length, unp_run, runp_run, rpack_run, same4_run, awake4_run]
  | succ n ih =>
    intro i k hi hk
    obtain ⟨k, rfl⟩ : ∃ m, k = m + 1 := ⟨k - 1, by omega⟩
    have hi' : i < l.length := by omega
    have e : IntKind.i64.wrap ((i : Int) + 1) = ((i + 1 : Nat) : Int) := by rw [wrap_i64_id (by omega) (by omega)]; omega
    have hp1 := pk_len l[i]
    have hp2 : (pks [l[i]]).length ≤ 140737488351232 := by rw [pks_one]; omega
    refine Run.ans ?_
    rw [P3_0_eq]
    simp (disch := (first | assumption | (simp only [Bool.and_eq_true, Bool.and_eq_false_iff, decide_eq_true_eq, decide_eq_false_iff_not, bne_iff_ne, beq_iff_eq, beq_eq_false_iff_ne, bne_eq_false_iff_eq, Bool.not_eq_true', Bool.not_eq_false', bys_length, List.length_append, List.length_cons, List.length_nil, List.length_map, List.length_drop, List.length_take, Int.natCast_add, wrap_i64_eq, wrap_u64, wrap_u8, ne_eq, not_true_eq_false, not_false_eq_true, Nat.zero_add, Nat.mul_one] <;> omega) | omega | (simp; done) | (simp; omega))) only [↓CR, MC, flds_length, Int.toNat_natCast, flds_getD hi', e, part_flds hi', fput_run, rpack_run, pks_one, ← bys_append, Ans.at (ih (i + 1) k (by omega) (by omega))]

/-- What is packed is unpacked: the fields that are not too long. -/
theorem unp_packed : ∀ (l : List (List UInt8)) (n : Nat) (acc : List (List UInt8)), (pks l).length ≤ n → (unpF n (pks l) acc).2 = 0
  | [], n, acc, _ => by
    cases n with
    | zero => rw [unpF_zero]
    | succ n => rw [unpF_succ, if_pos (by simp [pks])]
  | f :: l, n, acc, hn => by
    have e : pks (f :: l) = pk f ++ pks l := by simp [pks]
    rw [e] at hn ⊢
    by_cases hx : 65536 < f.length
    · have e0 : pk f = [] := by unfold pk; rw [if_pos hx]
      rw [e0, List.nil_append] at hn ⊢
      exact unp_packed l n acc hn
    · have e0 : pk f = enc f.length ++ f := by unfold pk; rw [if_neg hx]
      rw [e0] at hn ⊢
      have hl := (enc_length 9 f.length (lt_128_10 (by omega))).1
      simp only [List.length_append] at hn
      obtain ⟨n, rfl⟩ : ∃ q, n = q + 1 := ⟨n - 1, by omega⟩
      have hg : fget ((enc f.length ++ f) ++ pks l) = (f, (enc f.length).length + f.length, 0) := by
        rw [fget_eq]
        unfold fgetW
        rw [List.append_assoc, get_enc0 f.length (f ++ pks l) (by omega)]
        simp only [ne_eq, not_true_eq_false, if_false]
        rw [if_neg hx, if_neg (by simp only [List.length_append]; omega)]
        simp
      rw [unpF_succ, hg, if_neg (by simp only [List.length_append]; omega), if_pos rfl]
      have e2 : ((enc f.length ++ f) ++ pks l).drop ((enc f.length).length + f.length) = pks l := by
        rw [List.drop_append_of_le_length (by simp)]
        simp
      simp only [e2]
      exact unp_packed l n _ (by omega)

/-- FieldPacks. -/
theorem fpacks_true (d : Nat) (f0 f2 : Bool) (b : List UInt8) (l : List (List UInt8)) (h : Heap) (hb : b.length ≤ 140737488351232) (hl : l.length ≤ 140737488351232) : Ans (evFn Cw (d + 5) 3 [.sl f0 0 (bys b), .sl f2 0 (flds l)] h) ([.bool true], h) := by
  refine Run.ans ?_
  have hpl := pks_len l
  have few : ∀ (d : Nat) (f : Bool) (h : Heap) (Q : Res → Prop) (tg : Hid Q), Run (evFn Cw (d + 1) 4 [.sl f 0 (flds l)] h) Q tg = Q ([.bool (decide (l.length ≤ 200))], h) := fun d f h Q tg => by
    have e : decide ((((flds l).length : Nat) : Int) ≤ 200) = decide (l.length ≤ 200) := by rw [flds_length, decide_eq_decide]; omega
    rw [F4_eq]
    simp (disch := (first | assumption | (simp only [Bool.and_eq_true, Bool.and_eq_false_iff, decide_eq_true_eq, decide_eq_false_iff_not, bne_iff_ne, beq_iff_eq, beq_eq_false_iff_ne, bne_eq_false_iff_eq, Bool.not_eq_true', Bool.not_eq_false', bys_length, List.length_append, List.length_cons, List.length_nil, List.length_map, List.length_drop, List.length_take, Int.natCast_add, wrap_i64_eq, wrap_u64, wrap_u8, ne_eq, not_true_eq_false, not_false_eq_true, Nat.zero_add, Nat.mul_one] <;> omega) | omega | (simp; done) | (simp; omega))) only [↓CR, MC, e]
  rw [F3_eq]
  by_cases hs : l.length ≤ 200
  · have h3 := packs_loop d f0 f2 h b l hb hs rfl (unp_packed l _ [] (Nat.le_refl _)) l.length 0 rounds (by omega) (rounds_gt _ (by omega))
    rw [e0] at h3
    simp (disch := (first | assumption | (simp only [Bool.and_eq_true, Bool.and_eq_false_iff, decide_eq_true_eq, decide_eq_false_iff_not, bne_iff_ne, beq_iff_eq, beq_eq_false_iff_ne, bne_eq_false_iff_eq, Bool.not_eq_true', Bool.not_eq_false', bys_length, List.length_append, List.length_cons, List.length_nil, List.length_map, List.length_drop, List.length_take, Int.natCast_add, wrap_i64_eq, wrap_u64, wrap_u8, ne_eq, not_true_eq_false, not_false_eq_true, Nat.zero_add, Nat.mul_one] <;> omega) | omega | (simp; done) | (simp; omega))) only [↓CR, MC, few, awake4_run, pack_run, rpack_run, Ans.at h3]
  · simp (disch := (first | assumption | (simp only [Bool.and_eq_true, Bool.and_eq_false_iff, decide_eq_true_eq, decide_eq_false_iff_not, bne_iff_ne, beq_iff_eq, beq_eq_false_iff_ne, bne_eq_false_iff_eq, Bool.not_eq_true', Bool.not_eq_false', bys_length, List.length_append, List.length_cons, List.length_nil, List.length_map, List.length_drop, List.length_take, Int.natCast_add, wrap_i64_eq, wrap_u64, wrap_u8, ne_eq, not_true_eq_false, not_false_eq_true, Nat.zero_add, Nat.mul_one] <;> omega) | omega | (simp; done) | (simp; omega))) only [↓CR, MC, few, awake4_run]
end Go.Proofs.Ytjaadkgohjbadaa.Wa
end
