/- What the evaluator comes to in these functions. -/
import Derived.Test.YtkpjkaikeeldfaaW0
import Derived.KernelRfl
namespace Go.Proofs.Ytkpjkaikeeldfaa.Wa
open Go Go.Weave
set_option maxRecDepth 100000
set_option linter.unusedVariables false
/- f19 strandline/varint.Put -/
noncomputable def P19_0 (d k : Nat) (x0 : Int) (l1 : List AVal) (h : Heap) : Tr Res :=
  loopPt Cw d 19 [true, true, false, true] [] k ⟨[(1, (EV.one (SV.val (AVal.int .u64 x0)))), (5, (EV.one (SV.own (tokOf 5 0) 0 l1)))], []⟩ h
theorem P19_0_eq (d k : Nat) (x0 : Int) (l1 : List AVal) (h : Heap) : P19_0 d (k + 1) x0 l1 h =
  (bif (decide ((x0 : Int) ≥ 128)) then
    (bif decide ((l1.length + (1 : Nat)) * 1 ≤ 140737488355328) then
      (P19_0 d k (Int.fdiv x0 (2 ^ 7)) (l1 ++ [(AVal.int .u8 (IntKind.u8.wrap (BitVec.ofInt 8 (IntKind.u8.wrap x0) ||| BitVec.ofInt 8 128).toNat))]) h)
    else
      Tr.fail)
  else
    (bif decide ((l1.length + (1 : Nat)) * 1 ≤ 140737488355328) then (Tr.ret ([(AVal.sl false 0 (l1 ++ [(AVal.int .u8 (IntKind.u8.wrap x0))]))], h)) else Tr.fail)) := by kernel_rfl
theorem F19_eq (d : Nat) (f0 : Bool) (l1 : List AVal) (x2 : Int) (h : Heap) : evFn Cw (d + 1) 19 [(AVal.sl f0 0 l1), (AVal.int .u64 x2)] h =
  (bif decide (((0 : Nat) + l1.length) * 1 ≤ 140737488355328) then (P19_0 d rounds x2 ([] ++ l1) h) else Tr.fail) := by kernel_rfl
/- f21 strandline/varint.Get -/
noncomputable def P21_0 (d k : Nat) (x0 : Int) (f1 : Bool) (l2 : List AVal) (x3 : Int) (x4 : Int) (h : Heap) : Tr Res :=
  loopPt Cw d 21 [true, true, false, true, true] [] k ⟨[(5, (EV.one (SV.val (AVal.int .u64 x0)))), (8, (EV.one (SV.val (AVal.sl f1 0 l2)))), (9, (EV.one (SV.val (AVal.int .i64 x3)))), (10, (EV.one (SV.val (AVal.int .i64 x4))))], []⟩ h
theorem P21_0_eq (d k : Nat) (x0 : Int) (f1 : Bool) (l2 : List AVal) (x3 : Int) (x4 : Int) (h : Heap) : P21_0 d (k + 1) x0 f1 l2 x3 x4 h =
  (bif (decide ((x4 : Int) < x3)) then
    (bif (decide ((0 : Int) ≤ x4) && decide ((x4 : Int) < (l2.length : Int))) then
      (bif AVal.isInt .u8 (l2.getD (Int.toNat x4) AVal.undef) then
        (bif ((x4 : Int) == 9) then
          (bif (decide (((AVal.toInt (l2.getD (Int.toNat x4) AVal.undef)) : Int) > 1)) then
            (Tr.ret ([(AVal.int .u64 0), (AVal.int .i64 0), (AVal.int .i64 4)], h))
          else
            (bif decide ((IntKind.i64.wrap (7 * x4)) < 0) then
              Tr.fail
            else
              (bif (decide (((AVal.toInt (l2.getD (Int.toNat x4) AVal.undef)) : Int) < 128)) then
                (bif (((AVal.toInt (l2.getD (Int.toNat x4) AVal.undef)) : Int) == 0) then
                  (bif (decide ((x4 : Int) > 0)) then
                    (Tr.ret ([(AVal.int .u64 0), (AVal.int .i64 0), (AVal.int .i64 2)], h))
                  else
                    (Tr.ret ([(AVal.int .u64 (IntKind.u64.wrap (BitVec.ofInt 64 x0 ||| BitVec.ofInt 64 (IntKind.u64.wrap ((IntKind.u64.wrap (IntKind.u8.wrap (BitVec.ofInt 8 (AVal.toInt (l2.getD (Int.toNat x4) AVal.undef)) &&& BitVec.ofInt 8 127).toNat)) * 2 ^ (min (Int.toNat (IntKind.i64.wrap (7 * x4))) 64)))).toNat)), (AVal.int .i64 (IntKind.i64.wrap (x4 + 1))), (AVal.int .i64 0)], h)))
                else
                  (Tr.ret ([(AVal.int .u64 (IntKind.u64.wrap (BitVec.ofInt 64 x0 ||| BitVec.ofInt 64 (IntKind.u64.wrap ((IntKind.u64.wrap (IntKind.u8.wrap (BitVec.ofInt 8 (AVal.toInt (l2.getD (Int.toNat x4) AVal.undef)) &&& BitVec.ofInt 8 127).toNat)) * 2 ^ (min (Int.toNat (IntKind.i64.wrap (7 * x4))) 64)))).toNat)), (AVal.int .i64 (IntKind.i64.wrap (x4 + 1))), (AVal.int .i64 0)], h)))
              else
                (P21_0 d k (IntKind.u64.wrap (BitVec.ofInt 64 x0 ||| BitVec.ofInt 64 (IntKind.u64.wrap ((IntKind.u64.wrap (IntKind.u8.wrap (BitVec.ofInt 8 (AVal.toInt (l2.getD (Int.toNat x4) AVal.undef)) &&& BitVec.ofInt 8 127).toNat)) * 2 ^ (min (Int.toNat (IntKind.i64.wrap (7 * x4))) 64)))).toNat) f1 l2 x3 (IntKind.i64.wrap (x4 + 1)) h))))
        else
          (bif decide ((IntKind.i64.wrap (7 * x4)) < 0) then
            Tr.fail
          else
            (bif (decide (((AVal.toInt (l2.getD (Int.toNat x4) AVal.undef)) : Int) < 128)) then
              (bif (((AVal.toInt (l2.getD (Int.toNat x4) AVal.undef)) : Int) == 0) then
                (bif (decide ((x4 : Int) > 0)) then
                  (Tr.ret ([(AVal.int .u64 0), (AVal.int .i64 0), (AVal.int .i64 2)], h))
                else
                  (Tr.ret ([(AVal.int .u64 (IntKind.u64.wrap (BitVec.ofInt 64 x0 ||| BitVec.ofInt 64 (IntKind.u64.wrap ((IntKind.u64.wrap (IntKind.u8.wrap (BitVec.ofInt 8 (AVal.toInt (l2.getD (Int.toNat x4) AVal.undef)) &&& BitVec.ofInt 8 127).toNat)) * 2 ^ (min (Int.toNat (IntKind.i64.wrap (7 * x4))) 64)))).toNat)), (AVal.int .i64 (IntKind.i64.wrap (x4 + 1))), (AVal.int .i64 0)], h)))
              else
                (Tr.ret ([(AVal.int .u64 (IntKind.u64.wrap (BitVec.ofInt 64 x0 ||| BitVec.ofInt 64 (IntKind.u64.wrap ((IntKind.u64.wrap (IntKind.u8.wrap (BitVec.ofInt 8 (AVal.toInt (l2.getD (Int.toNat x4) AVal.undef)) &&& BitVec.ofInt 8 127).toNat)) * 2 ^ (min (Int.toNat (IntKind.i64.wrap (7 * x4))) 64)))).toNat)), (AVal.int .i64 (IntKind.i64.wrap (x4 + 1))), (AVal.int .i64 0)], h)))
            else
              (P21_0 d k (IntKind.u64.wrap (BitVec.ofInt 64 x0 ||| BitVec.ofInt 64 (IntKind.u64.wrap ((IntKind.u64.wrap (IntKind.u8.wrap (BitVec.ofInt 8 (AVal.toInt (l2.getD (Int.toNat x4) AVal.undef)) &&& BitVec.ofInt 8 127).toNat)) * 2 ^ (min (Int.toNat (IntKind.i64.wrap (7 * x4))) 64)))).toNat) f1 l2 x3 (IntKind.i64.wrap (x4 + 1)) h))))
      else
        Tr.fail)
    else
      Tr.fail)
  else
    (Tr.ret ([(AVal.int .u64 0), (AVal.int .i64 0), (AVal.int .i64 1)], h))) := by kernel_rfl
theorem F21_eq (d : Nat) (f0 : Bool) (l1 : List AVal) (h : Heap) : evFn Cw (d + 1) 21 [(AVal.sl f0 0 l1)] h =
  (P21_0 d rounds 0 f0 l1 (l1.length : Int) 0 h) := by kernel_rfl
/- f23 strandline/strandlineref02.Put -/
noncomputable def P23_0 (d k : Nat) (x0 : Int) (l1 : List AVal) (h : Heap) : Tr Res :=
  loopPt Cw d 23 [true, true, false, true] [] k ⟨[(1, (EV.one (SV.val (AVal.int .u64 x0)))), (5, (EV.one (SV.own (tokOf 5 0) 0 l1)))], []⟩ h
theorem P23_0_eq (d k : Nat) (x0 : Int) (l1 : List AVal) (h : Heap) : P23_0 d (k + 1) x0 l1 h =
  (bif (decide (((IntKind.u64.wrap (Int.tdiv x0 128)) : Int) > 0)) then
    (bif decide ((l1.length + (1 : Nat)) * 1 ≤ 140737488355328) then
      (P23_0 d k (IntKind.u64.wrap (Int.tdiv x0 128)) (l1 ++ [(AVal.int .u8 (IntKind.u8.wrap (IntKind.u64.wrap (128 + (Int.tmod x0 128)))))]) h)
    else
      Tr.fail)
  else
    (bif decide ((l1.length + (1 : Nat)) * 1 ≤ 140737488355328) then (Tr.ret ([(AVal.sl false 0 (l1 ++ [(AVal.int .u8 (IntKind.u8.wrap x0))]))], h)) else Tr.fail)) := by kernel_rfl
theorem F23_eq (d : Nat) (f0 : Bool) (l1 : List AVal) (x2 : Int) (h : Heap) : evFn Cw (d + 1) 23 [(AVal.sl f0 0 l1), (AVal.int .u64 x2)] h =
  (bif decide (((0 : Nat) + l1.length) * 1 ≤ 140737488355328) then (P23_0 d rounds x2 ([] ++ l1) h) else Tr.fail) := by kernel_rfl
/- f31 strandline/strandlineref02.Get -/
noncomputable def P31_0 (d k : Nat) (f0 : Bool) (l1 : List AVal) (x2 : Int) (x3 : Int) (x4 : Int) (h : Heap) : Tr Res :=
  loopPt Cw d 31 [true, true, true, false, true, true] [] k ⟨[(0, (EV.one (SV.val (AVal.sl f0 0 l1)))), (5, (EV.one (SV.val (AVal.int .u64 x2)))), (6, (EV.one (SV.val (AVal.int .u64 x3)))), (7, (EV.one (SV.val (AVal.int .i64 x4))))], []⟩ h
theorem P31_0_eq (d k : Nat) (f0 : Bool) (l1 : List AVal) (x2 : Int) (x3 : Int) (x4 : Int) (h : Heap) : P31_0 d (k + 1) f0 l1 x2 x3 x4 h =
  (bif (decide ((x4 : Int) < (l1.length : Int))) then
    (bif (decide ((0 : Int) ≤ x4) && decide ((x4 : Int) < (l1.length : Int))) then
      (bif AVal.isInt .u8 (l1.getD (Int.toNat x4) AVal.undef) then
        (bif ((x4 : Int) == 9) then
          (bif (decide (((IntKind.u64.wrap (AVal.toInt (l1.getD (Int.toNat x4) AVal.undef))) : Int) > 1)) then
            (Tr.ret ([(AVal.int .u64 0), (AVal.int .i64 0), (AVal.int .i64 4)], h))
          else
            (bif (decide (((IntKind.u64.wrap (AVal.toInt (l1.getD (Int.toNat x4) AVal.undef))) : Int) < 128)) then
              (bif (((IntKind.u64.wrap (AVal.toInt (l1.getD (Int.toNat x4) AVal.undef))) : Int) == 0) then
                (bif (decide ((x4 : Int) > 0)) then
                  (Tr.ret ([(AVal.int .u64 0), (AVal.int .i64 0), (AVal.int .i64 2)], h))
                else
                  (bif (decide (((IntKind.u64.wrap (AVal.toInt (l1.getD (Int.toNat x4) AVal.undef))) : Int) < 128)) then
                    (Tr.ret ([(AVal.int .u64 (IntKind.u64.wrap (x2 + (IntKind.u64.wrap ((Int.tmod (IntKind.u64.wrap (AVal.toInt (l1.getD (Int.toNat x4) AVal.undef))) 128) * x3))))), (AVal.int .i64 (IntKind.i64.wrap (x4 + 1))), (AVal.int .i64 0)], h))
                  else
                    (P31_0 d k f0 l1 (IntKind.u64.wrap (x2 + (IntKind.u64.wrap ((Int.tmod (IntKind.u64.wrap (AVal.toInt (l1.getD (Int.toNat x4) AVal.undef))) 128) * x3)))) (IntKind.u64.wrap (x3 * 128)) (IntKind.i64.wrap (x4 + 1)) h)))
              else
                (bif (decide (((IntKind.u64.wrap (AVal.toInt (l1.getD (Int.toNat x4) AVal.undef))) : Int) < 128)) then
                  (Tr.ret ([(AVal.int .u64 (IntKind.u64.wrap (x2 + (IntKind.u64.wrap ((Int.tmod (IntKind.u64.wrap (AVal.toInt (l1.getD (Int.toNat x4) AVal.undef))) 128) * x3))))), (AVal.int .i64 (IntKind.i64.wrap (x4 + 1))), (AVal.int .i64 0)], h))
                else
                  (P31_0 d k f0 l1 (IntKind.u64.wrap (x2 + (IntKind.u64.wrap ((Int.tmod (IntKind.u64.wrap (AVal.toInt (l1.getD (Int.toNat x4) AVal.undef))) 128) * x3)))) (IntKind.u64.wrap (x3 * 128)) (IntKind.i64.wrap (x4 + 1)) h)))
            else
              (bif (decide (((IntKind.u64.wrap (AVal.toInt (l1.getD (Int.toNat x4) AVal.undef))) : Int) < 128)) then
                (Tr.ret ([(AVal.int .u64 (IntKind.u64.wrap (x2 + (IntKind.u64.wrap ((Int.tmod (IntKind.u64.wrap (AVal.toInt (l1.getD (Int.toNat x4) AVal.undef))) 128) * x3))))), (AVal.int .i64 (IntKind.i64.wrap (x4 + 1))), (AVal.int .i64 0)], h))
              else
                (P31_0 d k f0 l1 (IntKind.u64.wrap (x2 + (IntKind.u64.wrap ((Int.tmod (IntKind.u64.wrap (AVal.toInt (l1.getD (Int.toNat x4) AVal.undef))) 128) * x3)))) (IntKind.u64.wrap (x3 * 128)) (IntKind.i64.wrap (x4 + 1)) h))))
        else
          (bif (decide (((IntKind.u64.wrap (AVal.toInt (l1.getD (Int.toNat x4) AVal.undef))) : Int) < 128)) then
            (bif (((IntKind.u64.wrap (AVal.toInt (l1.getD (Int.toNat x4) AVal.undef))) : Int) == 0) then
              (bif (decide ((x4 : Int) > 0)) then
                (Tr.ret ([(AVal.int .u64 0), (AVal.int .i64 0), (AVal.int .i64 2)], h))
              else
                (bif (decide (((IntKind.u64.wrap (AVal.toInt (l1.getD (Int.toNat x4) AVal.undef))) : Int) < 128)) then
                  (Tr.ret ([(AVal.int .u64 (IntKind.u64.wrap (x2 + (IntKind.u64.wrap ((Int.tmod (IntKind.u64.wrap (AVal.toInt (l1.getD (Int.toNat x4) AVal.undef))) 128) * x3))))), (AVal.int .i64 (IntKind.i64.wrap (x4 + 1))), (AVal.int .i64 0)], h))
                else
                  (P31_0 d k f0 l1 (IntKind.u64.wrap (x2 + (IntKind.u64.wrap ((Int.tmod (IntKind.u64.wrap (AVal.toInt (l1.getD (Int.toNat x4) AVal.undef))) 128) * x3)))) (IntKind.u64.wrap (x3 * 128)) (IntKind.i64.wrap (x4 + 1)) h)))
            else
              (bif (decide (((IntKind.u64.wrap (AVal.toInt (l1.getD (Int.toNat x4) AVal.undef))) : Int) < 128)) then
                (Tr.ret ([(AVal.int .u64 (IntKind.u64.wrap (x2 + (IntKind.u64.wrap ((Int.tmod (IntKind.u64.wrap (AVal.toInt (l1.getD (Int.toNat x4) AVal.undef))) 128) * x3))))), (AVal.int .i64 (IntKind.i64.wrap (x4 + 1))), (AVal.int .i64 0)], h))
              else
                (P31_0 d k f0 l1 (IntKind.u64.wrap (x2 + (IntKind.u64.wrap ((Int.tmod (IntKind.u64.wrap (AVal.toInt (l1.getD (Int.toNat x4) AVal.undef))) 128) * x3)))) (IntKind.u64.wrap (x3 * 128)) (IntKind.i64.wrap (x4 + 1)) h)))
          else
            (bif (decide (((IntKind.u64.wrap (AVal.toInt (l1.getD (Int.toNat x4) AVal.undef))) : Int) < 128)) then
              (Tr.ret ([(AVal.int .u64 (IntKind.u64.wrap (x2 + (IntKind.u64.wrap ((Int.tmod (IntKind.u64.wrap (AVal.toInt (l1.getD (Int.toNat x4) AVal.undef))) 128) * x3))))), (AVal.int .i64 (IntKind.i64.wrap (x4 + 1))), (AVal.int .i64 0)], h))
            else
              (P31_0 d k f0 l1 (IntKind.u64.wrap (x2 + (IntKind.u64.wrap ((Int.tmod (IntKind.u64.wrap (AVal.toInt (l1.getD (Int.toNat x4) AVal.undef))) 128) * x3)))) (IntKind.u64.wrap (x3 * 128)) (IntKind.i64.wrap (x4 + 1)) h))))
      else
        Tr.fail)
    else
      Tr.fail)
  else
    (Tr.ret ([(AVal.int .u64 0), (AVal.int .i64 0), (AVal.int .i64 1)], h))) := by kernel_rfl
theorem F31_eq (d : Nat) (f0 : Bool) (l1 : List AVal) (h : Heap) : evFn Cw (d + 1) 31 [(AVal.sl f0 0 l1)] h =
  (P31_0 d rounds f0 l1 0 1 0 h) := by kernel_rfl
end Go.Proofs.Ytkpjkaikeeldfaa.Wa
