/- What the evaluator comes to in these functions. -/
import Derived.Test.YthebimbdijkiiaaW0
import Derived.KernelRfl
namespace Go.Proofs.Ythebimbdijkiiaa.Wa
open Go Go.Weave
set_option maxRecDepth 100000
set_option linter.unusedVariables false
/- f15 strandline/varint.Put -/
noncomputable def P15_0 (d k : Nat) (x0 : Int) (l1 : List AVal) (h : Heap) : Tr Res :=
  loopPt Cw d 15 [true, true, false, true] [] k ⟨[(1, (EV.one (SV.val (AVal.int .u64 x0)))), (5, (EV.one (SV.own (tokOf 5 0) 0 l1)))], []⟩ h
theorem P15_0_eq (d k : Nat) (x0 : Int) (l1 : List AVal) (h : Heap) : P15_0 d (k + 1) x0 l1 h =
  (bif (decide ((x0 : Int) ≥ 128)) then
    (bif decide ((l1.length + (1 : Nat)) * 1 ≤ 140737488355328) then
      (P15_0 d k (Int.fdiv x0 (2 ^ 7)) (l1 ++ [(AVal.int .u8 (IntKind.u8.wrap (BitVec.ofInt 8 (IntKind.u8.wrap x0) ||| BitVec.ofInt 8 128).toNat))]) h)
    else
      Tr.fail)
  else
    (bif decide ((l1.length + (1 : Nat)) * 1 ≤ 140737488355328) then (Tr.ret ([(AVal.sl false 0 (l1 ++ [(AVal.int .u8 (IntKind.u8.wrap x0))]))], h)) else Tr.fail)) := by kernel_rfl
theorem F15_eq (d : Nat) (f0 : Bool) (l1 : List AVal) (x2 : Int) (h : Heap) : evFn Cw (d + 1) 15 [(AVal.sl f0 0 l1), (AVal.int .u64 x2)] h =
  (bif decide (((0 : Nat) + l1.length) * 1 ≤ 140737488355328) then (P15_0 d rounds x2 ([] ++ l1) h) else Tr.fail) := by kernel_rfl
/- f17 strandline/varint.Size -/
noncomputable def P17_0 (d k : Nat) (x0 : Int) (x1 : Int) (h : Heap) : Tr Res :=
  loopPt Cw d 17 [true, true, false, true] [] k ⟨[(0, (EV.one (SV.val (AVal.int .u64 x0)))), (3, (EV.one (SV.val (AVal.int .i64 x1))))], []⟩ h
theorem P17_0_eq (d k : Nat) (x0 : Int) (x1 : Int) (h : Heap) : P17_0 d (k + 1) x0 x1 h =
  (bif (decide ((x0 : Int) ≥ 128)) then (P17_0 d k (Int.fdiv x0 (2 ^ 7)) (IntKind.i64.wrap (x1 + 1)) h) else (Tr.ret ([(AVal.int .i64 x1)], h))) := by kernel_rfl
theorem F17_eq (d : Nat) (x0 : Int) (h : Heap) : evFn Cw (d + 1) 17 [(AVal.int .u64 x0)] h =
  (P17_0 d rounds x0 1 h) := by kernel_rfl
/- f18 strandline/varint.Get -/
noncomputable def P18_0 (d k : Nat) (x0 : Int) (f1 : Bool) (l2 : List AVal) (x3 : Int) (x4 : Int) (h : Heap) : Tr Res :=
  loopPt Cw d 18 [true, true, false, true, true] [] k ⟨[(5, (EV.one (SV.val (AVal.int .u64 x0)))), (8, (EV.one (SV.val (AVal.sl f1 0 l2)))), (9, (EV.one (SV.val (AVal.int .i64 x3)))), (10, (EV.one (SV.val (AVal.int .i64 x4))))], []⟩ h
theorem P18_0_eq (d k : Nat) (x0 : Int) (f1 : Bool) (l2 : List AVal) (x3 : Int) (x4 : Int) (h : Heap) : P18_0 d (k + 1) x0 f1 l2 x3 x4 h =
  (bif (decide ((x4 : Int) < x3)) then
    (bif (decide ((0 : Int) ≤ x4) && decide ((x4 : Int) < (l2.length : Int))) then
      (bif AVal.isInt .u8 (l2.getD (Int.toNat x4) AVal.undef) then
        (bif ((x4 : Int) == 9) then
          (bif (decide (((AVal.toInt (l2.getD (Int.toNat x4) AVal.undef)) : Int) > 1)) then
            (Tr.ret ([(AVal.int .u64 0), (AVal.int .i64 0), (AVal.int .i64 4)], h))
          else
            (bif decide ((IntKind.i64.wrap (7 * x4)) < 0) then
              Tr.fail
            else
              (bif (decide (((AVal.toInt (l2.getD (Int.toNat x4) AVal.undef)) : Int) < 128)) then
                (bif (((AVal.toInt (l2.getD (Int.toNat x4) AVal.undef)) : Int) == 0) then
                  (bif (decide ((x4 : Int) > 0)) then
                    (Tr.ret ([(AVal.int .u64 0), (AVal.int .i64 0), (AVal.int .i64 2)], h))
                  else
                    (Tr.ret ([(AVal.int .u64 (IntKind.u64.wrap (BitVec.ofInt 64 x0 ||| BitVec.ofInt 64 (IntKind.u64.wrap ((IntKind.u64.wrap (IntKind.u8.wrap (BitVec.ofInt 8 (AVal.toInt (l2.getD (Int.toNat x4) AVal.undef)) &&& BitVec.ofInt 8 127).toNat)) * 2 ^ (min (Int.toNat (IntKind.i64.wrap (7 * x4))) 64)))).toNat)), (AVal.int .i64 (IntKind.i64.wrap (x4 + 1))), (AVal.int .i64 0)], h)))
                else
                  (Tr.ret ([(AVal.int .u64 (IntKind.u64.wrap (BitVec.ofInt 64 x0 ||| BitVec.ofInt 64 (IntKind.u64.wrap ((IntKind.u64.wrap (IntKind.u8.wrap (BitVec.ofInt 8 (AVal.toInt (l2.getD (Int.toNat x4) AVal.undef)) &&& BitVec.ofInt 8 127).toNat)) * 2 ^ (min (Int.toNat (IntKind.i64.wrap (7 * x4))) 64)))).toNat)), (AVal.int .i64 (IntKind.i64.wrap (x4 + 1))), (AVal.int .i64 0)], h)))
              else
                (P18_0 d k (IntKind.u64.wrap (BitVec.ofInt 64 x0 ||| BitVec.ofInt 64 (IntKind.u64.wrap ((IntKind.u64.wrap (IntKind.u8.wrap (BitVec.ofInt 8 (AVal.toInt (l2.getD (Int.toNat x4) AVal.undef)) &&& BitVec.ofInt 8 127).toNat)) * 2 ^ (min (Int.toNat (IntKind.i64.wrap (7 * x4))) 64)))).toNat) f1 l2 x3 (IntKind.i64.wrap (x4 + 1)) h))))
        else
          (bif decide ((IntKind.i64.wrap (7 * x4)) < 0) then
            Tr.fail
          else
            (bif (decide (((AVal.toInt (l2.getD (Int.toNat x4) AVal.undef)) : Int) < 128)) then
              (bif (((AVal.toInt (l2.getD (Int.toNat x4) AVal.undef)) : Int) == 0) then
                (bif (decide ((x4 : Int) > 0)) then
                  (Tr.ret ([(AVal.int .u64 0), (AVal.int .i64 0), (AVal.int .i64 2)], h))
                else
                  (Tr.ret ([(AVal.int .u64 (IntKind.u64.wrap (BitVec.ofInt 64 x0 ||| BitVec.ofInt 64 (IntKind.u64.wrap ((IntKind.u64.wrap (IntKind.u8.wrap (BitVec.ofInt 8 (AVal.toInt (l2.getD (Int.toNat x4) AVal.undef)) &&& BitVec.ofInt 8 127).toNat)) * 2 ^ (min (Int.toNat (IntKind.i64.wrap (7 * x4))) 64)))).toNat)), (AVal.int .i64 (IntKind.i64.wrap (x4 + 1))), (AVal.int .i64 0)], h)))
              else
                (Tr.ret ([(AVal.int .u64 (IntKind.u64.wrap (BitVec.ofInt 64 x0 ||| BitVec.ofInt 64 (IntKind.u64.wrap ((IntKind.u64.wrap (IntKind.u8.wrap (BitVec.ofInt 8 (AVal.toInt (l2.getD (Int.toNat x4) AVal.undef)) &&& BitVec.ofInt 8 127).toNat)) * 2 ^ (min (Int.toNat (IntKind.i64.wrap (7 * x4))) 64)))).toNat)), (AVal.int .i64 (IntKind.i64.wrap (x4 + 1))), (AVal.int .i64 0)], h)))
            else
              (P18_0 d k (IntKind.u64.wrap (BitVec.ofInt 64 x0 ||| BitVec.ofInt 64 (IntKind.u64.wrap ((IntKind.u64.wrap (IntKind.u8.wrap (BitVec.ofInt 8 (AVal.toInt (l2.getD (Int.toNat x4) AVal.undef)) &&& BitVec.ofInt 8 127).toNat)) * 2 ^ (min (Int.toNat (IntKind.i64.wrap (7 * x4))) 64)))).toNat) f1 l2 x3 (IntKind.i64.wrap (x4 + 1)) h))))
      else
        Tr.fail)
    else
      Tr.fail)
  else
    (Tr.ret ([(AVal.int .u64 0), (AVal.int .i64 0), (AVal.int .i64 1)], h))) := by kernel_rfl
theorem F18_eq (d : Nat) (f0 : Bool) (l1 : List AVal) (h : Heap) : evFn Cw (d + 1) 18 [(AVal.sl f0 0 l1)] h =
  (P18_0 d rounds 0 f0 l1 (l1.length : Int) 0 h) := by kernel_rfl
/- f16 strandline/strandlineref02.Put -/
noncomputable def P16_0 (d k : Nat) (x0 : Int) (l1 : List AVal) (h : Heap) : Tr Res :=
  loopPt Cw d 16 [true, true, false, true] [] k ⟨[(1, (EV.one (SV.val (AVal.int .u64 x0)))), (5, (EV.one (SV.own (tokOf 5 0) 0 l1)))], []⟩ h
theorem P16_0_eq (d k : Nat) (x0 : Int) (l1 : List AVal) (h : Heap) : P16_0 d (k + 1) x0 l1 h =
  (bif (decide (((IntKind.u64.wrap (Int.tdiv x0 128)) : Int) > 0)) then
    (bif decide ((l1.length + (1 : Nat)) * 1 ≤ 140737488355328) then
      (P16_0 d k (IntKind.u64.wrap (Int.tdiv x0 128)) (l1 ++ [(AVal.int .u8 (IntKind.u8.wrap (IntKind.u64.wrap (128 + (Int.tmod x0 128)))))]) h)
    else
      Tr.fail)
  else
    (bif decide ((l1.length + (1 : Nat)) * 1 ≤ 140737488355328) then (Tr.ret ([(AVal.sl false 0 (l1 ++ [(AVal.int .u8 (IntKind.u8.wrap x0))]))], h)) else Tr.fail)) := by kernel_rfl
theorem F16_eq (d : Nat) (f0 : Bool) (l1 : List AVal) (x2 : Int) (h : Heap) : evFn Cw (d + 1) 16 [(AVal.sl f0 0 l1), (AVal.int .u64 x2)] h =
  (bif decide (((0 : Nat) + l1.length) * 1 ≤ 140737488355328) then (P16_0 d rounds x2 ([] ++ l1) h) else Tr.fail) := by kernel_rfl
/- f20 strandline/strandlineref02.Get -/
noncomputable def P20_0 (d k : Nat) (f0 : Bool) (l1 : List AVal) (x2 : Int) (x3 : Int) (x4 : Int) (h : Heap) : Tr Res :=
  loopPt Cw d 20 [true, true, true, false, true, true] [] k ⟨[(0, (EV.one (SV.val (AVal.sl f0 0 l1)))), (5, (EV.one (SV.val (AVal.int .u64 x2)))), (6, (EV.one (SV.val (AVal.int .u64 x3)))), (7, (EV.one (SV.val (AVal.int .i64 x4))))], []⟩ h
theorem P20_0_eq (d k : Nat) (f0 : Bool) (l1 : List AVal) (x2 : Int) (x3 : Int) (x4 : Int) (h : Heap) : P20_0 d (k + 1) f0 l1 x2 x3 x4 h =
  (bif (decide ((x4 : Int) < (l1.length : Int))) then
    (bif (decide ((0 : Int) ≤ x4) && decide ((x4 : Int) < (l1.length : Int))) then
      (bif AVal.isInt .u8 (l1.getD (Int.toNat x4) AVal.undef) then
        (bif ((x4 : Int) == 9) then
          (bif (decide (((IntKind.u64.wrap (AVal.toInt (l1.getD (Int.toNat x4) AVal.undef))) : Int) > 1)) then
            (Tr.ret ([(AVal.int .u64 0), (AVal.int .i64 0), (AVal.int .i64 4)], h))
          else
            (bif (decide (((IntKind.u64.wrap (AVal.toInt (l1.getD (Int.toNat x4) AVal.undef))) : Int) < 128)) then
              (bif (((IntKind.u64.wrap (AVal.toInt (l1.getD (Int.toNat x4) AVal.undef))) : Int) == 0) then
                (bif (decide ((x4 : Int) > 0)) then
                  (Tr.ret ([(AVal.int .u64 0), (AVal.int .i64 0), (AVal.int .i64 2)], h))
                else
                  (bif (decide (((IntKind.u64.wrap (AVal.toInt (l1.getD (Int.toNat x4) AVal.undef))) : Int) < 128)) then
                    (Tr.ret ([(AVal.int .u64 (IntKind.u64.wrap (x2 + (IntKind.u64.wrap ((Int.tmod (IntKind.u64.wrap (AVal.toInt (l1.getD (Int.toNat x4) AVal.undef))) 128) * x3))))), (AVal.int .i64 (IntKind.i64.wrap (x4 + 1))), (AVal.int .i64 0)], h))
                  else
                    (P20_0 d k f0 l1 (IntKind.u64.wrap (x2 + (IntKind.u64.wrap ((Int.tmod (IntKind.u64.wrap (AVal.toInt (l1.getD (Int.toNat x4) AVal.undef))) 128) * x3)))) (IntKind.u64.wrap (x3 * 128)) (IntKind.i64.wrap (x4 + 1)) h)))
              else
                (bif (decide (((IntKind.u64.wrap (AVal.toInt (l1.getD (Int.toNat x4) AVal.undef))) : Int) < 128)) then
                  (Tr.ret ([(AVal.int .u64 (IntKind.u64.wrap (x2 + (IntKind.u64.wrap ((Int.tmod (IntKind.u64.wrap (AVal.toInt (l1.getD (Int.toNat x4) AVal.undef))) 128) * x3))))), (AVal.int .i64 (IntKind.i64.wrap (x4 + 1))), (AVal.int .i64 0)], h))
                else
                  (P20_0 d k f0 l1 (IntKind.u64.wrap (x2 + (IntKind.u64.wrap ((Int.tmod (IntKind.u64.wrap (AVal.toInt (l1.getD (Int.toNat x4) AVal.undef))) 128) * x3)))) (IntKind.u64.wrap (x3 * 128)) (IntKind.i64.wrap (x4 + 1)) h)))
            else
              (bif (decide (((IntKind.u64.wrap (AVal.toInt (l1.getD (Int.toNat x4) AVal.undef))) : Int) < 128)) then
                (Tr.ret ([(AVal.int .u64 (IntKind.u64.wrap (x2 + (IntKind.u64.wrap ((Int.tmod (IntKind.u64.wrap (AVal.toInt (l1.getD (Int.toNat x4) AVal.undef))) 128) * x3))))), (AVal.int .i64 (IntKind.i64.wrap (x4 + 1))), (AVal.int .i64 0)], h))
              else
                (P20_0 d k f0 l1 (IntKind.u64.wrap (x2 + (IntKind.u64.wrap ((Int.tmod (IntKind.u64.wrap (AVal.toInt (l1.getD (Int.toNat x4) AVal.undef))) 128) * x3)))) (IntKind.u64.wrap (x3 * 128)) (IntKind.i64.wrap (x4 + 1)) h))))
        else
          (bif (decide (((IntKind.u64.wrap (AVal.toInt (l1.getD (Int.toNat x4) AVal.undef))) : Int) < 128)) then
            (bif (((IntKind.u64.wrap (AVal.toInt (l1.getD (Int.toNat x4) AVal.undef))) : Int) == 0) then
              (bif (decide ((x4 : Int) > 0)) then
                (Tr.ret ([(AVal.int .u64 0), (AVal.int .i64 0), (AVal.int .i64 2)], h))
              else
                (bif (decide (((IntKind.u64.wrap (AVal.toInt (l1.getD (Int.toNat x4) AVal.undef))) : Int) < 128)) then
                  (Tr.ret ([(AVal.int .u64 (IntKind.u64.wrap (x2 + (IntKind.u64.wrap ((Int.tmod (IntKind.u64.wrap (AVal.toInt (l1.getD (Int.toNat x4) AVal.undef))) 128) * x3))))), (AVal.int .i64 (IntKind.i64.wrap (x4 + 1))), (AVal.int .i64 0)], h))
                else
                  (P20_0 d k f0 l1 (IntKind.u64.wrap (x2 + (IntKind.u64.wrap ((Int.tmod (IntKind.u64.wrap (AVal.toInt (l1.getD (Int.toNat x4) AVal.undef))) 128) * x3)))) (IntKind.u64.wrap (x3 * 128)) (IntKind.i64.wrap (x4 + 1)) h)))
            else
              (bif (decide (((IntKind.u64.wrap (AVal.toInt (l1.getD (Int.toNat x4) AVal.undef))) : Int) < 128)) then
                (Tr.ret ([(AVal.int .u64 (IntKind.u64.wrap (x2 + (IntKind.u64.wrap ((Int.tmod (IntKind.u64.wrap (AVal.toInt (l1.getD (Int.toNat x4) AVal.undef))) 128) * x3))))), (AVal.int .i64 (IntKind.i64.wrap (x4 + 1))), (AVal.int .i64 0)], h))
              else
                (P20_0 d k f0 l1 (IntKind.u64.wrap (x2 + (IntKind.u64.wrap ((Int.tmod (IntKind.u64.wrap (AVal.toInt (l1.getD (Int.toNat x4) AVal.undef))) 128) * x3)))) (IntKind.u64.wrap (x3 * 128)) (IntKind.i64.wrap (x4 + 1)) h)))
          else
            (bif (decide (((IntKind.u64.wrap (AVal.toInt (l1.getD (Int.toNat x4) AVal.undef))) : Int) < 128)) then
              (Tr.ret ([(AVal.int .u64 (IntKind.u64.wrap (x2 + (IntKind.u64.wrap ((Int.tmod (IntKind.u64.wrap (AVal.toInt (l1.getD (Int.toNat x4) AVal.undef))) 128) * x3))))), (AVal.int .i64 (IntKind.i64.wrap (x4 + 1))), (AVal.int .i64 0)], h))
            else
              (P20_0 d k f0 l1 (IntKind.u64.wrap (x2 + (IntKind.u64.wrap ((Int.tmod (IntKind.u64.wrap (AVal.toInt (l1.getD (Int.toNat x4) AVal.undef))) 128) * x3)))) (IntKind.u64.wrap (x3 * 128)) (IntKind.i64.wrap (x4 + 1)) h))))
      else
        Tr.fail)
    else
      Tr.fail)
  else
    (Tr.ret ([(AVal.int .u64 0), (AVal.int .i64 0), (AVal.int .i64 1)], h))) := by kernel_rfl
theorem F20_eq (d : Nat) (f0 : Bool) (l1 : List AVal) (h : Heap) : evFn Cw (d + 1) 20 [(AVal.sl f0 0 l1)] h =
  (P20_0 d rounds f0 l1 0 1 0 h) := by kernel_rfl
/- f19 strandline/strandlinelaw02.awake -/
theorem F19_eq (d : Nat) (h : Heap) : evFn Cw (d + 1) 19 [] h =
  ((evFn Cw d 15 [(AVal.sl true 0 []), (AVal.int .u64 300)] h).bind fun r1 =>
    (consK r1.1 fun v2 w3 =>
      (bif AVal.isSlO 0 v2 then
        (nilK w3
          (bif ((((AVal.toEs v2).length : Int) : Int) == 2) then
            (bif decide ((0 : Int) < ((AVal.toEs v2).length : Int)) then
              (bif AVal.isInt .u8 ((AVal.toEs v2).getD 0 AVal.undef) then
                (bif (((AVal.toInt ((AVal.toEs v2).getD 0 AVal.undef)) : Int) == 172) then
                  (bif decide ((1 : Int) < ((AVal.toEs v2).length : Int)) then
                    (bif AVal.isInt .u8 ((AVal.toEs v2).getD 1 AVal.undef) then
                      (bif (((AVal.toInt ((AVal.toEs v2).getD 1 AVal.undef)) : Int) == 2) then
                        ((evFn Cw d 17 [(AVal.int .u64 300)] r1.2).bind fun r4 =>
                          (consK r4.1 fun v5 w6 =>
                            (bif AVal.isInt .i64 v5 then
                              (nilK w6
                                (Tr.ret ([(AVal.bool (((AVal.toInt v5) : Int) == 2))], r4.2)))
                            else
                              Tr.fail)))
                      else
                        (Tr.ret ([(AVal.bool false)], r1.2)))
                    else
                      Tr.fail)
                  else
                    Tr.fail)
                else
                  (Tr.ret ([(AVal.bool false)], r1.2)))
              else
                Tr.fail)
            else
              Tr.fail)
          else
            (Tr.ret ([(AVal.bool false)], r1.2))))
      else
        Tr.fail))) := by kernel_rfl
/- f3 strandline/strandlinelaw02.VarintPuts -/
theorem F3_eq (d : Nat) (f0 : Bool) (l1 : List AVal) (x2 : Int) (f3 : Bool) (l4 : List AVal) (h : Heap) : evFn Cw (d + 1) 3 [(AVal.sl f0 0 l1), (AVal.int .u64 x2), (AVal.sl f3 0 l4)] h =
  ((evFn Cw d 15 [(AVal.sl f0 0 l1), (AVal.int .u64 x2)] h).bind fun r1 =>
    (consK r1.1 fun v2 w3 =>
      (bif AVal.isSlO 0 v2 then
        (nilK w3
          (optK (toBytes (AVal.toEs v2)) fun s4 =>
            ((evFn Cw d 16 [(AVal.sl f0 0 l1), (AVal.int .u64 x2)] r1.2).bind fun r5 =>
              (consK r5.1 fun v6 w7 =>
                (bif AVal.isSlO 0 v6 then
                  (nilK w7
                    (optK (toBytes (AVal.toEs v6)) fun s8 =>
                      (bif (!(s4 == s8)) then
                        (Tr.ret ([(AVal.bool false)], r5.2))
                      else
                        ((evFn Cw d 17 [(AVal.int .u64 x2)] r5.2).bind fun r9 =>
                          (consK r9.1 fun v10 w11 =>
                            (bif AVal.isInt .i64 v10 then
                              (nilK w11
                                (bif (((AVal.toInt v10) : Int) != (IntKind.i64.wrap (((AVal.toEs v2).length : Int) - (l1.length : Int)))) then
                                  (Tr.ret ([(AVal.bool false)], r9.2))
                                else
                                  (bif ((decide ((0 : Int) ≤ (l1.length : Int)) && decide (((l1.length : Int) : Int) ≤ ((AVal.toEs v2).length : Int))) && decide ((((AVal.toEs v2).length : Int) : Int) ≤ ((AVal.toEs v2).length : Int))) then
                                    (bif decide (((0 : Nat) + (Go.Weave.part (l1.length : Int) ((AVal.toEs v2).length : Int) (AVal.toEs v2)).length) * 1 ≤ 140737488355328) then
                                      (bif decide ((([] ++ (Go.Weave.part (l1.length : Int) ((AVal.toEs v2).length : Int) (AVal.toEs v2))).length + l4.length) * 1 ≤ 140737488355328) then
                                        ((evFn Cw d 18 [(AVal.sl false 0 (([] ++ (Go.Weave.part (l1.length : Int) ((AVal.toEs v2).length : Int) (AVal.toEs v2))) ++ l4))] r9.2).bind fun r12 =>
                                          (consK r12.1 fun v13 w14 =>
                                            (bif AVal.isInt .u64 v13 then
                                              (consK w14 fun v15 w16 =>
                                                (bif AVal.isInt .i64 v15 then
                                                  (consK w16 fun v17 w18 =>
                                                    (bif AVal.isInt .i64 v17 then
                                                      (nilK w18
                                                        (bif (((AVal.toInt v13) : Int) == x2) then
                                                          ((evFn Cw d 17 [(AVal.int .u64 x2)] r12.2).bind fun r19 =>
                                                            (consK r19.1 fun v20 w21 =>
                                                              (bif AVal.isInt .i64 v20 then
                                                                (nilK w21
                                                                  (bif (((AVal.toInt v15) : Int) == (AVal.toInt v20)) then
                                                                    (bif (((AVal.toInt v17) : Int) == 0) then
                                                                      ((evFn Cw d 19 [] r19.2).bind fun r22 =>
                                                                        (consK r22.1 fun v23 w24 =>
                                                                          (bif AVal.isBool v23 then
                                                                            (nilK w24
                                                                              (Tr.ret ([(AVal.bool (AVal.toBool v23))], r22.2)))
                                                                          else
                                                                            Tr.fail)))
                                                                    else
                                                                      (Tr.ret ([(AVal.bool false)], r19.2)))
                                                                  else
                                                                    (Tr.ret ([(AVal.bool false)], r19.2))))
                                                              else
                                                                Tr.fail)))
                                                        else
                                                          (Tr.ret ([(AVal.bool false)], r12.2))))
                                                    else
                                                      Tr.fail))
                                                else
                                                  Tr.fail))
                                            else
                                              Tr.fail)))
                                      else
                                        Tr.fail)
                                    else
                                      Tr.fail)
                                  else
                                    Tr.fail)))
                            else
                              Tr.fail))))))
                else
                  Tr.fail)))))
      else
        Tr.fail))) := by kernel_rfl
/- f4 strandline/strandlinelaw02.VarintGets -/
theorem F4_eq (d : Nat) (f0 : Bool) (l1 : List AVal) (h : Heap) : evFn Cw (d + 1) 4 [(AVal.sl f0 0 l1)] h =
  ((evFn Cw d 18 [(AVal.sl f0 0 l1)] h).bind fun r1 =>
    (consK r1.1 fun v2 w3 =>
      (bif AVal.isInt .u64 v2 then
        (consK w3 fun v4 w5 =>
          (bif AVal.isInt .i64 v4 then
            (consK w5 fun v6 w7 =>
              (bif AVal.isInt .i64 v6 then
                (nilK w7
                  ((evFn Cw d 20 [(AVal.sl f0 0 l1)] r1.2).bind fun r8 =>
                    (consK r8.1 fun v9 w10 =>
                      (bif AVal.isInt .u64 v9 then
                        (consK w10 fun v11 w12 =>
                          (bif AVal.isInt .i64 v11 then
                            (consK w12 fun v13 w14 =>
                              (bif AVal.isInt .i64 v13 then
                                (nilK w14
                                  (bif (((AVal.toInt v2) : Int) != (AVal.toInt v9)) then
                                    (Tr.ret ([(AVal.bool false)], r8.2))
                                  else
                                    (bif (((AVal.toInt v4) : Int) != (AVal.toInt v11)) then
                                      (Tr.ret ([(AVal.bool false)], r8.2))
                                    else
                                      (bif (((AVal.toInt v6) : Int) != (AVal.toInt v13)) then
                                        (Tr.ret ([(AVal.bool false)], r8.2))
                                      else
                                        (bif (decide (((AVal.toInt v4) : Int) < 0)) then
                                          (Tr.ret ([(AVal.bool false)], r8.2))
                                        else
                                          (bif (decide (((AVal.toInt v4) : Int) > (l1.length : Int))) then
                                            (Tr.ret ([(AVal.bool false)], r8.2))
                                          else
                                            (bif (((AVal.toInt v6) : Int) != 0) then
                                              ((evFn Cw d 19 [] r8.2).bind fun r15 =>
                                                (consK r15.1 fun v16 w17 =>
                                                  (bif AVal.isBool v16 then
                                                    (nilK w17
                                                      (Tr.ret ([(AVal.bool (AVal.toBool v16))], r15.2)))
                                                  else
                                                    Tr.fail)))
                                            else
                                              (bif (decide ((0 : Int) ≤ (AVal.toInt v4)) && decide (((AVal.toInt v4) : Int) ≤ (l1.length : Int))) then
                                                (optK (toBytes (Go.Weave.part 0 (AVal.toInt v4) l1)) fun s18 =>
                                                  ((evFn Cw d 15 [(AVal.sl true 0 []), (AVal.int .u64 (AVal.toInt v2))] r8.2).bind fun r19 =>
                                                    (consK r19.1 fun v20 w21 =>
                                                      (bif AVal.isSlO 0 v20 then
                                                        (nilK w21
                                                          (optK (toBytes (AVal.toEs v20)) fun s22 =>
                                                            (bif (s22 == s18) then
                                                              ((evFn Cw d 19 [] r19.2).bind fun r23 =>
                                                                (consK r23.1 fun v24 w25 =>
                                                                  (bif AVal.isBool v24 then
                                                                    (nilK w25
                                                                      (Tr.ret ([(AVal.bool (AVal.toBool v24))], r23.2)))
                                                                  else
                                                                    Tr.fail)))
                                                            else
                                                              (Tr.ret ([(AVal.bool false)], r19.2)))))
                                                      else
                                                        Tr.fail))))
                                              else
                                                Tr.fail))))))))
                              else
                                Tr.fail))
                          else
                            Tr.fail))
                      else
                        Tr.fail))))
              else
                Tr.fail))
          else
            Tr.fail))
      else
        Tr.fail))) := by kernel_rfl
end Go.Proofs.Ythebimbdijkiiaa.Wa
