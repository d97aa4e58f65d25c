/- What the evaluator comes to in these functions. -/
import Derived.Test.YthebimbdijkiiaaW0
import Derived.KernelRfl
namespace Go.Proofs.Ythebimbdijkiiaa.Wa
open Go Go.Weave
set_option maxRecDepth 100000
set_option linter.unusedVariables false
/- f23 strandline/record.Same -/
theorem F23_eq (d : Nat) (x0 : Int) (x1 : Int) (x2 : Int) (x3 : Int) (f4 : Bool) (l5 : List AVal) (x6 : Int) (x7 : Int) (x8 : Int) (x9 : Int) (f10 : Bool) (l11 : List AVal) (h : Heap) : evFn Cw (d + 1) 23 [(AVal.agg [(AVal.int .i64 x0), (AVal.int .i64 x1), (AVal.int .i64 x2), (AVal.int .i64 x3), (AVal.sl f4 0 l5)]), (AVal.agg [(AVal.int .i64 x6), (AVal.int .i64 x7), (AVal.int .i64 x8), (AVal.int .i64 x9), (AVal.sl f10 0 l11)])] h =
  (bif ((x0 : Int) == x6) then
    (bif ((x1 : Int) == x7) then
      (bif ((x2 : Int) == x8) then
        (bif ((x3 : Int) == x9) then
          (optK (toBytes l5) fun s1 =>
            (optK (toBytes l11) fun s2 =>
              (Tr.ret ([(AVal.bool (s1 == s2))], h))))
        else
          (Tr.ret ([(AVal.bool false)], h)))
      else
        (Tr.ret ([(AVal.bool false)], h)))
    else
      (Tr.ret ([(AVal.bool false)], h)))
  else
    (Tr.ret ([(AVal.bool false)], h))) := by kernel_rfl
/- f24 strandline/strandlineref11.Same -/
theorem F24_eq (d : Nat) (x0 : Int) (x1 : Int) (x2 : Int) (x3 : Int) (f4 : Bool) (l5 : List AVal) (x6 : Int) (x7 : Int) (x8 : Int) (x9 : Int) (f10 : Bool) (l11 : List AVal) (h : Heap) : evFn Cw (d + 1) 24 [(AVal.agg [(AVal.int .i64 x0), (AVal.int .i64 x1), (AVal.int .i64 x2), (AVal.int .i64 x3), (AVal.sl f4 0 l5)]), (AVal.agg [(AVal.int .i64 x6), (AVal.int .i64 x7), (AVal.int .i64 x8), (AVal.int .i64 x9), (AVal.sl f10 0 l11)])] h =
  (bif ((x0 : Int) == x6) then
    (bif ((x1 : Int) == x7) then
      (bif ((x2 : Int) == x8) then
        (bif ((x3 : Int) == x9) then
          (optK (toBytes l5) fun s1 =>
            (optK (toBytes l11) fun s2 =>
              (Tr.ret ([(AVal.bool (s1 == s2))], h))))
        else
          (Tr.ret ([(AVal.bool false)], h)))
      else
        (Tr.ret ([(AVal.bool false)], h)))
    else
      (Tr.ret ([(AVal.bool false)], h)))
  else
    (Tr.ret ([(AVal.bool false)], h))) := by kernel_rfl
/- f71 strandline/record.Right -/
theorem F71_eq (d : Nat) (x0 : Int) (x1 : Int) (x2 : Int) (x3 : Int) (f4 : Bool) (l5 : List AVal) (h : Heap) : evFn Cw (d + 1) 71 [(AVal.agg [(AVal.int .i64 x0), (AVal.int .i64 x1), (AVal.int .i64 x2), (AVal.int .i64 x3), (AVal.sl f4 0 l5)])] h =
  (bif (decide ((x0 : Int) < 1)) then
    (Tr.ret ([(AVal.bool false)], h))
  else
    (bif (decide ((x0 : Int) > 9)) then
      (Tr.ret ([(AVal.bool false)], h))
    else
      (bif (decide ((x1 : Int) < 0)) then
        (Tr.ret ([(AVal.bool false)], h))
      else
        (bif (decide ((x1 : Int) ≥ 4)) then
          (Tr.ret ([(AVal.bool false)], h))
        else
          (bif (decide ((x2 : Int) < 1)) then
            (Tr.ret ([(AVal.bool false)], h))
          else
            (bif (decide ((x2 : Int) > 2147483647)) then
              (Tr.ret ([(AVal.bool false)], h))
            else
              (bif (decide ((x3 : Int) ≥ 0)) then (Tr.ret ([(AVal.bool (decide ((x3 : Int) < x2)))], h)) else (Tr.ret ([(AVal.bool false)], h))))))))) := by kernel_rfl
/- f75 strandline/record.Size -/
theorem F75_eq (d : Nat) (x0 : Int) (x1 : Int) (x2 : Int) (x3 : Int) (f4 : Bool) (l5 : List AVal) (h : Heap) : evFn Cw (d + 1) 75 [(AVal.agg [(AVal.int .i64 x0), (AVal.int .i64 x1), (AVal.int .i64 x2), (AVal.int .i64 x3), (AVal.sl f4 0 l5)])] h =
  ((evFn Cw d 71 [(AVal.agg [(AVal.int .i64 x0), (AVal.int .i64 x1), (AVal.int .i64 x2), (AVal.int .i64 x3), (AVal.sl f4 0 l5)])] h).bind fun r1 =>
    (consK r1.1 fun v2 w3 =>
      (bif AVal.isBool v2 then
        (nilK w3
          (bif (!(AVal.toBool v2)) then
            (Tr.ret ([(AVal.int .i64 0)], r1.2))
          else
            ((evFn Cw d 17 [(AVal.int .u64 (IntKind.u64.wrap x2))] r1.2).bind fun r4 =>
              (consK r4.1 fun v5 w6 =>
                (bif AVal.isInt .i64 v5 then
                  (nilK w6
                    ((evFn Cw d 17 [(AVal.int .u64 (IntKind.u64.wrap (IntKind.i64.wrap (x2 - x3))))] r4.2).bind fun r7 =>
                      (consK r7.1 fun v8 w9 =>
                        (bif AVal.isInt .i64 v8 then
                          (nilK w9
                            (Tr.ret ([(AVal.int .i64 (IntKind.i64.wrap ((IntKind.i64.wrap ((IntKind.i64.wrap (2 + (AVal.toInt v5))) + (AVal.toInt v8))) + (l5.length : Int))))], r7.2)))
                        else
                          Tr.fail))))
                else
                  Tr.fail)))))
      else
        Tr.fail))) := by kernel_rfl
/- f66 strandline/record.Encode -/
theorem F66_eq (d : Nat) (x0 : Int) (x1 : Int) (x2 : Int) (x3 : Int) (f4 : Bool) (l5 : List AVal) (h : Heap) : evFn Cw (d + 1) 66 [(AVal.agg [(AVal.int .i64 x0), (AVal.int .i64 x1), (AVal.int .i64 x2), (AVal.int .i64 x3), (AVal.sl f4 0 l5)])] h =
  ((evFn Cw d 71 [(AVal.agg [(AVal.int .i64 x0), (AVal.int .i64 x1), (AVal.int .i64 x2), (AVal.int .i64 x3), (AVal.sl f4 0 l5)])] h).bind fun r1 =>
    (consK r1.1 fun v2 w3 =>
      (bif AVal.isBool v2 then
        (nilK w3
          (bif (!(AVal.toBool v2)) then
            (Tr.ret ([(AVal.sl true 0 []), (AVal.int .i64 13)], r1.2))
          else
            ((evFn Cw d 75 [(AVal.agg [(AVal.int .i64 x0), (AVal.int .i64 x1), (AVal.int .i64 x2), (AVal.int .i64 x3), (AVal.sl f4 0 l5)])] r1.2).bind fun r4 =>
              (consK r4.1 fun v5 w6 =>
                (bif AVal.isInt .i64 v5 then
                  (nilK w6
                    (bif (decide (((AVal.toInt v5) : Int) > 512)) then
                      (Tr.ret ([(AVal.sl true 0 []), (AVal.int .i64 5)], r4.2))
                    else
                      ((evFn Cw d 15 [(AVal.sl true 0 [(AVal.int .u8 (IntKind.u8.wrap x0)), (AVal.int .u8 (IntKind.u8.wrap x1))]), (AVal.int .u64 (IntKind.u64.wrap x2))] r4.2).bind fun r7 =>
                        (consK r7.1 fun v8 w9 =>
                          (bif AVal.isSlO 0 v8 then
                            (nilK w9
                              ((evFn Cw d 15 [(AVal.sl false 0 (AVal.toEs v8)), (AVal.int .u64 (IntKind.u64.wrap (IntKind.i64.wrap (x2 - x3))))] r7.2).bind fun r10 =>
                                (consK r10.1 fun v11 w12 =>
                                  (bif AVal.isSlO 0 v11 then
                                    (nilK w12
                                      (bif decide (((AVal.toEs v11).length + l5.length) * 1 ≤ 140737488355328) then
                                        (Tr.ret ([(AVal.sl false 0 ((AVal.toEs v11) ++ l5)), (AVal.int .i64 0)], r10.2))
                                      else
                                        Tr.fail))
                                  else
                                    Tr.fail))))
                          else
                            Tr.fail)))))
                else
                  Tr.fail)))))
      else
        Tr.fail))) := by kernel_rfl
/- f25 strandline/strandlinelaw11.awake -/
theorem F25_eq (d : Nat) (h : Heap) : evFn Cw (d + 1) 25 [] h =
  ((evFn Cw d 66 [(AVal.agg [(AVal.int .i64 1), (AVal.int .i64 0), (AVal.int .i64 1), (AVal.int .i64 0), (AVal.sl true 0 [])])] h).bind fun r1 =>
    (consK r1.1 fun v2 w3 =>
      (bif AVal.isSlO 0 v2 then
        (consK w3 fun v4 w5 =>
          (bif AVal.isInt .i64 v4 then
            (nilK w5
              (bif (((AVal.toInt v4) : Int) == 0) then
                (optK (toBytes (AVal.toEs v2)) fun s6 =>
                  (Tr.ret ([(AVal.bool (s6 == [1, 0, 1, 1]))], r1.2)))
              else
                (Tr.ret ([(AVal.bool false)], r1.2))))
          else
            Tr.fail))
      else
        Tr.fail))) := by kernel_rfl
/- f6 strandline/strandlinelaw11.RecordSames -/
theorem F6_eq (d : Nat) (x0 : Int) (x1 : Int) (x2 : Int) (x3 : Int) (f4 : Bool) (l5 : List AVal) (x6 : Int) (x7 : Int) (x8 : Int) (x9 : Int) (f10 : Bool) (l11 : List AVal) (h : Heap) : evFn Cw (d + 1) 6 [(AVal.agg [(AVal.int .i64 x0), (AVal.int .i64 x1), (AVal.int .i64 x2), (AVal.int .i64 x3), (AVal.sl f4 0 l5)]), (AVal.agg [(AVal.int .i64 x6), (AVal.int .i64 x7), (AVal.int .i64 x8), (AVal.int .i64 x9), (AVal.sl f10 0 l11)])] h =
  ((evFn Cw d 23 [(AVal.agg [(AVal.int .i64 x0), (AVal.int .i64 x1), (AVal.int .i64 x2), (AVal.int .i64 x3), (AVal.sl f4 0 l5)]), (AVal.agg [(AVal.int .i64 x6), (AVal.int .i64 x7), (AVal.int .i64 x8), (AVal.int .i64 x9), (AVal.sl f10 0 l11)])] h).bind fun r1 =>
    (consK r1.1 fun v2 w3 =>
      (bif AVal.isBool v2 then
        (nilK w3
          ((evFn Cw d 24 [(AVal.agg [(AVal.int .i64 x0), (AVal.int .i64 x1), (AVal.int .i64 x2), (AVal.int .i64 x3), (AVal.sl f4 0 l5)]), (AVal.agg [(AVal.int .i64 x6), (AVal.int .i64 x7), (AVal.int .i64 x8), (AVal.int .i64 x9), (AVal.sl f10 0 l11)])] r1.2).bind fun r4 =>
            (consK r4.1 fun v5 w6 =>
              (bif AVal.isBool v5 then
                (nilK w6
                  (bif ((AVal.toBool v2) == (AVal.toBool v5)) then
                    ((evFn Cw d 25 [] r4.2).bind fun r7 =>
                      (consK r7.1 fun v8 w9 =>
                        (bif AVal.isBool v8 then
                          (nilK w9
                            (Tr.ret ([(AVal.bool (AVal.toBool v8))], r7.2)))
                        else
                          Tr.fail)))
                  else
                    (Tr.ret ([(AVal.bool false)], r4.2))))
              else
                Tr.fail))))
      else
        Tr.fail))) := by kernel_rfl
end Go.Proofs.Ythebimbdijkiiaa.Wa
