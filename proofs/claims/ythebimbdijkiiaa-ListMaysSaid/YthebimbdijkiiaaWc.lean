/- What the evaluator comes to in these functions. -/
import Derived.Test.YthebimbdijkiiaaW0
import Derived.Test.YthebimbdijkiiaaWvLb
import Derived.KernelRfl
namespace Go.Proofs.Ythebimbdijkiiaa.Wa
open Go Go.Weave
set_option maxRecDepth 100000
set_option linter.unusedVariables false
/- f23 strandline/record.Same -/
theorem F23_eq (d : Nat) (x0 : Int) (x1 : Int) (x2 : Int) (x3 : Int) (f4 : Bool) (l5 : List AVal) (x6 : Int) (x7 : Int) (x8 : Int) (x9 : Int) (f10 : Bool) (l11 : List AVal) (h : Heap) : evFn Cw (d + 1) 23 [(AVal.agg [(AVal.int .i64 x0), (AVal.int .i64 x1), (AVal.int .i64 x2), (AVal.int .i64 x3), (AVal.sl f4 0 l5)]), (AVal.agg [(AVal.int .i64 x6), (AVal.int .i64 x7), (AVal.int .i64 x8), (AVal.int .i64 x9), (AVal.sl f10 0 l11)])] h =
  (bif ((x0 : Int) == x6) then
    (bif ((x1 : Int) == x7) then
      (bif ((x2 : Int) == x8) then
        (bif ((x3 : Int) == x9) then
          (optK (toBytes l5) fun ss1 =>
            (optK (toBytes l11) fun ss2 =>
              (Tr.ret ([(AVal.bool (ss1 == ss2))], h))))
        else
          (Tr.ret ([(AVal.bool false)], h)))
      else
        (Tr.ret ([(AVal.bool false)], h)))
    else
      (Tr.ret ([(AVal.bool false)], h)))
  else
    (Tr.ret ([(AVal.bool false)], h))) := by kernel_rfl
/- f24 strandline/strandlineref11.Same -/
theorem F24_eq (d : Nat) (x0 : Int) (x1 : Int) (x2 : Int) (x3 : Int) (f4 : Bool) (l5 : List AVal) (x6 : Int) (x7 : Int) (x8 : Int) (x9 : Int) (f10 : Bool) (l11 : List AVal) (h : Heap) : evFn Cw (d + 1) 24 [(AVal.agg [(AVal.int .i64 x0), (AVal.int .i64 x1), (AVal.int .i64 x2), (AVal.int .i64 x3), (AVal.sl f4 0 l5)]), (AVal.agg [(AVal.int .i64 x6), (AVal.int .i64 x7), (AVal.int .i64 x8), (AVal.int .i64 x9), (AVal.sl f10 0 l11)])] h =
  (bif ((x0 : Int) == x6) then
    (bif ((x1 : Int) == x7) then
      (bif ((x2 : Int) == x8) then
        (bif ((x3 : Int) == x9) then
          (optK (toBytes l5) fun ss1 =>
            (optK (toBytes l11) fun ss2 =>
              (Tr.ret ([(AVal.bool (ss1 == ss2))], h))))
        else
          (Tr.ret ([(AVal.bool false)], h)))
      else
        (Tr.ret ([(AVal.bool false)], h)))
    else
      (Tr.ret ([(AVal.bool false)], h)))
  else
    (Tr.ret ([(AVal.bool false)], h))) := by kernel_rfl
/- f71 strandline/record.Right -/
theorem F71_eq (d : Nat) (x0 : Int) (x1 : Int) (x2 : Int) (x3 : Int) (f4 : Bool) (l5 : List AVal) (h : Heap) : evFn Cw (d + 1) 71 [(AVal.agg [(AVal.int .i64 x0), (AVal.int .i64 x1), (AVal.int .i64 x2), (AVal.int .i64 x3), (AVal.sl f4 0 l5)])] h =
  (bif (decide ((x0 : Int) < 1)) then
    (Tr.ret ([(AVal.bool false)], h))
  else
    (bif (decide ((x0 : Int) > 9)) then
      (Tr.ret ([(AVal.bool false)], h))
    else
      (bif (decide ((x1 : Int) < 0)) then
        (Tr.ret ([(AVal.bool false)], h))
      else
        (bif (decide ((x1 : Int) ≥ 4)) then
          (Tr.ret ([(AVal.bool false)], h))
        else
          (bif (decide ((x2 : Int) < 1)) then
            (Tr.ret ([(AVal.bool false)], h))
          else
            (bif (decide ((x2 : Int) > 2147483647)) then
              (Tr.ret ([(AVal.bool false)], h))
            else
              (bif (decide ((x3 : Int) ≥ 0)) then (Tr.ret ([(AVal.bool (decide ((x3 : Int) < x2)))], h)) else (Tr.ret ([(AVal.bool false)], h))))))))) := by kernel_rfl
/- f75 strandline/record.Size -/
theorem F75_eq (d : Nat) (x0 : Int) (x1 : Int) (x2 : Int) (x3 : Int) (f4 : Bool) (l5 : List AVal) (h : Heap) : evFn Cw (d + 1) 75 [(AVal.agg [(AVal.int .i64 x0), (AVal.int .i64 x1), (AVal.int .i64 x2), (AVal.int .i64 x3), (AVal.sl f4 0 l5)])] h =
  (runK (evFn Cw d 71 [(AVal.agg [(AVal.int .i64 x0), (AVal.int .i64 x1), (AVal.int .i64 x2), (AVal.int .i64 x3), (AVal.sl f4 0 l5)])] h) fun r1 h1 =>
    (consK r1 fun w2 ws3 =>
      (boolK w2 fun bb4 =>
        (nilK ws3
          (bif (!bb4) then
            (Tr.ret ([(AVal.int .i64 0)], h1))
          else
            (runK (evFn Cw d 17 [(AVal.int .u64 (IntKind.u64.wrap x2))] h1) fun r5 h5 =>
              (consK r5 fun w6 ws7 =>
                (intK .i64 w6 fun y8 =>
                  (nilK ws7
                    (runK (evFn Cw d 17 [(AVal.int .u64 (IntKind.u64.wrap (IntKind.i64.wrap (x2 - x3))))] h5) fun r9 h9 =>
                      (consK r9 fun w10 ws11 =>
                        (intK .i64 w10 fun y12 =>
                          (nilK ws11
                            (Tr.ret ([(AVal.int .i64 (IntKind.i64.wrap ((IntKind.i64.wrap ((IntKind.i64.wrap (2 + y8)) + y12)) + (l5.length : Int))))], h9))))))))))))))) := by kernel_rfl
/- f66 strandline/record.Encode -/
theorem F66_eq (d : Nat) (x0 : Int) (x1 : Int) (x2 : Int) (x3 : Int) (f4 : Bool) (l5 : List AVal) (h : Heap) : evFn Cw (d + 1) 66 [(AVal.agg [(AVal.int .i64 x0), (AVal.int .i64 x1), (AVal.int .i64 x2), (AVal.int .i64 x3), (AVal.sl f4 0 l5)])] h =
  (runK (evFn Cw d 71 [(AVal.agg [(AVal.int .i64 x0), (AVal.int .i64 x1), (AVal.int .i64 x2), (AVal.int .i64 x3), (AVal.sl f4 0 l5)])] h) fun r1 h1 =>
    (consK r1 fun w2 ws3 =>
      (boolK w2 fun bb4 =>
        (nilK ws3
          (bif (!bb4) then
            (Tr.ret ([(AVal.sl true 0 []), (AVal.int .i64 13)], h1))
          else
            (runK (evFn Cw d 75 [(AVal.agg [(AVal.int .i64 x0), (AVal.int .i64 x1), (AVal.int .i64 x2), (AVal.int .i64 x3), (AVal.sl f4 0 l5)])] h1) fun r5 h5 =>
              (consK r5 fun w6 ws7 =>
                (intK .i64 w6 fun y8 =>
                  (nilK ws7
                    (bif (decide ((y8 : Int) > 512)) then
                      (Tr.ret ([(AVal.sl true 0 []), (AVal.int .i64 5)], h5))
                    else
                      (runK (evFn Cw d 15 [(AVal.sl true 0 [(AVal.int .u8 (IntKind.u8.wrap x0)), (AVal.int .u8 (IntKind.u8.wrap x1))]), (AVal.int .u64 (IntKind.u64.wrap x2))] h5) fun r9 h9 =>
                        (consK r9 fun w10 ws11 =>
                          (slOK 0 w10 fun es12 =>
                            (nilK ws11
                              (runK (evFn Cw d 15 [(AVal.sl false 0 es12), (AVal.int .u64 (IntKind.u64.wrap (IntKind.i64.wrap (x2 - x3))))] h9) fun r13 h13 =>
                                (consK r13 fun w14 ws15 =>
                                  (slOK 0 w14 fun es16 =>
                                    (nilK ws15
                                      (bif decide ((es16.length + l5.length) * 1 ≤ 140737488355328) then (Tr.ret ([(AVal.sl false 0 (es16 ++ l5)), (AVal.int .i64 0)], h13)) else Tr.fail))))))))))))))))))) := by kernel_rfl
/- f25 strandline/strandlinelaw11.awake -/
theorem F25_eq (d : Nat) (h : Heap) : evFn Cw (d + 1) 25 [] h =
  (runK (evFn Cw d 66 [(AVal.agg [(AVal.int .i64 1), (AVal.int .i64 0), (AVal.int .i64 1), (AVal.int .i64 0), (AVal.sl true 0 [])])] h) fun r1 h1 =>
    (consK r1 fun w2 ws3 =>
      (slOK 0 w2 fun es4 =>
        (consK ws3 fun w5 ws6 =>
          (intK .i64 w5 fun y7 =>
            (nilK ws6
              (bif ((y7 : Int) == 0) then
                (optK (toBytes es4) fun ss8 =>
                  (Tr.ret ([(AVal.bool (ss8 == [1, 0, 1, 1]))], h1)))
              else
                (Tr.ret ([(AVal.bool false)], h1))))))))) := by kernel_rfl
/- f6 strandline/strandlinelaw11.RecordSames -/
theorem F6_eq (d : Nat) (x0 : Int) (x1 : Int) (x2 : Int) (x3 : Int) (f4 : Bool) (l5 : List AVal) (x6 : Int) (x7 : Int) (x8 : Int) (x9 : Int) (f10 : Bool) (l11 : List AVal) (h : Heap) : evFn Cw (d + 1) 6 [(AVal.agg [(AVal.int .i64 x0), (AVal.int .i64 x1), (AVal.int .i64 x2), (AVal.int .i64 x3), (AVal.sl f4 0 l5)]), (AVal.agg [(AVal.int .i64 x6), (AVal.int .i64 x7), (AVal.int .i64 x8), (AVal.int .i64 x9), (AVal.sl f10 0 l11)])] h =
  (runK (evFn Cw d 23 [(AVal.agg [(AVal.int .i64 x0), (AVal.int .i64 x1), (AVal.int .i64 x2), (AVal.int .i64 x3), (AVal.sl f4 0 l5)]), (AVal.agg [(AVal.int .i64 x6), (AVal.int .i64 x7), (AVal.int .i64 x8), (AVal.int .i64 x9), (AVal.sl f10 0 l11)])] h) fun r1 h1 =>
    (consK r1 fun w2 ws3 =>
      (boolK w2 fun bb4 =>
        (nilK ws3
          (runK (evFn Cw d 24 [(AVal.agg [(AVal.int .i64 x0), (AVal.int .i64 x1), (AVal.int .i64 x2), (AVal.int .i64 x3), (AVal.sl f4 0 l5)]), (AVal.agg [(AVal.int .i64 x6), (AVal.int .i64 x7), (AVal.int .i64 x8), (AVal.int .i64 x9), (AVal.sl f10 0 l11)])] h1) fun r5 h5 =>
            (consK r5 fun w6 ws7 =>
              (boolK w6 fun bb8 =>
                (nilK ws7
                  (bif (bb4 == bb8) then
                    (runK (evFn Cw d 25 [] h5) fun r9 h9 =>
                      (consK r9 fun w10 ws11 =>
                        (boolK w10 fun bb12 =>
                          (nilK ws11
                            (Tr.ret ([(AVal.bool bb12)], h9))))))
                  else
                    (Tr.ret ([(AVal.bool false)], h5))))))))))) := by kernel_rfl
end Go.Proofs.Ythebimbdijkiiaa.Wa
