/- What the evaluator comes to in these functions. -/
import Derived.Test.YtfdkkhmaikgmcaaW0
import Derived.Test.YtfdkkhmaikgmcaaWvLb
import Derived.KernelRfl
namespace Go.Proofs.Ytfdkkhmaikgmcaa.Wa
open Go Go.Weave
set_option maxRecDepth 100000
set_option linter.unusedVariables false
/- f23 strandline/record.Same -/
theorem F23_eq (d : Nat) (x0 : Int) (x1 : Int) (x2 : Int) (x3 : Int) (f4 : Bool) (l5 : List AVal) (x6 : Int) (x7 : Int) (x8 : Int) (x9 : Int) (f10 : Bool) (l11 : List AVal) (h : Heap) : evFn Cw (d + 1) 23 [(AVal.agg [(AVal.int .i64 x0), (AVal.int .i64 x1), (AVal.int .i64 x2), (AVal.int .i64 x3), (AVal.sl f4 0 l5)]), (AVal.agg [(AVal.int .i64 x6), (AVal.int .i64 x7), (AVal.int .i64 x8), (AVal.int .i64 x9), (AVal.sl f10 0 l11)])] h =
  (bif ((x0 : Int) == x6) then
    (bif ((x1 : Int) == x7) then
      (bif ((x2 : Int) == x8) then
        (bif ((x3 : Int) == x9) then
          (optK (toBytes l5) fun ss1 =>
            (optK (toBytes l11) fun ss2 =>
              (Tr.ret ([(AVal.bool (ss1 == ss2))], h))))
        else
          (Tr.ret ([(AVal.bool false)], h)))
      else
        (Tr.ret ([(AVal.bool false)], h)))
    else
      (Tr.ret ([(AVal.bool false)], h)))
  else
    (Tr.ret ([(AVal.bool false)], h))) := by kernel_rfl
/- f15 strandline/strandlineref11.Same -/
theorem F15_eq (d : Nat) (x0 : Int) (x1 : Int) (x2 : Int) (x3 : Int) (f4 : Bool) (l5 : List AVal) (x6 : Int) (x7 : Int) (x8 : Int) (x9 : Int) (f10 : Bool) (l11 : List AVal) (h : Heap) : evFn Cw (d + 1) 15 [(AVal.agg [(AVal.int .i64 x0), (AVal.int .i64 x1), (AVal.int .i64 x2), (AVal.int .i64 x3), (AVal.sl f4 0 l5)]), (AVal.agg [(AVal.int .i64 x6), (AVal.int .i64 x7), (AVal.int .i64 x8), (AVal.int .i64 x9), (AVal.sl f10 0 l11)])] h =
  (bif ((x0 : Int) == x6) then
    (bif ((x1 : Int) == x7) then
      (bif ((x2 : Int) == x8) then
        (bif ((x3 : Int) == x9) then
          (optK (toBytes l5) fun ss1 =>
            (optK (toBytes l11) fun ss2 =>
              (Tr.ret ([(AVal.bool (ss1 == ss2))], h))))
        else
          (Tr.ret ([(AVal.bool false)], h)))
      else
        (Tr.ret ([(AVal.bool false)], h)))
    else
      (Tr.ret ([(AVal.bool false)], h)))
  else
    (Tr.ret ([(AVal.bool false)], h))) := by kernel_rfl
/- f21 strandline/record.Right -/
theorem F21_eq (d : Nat) (x0 : Int) (x1 : Int) (x2 : Int) (x3 : Int) (f4 : Bool) (l5 : List AVal) (h : Heap) : evFn Cw (d + 1) 21 [(AVal.agg [(AVal.int .i64 x0), (AVal.int .i64 x1), (AVal.int .i64 x2), (AVal.int .i64 x3), (AVal.sl f4 0 l5)])] h =
  (bif (decide ((x0 : Int) < 1)) then
    (Tr.ret ([(AVal.bool false)], h))
  else
    (bif (decide ((x0 : Int) > 9)) then
      (Tr.ret ([(AVal.bool false)], h))
    else
      (bif (decide ((x1 : Int) < 0)) then
        (Tr.ret ([(AVal.bool false)], h))
      else
        (bif (decide ((x1 : Int) ≥ 4)) then
          (Tr.ret ([(AVal.bool false)], h))
        else
          (bif (decide ((x2 : Int) < 1)) then
            (Tr.ret ([(AVal.bool false)], h))
          else
            (bif (decide ((x2 : Int) > 2147483647)) then
              (Tr.ret ([(AVal.bool false)], h))
            else
              (bif (decide ((x3 : Int) ≥ 0)) then (Tr.ret ([(AVal.bool (decide ((x3 : Int) < x2)))], h)) else (Tr.ret ([(AVal.bool false)], h))))))))) := by kernel_rfl
/- f25 strandline/record.Size -/
theorem F25_eq (d : Nat) (x0 : Int) (x1 : Int) (x2 : Int) (x3 : Int) (f4 : Bool) (l5 : List AVal) (h : Heap) : evFn Cw (d + 1) 25 [(AVal.agg [(AVal.int .i64 x0), (AVal.int .i64 x1), (AVal.int .i64 x2), (AVal.int .i64 x3), (AVal.sl f4 0 l5)])] h =
  (runK (evFn Cw d 21 [(AVal.agg [(AVal.int .i64 x0), (AVal.int .i64 x1), (AVal.int .i64 x2), (AVal.int .i64 x3), (AVal.sl f4 0 l5)])] h) fun r1 h1 =>
    (consK r1 fun w2 ws3 =>
      (boolK w2 fun bb4 =>
        (nilK ws3
          (bif (!bb4) then
            (Tr.ret ([(AVal.int .i64 0)], h1))
          else
            (runK (evFn Cw d 75 [(AVal.int .u64 (IntKind.u64.wrap x2))] h1) fun r5 h5 =>
              (consK r5 fun w6 ws7 =>
                (intK .i64 w6 fun y8 =>
                  (nilK ws7
                    (runK (evFn Cw d 75 [(AVal.int .u64 (IntKind.u64.wrap (IntKind.i64.wrap (x2 - x3))))] h5) fun r9 h9 =>
                      (consK r9 fun w10 ws11 =>
                        (intK .i64 w10 fun y12 =>
                          (nilK ws11
                            (Tr.ret ([(AVal.int .i64 (IntKind.i64.wrap ((IntKind.i64.wrap ((IntKind.i64.wrap (2 + y8)) + y12)) + (l5.length : Int))))], h9))))))))))))))) := by kernel_rfl
/- f18 strandline/record.Encode -/
theorem F18_eq (d : Nat) (x0 : Int) (x1 : Int) (x2 : Int) (x3 : Int) (f4 : Bool) (l5 : List AVal) (h : Heap) : evFn Cw (d + 1) 18 [(AVal.agg [(AVal.int .i64 x0), (AVal.int .i64 x1), (AVal.int .i64 x2), (AVal.int .i64 x3), (AVal.sl f4 0 l5)])] h =
  (runK (evFn Cw d 21 [(AVal.agg [(AVal.int .i64 x0), (AVal.int .i64 x1), (AVal.int .i64 x2), (AVal.int .i64 x3), (AVal.sl f4 0 l5)])] h) fun r1 h1 =>
    (consK r1 fun w2 ws3 =>
      (boolK w2 fun bb4 =>
        (nilK ws3
          (bif (!bb4) then
            (Tr.ret ([(AVal.sl true 0 []), (AVal.int .i64 13)], h1))
          else
            (runK (evFn Cw d 25 [(AVal.agg [(AVal.int .i64 x0), (AVal.int .i64 x1), (AVal.int .i64 x2), (AVal.int .i64 x3), (AVal.sl f4 0 l5)])] h1) fun r5 h5 =>
              (consK r5 fun w6 ws7 =>
                (intK .i64 w6 fun y8 =>
                  (nilK ws7
                    (bif (decide ((y8 : Int) > 512)) then
                      (Tr.ret ([(AVal.sl true 0 []), (AVal.int .i64 5)], h5))
                    else
                      (runK (evFn Cw d 73 [(AVal.sl true 0 [(AVal.int .u8 (IntKind.u8.wrap x0)), (AVal.int .u8 (IntKind.u8.wrap x1))]), (AVal.int .u64 (IntKind.u64.wrap x2))] h5) fun r9 h9 =>
                        (consK r9 fun w10 ws11 =>
                          (slOK 0 w10 fun es12 =>
                            (nilK ws11
                              (runK (evFn Cw d 73 [(AVal.sl false 0 es12), (AVal.int .u64 (IntKind.u64.wrap (IntKind.i64.wrap (x2 - x3))))] h9) fun r13 h13 =>
                                (consK r13 fun w14 ws15 =>
                                  (slOK 0 w14 fun es16 =>
                                    (nilK ws15
                                      (bif decide ((es16.length + l5.length) * 1 ≤ 140737488355328) then (Tr.ret ([(AVal.sl false 0 (es16 ++ l5)), (AVal.int .i64 0)], h13)) else Tr.fail))))))))))))))))))) := by kernel_rfl
/- f19 strandline/strandlinelaw11.awake -/
theorem F19_eq (d : Nat) (h : Heap) : evFn Cw (d + 1) 19 [] h =
  (runK (evFn Cw d 18 [(AVal.agg [(AVal.int .i64 1), (AVal.int .i64 0), (AVal.int .i64 1), (AVal.int .i64 0), (AVal.sl true 0 [])])] h) fun r1 h1 =>
    (consK r1 fun w2 ws3 =>
      (slOK 0 w2 fun es4 =>
        (consK ws3 fun w5 ws6 =>
          (intK .i64 w5 fun y7 =>
            (nilK ws6
              (bif ((y7 : Int) == 0) then
                (optK (toBytes es4) fun ss8 =>
                  (Tr.ret ([(AVal.bool (ss8 == [1, 0, 1, 1]))], h1)))
              else
                (Tr.ret ([(AVal.bool false)], h1))))))))) := by kernel_rfl
/- f22 strandline/strandlineref11.Right -/
theorem F22_eq (d : Nat) (x0 : Int) (x1 : Int) (x2 : Int) (x3 : Int) (f4 : Bool) (l5 : List AVal) (h : Heap) : evFn Cw (d + 1) 22 [(AVal.agg [(AVal.int .i64 x0), (AVal.int .i64 x1), (AVal.int .i64 x2), (AVal.int .i64 x3), (AVal.sl f4 0 l5)])] h =
  (bif (decide ((x0 : Int) ≥ 1)) then
    (bif (decide ((x0 : Int) ≤ 9)) then
      (bif (decide ((x1 : Int) ≥ 0)) then
        (bif (decide ((x1 : Int) ≤ 3)) then
          (bif (decide ((x2 : Int) ≥ 1)) then
            (bif (decide ((x2 : Int) ≤ 2147483647)) then
              (bif (decide ((x3 : Int) ≥ 0)) then (Tr.ret ([(AVal.bool (decide ((x3 : Int) < x2)))], h)) else (Tr.ret ([(AVal.bool false)], h)))
            else
              (Tr.ret ([(AVal.bool false)], h)))
          else
            (Tr.ret ([(AVal.bool false)], h)))
        else
          (Tr.ret ([(AVal.bool false)], h)))
      else
        (Tr.ret ([(AVal.bool false)], h)))
    else
      (Tr.ret ([(AVal.bool false)], h)))
  else
    (Tr.ret ([(AVal.bool false)], h))) := by kernel_rfl
/- f24 strandline/strandlineref11.Bytes -/
theorem F24_eq (d : Nat) (x0 : Int) (x1 : Int) (x2 : Int) (x3 : Int) (f4 : Bool) (l5 : List AVal) (h : Heap) : evFn Cw (d + 1) 24 [(AVal.agg [(AVal.int .i64 x0), (AVal.int .i64 x1), (AVal.int .i64 x2), (AVal.int .i64 x3), (AVal.sl f4 0 l5)])] h =
  (runK (evFn Cw d 74 [(AVal.sl true 0 [(AVal.int .u8 (IntKind.u8.wrap x0)), (AVal.int .u8 (IntKind.u8.wrap x1))]), (AVal.int .u64 (IntKind.u64.wrap x2))] h) fun r1 h1 =>
    (consK r1 fun w2 ws3 =>
      (slOK 0 w2 fun es4 =>
        (nilK ws3
          (runK (evFn Cw d 74 [(AVal.sl false 0 es4), (AVal.int .u64 (IntKind.u64.wrap (IntKind.i64.wrap (x2 - x3))))] h1) fun r5 h5 =>
            (consK r5 fun w6 ws7 =>
              (slOK 0 w6 fun es8 =>
                (nilK ws7
                  (bif decide ((es8.length + l5.length) * 1 ≤ 140737488355328) then (Tr.ret ([(AVal.sl false 0 (es8 ++ l5))], h5)) else Tr.fail))))))))) := by kernel_rfl
/- f20 strandline/strandlineref11.Encode -/
theorem F20_eq (d : Nat) (x0 : Int) (x1 : Int) (x2 : Int) (x3 : Int) (f4 : Bool) (l5 : List AVal) (h : Heap) : evFn Cw (d + 1) 20 [(AVal.agg [(AVal.int .i64 x0), (AVal.int .i64 x1), (AVal.int .i64 x2), (AVal.int .i64 x3), (AVal.sl f4 0 l5)])] h =
  (runK (evFn Cw d 22 [(AVal.agg [(AVal.int .i64 x0), (AVal.int .i64 x1), (AVal.int .i64 x2), (AVal.int .i64 x3), (AVal.sl f4 0 l5)])] h) fun r1 h1 =>
    (consK r1 fun w2 ws3 =>
      (boolK w2 fun bb4 =>
        (nilK ws3
          (bif (!bb4) then
            (Tr.ret ([(AVal.sl true 0 []), (AVal.int .i64 13)], h1))
          else
            (runK (evFn Cw d 24 [(AVal.agg [(AVal.int .i64 x0), (AVal.int .i64 x1), (AVal.int .i64 x2), (AVal.int .i64 x3), (AVal.sl f4 0 l5)])] h1) fun r5 h5 =>
              (consK r5 fun w6 ws7 =>
                (slOK 0 w6 fun es8 =>
                  (nilK ws7
                    (bif (decide (((es8.length : Int) : Int) > 512)) then
                      (Tr.ret ([(AVal.sl true 0 []), (AVal.int .i64 5)], h5))
                    else
                      (runK (evFn Cw d 24 [(AVal.agg [(AVal.int .i64 x0), (AVal.int .i64 x1), (AVal.int .i64 x2), (AVal.int .i64 x3), (AVal.sl f4 0 l5)])] h5) fun r9 h9 =>
                        (consK r9 fun w10 ws11 =>
                          (slOK 0 w10 fun es12 =>
                            (nilK ws11
                              (Tr.ret ([(AVal.sl false 0 es12), (AVal.int .i64 0)], h9)))))))))))))))) := by kernel_rfl
/- f71 strandline/record.number -/
theorem F71_eq (d : Nat) (f0 : Bool) (l1 : List AVal) (h : Heap) : evFn Cw (d + 1) 71 [(AVal.sl f0 0 l1)] h =
  (runK (evFn Cw d 78 [(AVal.sl f0 0 l1)] h) fun r1 h1 =>
    (consK r1 fun w2 ws3 =>
      (intK .u64 w2 fun y4 =>
        (consK ws3 fun w5 ws6 =>
          (intK .i64 w5 fun y7 =>
            (consK ws6 fun w8 ws9 =>
              (intK .i64 w8 fun y10 =>
                (nilK ws9
                  (bif ((y10 : Int) != 0) then
                    (Tr.ret ([(AVal.int .i64 0), (AVal.sl true 0 []), (AVal.int .i64 y10)], h1))
                  else
                    (bif ((decide ((0 : Int) ≤ y7) && decide ((y7 : Int) ≤ (l1.length : Int))) && decide (((l1.length : Int) : Int) ≤ (l1.length : Int))) then
                      (Tr.ret ([(AVal.int .i64 (IntKind.i64.wrap (if (2147483648 : Int) < y4 then 2147483648 else y4))), (AVal.sl f0 0 (Go.Weave.part y7 (l1.length : Int) l1)), (AVal.int .i64 0)], h1))
                    else
                      Tr.fail)))))))))) := by kernel_rfl
/- f16 strandline/record.Decode -/
noncomputable def P16_0 (d : Nat) (f0 : Bool) (l1 : List AVal) (x2 : Int) (x3 : Int) (x4 : Int) (x5 : Int) (l6 : List AVal) (x7 : Int) (x8 : Int) (x9 : Int) (x10 : Int) (l11 : List AVal) (h : Heap) : Tr Res :=
  heldPt Cw d 16 [true, true, true] [] ⟨[(0, (EV.one (SV.val (AVal.sl f0 0 l1)))), (2, (EV.one (SV.loc 2 0))), (4, (EV.one (SV.loc 4 0)))], [(2, (Box.plain [(AVal.int .i64 x2), (AVal.int .i64 x3), (AVal.int .i64 x4), (AVal.int .i64 x5), (AVal.sl true 0 l6)])), (4, (Box.plain [(AVal.int .i64 x7), (AVal.int .i64 x8), (AVal.int .i64 x9), (AVal.int .i64 x10), (AVal.sl true 0 l11)]))]⟩ h
theorem P16_0_eq (d : Nat) (f0 : Bool) (l1 : List AVal) (x2 : Int) (x3 : Int) (x4 : Int) (x5 : Int) (l6 : List AVal) (x7 : Int) (x8 : Int) (x9 : Int) (x10 : Int) (l11 : List AVal) (h : Heap) : P16_0 d f0 l1 x2 x3 x4 x5 l6 x7 x8 x9 x10 l11 h =
  (bif (decide ((2 : Int) ≤ (l1.length : Int)) && decide (((l1.length : Int) : Int) ≤ (l1.length : Int))) then
    (runK (evFn Cw d 71 [(AVal.sl f0 0 (Go.Weave.part 2 (l1.length : Int) l1))] h) fun r1 h1 =>
      (consK r1 fun w2 ws3 =>
        (intK .i64 w2 fun y4 =>
          (consK ws3 fun w5 ws6 =>
            (slK 0 w5 fun fl7 es8 =>
              (consK ws6 fun w9 ws10 =>
                (intK .i64 w9 fun y11 =>
                  (nilK ws10
                    (bif ((y11 : Int) != 0) then
                      (Tr.ret ([(AVal.agg [(AVal.int .i64 0), (AVal.int .i64 0), (AVal.int .i64 0), (AVal.int .i64 0), (AVal.sl true 0 [])]), (AVal.int .i64 y11)], h1))
                    else
                      (runK (evFn Cw d 71 [(AVal.sl fl7 0 es8)] h1) fun r12 h12 =>
                        (consK r12 fun w13 ws14 =>
                          (intK .i64 w13 fun y15 =>
                            (consK ws14 fun w16 ws17 =>
                              (slK 0 w16 fun fl18 es19 =>
                                (consK ws17 fun w20 ws21 =>
                                  (intK .i64 w20 fun y22 =>
                                    (nilK ws21
                                      (bif ((y22 : Int) != 0) then
                                        (Tr.ret ([(AVal.agg [(AVal.int .i64 0), (AVal.int .i64 0), (AVal.int .i64 0), (AVal.int .i64 0), (AVal.sl true 0 [])]), (AVal.int .i64 y22)], h12))
                                      else
                                        (bif decide (((0 : Nat) + es19.length) * 1 ≤ 140737488355328) then
                                          (runK (evFn Cw d 21 [(AVal.agg [(AVal.int .i64 x7), (AVal.int .i64 x8), (AVal.int .i64 y4), (AVal.int .i64 (IntKind.i64.wrap (y4 - y15))), (AVal.sl false 0 ([] ++ es19))])] h12) fun r23 h23 =>
                                            (consK r23 fun w24 ws25 =>
                                              (boolK w24 fun bb26 =>
                                                (nilK ws25
                                                  (bif (!bb26) then
                                                    (Tr.ret ([(AVal.agg [(AVal.int .i64 0), (AVal.int .i64 0), (AVal.int .i64 0), (AVal.int .i64 0), (AVal.sl true 0 [])]), (AVal.int .i64 2)], h23))
                                                  else
                                                    (Tr.ret ([(AVal.agg [(AVal.int .i64 x7), (AVal.int .i64 x8), (AVal.int .i64 y4), (AVal.int .i64 (IntKind.i64.wrap (y4 - y15))), (AVal.sl false 0 ([] ++ es19))]), (AVal.int .i64 0)], h23)))))))
                                        else
                                          Tr.fail)))))))))))))))))))
  else
    Tr.fail) := (heldPt_eq _ _ _ _ _ _ _).trans (by kernel_rfl)
theorem F16_eq (d : Nat) (f0 : Bool) (l1 : List AVal) (h : Heap) : evFn Cw (d + 1) 16 [(AVal.sl f0 0 l1)] h =
  (bif (decide (((l1.length : Int) : Int) > 512)) then
    (Tr.ret ([(AVal.agg [(AVal.int .i64 0), (AVal.int .i64 0), (AVal.int .i64 0), (AVal.int .i64 0), (AVal.sl true 0 [])]), (AVal.int .i64 5)], h))
  else
    (bif (decide (((l1.length : Int) : Int) < 2)) then
      (Tr.ret ([(AVal.agg [(AVal.int .i64 0), (AVal.int .i64 0), (AVal.int .i64 0), (AVal.int .i64 0), (AVal.sl true 0 [])]), (AVal.int .i64 1)], h))
    else
      (bif decide ((0 : Int) < (l1.length : Int)) then
        (bif decide ((1 : Int) < (l1.length : Int)) then
          (Tr.anyL [
            (intK .u8 (l1.getD 0 AVal.undef) fun y1 =>
              (sameL 2
                (intK .u8 (l1.getD 1 AVal.undef) fun y2 =>
                  (P16_0 d f0 l1 0 0 0 0 [] (IntKind.i64.wrap y1) (IntKind.i64.wrap y2) 0 0 [] h)))),
            (intK .u8 (l1.getD 1 AVal.undef) fun y1 =>
              (sameL 2
                (intK .u8 (l1.getD 0 AVal.undef) fun y2 =>
                  (P16_0 d f0 l1 0 0 0 0 [] (IntKind.i64.wrap y2) (IntKind.i64.wrap y1) 0 0 [] h)))),
            (intK .u8 (l1.getD 0 AVal.undef) fun y1 =>
              (intK .u8 (l1.getD 1 AVal.undef) fun y2 =>
                (P16_0 d f0 l1 0 0 0 0 [] (IntKind.i64.wrap y1) (IntKind.i64.wrap y2) 0 0 [] h)))])
        else
          Tr.fail)
      else
        Tr.fail))) := by kernel_rfl
/- f17 strandline/strandlineref11.Decode -/
noncomputable def P17_0 (d : Nat) (f0 : Bool) (l1 : List AVal) (x2 : Int) (x3 : Int) (x4 : Int) (x5 : Int) (x6 : Int) (x7 : Int) (x8 : Int) (x9 : Int) (l10 : List AVal) (h : Heap) : Tr Res :=
  heldPt Cw d 17 [true, true, true, true, true, true, true, true] [] ⟨[(0, (EV.one (SV.val (AVal.sl f0 0 l1)))), (2, (EV.one (SV.loc 2 0))), (4, (EV.one (SV.val (AVal.int .u64 x2)))), (5, (EV.one (SV.val (AVal.int .i64 x3)))), (7, (EV.one (SV.val (AVal.int .u64 x4)))), (8, (EV.one (SV.val (AVal.int .i64 x5))))], [(2, (Box.plain [(AVal.int .i64 x6), (AVal.int .i64 x7), (AVal.int .i64 x8), (AVal.int .i64 x9), (AVal.sl true 0 l10)]))]⟩ h
noncomputable def P17_1 (d : Nat) (x0 : Int) (x1 : Int) (x2 : Int) (x3 : Int) (l4 : List AVal) (x5 : Int) (x6 : Int) (x7 : Int) (x8 : Int) (l9 : List AVal) (h : Heap) : Tr Res :=
  heldPt Cw d 17 [true, true, true, true, true, true, true, true, true] [] ⟨[(2, (EV.one (SV.loc 2 0))), (9, (EV.one (SV.loc 9 0)))], [(2, (Box.plain [(AVal.int .i64 x0), (AVal.int .i64 x1), (AVal.int .i64 x2), (AVal.int .i64 x3), (AVal.sl true 0 l4)])), (9, (Box.plain [(AVal.int .i64 x5), (AVal.int .i64 x6), (AVal.int .i64 x7), (AVal.int .i64 x8), (AVal.sl false 0 l9)]))]⟩ h
theorem P17_0_eq (d : Nat) (f0 : Bool) (l1 : List AVal) (x2 : Int) (x3 : Int) (x4 : Int) (x5 : Int) (x6 : Int) (x7 : Int) (x8 : Int) (x9 : Int) (l10 : List AVal) (h : Heap) : P17_0 d f0 l1 x2 x3 x4 x5 x6 x7 x8 x9 l10 h =
  (bif decide ((0 : Int) < (l1.length : Int)) then
    (bif decide ((1 : Int) < (l1.length : Int)) then
      (bif ((decide ((0 : Int) ≤ (IntKind.i64.wrap ((IntKind.i64.wrap (2 + x3)) + x5))) && decide (((IntKind.i64.wrap ((IntKind.i64.wrap (2 + x3)) + x5)) : Int) ≤ (l1.length : Int))) && decide (((l1.length : Int) : Int) ≤ (l1.length : Int))) then
        (Tr.anyL [
          (intK .u8 (l1.getD 0 AVal.undef) fun y1 =>
            (Tr.anyL [
              (intK .u8 (l1.getD 1 AVal.undef) fun y2 =>
                (Tr.anyL [
                  (sameL 2
                    (bif decide (((0 : Nat) + (Go.Weave.part (IntKind.i64.wrap ((IntKind.i64.wrap (2 + x3)) + x5)) (l1.length : Int) l1).length) * 1 ≤ 140737488355328) then
                      (P17_1 d x6 x7 x8 x9 l10 (IntKind.i64.wrap y1) (IntKind.i64.wrap y2) (IntKind.i64.wrap x2) (IntKind.i64.wrap (IntKind.u64.wrap (x2 - x4))) ([] ++ (Go.Weave.part (IntKind.i64.wrap ((IntKind.i64.wrap (2 + x3)) + x5)) (l1.length : Int) l1)) h)
                    else
                      Tr.fail)),
                  (bif decide (((0 : Nat) + (Go.Weave.part (IntKind.i64.wrap ((IntKind.i64.wrap (2 + x3)) + x5)) (l1.length : Int) l1).length) * 1 ≤ 140737488355328) then
                    (P17_1 d x6 x7 x8 x9 l10 (IntKind.i64.wrap y1) (IntKind.i64.wrap y2) (IntKind.i64.wrap x2) (IntKind.i64.wrap (IntKind.u64.wrap (x2 - x4))) ([] ++ (Go.Weave.part (IntKind.i64.wrap ((IntKind.i64.wrap (2 + x3)) + x5)) (l1.length : Int) l1)) h)
                  else
                    Tr.fail)])),
              (Tr.anyL [
                (intK .u8 (l1.getD 1 AVal.undef) fun y2 =>
                  (sameL 2
                    (bif decide (((0 : Nat) + (Go.Weave.part (IntKind.i64.wrap ((IntKind.i64.wrap (2 + x3)) + x5)) (l1.length : Int) l1).length) * 1 ≤ 140737488355328) then
                      (P17_1 d x6 x7 x8 x9 l10 (IntKind.i64.wrap y1) (IntKind.i64.wrap y2) (IntKind.i64.wrap x2) (IntKind.i64.wrap (IntKind.u64.wrap (x2 - x4))) ([] ++ (Go.Weave.part (IntKind.i64.wrap ((IntKind.i64.wrap (2 + x3)) + x5)) (l1.length : Int) l1)) h)
                    else
                      Tr.fail))),
                (bif decide (((0 : Nat) + (Go.Weave.part (IntKind.i64.wrap ((IntKind.i64.wrap (2 + x3)) + x5)) (l1.length : Int) l1).length) * 1 ≤ 140737488355328) then
                  (sameL 2
                    (intK .u8 (l1.getD 1 AVal.undef) fun y2 =>
                      (P17_1 d x6 x7 x8 x9 l10 (IntKind.i64.wrap y1) (IntKind.i64.wrap y2) (IntKind.i64.wrap x2) (IntKind.i64.wrap (IntKind.u64.wrap (x2 - x4))) ([] ++ (Go.Weave.part (IntKind.i64.wrap ((IntKind.i64.wrap (2 + x3)) + x5)) (l1.length : Int) l1)) h)))
                else
                  Tr.fail),
                (intK .u8 (l1.getD 1 AVal.undef) fun y2 =>
                  (bif decide (((0 : Nat) + (Go.Weave.part (IntKind.i64.wrap ((IntKind.i64.wrap (2 + x3)) + x5)) (l1.length : Int) l1).length) * 1 ≤ 140737488355328) then
                    (P17_1 d x6 x7 x8 x9 l10 (IntKind.i64.wrap y1) (IntKind.i64.wrap y2) (IntKind.i64.wrap x2) (IntKind.i64.wrap (IntKind.u64.wrap (x2 - x4))) ([] ++ (Go.Weave.part (IntKind.i64.wrap ((IntKind.i64.wrap (2 + x3)) + x5)) (l1.length : Int) l1)) h)
                  else
                    Tr.fail))]),
              (intK .u8 (l1.getD 1 AVal.undef) fun y2 =>
                (bif decide (((0 : Nat) + (Go.Weave.part (IntKind.i64.wrap ((IntKind.i64.wrap (2 + x3)) + x5)) (l1.length : Int) l1).length) * 1 ≤ 140737488355328) then
                  (P17_1 d x6 x7 x8 x9 l10 (IntKind.i64.wrap y1) (IntKind.i64.wrap y2) (IntKind.i64.wrap x2) (IntKind.i64.wrap (IntKind.u64.wrap (x2 - x4))) ([] ++ (Go.Weave.part (IntKind.i64.wrap ((IntKind.i64.wrap (2 + x3)) + x5)) (l1.length : Int) l1)) h)
                else
                  Tr.fail))])),
          (intK .u8 (l1.getD 1 AVal.undef) fun y1 =>
            (Tr.anyL [
              (intK .u8 (l1.getD 0 AVal.undef) fun y2 =>
                (Tr.anyL [
                  (sameL 2
                    (bif decide (((0 : Nat) + (Go.Weave.part (IntKind.i64.wrap ((IntKind.i64.wrap (2 + x3)) + x5)) (l1.length : Int) l1).length) * 1 ≤ 140737488355328) then
                      (P17_1 d x6 x7 x8 x9 l10 (IntKind.i64.wrap y2) (IntKind.i64.wrap y1) (IntKind.i64.wrap x2) (IntKind.i64.wrap (IntKind.u64.wrap (x2 - x4))) ([] ++ (Go.Weave.part (IntKind.i64.wrap ((IntKind.i64.wrap (2 + x3)) + x5)) (l1.length : Int) l1)) h)
                    else
                      Tr.fail)),
                  (bif decide (((0 : Nat) + (Go.Weave.part (IntKind.i64.wrap ((IntKind.i64.wrap (2 + x3)) + x5)) (l1.length : Int) l1).length) * 1 ≤ 140737488355328) then
                    (P17_1 d x6 x7 x8 x9 l10 (IntKind.i64.wrap y2) (IntKind.i64.wrap y1) (IntKind.i64.wrap x2) (IntKind.i64.wrap (IntKind.u64.wrap (x2 - x4))) ([] ++ (Go.Weave.part (IntKind.i64.wrap ((IntKind.i64.wrap (2 + x3)) + x5)) (l1.length : Int) l1)) h)
                  else
                    Tr.fail)])),
              (Tr.anyL [
                (intK .u8 (l1.getD 0 AVal.undef) fun y2 =>
                  (sameL 2
                    (bif decide (((0 : Nat) + (Go.Weave.part (IntKind.i64.wrap ((IntKind.i64.wrap (2 + x3)) + x5)) (l1.length : Int) l1).length) * 1 ≤ 140737488355328) then
                      (P17_1 d x6 x7 x8 x9 l10 (IntKind.i64.wrap y2) (IntKind.i64.wrap y1) (IntKind.i64.wrap x2) (IntKind.i64.wrap (IntKind.u64.wrap (x2 - x4))) ([] ++ (Go.Weave.part (IntKind.i64.wrap ((IntKind.i64.wrap (2 + x3)) + x5)) (l1.length : Int) l1)) h)
                    else
                      Tr.fail))),
                (bif decide (((0 : Nat) + (Go.Weave.part (IntKind.i64.wrap ((IntKind.i64.wrap (2 + x3)) + x5)) (l1.length : Int) l1).length) * 1 ≤ 140737488355328) then
                  (sameL 2
                    (intK .u8 (l1.getD 0 AVal.undef) fun y2 =>
                      (P17_1 d x6 x7 x8 x9 l10 (IntKind.i64.wrap y2) (IntKind.i64.wrap y1) (IntKind.i64.wrap x2) (IntKind.i64.wrap (IntKind.u64.wrap (x2 - x4))) ([] ++ (Go.Weave.part (IntKind.i64.wrap ((IntKind.i64.wrap (2 + x3)) + x5)) (l1.length : Int) l1)) h)))
                else
                  Tr.fail),
                (intK .u8 (l1.getD 0 AVal.undef) fun y2 =>
                  (bif decide (((0 : Nat) + (Go.Weave.part (IntKind.i64.wrap ((IntKind.i64.wrap (2 + x3)) + x5)) (l1.length : Int) l1).length) * 1 ≤ 140737488355328) then
                    (P17_1 d x6 x7 x8 x9 l10 (IntKind.i64.wrap y2) (IntKind.i64.wrap y1) (IntKind.i64.wrap x2) (IntKind.i64.wrap (IntKind.u64.wrap (x2 - x4))) ([] ++ (Go.Weave.part (IntKind.i64.wrap ((IntKind.i64.wrap (2 + x3)) + x5)) (l1.length : Int) l1)) h)
                  else
                    Tr.fail))]),
              (intK .u8 (l1.getD 0 AVal.undef) fun y2 =>
                (bif decide (((0 : Nat) + (Go.Weave.part (IntKind.i64.wrap ((IntKind.i64.wrap (2 + x3)) + x5)) (l1.length : Int) l1).length) * 1 ≤ 140737488355328) then
                  (P17_1 d x6 x7 x8 x9 l10 (IntKind.i64.wrap y2) (IntKind.i64.wrap y1) (IntKind.i64.wrap x2) (IntKind.i64.wrap (IntKind.u64.wrap (x2 - x4))) ([] ++ (Go.Weave.part (IntKind.i64.wrap ((IntKind.i64.wrap (2 + x3)) + x5)) (l1.length : Int) l1)) h)
                else
                  Tr.fail))])),
          (Tr.anyL [
            (intK .u8 (l1.getD 0 AVal.undef) fun y1 =>
              (Tr.anyL [
                (intK .u8 (l1.getD 1 AVal.undef) fun y2 =>
                  (sameL 2
                    (bif decide (((0 : Nat) + (Go.Weave.part (IntKind.i64.wrap ((IntKind.i64.wrap (2 + x3)) + x5)) (l1.length : Int) l1).length) * 1 ≤ 140737488355328) then
                      (P17_1 d x6 x7 x8 x9 l10 (IntKind.i64.wrap y1) (IntKind.i64.wrap y2) (IntKind.i64.wrap x2) (IntKind.i64.wrap (IntKind.u64.wrap (x2 - x4))) ([] ++ (Go.Weave.part (IntKind.i64.wrap ((IntKind.i64.wrap (2 + x3)) + x5)) (l1.length : Int) l1)) h)
                    else
                      Tr.fail))),
                (bif decide (((0 : Nat) + (Go.Weave.part (IntKind.i64.wrap ((IntKind.i64.wrap (2 + x3)) + x5)) (l1.length : Int) l1).length) * 1 ≤ 140737488355328) then
                  (sameL 2
                    (intK .u8 (l1.getD 1 AVal.undef) fun y2 =>
                      (P17_1 d x6 x7 x8 x9 l10 (IntKind.i64.wrap y1) (IntKind.i64.wrap y2) (IntKind.i64.wrap x2) (IntKind.i64.wrap (IntKind.u64.wrap (x2 - x4))) ([] ++ (Go.Weave.part (IntKind.i64.wrap ((IntKind.i64.wrap (2 + x3)) + x5)) (l1.length : Int) l1)) h)))
                else
                  Tr.fail),
                (intK .u8 (l1.getD 1 AVal.undef) fun y2 =>
                  (bif decide (((0 : Nat) + (Go.Weave.part (IntKind.i64.wrap ((IntKind.i64.wrap (2 + x3)) + x5)) (l1.length : Int) l1).length) * 1 ≤ 140737488355328) then
                    (P17_1 d x6 x7 x8 x9 l10 (IntKind.i64.wrap y1) (IntKind.i64.wrap y2) (IntKind.i64.wrap x2) (IntKind.i64.wrap (IntKind.u64.wrap (x2 - x4))) ([] ++ (Go.Weave.part (IntKind.i64.wrap ((IntKind.i64.wrap (2 + x3)) + x5)) (l1.length : Int) l1)) h)
                  else
                    Tr.fail))])),
            (intK .u8 (l1.getD 1 AVal.undef) fun y1 =>
              (Tr.anyL [
                (intK .u8 (l1.getD 0 AVal.undef) fun y2 =>
                  (sameL 2
                    (bif decide (((0 : Nat) + (Go.Weave.part (IntKind.i64.wrap ((IntKind.i64.wrap (2 + x3)) + x5)) (l1.length : Int) l1).length) * 1 ≤ 140737488355328) then
                      (P17_1 d x6 x7 x8 x9 l10 (IntKind.i64.wrap y2) (IntKind.i64.wrap y1) (IntKind.i64.wrap x2) (IntKind.i64.wrap (IntKind.u64.wrap (x2 - x4))) ([] ++ (Go.Weave.part (IntKind.i64.wrap ((IntKind.i64.wrap (2 + x3)) + x5)) (l1.length : Int) l1)) h)
                    else
                      Tr.fail))),
                (bif decide (((0 : Nat) + (Go.Weave.part (IntKind.i64.wrap ((IntKind.i64.wrap (2 + x3)) + x5)) (l1.length : Int) l1).length) * 1 ≤ 140737488355328) then
                  (sameL 2
                    (intK .u8 (l1.getD 0 AVal.undef) fun y2 =>
                      (P17_1 d x6 x7 x8 x9 l10 (IntKind.i64.wrap y2) (IntKind.i64.wrap y1) (IntKind.i64.wrap x2) (IntKind.i64.wrap (IntKind.u64.wrap (x2 - x4))) ([] ++ (Go.Weave.part (IntKind.i64.wrap ((IntKind.i64.wrap (2 + x3)) + x5)) (l1.length : Int) l1)) h)))
                else
                  Tr.fail),
                (intK .u8 (l1.getD 0 AVal.undef) fun y2 =>
                  (bif decide (((0 : Nat) + (Go.Weave.part (IntKind.i64.wrap ((IntKind.i64.wrap (2 + x3)) + x5)) (l1.length : Int) l1).length) * 1 ≤ 140737488355328) then
                    (P17_1 d x6 x7 x8 x9 l10 (IntKind.i64.wrap y2) (IntKind.i64.wrap y1) (IntKind.i64.wrap x2) (IntKind.i64.wrap (IntKind.u64.wrap (x2 - x4))) ([] ++ (Go.Weave.part (IntKind.i64.wrap ((IntKind.i64.wrap (2 + x3)) + x5)) (l1.length : Int) l1)) h)
                  else
                    Tr.fail))])),
            (bif decide (((0 : Nat) + (Go.Weave.part (IntKind.i64.wrap ((IntKind.i64.wrap (2 + x3)) + x5)) (l1.length : Int) l1).length) * 1 ≤ 140737488355328) then
              (Tr.anyL [
                (intK .u8 (l1.getD 0 AVal.undef) fun y1 =>
                  (sameL 2
                    (intK .u8 (l1.getD 1 AVal.undef) fun y2 =>
                      (P17_1 d x6 x7 x8 x9 l10 (IntKind.i64.wrap y1) (IntKind.i64.wrap y2) (IntKind.i64.wrap x2) (IntKind.i64.wrap (IntKind.u64.wrap (x2 - x4))) ([] ++ (Go.Weave.part (IntKind.i64.wrap ((IntKind.i64.wrap (2 + x3)) + x5)) (l1.length : Int) l1)) h)))),
                (intK .u8 (l1.getD 1 AVal.undef) fun y1 =>
                  (sameL 2
                    (intK .u8 (l1.getD 0 AVal.undef) fun y2 =>
                      (P17_1 d x6 x7 x8 x9 l10 (IntKind.i64.wrap y2) (IntKind.i64.wrap y1) (IntKind.i64.wrap x2) (IntKind.i64.wrap (IntKind.u64.wrap (x2 - x4))) ([] ++ (Go.Weave.part (IntKind.i64.wrap ((IntKind.i64.wrap (2 + x3)) + x5)) (l1.length : Int) l1)) h)))),
                (intK .u8 (l1.getD 0 AVal.undef) fun y1 =>
                  (intK .u8 (l1.getD 1 AVal.undef) fun y2 =>
                    (P17_1 d x6 x7 x8 x9 l10 (IntKind.i64.wrap y1) (IntKind.i64.wrap y2) (IntKind.i64.wrap x2) (IntKind.i64.wrap (IntKind.u64.wrap (x2 - x4))) ([] ++ (Go.Weave.part (IntKind.i64.wrap ((IntKind.i64.wrap (2 + x3)) + x5)) (l1.length : Int) l1)) h)))])
            else
              Tr.fail),
            (intK .u8 (l1.getD 0 AVal.undef) fun y1 =>
              (intK .u8 (l1.getD 1 AVal.undef) fun y2 =>
                (bif decide (((0 : Nat) + (Go.Weave.part (IntKind.i64.wrap ((IntKind.i64.wrap (2 + x3)) + x5)) (l1.length : Int) l1).length) * 1 ≤ 140737488355328) then
                  (P17_1 d x6 x7 x8 x9 l10 (IntKind.i64.wrap y1) (IntKind.i64.wrap y2) (IntKind.i64.wrap x2) (IntKind.i64.wrap (IntKind.u64.wrap (x2 - x4))) ([] ++ (Go.Weave.part (IntKind.i64.wrap ((IntKind.i64.wrap (2 + x3)) + x5)) (l1.length : Int) l1)) h)
                else
                  Tr.fail)))]),
          (intK .u8 (l1.getD 0 AVal.undef) fun y1 =>
            (intK .u8 (l1.getD 1 AVal.undef) fun y2 =>
              (bif decide (((0 : Nat) + (Go.Weave.part (IntKind.i64.wrap ((IntKind.i64.wrap (2 + x3)) + x5)) (l1.length : Int) l1).length) * 1 ≤ 140737488355328) then
                (P17_1 d x6 x7 x8 x9 l10 (IntKind.i64.wrap y1) (IntKind.i64.wrap y2) (IntKind.i64.wrap x2) (IntKind.i64.wrap (IntKind.u64.wrap (x2 - x4))) ([] ++ (Go.Weave.part (IntKind.i64.wrap ((IntKind.i64.wrap (2 + x3)) + x5)) (l1.length : Int) l1)) h)
              else
                Tr.fail)))])
      else
        Tr.fail)
    else
      Tr.fail)
  else
    Tr.fail) := (heldPt_eq _ _ _ _ _ _ _).trans (by kernel_rfl)
theorem P17_1_eq (d : Nat) (x0 : Int) (x1 : Int) (x2 : Int) (x3 : Int) (l4 : List AVal) (x5 : Int) (x6 : Int) (x7 : Int) (x8 : Int) (l9 : List AVal) (h : Heap) : P17_1 d x0 x1 x2 x3 l4 x5 x6 x7 x8 l9 h =
  (runK (evFn Cw d 22 [(AVal.agg [(AVal.int .i64 x5), (AVal.int .i64 x6), (AVal.int .i64 x7), (AVal.int .i64 x8), (AVal.sl false 0 l9)])] h) fun r1 h1 =>
    (consK r1 fun w2 ws3 =>
      (boolK w2 fun bb4 =>
        (nilK ws3
          (bif (!bb4) then
            (Tr.ret ([(AVal.agg [(AVal.int .i64 0), (AVal.int .i64 0), (AVal.int .i64 0), (AVal.int .i64 0), (AVal.sl true 0 [])]), (AVal.int .i64 2)], h1))
          else
            (Tr.ret ([(AVal.agg [(AVal.int .i64 x5), (AVal.int .i64 x6), (AVal.int .i64 x7), (AVal.int .i64 x8), (AVal.sl false 0 l9)]), (AVal.int .i64 0)], h1))))))) := (heldPt_eq _ _ _ _ _ _ _).trans (by kernel_rfl)
theorem F17_eq (d : Nat) (f0 : Bool) (l1 : List AVal) (h : Heap) : evFn Cw (d + 1) 17 [(AVal.sl f0 0 l1)] h =
  (bif (decide (((l1.length : Int) : Int) > 512)) then
    (Tr.ret ([(AVal.agg [(AVal.int .i64 0), (AVal.int .i64 0), (AVal.int .i64 0), (AVal.int .i64 0), (AVal.sl true 0 [])]), (AVal.int .i64 5)], h))
  else
    (bif (decide (((l1.length : Int) : Int) < 2)) then
      (Tr.ret ([(AVal.agg [(AVal.int .i64 0), (AVal.int .i64 0), (AVal.int .i64 0), (AVal.int .i64 0), (AVal.sl true 0 [])]), (AVal.int .i64 1)], h))
    else
      (bif (decide ((2 : Int) ≤ (l1.length : Int)) && decide (((l1.length : Int) : Int) ≤ (l1.length : Int))) then
        (runK (evFn Cw d 72 [(AVal.sl f0 0 (Go.Weave.part 2 (l1.length : Int) l1))] h) fun r1 h1 =>
          (consK r1 fun w2 ws3 =>
            (intK .u64 w2 fun y4 =>
              (consK ws3 fun w5 ws6 =>
                (intK .i64 w5 fun y7 =>
                  (consK ws6 fun w8 ws9 =>
                    (intK .i64 w8 fun y10 =>
                      (nilK ws9
                        (bif ((y10 : Int) != 0) then
                          (Tr.ret ([(AVal.agg [(AVal.int .i64 0), (AVal.int .i64 0), (AVal.int .i64 0), (AVal.int .i64 0), (AVal.sl true 0 [])]), (AVal.int .i64 y10)], h1))
                        else
                          (bif ((decide ((0 : Int) ≤ (IntKind.i64.wrap (2 + y7))) && decide (((IntKind.i64.wrap (2 + y7)) : Int) ≤ (l1.length : Int))) && decide (((l1.length : Int) : Int) ≤ (l1.length : Int))) then
                            (runK (evFn Cw d 72 [(AVal.sl f0 0 (Go.Weave.part (IntKind.i64.wrap (2 + y7)) (l1.length : Int) l1))] h1) fun r11 h11 =>
                              (consK r11 fun w12 ws13 =>
                                (intK .u64 w12 fun y14 =>
                                  (consK ws13 fun w15 ws16 =>
                                    (intK .i64 w15 fun y17 =>
                                      (consK ws16 fun w18 ws19 =>
                                        (intK .i64 w18 fun y20 =>
                                          (nilK ws19
                                            (bif ((y20 : Int) != 0) then
                                              (Tr.ret ([(AVal.agg [(AVal.int .i64 0), (AVal.int .i64 0), (AVal.int .i64 0), (AVal.int .i64 0), (AVal.sl true 0 [])]), (AVal.int .i64 y20)], h11))
                                            else
                                              (bif (decide ((y4 : Int) > 2147483647)) then
                                                (Tr.ret ([(AVal.agg [(AVal.int .i64 0), (AVal.int .i64 0), (AVal.int .i64 0), (AVal.int .i64 0), (AVal.sl true 0 [])]), (AVal.int .i64 2)], h11))
                                              else
                                                (bif (decide ((y14 : Int) > y4)) then
                                                  (Tr.ret ([(AVal.agg [(AVal.int .i64 0), (AVal.int .i64 0), (AVal.int .i64 0), (AVal.int .i64 0), (AVal.sl true 0 [])]), (AVal.int .i64 2)], h11))
                                                else
                                                  (bif ((y14 : Int) == 0) then
                                                    (Tr.ret ([(AVal.agg [(AVal.int .i64 0), (AVal.int .i64 0), (AVal.int .i64 0), (AVal.int .i64 0), (AVal.sl true 0 [])]), (AVal.int .i64 2)], h11))
                                                  else
                                                    (P17_0 d f0 l1 y4 y7 y14 y17 0 0 0 0 [] h11)))))))))))))
                          else
                            Tr.fail))))))))))
      else
        Tr.fail))) := by kernel_rfl
/- f4 strandline/strandlinelaw11.RecordDecodes -/
theorem F4_eq (d : Nat) (f0 : Bool) (l1 : List AVal) (h : Heap) : evFn Cw (d + 1) 4 [(AVal.sl f0 0 l1)] h =
  (runK (evFn Cw d 16 [(AVal.sl f0 0 l1)] h) fun r1 h1 =>
    (consK r1 fun w2 ws3 =>
      (aggK 5 w2 fun cc4 =>
        (consK ws3 fun w5 ws6 =>
          (intK .i64 w5 fun y7 =>
            (nilK ws6
              (bif ((cc4.length == 5) && true) then
                (runK (evFn Cw d 17 [(AVal.sl f0 0 l1)] h1) fun r8 h8 =>
                  (consK r8 fun w9 ws10 =>
                    (aggK 5 w9 fun cc11 =>
                      (consK ws10 fun w12 ws13 =>
                        (intK .i64 w12 fun y14 =>
                          (nilK ws13
                            (bif ((cc11.length == 5) && true) then
                              (bif decide (0 + 5 ≤ cc4.length) then
                                (bif decide (0 + 5 ≤ cc11.length) then
                                  (runK (evFn Cw d 15 [(AVal.agg ((cc4.drop 0).take 5)), (AVal.agg ((cc11.drop 0).take 5))] h8) fun r15 h15 =>
                                    (consK r15 fun w16 ws17 =>
                                      (boolK w16 fun bb18 =>
                                        (nilK ws17
                                          (bif (!bb18) then
                                            (Tr.ret ([(AVal.bool false)], h15))
                                          else
                                            (bif ((y7 : Int) != y14) then
                                              (Tr.ret ([(AVal.bool false)], h15))
                                            else
                                              (bif decide (0 + 5 ≤ cc4.length) then
                                                (runK (evFn Cw d 18 [(AVal.agg ((cc4.drop 0).take 5))] h15) fun r19 h19 =>
                                                  (consK r19 fun w20 ws21 =>
                                                    (slOK 0 w20 fun es22 =>
                                                      (consK ws21 fun w23 ws24 =>
                                                        (intK .i64 w23 fun y25 =>
                                                          (nilK ws24
                                                            (bif ((y7 : Int) != 0) then
                                                              (runK (evFn Cw d 19 [] h19) fun r26 h26 =>
                                                                (consK r26 fun w27 ws28 =>
                                                                  (boolK w27 fun bb29 =>
                                                                    (nilK ws28
                                                                      (Tr.ret ([(AVal.bool bb29)], h26))))))
                                                            else
                                                              (bif ((y25 : Int) == 0) then
                                                                (optK (toBytes es22) fun ss30 =>
                                                                  (optK (toBytes l1) fun ss31 =>
                                                                    (bif (ss30 == ss31) then
                                                                      (runK (evFn Cw d 19 [] h19) fun r32 h32 =>
                                                                        (consK r32 fun w33 ws34 =>
                                                                          (boolK w33 fun bb35 =>
                                                                            (nilK ws34
                                                                              (Tr.ret ([(AVal.bool bb35)], h32))))))
                                                                    else
                                                                      (Tr.ret ([(AVal.bool false)], h19)))))
                                                              else
                                                                (Tr.ret ([(AVal.bool false)], h19))))))))))
                                              else
                                                Tr.fail)))))))
                                else
                                  Tr.fail)
                              else
                                Tr.fail)
                            else
                              Tr.fail)))))))
              else
                Tr.fail))))))) := by kernel_rfl
/- f5 strandline/strandlinelaw11.RecordEncodes -/
noncomputable def P5_0 (d : Nat) (l0 : List AVal) (x1 : Int) (x2 : Int) (x3 : Int) (x4 : Int) (x5 : Int) (x6 : Int) (f7 : Bool) (l8 : List AVal) (h : Heap) : Tr Res :=
  heldPt Cw d 5 [true, true, true, true, true, true] [] ⟨[(1, (EV.one (SV.loc 1 0))), (3, (EV.one (SV.own (tokOf 3 0) 0 l0))), (4, (EV.one (SV.val (AVal.int .i64 x1)))), (7, (EV.one (SV.val (AVal.int .i64 x2))))], [(1, (Box.plain [(AVal.int .i64 x3), (AVal.int .i64 x4), (AVal.int .i64 x5), (AVal.int .i64 x6), (AVal.sl f7 0 l8)]))]⟩ h
theorem P5_0_eq (d : Nat) (l0 : List AVal) (x1 : Int) (x2 : Int) (x3 : Int) (x4 : Int) (x5 : Int) (x6 : Int) (f7 : Bool) (l8 : List AVal) (h : Heap) : P5_0 d l0 x1 x2 x3 x4 x5 x6 f7 l8 h =
  (runK (evFn Cw d 25 [(AVal.agg [(AVal.int .i64 x3), (AVal.int .i64 x4), (AVal.int .i64 x5), (AVal.int .i64 x6), (AVal.sl f7 0 l8)])] h) fun r1 h1 =>
    (consK r1 fun w2 ws3 =>
      (intK .i64 w2 fun y4 =>
        (nilK ws3
          (bif ((y4 : Int) != x2) then
            (Tr.ret ([(AVal.bool false)], h1))
          else
            (runK (evFn Cw d 16 [(AVal.sl false 0 l0)] h1) fun r5 h5 =>
              (consK r5 fun w6 ws7 =>
                (aggK 5 w6 fun cc8 =>
                  (consK ws7 fun w9 ws10 =>
                    (intK .i64 w9 fun y11 =>
                      (nilK ws10
                        (bif ((cc8.length == 5) && true) then
                          (bif ((x1 : Int) != 0) then
                            (runK (evFn Cw d 19 [] h5) fun r12 h12 =>
                              (consK r12 fun w13 ws14 =>
                                (boolK w13 fun bb15 =>
                                  (nilK ws14
                                    (Tr.ret ([(AVal.bool bb15)], h12))))))
                          else
                            (bif ((y11 : Int) == 0) then
                              (bif decide (0 + 5 ≤ cc8.length) then
                                (runK (evFn Cw d 15 [(AVal.agg ((cc8.drop 0).take 5)), (AVal.agg [(AVal.int .i64 x3), (AVal.int .i64 x4), (AVal.int .i64 x5), (AVal.int .i64 x6), (AVal.sl f7 0 l8)])] h5) fun r16 h16 =>
                                  (consK r16 fun w17 ws18 =>
                                    (boolK w17 fun bb19 =>
                                      (nilK ws18
                                        (bif bb19 then
                                          (runK (evFn Cw d 19 [] h16) fun r20 h20 =>
                                            (consK r20 fun w21 ws22 =>
                                              (boolK w21 fun bb23 =>
                                                (nilK ws22
                                                  (Tr.ret ([(AVal.bool bb23)], h20))))))
                                        else
                                          (Tr.ret ([(AVal.bool false)], h16)))))))
                              else
                                Tr.fail)
                            else
                              (Tr.ret ([(AVal.bool false)], h5))))
                        else
                          Tr.fail)))))))))))) := (heldPt_eq _ _ _ _ _ _ _).trans (by kernel_rfl)
theorem F5_eq (d : Nat) (x0 : Int) (x1 : Int) (x2 : Int) (x3 : Int) (f4 : Bool) (l5 : List AVal) (h : Heap) : evFn Cw (d + 1) 5 [(AVal.agg [(AVal.int .i64 x0), (AVal.int .i64 x1), (AVal.int .i64 x2), (AVal.int .i64 x3), (AVal.sl f4 0 l5)])] h =
  (runK (evFn Cw d 18 [(AVal.agg [(AVal.int .i64 x0), (AVal.int .i64 x1), (AVal.int .i64 x2), (AVal.int .i64 x3), (AVal.sl f4 0 l5)])] h) fun r1 h1 =>
    (consK r1 fun w2 ws3 =>
      (slOK 0 w2 fun es4 =>
        (consK ws3 fun w5 ws6 =>
          (intK .i64 w5 fun y7 =>
            (nilK ws6
              (runK (evFn Cw d 20 [(AVal.agg [(AVal.int .i64 x0), (AVal.int .i64 x1), (AVal.int .i64 x2), (AVal.int .i64 x3), (AVal.sl f4 0 l5)])] h1) fun r8 h8 =>
                (consK r8 fun w9 ws10 =>
                  (slOK 0 w9 fun es11 =>
                    (consK ws10 fun w12 ws13 =>
                      (intK .i64 w12 fun y14 =>
                        (nilK ws13
                          (optK (toBytes es4) fun ss15 =>
                            (optK (toBytes es11) fun ss16 =>
                              (bif (!(ss15 == ss16)) then
                                (Tr.ret ([(AVal.bool false)], h8))
                              else
                                (bif ((y7 : Int) != y14) then
                                  (Tr.ret ([(AVal.bool false)], h8))
                                else
                                  (runK (evFn Cw d 21 [(AVal.agg [(AVal.int .i64 x0), (AVal.int .i64 x1), (AVal.int .i64 x2), (AVal.int .i64 x3), (AVal.sl f4 0 l5)])] h8) fun r17 h17 =>
                                    (consK r17 fun w18 ws19 =>
                                      (boolK w18 fun bb20 =>
                                        (nilK ws19
                                          (runK (evFn Cw d 22 [(AVal.agg [(AVal.int .i64 x0), (AVal.int .i64 x1), (AVal.int .i64 x2), (AVal.int .i64 x3), (AVal.sl f4 0 l5)])] h17) fun r21 h21 =>
                                            (consK r21 fun w22 ws23 =>
                                              (boolK w22 fun bb24 =>
                                                (nilK ws23
                                                  (bif (!(bb20 == bb24)) then
                                                    (Tr.ret ([(AVal.bool false)], h21))
                                                  else
                                                    (runK (evFn Cw d 23 [(AVal.agg [(AVal.int .i64 x0), (AVal.int .i64 x1), (AVal.int .i64 x2), (AVal.int .i64 x3), (AVal.sl f4 0 l5)]), (AVal.agg [(AVal.int .i64 x0), (AVal.int .i64 x1), (AVal.int .i64 x2), (AVal.int .i64 x3), (AVal.sl f4 0 l5)])] h21) fun r25 h25 =>
                                                      (consK r25 fun w26 ws27 =>
                                                        (boolK w26 fun bb28 =>
                                                          (nilK ws27
                                                            (bif (!bb28) then
                                                              (Tr.ret ([(AVal.bool false)], h25))
                                                            else
                                                              (runK (evFn Cw d 22 [(AVal.agg [(AVal.int .i64 x0), (AVal.int .i64 x1), (AVal.int .i64 x2), (AVal.int .i64 x3), (AVal.sl f4 0 l5)])] h25) fun r29 h29 =>
                                                                (consK r29 fun w30 ws31 =>
                                                                  (boolK w30 fun bb32 =>
                                                                    (nilK ws31
                                                                      (bif bb32 then
                                                                        (runK (evFn Cw d 24 [(AVal.agg [(AVal.int .i64 x0), (AVal.int .i64 x1), (AVal.int .i64 x2), (AVal.int .i64 x3), (AVal.sl f4 0 l5)])] h29) fun r33 h33 =>
                                                                          (consK r33 fun w34 ws35 =>
                                                                            (slOK 0 w34 fun es36 =>
                                                                              (nilK ws35
                                                                                (P5_0 d es4 y7 (es36.length : Int) x0 x1 x2 x3 f4 l5 h33)))))
                                                                      else
                                                                        (P5_0 d es4 y7 0 x0 x1 x2 x3 f4 l5 h29)))))))))))))))))))))))))))))))))))) := by kernel_rfl
end Go.Proofs.Ytfdkkhmaikgmcaa.Wa
