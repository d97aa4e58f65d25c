/- What the evaluator comes to in these functions. -/
import Derived.Test.YtdlcjibefbnckaaDoorW0
import Derived.Test.YtdlcjibefbnckaaDoorWvLb
import Derived.KernelRfl
namespace Go.Proofs.YtdlcjibefbnckaaDoor.Wa
open Go Go.Weave
set_option maxRecDepth 100000
set_option linter.unusedVariables false
/- f18 strandline/point.number -/
theorem F18_eq (d : Nat) (f0 : Bool) (l1 : List AVal) (h : Heap) : evFn Cw (d + 1) 18 [(AVal.sl f0 0 l1)] h =
  (runK (evFn Cw d 36 [(AVal.sl f0 0 l1)] h) fun r1 h1 =>
    (consK r1 fun w2 ws3 =>
      (intK .u64 w2 fun y4 =>
        (consK ws3 fun w5 ws6 =>
          (intK .i64 w5 fun y7 =>
            (consK ws6 fun w8 ws9 =>
              (intK .i64 w8 fun y10 =>
                (nilK ws9
                  (bif ((y10 : Int) != 0) then
                    (Tr.ret ([(AVal.int .i64 0), (AVal.sl true 0 []), (AVal.int .i64 y10)], h1))
                  else
                    (bif (decide ((y4 : Int) > 2147483647)) then
                      (Tr.ret ([(AVal.int .i64 0), (AVal.sl true 0 []), (AVal.int .i64 4)], h1))
                    else
                      (bif ((decide ((0 : Int) ≤ y7) && decide ((y7 : Int) ≤ (l1.length : Int))) && decide (((l1.length : Int) : Int) ≤ (l1.length : Int))) then
                        (Tr.ret ([(AVal.int .i64 (IntKind.i64.wrap y4)), (AVal.sl f0 0 (Go.Weave.part y7 (l1.length : Int) l1)), (AVal.int .i64 0)], h1))
                      else
                        Tr.fail))))))))))) := by kernel_rfl
/- f19 strandline/word.Get -/
noncomputable def P19_0 (d k : Nat) (f0 : Bool) (l1 : List AVal) (x2 : Int) (x3 : Int) (x4 : Int) (h : Heap) : Tr Res :=
  loopPt Cw d 19 [true, true, false, true, true] [] k ⟨[(0, (EV.one (SV.val (AVal.sl f0 0 l1)))), (3, (EV.one (SV.val (AVal.int .u64 x2)))), (7, (EV.one (SV.val (AVal.int .i64 x3)))), (8, (EV.one (SV.val (AVal.int .i64 x4))))], []⟩ h
theorem P19_0_eq (d k : Nat) (f0 : Bool) (l1 : List AVal) (x2 : Int) (x3 : Int) (x4 : Int) (h : Heap) : P19_0 d (k + 1) f0 l1 x2 x3 x4 h =
  (bif (decide ((x4 : Int) < x3)) then
    (bif (decide ((0 : Int) ≤ x4) && decide ((x4 : Int) < (l1.length : Int))) then
      (intK .u8 (l1.getD (Int.toNat x4) AVal.undef) fun y1 =>
        (bif decide ((IntKind.i64.wrap (8 * x4)) < 0) then
          Tr.fail
        else
          (P19_0 d k f0 l1 (IntKind.u64.wrap (BitVec.ofInt 64 x2 ||| BitVec.ofInt 64 (IntKind.u64.wrap ((IntKind.u64.wrap y1) * 2 ^ (min (Int.toNat (IntKind.i64.wrap (8 * x4))) 64)))).toNat) x3 (IntKind.i64.wrap (x4 + 1)) h)))
    else
      Tr.fail)
  else
    (Tr.ret ([(AVal.int .u64 x2)], h))) := by kernel_rfl
theorem F19_eq (d : Nat) (f0 : Bool) (l1 : List AVal) (h : Heap) : evFn Cw (d + 1) 19 [(AVal.sl f0 0 l1)] h =
  (P19_0 d rounds f0 l1 0 (if (8 : Int) < (l1.length : Int) then 8 else (l1.length : Int)) 0 h) := by kernel_rfl
/- f6 strandline/point.Decode -/
theorem F6_eq (d : Nat) (f0 : Bool) (l1 : List AVal) (h : Heap) : evFn Cw (d + 1) 6 [(AVal.sl f0 0 l1)] h =
  (runK (evFn Cw d 18 [(AVal.sl f0 0 l1)] h) fun r1 h1 =>
    (consK r1 fun w2 ws3 =>
      (intK .i64 w2 fun y4 =>
        (consK ws3 fun w5 ws6 =>
          (slK 0 w5 fun fl7 es8 =>
            (consK ws6 fun w9 ws10 =>
              (intK .i64 w9 fun y11 =>
                (nilK ws10
                  (bif ((y11 : Int) != 0) then
                    (Tr.ret ([(AVal.agg [(AVal.int .i64 0), (AVal.int .i64 0), (AVal.int .u32 0)]), (AVal.int .i64 y11)], h1))
                  else
                    (runK (evFn Cw d 18 [(AVal.sl fl7 0 es8)] h1) fun r12 h12 =>
                      (consK r12 fun w13 ws14 =>
                        (intK .i64 w13 fun y15 =>
                          (consK ws14 fun w16 ws17 =>
                            (slK 0 w16 fun fl18 es19 =>
                              (consK ws17 fun w20 ws21 =>
                                (intK .i64 w20 fun y22 =>
                                  (nilK ws21
                                    (bif ((y22 : Int) != 0) then
                                      (Tr.ret ([(AVal.agg [(AVal.int .i64 0), (AVal.int .i64 0), (AVal.int .u32 0)]), (AVal.int .i64 y22)], h12))
                                    else
                                      (bif (decide (((es19.length : Int) : Int) < 4)) then
                                        (Tr.ret ([(AVal.agg [(AVal.int .i64 0), (AVal.int .i64 0), (AVal.int .u32 0)]), (AVal.int .i64 1)], h12))
                                      else
                                        (bif (decide (((es19.length : Int) : Int) > 4)) then
                                          (Tr.ret ([(AVal.agg [(AVal.int .i64 0), (AVal.int .i64 0), (AVal.int .u32 0)]), (AVal.int .i64 2)], h12))
                                        else
                                          (runK (evFn Cw d 19 [(AVal.sl fl18 0 es19)] h12) fun r23 h23 =>
                                            (consK r23 fun w24 ws25 =>
                                              (intK .u64 w24 fun y26 =>
                                                (nilK ws25
                                                  (Tr.ret ([(AVal.agg [(AVal.int .i64 y4), (AVal.int .i64 y15), (AVal.int .u32 (IntKind.u32.wrap y26))]), (AVal.int .i64 0)], h23)))))))))))))))))))))))))) := by kernel_rfl
/- f37 strandline/strandlineref01.Two -/
noncomputable def P37_0 (d k : Nat) (x0 : Int) (x1 : Int) (x2 : Int) (h : Heap) : Tr Res :=
  loopPt Cw d 37 [true, true, false, true, true] [] k ⟨[(0, (EV.one (SV.val (AVal.int .i64 x0)))), (3, (EV.one (SV.val (AVal.int .u64 x1)))), (4, (EV.one (SV.val (AVal.int .i64 x2))))], []⟩ h
theorem P37_0_eq (d k : Nat) (x0 : Int) (x1 : Int) (x2 : Int) (h : Heap) : P37_0 d (k + 1) x0 x1 x2 h =
  (bif (decide ((x2 : Int) < x0)) then (P37_0 d k x0 (IntKind.u64.wrap (x1 * 2)) (IntKind.i64.wrap (x2 + 1)) h) else (Tr.ret ([(AVal.int .u64 x1)], h))) := by kernel_rfl
theorem F37_eq (d : Nat) (x0 : Int) (h : Heap) : evFn Cw (d + 1) 37 [(AVal.int .i64 x0)] h =
  (P37_0 d rounds x0 1 0 h) := by kernel_rfl
/- f21 strandline/strandlineref01.Get -/
noncomputable def P21_0 (d k : Nat) (f0 : Bool) (l1 : List AVal) (x2 : Int) (x3 : Int) (h : Heap) : Tr Res :=
  loopPt Cw d 21 [true, true, false, true, true] [] k ⟨[(0, (EV.one (SV.val (AVal.sl f0 0 l1)))), (3, (EV.one (SV.val (AVal.int .u64 x2)))), (4, (EV.one (SV.val (AVal.int .i64 x3))))], []⟩ h
theorem P21_0_eq (d k : Nat) (f0 : Bool) (l1 : List AVal) (x2 : Int) (x3 : Int) (h : Heap) : P21_0 d (k + 1) f0 l1 x2 x3 h =
  (bif (decide ((x3 : Int) < (l1.length : Int))) then
    (bif (decide ((x3 : Int) < 8)) then
      (bif (decide ((0 : Int) ≤ x3) && decide ((x3 : Int) < (l1.length : Int))) then
        (intK .u8 (l1.getD (Int.toNat x3) AVal.undef) fun y1 =>
          (runK (evFn Cw d 37 [(AVal.int .i64 (IntKind.i64.wrap (8 * x3)))] h) fun r2 h2 =>
            (consK r2 fun w3 ws4 =>
              (intK .u64 w3 fun y5 =>
                (nilK ws4
                  (P21_0 d k f0 l1 (IntKind.u64.wrap (x2 + (IntKind.u64.wrap ((IntKind.u64.wrap y1) * y5)))) (IntKind.i64.wrap (x3 + 1)) h2))))))
      else
        Tr.fail)
    else
      (Tr.ret ([(AVal.int .u64 x2)], h)))
  else
    (Tr.ret ([(AVal.int .u64 x2)], h))) := by kernel_rfl
theorem F21_eq (d : Nat) (f0 : Bool) (l1 : List AVal) (h : Heap) : evFn Cw (d + 1) 21 [(AVal.sl f0 0 l1)] h =
  (P21_0 d rounds f0 l1 0 0 h) := by kernel_rfl
/- f7 strandline/strandlineref34.Decode -/
theorem F7_eq (d : Nat) (f0 : Bool) (l1 : List AVal) (h : Heap) : evFn Cw (d + 1) 7 [(AVal.sl f0 0 l1)] h =
  (runK (evFn Cw d 20 [(AVal.sl f0 0 l1)] h) fun r1 h1 =>
    (consK r1 fun w2 ws3 =>
      (intK .u64 w2 fun y4 =>
        (consK ws3 fun w5 ws6 =>
          (intK .i64 w5 fun y7 =>
            (consK ws6 fun w8 ws9 =>
              (intK .i64 w8 fun y10 =>
                (nilK ws9
                  (bif ((y10 : Int) != 0) then
                    (Tr.ret ([(AVal.agg [(AVal.int .i64 0), (AVal.int .i64 0), (AVal.int .u32 0)]), (AVal.int .i64 y10)], h1))
                  else
                    (bif (decide ((y4 : Int) > 2147483647)) then
                      (Tr.ret ([(AVal.agg [(AVal.int .i64 0), (AVal.int .i64 0), (AVal.int .u32 0)]), (AVal.int .i64 4)], h1))
                    else
                      (bif ((decide ((0 : Int) ≤ y7) && decide ((y7 : Int) ≤ (l1.length : Int))) && decide (((l1.length : Int) : Int) ≤ (l1.length : Int))) then
                        (runK (evFn Cw d 20 [(AVal.sl f0 0 (Go.Weave.part y7 (l1.length : Int) l1))] h1) fun r11 h11 =>
                          (consK r11 fun w12 ws13 =>
                            (intK .u64 w12 fun y14 =>
                              (consK ws13 fun w15 ws16 =>
                                (intK .i64 w15 fun y17 =>
                                  (consK ws16 fun w18 ws19 =>
                                    (intK .i64 w18 fun y20 =>
                                      (nilK ws19
                                        (bif ((y20 : Int) != 0) then
                                          (Tr.ret ([(AVal.agg [(AVal.int .i64 0), (AVal.int .i64 0), (AVal.int .u32 0)]), (AVal.int .i64 y20)], h11))
                                        else
                                          (bif (decide ((y14 : Int) > 2147483647)) then
                                            (Tr.ret ([(AVal.agg [(AVal.int .i64 0), (AVal.int .i64 0), (AVal.int .u32 0)]), (AVal.int .i64 4)], h11))
                                          else
                                            (bif ((decide ((0 : Int) ≤ (IntKind.i64.wrap (y7 + y17))) && decide (((IntKind.i64.wrap (y7 + y17)) : Int) ≤ (l1.length : Int))) && decide (((l1.length : Int) : Int) ≤ (l1.length : Int))) then
                                              (bif (decide ((((Go.Weave.part (IntKind.i64.wrap (y7 + y17)) (l1.length : Int) l1).length : Int) : Int) < 4)) then
                                                (Tr.ret ([(AVal.agg [(AVal.int .i64 0), (AVal.int .i64 0), (AVal.int .u32 0)]), (AVal.int .i64 1)], h11))
                                              else
                                                (bif (decide ((((Go.Weave.part (IntKind.i64.wrap (y7 + y17)) (l1.length : Int) l1).length : Int) : Int) > 4)) then
                                                  (Tr.ret ([(AVal.agg [(AVal.int .i64 0), (AVal.int .i64 0), (AVal.int .u32 0)]), (AVal.int .i64 2)], h11))
                                                else
                                                  (runK (evFn Cw d 21 [(AVal.sl f0 0 (Go.Weave.part (IntKind.i64.wrap (y7 + y17)) (l1.length : Int) l1))] h11) fun r21 h21 =>
                                                    (consK r21 fun w22 ws23 =>
                                                      (intK .u64 w22 fun y24 =>
                                                        (nilK ws23
                                                          (Tr.ret ([(AVal.agg [(AVal.int .i64 (IntKind.i64.wrap y4)), (AVal.int .i64 (IntKind.i64.wrap y14)), (AVal.int .u32 (IntKind.u32.wrap y24))]), (AVal.int .i64 0)], h21))))))))
                                            else
                                              Tr.fail)))))))))))
                      else
                        Tr.fail))))))))))) := by kernel_rfl
/- f38 strandline/word.near -/
theorem F38_eq (d : Nat) (x0 : Int) (x1 : Int) (x2 : Int) (h : Heap) : evFn Cw (d + 1) 38 [(AVal.int .i64 x0), (AVal.int .i64 x1), (AVal.int .i64 x2)] h =
  (Tr.ret ([(AVal.int .i64 (if ((if (x2 : Int) < x0 then x2 else x0) : Int) > x1 then (if (x2 : Int) < x0 then x2 else x0) else x1))], h)) := by kernel_rfl
/- f23 strandline/word.Put -/
noncomputable def P23_0 (d k : Nat) (x0 : Int) (l1 : List AVal) (x2 : Int) (x3 : Int) (h : Heap) : Tr Res :=
  loopPt Cw d 23 [true, true, false, true, true] [] k ⟨[(0, (EV.one (SV.val (AVal.int .u64 x0)))), (5, (EV.one (SV.own (tokOf 5 0) 0 l1))), (8, (EV.one (SV.val (AVal.int .i64 x2)))), (9, (EV.one (SV.val (AVal.int .i64 x3))))], []⟩ h
theorem P23_0_eq (d k : Nat) (x0 : Int) (l1 : List AVal) (x2 : Int) (x3 : Int) (h : Heap) : P23_0 d (k + 1) x0 l1 x2 x3 h =
  (bif (decide ((x3 : Int) < x2)) then
    (bif decide ((IntKind.i64.wrap (8 * x3)) < 0) then
      Tr.fail
    else
      (bif decide ((l1.length + (1 : Nat)) * 1 ≤ 140737488355328) then
        (P23_0 d k x0 (l1 ++ [(AVal.int .u8 (IntKind.u8.wrap (Int.fdiv x0 (2 ^ (min (Int.toNat (IntKind.i64.wrap (8 * x3))) 64)))))]) x2 (IntKind.i64.wrap (x3 + 1)) h)
      else
        Tr.fail))
  else
    (Tr.ret ([(AVal.sl false 0 l1)], h))) := by kernel_rfl
theorem F23_eq (d : Nat) (x0 : Int) (x1 : Int) (h : Heap) : evFn Cw (d + 1) 23 [(AVal.int .u64 x0), (AVal.int .i64 x1)] h =
  (runK (evFn Cw d 38 [(AVal.int .i64 x1), (AVal.int .i64 0), (AVal.int .i64 8)] h) fun r1 h1 =>
    (consK r1 fun w2 ws3 =>
      (intK .i64 w2 fun y4 =>
        (nilK ws3
          (P23_0 d rounds x0 [] y4 0 h1))))) := by kernel_rfl
/- f8 strandline/point.Encode -/
theorem F8_eq (d : Nat) (x0 : Int) (x1 : Int) (x2 : Int) (h : Heap) : evFn Cw (d + 1) 8 [(AVal.agg [(AVal.int .i64 x0), (AVal.int .i64 x1), (AVal.int .u32 x2)])] h =
  (runK (evFn Cw d 22 [(AVal.sl true 0 []), (AVal.int .u64 (IntKind.u64.wrap (if (x0 : Int) > 0 then x0 else 0)))] h) fun r1 h1 =>
    (consK r1 fun w2 ws3 =>
      (slOK 0 w2 fun es4 =>
        (nilK ws3
          (runK (evFn Cw d 22 [(AVal.sl false 0 es4), (AVal.int .u64 (IntKind.u64.wrap (if (x1 : Int) > 0 then x1 else 0)))] h1) fun r5 h5 =>
            (consK r5 fun w6 ws7 =>
              (slOK 0 w6 fun es8 =>
                (nilK ws7
                  (runK (evFn Cw d 23 [(AVal.int .u64 (IntKind.u64.wrap x2)), (AVal.int .i64 4)] h5) fun r9 h9 =>
                    (consK r9 fun w10 ws11 =>
                      (slOK 0 w10 fun es12 =>
                        (nilK ws11
                          (bif decide ((es8.length + es12.length) * 1 ≤ 140737488355328) then (Tr.ret ([(AVal.sl false 0 (es8 ++ es12))], h9)) else Tr.fail))))))))))))) := by kernel_rfl
/- f25 strandline/strandlineref01.Put -/
noncomputable def P25_0 (d k : Nat) (x0 : Int) (x1 : Int) (l2 : List AVal) (x3 : Int) (h : Heap) : Tr Res :=
  loopPt Cw d 25 [true, true, false, true, true] [] k ⟨[(0, (EV.one (SV.val (AVal.int .u64 x0)))), (1, (EV.one (SV.val (AVal.int .i64 x1)))), (5, (EV.one (SV.own (tokOf 5 0) 0 l2))), (6, (EV.one (SV.val (AVal.int .i64 x3))))], []⟩ h
theorem P25_0_eq (d k : Nat) (x0 : Int) (x1 : Int) (l2 : List AVal) (x3 : Int) (h : Heap) : P25_0 d (k + 1) x0 x1 l2 x3 h =
  (bif (decide ((x3 : Int) < x1)) then
    (bif (decide ((x3 : Int) < 8)) then
      (bif decide ((l2.length + (1 : Nat)) * 1 ≤ 140737488355328) then
        (P25_0 d k (IntKind.u64.wrap (Int.tdiv x0 256)) x1 (l2 ++ [(AVal.int .u8 (IntKind.u8.wrap (Int.tmod x0 256)))]) (IntKind.i64.wrap (x3 + 1)) h)
      else
        Tr.fail)
    else
      (Tr.ret ([(AVal.sl false 0 l2)], h)))
  else
    (Tr.ret ([(AVal.sl false 0 l2)], h))) := by kernel_rfl
theorem F25_eq (d : Nat) (x0 : Int) (x1 : Int) (h : Heap) : evFn Cw (d + 1) 25 [(AVal.int .u64 x0), (AVal.int .i64 x1)] h =
  (P25_0 d rounds x0 x1 [] 0 h) := by kernel_rfl
/- f9 strandline/strandlineref34.Encode -/
theorem F9_eq (d : Nat) (x0 : Int) (x1 : Int) (x2 : Int) (h : Heap) : evFn Cw (d + 1) 9 [(AVal.agg [(AVal.int .i64 x0), (AVal.int .i64 x1), (AVal.int .u32 x2)])] h =
  (runK (evFn Cw d 24 [(AVal.sl true 0 []), (AVal.int .u64 (IntKind.u64.wrap x0))] h) fun r1 h1 =>
    (consK r1 fun w2 ws3 =>
      (slOK 0 w2 fun es4 =>
        (nilK ws3
          (runK (evFn Cw d 24 [(AVal.sl false 0 es4), (AVal.int .u64 (IntKind.u64.wrap x1))] h1) fun r5 h5 =>
            (consK r5 fun w6 ws7 =>
              (slOK 0 w6 fun es8 =>
                (nilK ws7
                  (runK (evFn Cw d 25 [(AVal.int .u64 (IntKind.u64.wrap x2)), (AVal.int .i64 4)] h5) fun r9 h9 =>
                    (consK r9 fun w10 ws11 =>
                      (slOK 0 w10 fun es12 =>
                        (nilK ws11
                          (bif decide ((es8.length + es12.length) * 1 ≤ 140737488355328) then (Tr.ret ([(AVal.sl false 0 (es8 ++ es12))], h9)) else Tr.fail))))))))))))) := by kernel_rfl
/- f39 strandline/point.right -/
noncomputable def P39_0 (d k : Nat) (f0 : Bool) (l1 : List AVal) (f2 : Bool) (l3 : List AVal) (x4 : Int) (x5 : Int) (h : Heap) : Tr Res :=
  loopPt Cw d 39 [true, false, true, true] [] k ⟨[(0, (EV.one (SV.val (AVal.sl f0 3 l1)))), (5, (EV.one (SV.val (AVal.sl f2 3 l3)))), (6, (EV.one (SV.val (AVal.int .i64 x4)))), (7, (EV.one (SV.val (AVal.int .i64 x5))))], []⟩ h
theorem P39_0_eq (d k : Nat) (f0 : Bool) (l1 : List AVal) (f2 : Bool) (l3 : List AVal) (x4 : Int) (x5 : Int) (h : Heap) : P39_0 d (k + 1) f0 l1 f2 l3 x4 x5 h =
  (bif (decide ((x5 : Int) < x4)) then
    (bif (decide ((0 : Int) ≤ x5) && decide ((x5 : Int) < (l3.length : Int))) then
      (aggK 2 (l3.getD (Int.toNat x5) AVal.undef) fun cc1 =>
        (bif ((cc1.length == 2) && true) then
          (optK (cc1[0]?) fun w2 =>
            (strK w2 fun ss3 =>
              (bif (decide (((ss3.length : Int) : Int) < 1)) then
                (Tr.ret ([(AVal.bool false)], h))
              else
                (optK (cc1[0]?) fun w4 =>
                  (strK w4 fun ss5 =>
                    (bif (decide (((ss5.length : Int) : Int) > 24)) then
                      (Tr.ret ([(AVal.bool false)], h))
                    else
                      (optK (cc1[1]?) fun w6 =>
                        (strK w6 fun ss7 =>
                          (bif (decide (((ss7.length : Int) : Int) > 128)) then
                            (Tr.ret ([(AVal.bool false)], h))
                          else
                            (bif (decide ((x5 : Int) > 0)) then
                              (optK (cc1[0]?) fun w8 =>
                                (strK w8 fun ss9 =>
                                  (bif (decide ((0 : Int) ≤ (IntKind.i64.wrap (x5 - 1))) && decide (((IntKind.i64.wrap (x5 - 1)) : Int) < (l1.length : Int))) then
                                    (optK ((AVal.cells (l1.getD (Int.toNat (IntKind.i64.wrap (x5 - 1))) AVal.undef))[0]?) fun w10 =>
                                      (strK w10 fun ss11 =>
                                        (bif ((Go.Op.bytesLess ss9 ss11) || (ss9 == ss11)) then (Tr.ret ([(AVal.bool false)], h)) else (P39_0 d k f0 l1 f2 l3 x4 (IntKind.i64.wrap (x5 + 1)) h))))
                                  else
                                    Tr.fail)))
                            else
                              (P39_0 d k f0 l1 f2 l3 x4 (IntKind.i64.wrap (x5 + 1)) h)))))))))))
        else
          Tr.fail))
    else
      Tr.fail)
  else
    (Tr.ret ([(AVal.bool true)], h))) := by kernel_rfl
theorem F39_eq (d : Nat) (f0 : Bool) (l1 : List AVal) (h : Heap) : evFn Cw (d + 1) 39 [(AVal.sl f0 3 l1)] h =
  (P39_0 d rounds f0 l1 f0 l1 (l1.length : Int) 0 h) := by kernel_rfl
/- f40 strandline/point.Split$1 -/
theorem F40_eq (d : Nat) (i0 : Nat) (i1 : Nat) (h : Heap) : evFn Cw (d + 1) 40 [(AVal.obj i0 0), (AVal.obj i1 0)] h =
  (optK (Heap.cell? h i0 0) fun z1 =>
    (slK 0 (HCell.toA z1) fun _ es2 =>
      (bif (decide (((es2.length : Int) : Int) > 0)) then
        (optK (Heap.cell? h i1 0) fun z3 =>
          (slK 0 (HCell.toA z3) fun _ es4 =>
            (optK (Heap.cell? h i0 0) fun z5 =>
              (slK 0 (HCell.toA z5) fun _ es6 =>
                (bif decide ((es4.length + (1 : Nat)) * 24 ≤ 140737488355328) then
                  (lentK h i1 0 0 es4 fun h7 =>
                    (optK (Heap.cell? h7 i1 0) fun _ =>
                      (optK (Heap.cell? (Heap.setCell h7 i1 0 (HCell.own 0 (es4 ++ [(AVal.sl false 0 es6)]))) i0 0) fun _ =>
                        (Tr.ret ([], (Heap.setCell (Heap.setCell h7 i1 0 (HCell.own 0 (es4 ++ [(AVal.sl false 0 es6)]))) i0 0 (HCell.val (AVal.sl true 0 []))))))))
                else
                  Tr.fail)))))
      else
        (optK (Heap.cell? h i0 0) fun _ =>
          (Tr.ret ([], (Heap.setCell h i0 0 (HCell.val (AVal.sl true 0 []))))))))) := by kernel_rfl
/- f26 strandline/point.Split -/
noncomputable def P26_0 (d k : Nat) (i0 : Nat) (i1 : Nat) (i2 : Nat) (i3 : Nat) (f4 : Bool) (l5 : List AVal) (x6 : Int) (x7 : Int) (h : Heap) : Tr Res :=
  loopPt Cw d 26 [true, true, true, true, true, false, true, true] [] k ⟨[(4, (EV.one (SV.val (AVal.obj i0 0)))), (5, (EV.one (SV.val (AVal.obj i1 0)))), (6, (EV.one (SV.val (AVal.fn 40 [] [(AVal.obj i2 0), (AVal.obj i3 0)])))), (14, (EV.one (SV.val (AVal.sl f4 3 l5)))), (15, (EV.one (SV.val (AVal.int .i64 x6)))), (16, (EV.one (SV.val (AVal.int .i64 x7))))], []⟩ h
theorem P26_0_eq (d k : Nat) (i0 : Nat) (i1 : Nat) (i2 : Nat) (i3 : Nat) (f4 : Bool) (l5 : List AVal) (x6 : Int) (x7 : Int) (h : Heap) : P26_0 d (k + 1) i0 i1 i2 i3 f4 l5 x6 x7 h =
  (bif (decide ((x7 : Int) < x6)) then
    (bif (decide ((0 : Int) ≤ x7) && decide ((x7 : Int) < (l5.length : Int))) then
      (aggK 2 (l5.getD (Int.toNat x7) AVal.undef) fun cc1 =>
        (bif ((cc1.length == 2) && true) then
          (optK (cc1[0]?) fun w2 =>
            (strK w2 fun ss3 =>
              (optK (cc1[1]?) fun w4 =>
                (strK w4 fun ss5 =>
                  (runK (evFn Cw d 41 [(AVal.sl true 0 [(AVal.sl false 0 (ss3.map ofByte)), (AVal.sl false 0 (ss5.map ofByte))])] h) fun r6 h6 =>
                    (consK r6 fun w7 ws8 =>
                      (slOK 0 w7 fun es9 =>
                        (nilK ws8
                          (optK (Heap.cell? h6 i1 0) fun z10 =>
                            (slK 0 (HCell.toA z10) fun _ es11 =>
                              (bif (decide (((IntKind.i64.wrap ((es11.length : Int) + (es9.length : Int))) : Int) > 400)) then
                                (runK (evFn Cw d 40 [(AVal.obj i2 0), (AVal.obj i3 0)] h6) fun r12 h12 =>
                                  (nilK r12
                                    (optK (Heap.cell? h12 i1 0) fun z13 =>
                                      (slK 0 (HCell.toA z13) fun _ es14 =>
                                        (bif decide ((es14.length + es9.length) * 1 ≤ 140737488355328) then
                                          (lentK h12 i1 0 0 es14 fun h15 =>
                                            (optK (Heap.cell? h15 i1 0) fun _ =>
                                              (P26_0 d k i0 i1 i2 i3 f4 l5 x6 (IntKind.i64.wrap (x7 + 1)) (Heap.setCell h15 i1 0 (HCell.own 0 (es14 ++ es9))))))
                                        else
                                          Tr.fail)))))
                              else
                                (optK (Heap.cell? h6 i1 0) fun z16 =>
                                  (slK 0 (HCell.toA z16) fun _ es17 =>
                                    (bif decide ((es17.length + es9.length) * 1 ≤ 140737488355328) then
                                      (lentK h6 i1 0 0 es17 fun h18 =>
                                        (optK (Heap.cell? h18 i1 0) fun _ =>
                                          (P26_0 d k i0 i1 i2 i3 f4 l5 x6 (IntKind.i64.wrap (x7 + 1)) (Heap.setCell h18 i1 0 (HCell.own 0 (es17 ++ es9))))))
                                    else
                                      Tr.fail))))))))))))))
        else
          Tr.fail))
    else
      Tr.fail)
  else
    (runK (evFn Cw d 40 [(AVal.obj i2 0), (AVal.obj i3 0)] h) fun r19 h19 =>
      (nilK r19
        (optK (Heap.cell? h19 i0 0) fun z20 =>
          (slK 0 (HCell.toA z20) fun _ es21 =>
            (Tr.ret ([(AVal.sl false 0 es21), (AVal.int .i64 0)], h19))))))) := by kernel_rfl
theorem F26_eq (d : Nat) (f0 : Bool) (l1 : List AVal) (h : Heap) : evFn Cw (d + 1) 26 [(AVal.sl f0 3 l1)] h =
  (runK (evFn Cw d 39 [(AVal.sl f0 3 l1)] h) fun r1 h1 =>
    (consK r1 fun w2 ws3 =>
      (boolK w2 fun bb4 =>
        (nilK ws3
          (bif (!bb4) then
            (Tr.ret ([(AVal.sl true 0 []), (AVal.int .i64 13)], h1))
          else
            (P26_0 d rounds h1.objs.length ((Heap.push h1 (Go.Weave.Obj.cells [(HCell.val (AVal.sl true 0 []))])).objs.length) ((Heap.push h1 (Go.Weave.Obj.cells [(HCell.val (AVal.sl true 0 []))])).objs.length) h1.objs.length f0 l1 (l1.length : Int) 0 (Heap.push (Heap.push h1 (Go.Weave.Obj.cells [(HCell.val (AVal.sl true 0 []))])) (Go.Weave.Obj.cells [(HCell.val (AVal.sl true 0 []))])))))))) := by kernel_rfl
/- f58 strandline/point.pairs -/
noncomputable def P58_0 (d k : Nat) (l0 : List AVal) (l1 : List AVal) (x2 : Int) (h : Heap) : Tr Res :=
  loopPt Cw d 58 [true, true, true, true, false, true, true] [] k ⟨[(4, (EV.one (SV.own (tokOf 4 0) 0 l0))), (6, (EV.one (SV.own (tokOf 6 0) 3 l1))), (7, (EV.one (SV.val (AVal.int .i64 x2))))], []⟩ h
theorem P58_0_eq (d k : Nat) (l0 : List AVal) (l1 : List AVal) (x2 : Int) (h : Heap) : P58_0 d (k + 1) l0 l1 x2 h =
  (bif (decide ((x2 : Int) < (l0.length : Int))) then
    (bif (decide ((0 : Int) ≤ x2) && decide ((x2 : Int) < (l0.length : Int))) then
      (slK 0 (l0.getD (Int.toNat x2) AVal.undef) fun fl1 es2 =>
        (optK (toBytes es2) fun ss3 =>
          (bif (decide ((0 : Int) ≤ (IntKind.i64.wrap (x2 + 1))) && decide (((IntKind.i64.wrap (x2 + 1)) : Int) < (l0.length : Int))) then
            (slK 0 (l0.getD (Int.toNat (IntKind.i64.wrap (x2 + 1))) AVal.undef) fun fl4 es5 =>
              (optK (toBytes es5) fun ss6 =>
                (bif decide ((l1.length + (1 : Nat)) * 32 ≤ 140737488355328) then
                  (P58_0 d k l0 (l1 ++ [(AVal.agg [(AVal.str ss3), (AVal.str ss6)])]) (IntKind.i64.wrap (x2 + 2)) h)
                else
                  Tr.fail)))
          else
            Tr.fail)))
    else
      Tr.fail)
  else
    (Tr.ret ([(AVal.sl false 3 l1), (AVal.bool true)], h))) := by kernel_rfl
theorem F58_eq (d : Nat) (f0 : Bool) (l1 : List AVal) (h : Heap) : evFn Cw (d + 1) 58 [(AVal.sl f0 0 l1)] h =
  (runK (evFn Cw d 70 [(AVal.sl f0 0 l1)] h) fun r1 h1 =>
    (consK r1 fun w2 ws3 =>
      (slOK 0 w2 fun es4 =>
        (consK ws3 fun w5 ws6 =>
          (intK .i64 w5 fun y7 =>
            (nilK ws6
              (bif ((y7 : Int) != 0) then
                (Tr.ret ([(AVal.sl true 0 []), (AVal.bool false)], h1))
              else
                (bif (((Int.tmod (es4.length : Int) 2) : Int) != 0) then
                  (Tr.ret ([(AVal.sl true 0 []), (AVal.bool false)], h1))
                else
                  (bif (decide (((l1.length : Int) : Int) > 400)) then (Tr.ret ([(AVal.sl true 0 []), (AVal.bool false)], h1)) else (P58_0 d rounds es4 [] 0 h1)))))))))) := by kernel_rfl
/- f71 strandline/crc.four -/
theorem F71_eq (d : Nat) (x0 : Int) (h : Heap) : evFn Cw (d + 1) 71 [(AVal.int .u32 x0)] h =
  (bif (decide ((0 : Int) ≤ (IntKind.u32.wrap (BitVec.ofInt 32 x0 &&& BitVec.ofInt 32 15).toNat)) && decide (((IntKind.u32.wrap (BitVec.ofInt 32 x0 &&& BitVec.ofInt 32 15).toNat) : Int) < 16)) then
    (optK ([(AVal.int .u32 0), (AVal.int .u32 274646895), (AVal.int .u32 549293790), (AVal.int .u32 820201905), (AVal.int .u32 1098587580), (AVal.int .u32 1361435347), (AVal.int .u32 1640403810), (AVal.int .u32 1905808397), (AVal.int .u32 2197175160), (AVal.int .u32 2460548119), (AVal.int .u32 2722870694), (AVal.int .u32 2987750089), (AVal.int .u32 3280807620), (AVal.int .u32 3553878443), (AVal.int .u32 3811616794), (AVal.int .u32 4084100981)][(0 + ((Int.toNat (IntKind.u32.wrap (BitVec.ofInt 32 x0 &&& BitVec.ofInt 32 15).toNat)) * 1))]?) fun w1 =>
      (intK .u32 w1 fun y2 =>
        (Tr.ret ([(AVal.int .u32 (IntKind.u32.wrap (BitVec.ofInt 32 y2 ^^^ BitVec.ofInt 32 (Int.fdiv x0 (2 ^ 4))).toNat))], h))))
  else
    Tr.fail) := by kernel_rfl
/- f59 strandline/crc.More -/
noncomputable def P59_0 (d k : Nat) (x0 : Int) (f1 : Bool) (l2 : List AVal) (x3 : Int) (x4 : Int) (h : Heap) : Tr Res :=
  loopPt Cw d 59 [true, true, false, true, true] [] k ⟨[(5, (EV.one (SV.val (AVal.int .u32 x0)))), (10, (EV.one (SV.val (AVal.sl f1 0 l2)))), (11, (EV.one (SV.val (AVal.int .i64 x3)))), (12, (EV.one (SV.val (AVal.int .i64 x4))))], []⟩ h
theorem P59_0_eq (d k : Nat) (x0 : Int) (f1 : Bool) (l2 : List AVal) (x3 : Int) (x4 : Int) (h : Heap) : P59_0 d (k + 1) x0 f1 l2 x3 x4 h =
  (bif (decide ((x4 : Int) < x3)) then
    (bif (decide ((0 : Int) ≤ x4) && decide ((x4 : Int) < (l2.length : Int))) then
      (intK .u8 (l2.getD (Int.toNat x4) AVal.undef) fun y1 =>
        (runK (evFn Cw d 71 [(AVal.int .u32 (IntKind.u32.wrap (BitVec.ofInt 32 x0 ^^^ BitVec.ofInt 32 (IntKind.u32.wrap y1)).toNat))] h) fun r2 h2 =>
          (consK r2 fun w3 ws4 =>
            (intK .u32 w3 fun y5 =>
              (nilK ws4
                (runK (evFn Cw d 71 [(AVal.int .u32 y5)] h2) fun r6 h6 =>
                  (consK r6 fun w7 ws8 =>
                    (intK .u32 w7 fun y9 =>
                      (nilK ws8
                        (P59_0 d k y9 f1 l2 x3 (IntKind.i64.wrap (x4 + 1)) h6))))))))))
    else
      Tr.fail)
  else
    (Tr.ret ([(AVal.int .u32 (IntKind.u32.wrap (BitVec.ofInt 32 (IntKind.u32.max) ^^^ BitVec.ofInt 32 x0).toNat))], h))) := by kernel_rfl
theorem F59_eq (d : Nat) (x0 : Int) (f1 : Bool) (l2 : List AVal) (h : Heap) : evFn Cw (d + 1) 59 [(AVal.int .u32 x0), (AVal.sl f1 0 l2)] h =
  (P59_0 d rounds (IntKind.u32.wrap (BitVec.ofInt 32 (IntKind.u32.max) ^^^ BitVec.ofInt 32 x0).toNat) f1 l2 (l2.length : Int) 0 h) := by kernel_rfl
/- f42 strandline/point.all -/
noncomputable def P42_0 (d k : Nat) (l0 : List AVal) (f1 : Bool) (l2 : List AVal) (x3 : Int) (x4 : Int) (x5 : Int) (x6 : Int) (x7 : Int) (x8 : Int) (x9 : Int) (x10 : Int) (h : Heap) : Tr Res :=
  loopPt Cw d 42 [true, true, true, false, true, true] [] k ⟨[(3, (EV.one (SV.loc 3 0))), (5, (EV.one (SV.own (tokOf 5 0) 3 l0))), (6, (EV.one (SV.loc 6 0))), (14, (EV.one (SV.val (AVal.sl f1 0 l2)))), (15, (EV.one (SV.val (AVal.int .i64 x3)))), (16, (EV.one (SV.val (AVal.int .i64 x4))))], [(3, (Box.plain [(AVal.int .i64 x5), (AVal.int .i64 x6), (AVal.int .u32 x7)])), (6, (Box.plain [(AVal.int .i64 x8), (AVal.int .i64 x9), (AVal.int .u32 x10)]))]⟩ h
theorem P42_0_eq (d k : Nat) (l0 : List AVal) (f1 : Bool) (l2 : List AVal) (x3 : Int) (x4 : Int) (x5 : Int) (x6 : Int) (x7 : Int) (x8 : Int) (x9 : Int) (x10 : Int) (h : Heap) : P42_0 d (k + 1) l0 f1 l2 x3 x4 x5 x6 x7 x8 x9 x10 h =
  (bif (decide ((x4 : Int) < x3)) then
    (bif (decide ((0 : Int) ≤ x4) && decide ((x4 : Int) < (l2.length : Int))) then
      (slK 0 (l2.getD (Int.toNat x4) AVal.undef) fun fl1 es2 =>
        (runK (evFn Cw d 58 [(AVal.sl fl1 0 es2)] h) fun r3 h3 =>
          (consK r3 fun w4 ws5 =>
            (slOK 3 w4 fun es6 =>
              (consK ws5 fun w7 ws8 =>
                (boolK w7 fun bb9 =>
                  (nilK ws8
                    (bif (!bb9) then
                      (Tr.ret ([(AVal.sl true 0 []), (AVal.agg [(AVal.int .i64 0), (AVal.int .i64 0), (AVal.int .u32 0)]), (AVal.bool false)], h3))
                    else
                      (bif decide ((l0.length + es6.length) * 32 ≤ 140737488355328) then
                        (runK (evFn Cw d 59 [(AVal.int .u32 x10), (AVal.sl fl1 0 es2)] h3) fun r10 h10 =>
                          (consK r10 fun w11 ws12 =>
                            (intK .u32 w11 fun y13 =>
                              (nilK ws12
                                (P42_0 d k (l0 ++ es6) f1 l2 x3 (IntKind.i64.wrap (x4 + 1)) x5 x6 x7 x8 x9 y13 h10)))))
                      else
                        Tr.fail)))))))))
    else
      Tr.fail)
  else
    (Tr.ret ([(AVal.sl false 3 l0), (AVal.agg [(AVal.int .i64 x8), (AVal.int .i64 (l0.length : Int)), (AVal.int .u32 x10)]), (AVal.bool true)], h))) := by kernel_rfl
theorem F42_eq (d : Nat) (f0 : Bool) (l1 : List AVal) (h : Heap) : evFn Cw (d + 1) 42 [(AVal.sl f0 0 l1)] h =
  (P42_0 d rounds [] f0 l1 (l1.length : Int) 0 0 0 0 (l1.length : Int) 0 0 h) := by kernel_rfl
/- f27 strandline/point.Of -/
theorem F27_eq (d : Nat) (f0 : Bool) (l1 : List AVal) (h : Heap) : evFn Cw (d + 1) 27 [(AVal.sl f0 0 l1)] h =
  (runK (evFn Cw d 42 [(AVal.sl f0 0 l1)] h) fun r1 h1 =>
    (consK r1 fun w2 ws3 =>
      (slOK 3 w2 fun es4 =>
        (consK ws3 fun w5 ws6 =>
          (aggK 3 w5 fun cc7 =>
            (consK ws6 fun w8 ws9 =>
              (boolK w8 fun bb10 =>
                (nilK ws9
                  (bif ((cc7.length == 3) && true) then
                    (bif (!bb10) then
                      (Tr.ret ([(AVal.agg [(AVal.int .i64 0), (AVal.int .i64 0), (AVal.int .u32 0)]), (AVal.int .i64 2)], h1))
                    else
                      (bif decide (0 + 3 ≤ cc7.length) then
                        (bif ((((cc7.drop 0).take 3).length == 3) && true) then
                          (bif decide (0 + 3 ≤ ((cc7.drop 0).take 3).length) then (Tr.ret ([(AVal.agg ((((cc7.drop 0).take 3).drop 0).take 3)), (AVal.int .i64 0)], h1)) else Tr.fail)
                        else
                          Tr.fail)
                      else
                        Tr.fail))
                  else
                    Tr.fail))))))))) := by kernel_rfl
/- f10 strandline/strandlinelaw34.awake -/
theorem F10_eq (d : Nat) (h : Heap) : evFn Cw (d + 1) 10 [] h =
  (runK (evFn Cw d 26 [(AVal.sl true 3 [(AVal.agg [(AVal.str [97]), (AVal.str [98])])])] h) fun r1 h1 =>
    (consK r1 fun w2 ws3 =>
      (slK 0 w2 fun fl4 es5 =>
        (consK ws3 fun w6 ws7 =>
          (intK .i64 w6 fun y8 =>
            (nilK ws7
              (runK (evFn Cw d 27 [(AVal.sl fl4 0 es5)] h1) fun r9 h9 =>
                (consK r9 fun w10 ws11 =>
                  (aggK 3 w10 fun cc12 =>
                    (consK ws11 fun w13 ws14 =>
                      (intK .i64 w13 fun y15 =>
                        (nilK ws14
                          (bif ((cc12.length == 3) && true) then
                            (bif ((y8 : Int) == 0) then
                              (bif ((y15 : Int) == 0) then
                                (bif (((es5.length : Int) : Int) == 1) then
                                  (bif decide ((0 : Int) < (es5.length : Int)) then
                                    (slK 0 (es5.getD 0 AVal.undef) fun fl16 es17 =>
                                      (optK (toBytes es17) fun ss18 =>
                                        (bif (ss18 == [1, 97, 1, 98]) then
                                          (optK (cc12[1]?) fun w19 =>
                                            (intK .i64 w19 fun y20 =>
                                              (bif ((y20 : Int) == 1) then (Tr.ret ([(AVal.bool true)], h9)) else (Tr.ret ([(AVal.bool false)], h9)))))
                                        else
                                          (Tr.ret ([(AVal.bool false)], h9)))))
                                  else
                                    Tr.fail)
                                else
                                  (Tr.ret ([(AVal.bool false)], h9)))
                              else
                                (Tr.ret ([(AVal.bool false)], h9)))
                            else
                              (Tr.ret ([(AVal.bool false)], h9)))
                          else
                            Tr.fail))))))))))))) := by kernel_rfl
/- f3 strandline/strandlinelaw34.PointCodes -/
theorem F3_eq (d : Nat) (x0 : Int) (x1 : Int) (x2 : Int) (f3 : Bool) (l4 : List AVal) (h : Heap) : evFn Cw (d + 1) 3 [(AVal.agg [(AVal.int .i64 x0), (AVal.int .i64 x1), (AVal.int .u32 x2)]), (AVal.sl f3 0 l4)] h =
  (runK (evFn Cw d 6 [(AVal.sl f3 0 l4)] h) fun r1 h1 =>
    (consK r1 fun w2 ws3 =>
      (aggK 3 w2 fun cc4 =>
        (consK ws3 fun w5 ws6 =>
          (intK .i64 w5 fun y7 =>
            (nilK ws6
              (bif ((cc4.length == 3) && true) then
                (runK (evFn Cw d 7 [(AVal.sl f3 0 l4)] h1) fun r8 h8 =>
                  (consK r8 fun w9 ws10 =>
                    (aggK 3 w9 fun cc11 =>
                      (consK ws10 fun w12 ws13 =>
                        (intK .i64 w12 fun y14 =>
                          (nilK ws13
                            (bif ((cc11.length == 3) && true) then
                              (bif decide (0 + 3 ≤ cc4.length) then
                                (bif decide (0 + 3 ≤ cc11.length) then
                                  (bif ((plainOk Cw.P 24 (AVal.agg ((cc4.drop 0).take 3))) && (plainOk Cw.P 24 (AVal.agg ((cc11.drop 0).take 3)))) then
                                    (bif (!(eqCells ((cc4.drop 0).take 3) ((cc11.drop 0).take 3))) then
                                      (Tr.ret ([(AVal.bool false)], h8))
                                    else
                                      (bif ((y7 : Int) != y14) then
                                        (Tr.ret ([(AVal.bool false)], h8))
                                      else
                                        (runK (evFn Cw d 8 [(AVal.agg [(AVal.int .i64 x0), (AVal.int .i64 x1), (AVal.int .u32 x2)])] h8) fun r15 h15 =>
                                          (consK r15 fun w16 ws17 =>
                                            (slOK 0 w16 fun es18 =>
                                              (nilK ws17
                                                (runK (evFn Cw d 6 [(AVal.sl false 0 es18)] h15) fun r19 h19 =>
                                                  (consK r19 fun w20 ws21 =>
                                                    (aggK 3 w20 fun cc22 =>
                                                      (consK ws21 fun w23 ws24 =>
                                                        (intK .i64 w23 fun y25 =>
                                                          (nilK ws24
                                                            (bif ((cc22.length == 3) && true) then
                                                              (optK (toBytes es18) fun ss26 =>
                                                                (runK (evFn Cw d 9 [(AVal.agg [(AVal.int .i64 (if (x0 : Int) > 0 then x0 else 0)), (AVal.int .i64 (if (x1 : Int) > 0 then x1 else 0)), (AVal.int .u32 x2)])] h19) fun r27 h27 =>
                                                                  (consK r27 fun w28 ws29 =>
                                                                    (slOK 0 w28 fun es30 =>
                                                                      (nilK ws29
                                                                        (optK (toBytes es30) fun ss31 =>
                                                                          (bif (ss26 == ss31) then
                                                                            (bif (decide (((if (x0 : Int) > 0 then x0 else 0) : Int) > 2147483647)) then
                                                                              (runK (evFn Cw d 10 [] h27) fun r32 h32 =>
                                                                                (consK r32 fun w33 ws34 =>
                                                                                  (boolK w33 fun bb35 =>
                                                                                    (nilK ws34
                                                                                      (Tr.ret ([(AVal.bool bb35)], h32))))))
                                                                            else
                                                                              (bif (decide (((if (x1 : Int) > 0 then x1 else 0) : Int) > 2147483647)) then
                                                                                (runK (evFn Cw d 10 [] h27) fun r36 h36 =>
                                                                                  (consK r36 fun w37 ws38 =>
                                                                                    (boolK w37 fun bb39 =>
                                                                                      (nilK ws38
                                                                                        (Tr.ret ([(AVal.bool bb39)], h36))))))
                                                                              else
                                                                                (bif ((y25 : Int) == 0) then
                                                                                  (bif decide (0 + 3 ≤ cc22.length) then
                                                                                    (bif ((plainOk Cw.P 24 (AVal.agg ((cc22.drop 0).take 3))) && true) then
                                                                                      (bif (eqCells ((cc22.drop 0).take 3) [(AVal.int .i64 (if (x0 : Int) > 0 then x0 else 0)), (AVal.int .i64 (if (x1 : Int) > 0 then x1 else 0)), (AVal.int .u32 x2)]) then
                                                                                        (runK (evFn Cw d 10 [] h27) fun r40 h40 =>
                                                                                          (consK r40 fun w41 ws42 =>
                                                                                            (boolK w41 fun bb43 =>
                                                                                              (nilK ws42
                                                                                                (Tr.ret ([(AVal.bool bb43)], h40))))))
                                                                                      else
                                                                                        (Tr.ret ([(AVal.bool false)], h27)))
                                                                                    else
                                                                                      Tr.fail)
                                                                                  else
                                                                                    Tr.fail)
                                                                                else
                                                                                  (Tr.ret ([(AVal.bool false)], h27)))))
                                                                          else
                                                                            (Tr.ret ([(AVal.bool false)], h27)))))))))
                                                            else
                                                              Tr.fail)))))))))))))
                                  else
                                    Tr.fail)
                                else
                                  Tr.fail)
                              else
                                Tr.fail)
                            else
                              Tr.fail)))))))
              else
                Tr.fail))))))) := by kernel_rfl
end Go.Proofs.YtdlcjibefbnckaaDoor.Wa
