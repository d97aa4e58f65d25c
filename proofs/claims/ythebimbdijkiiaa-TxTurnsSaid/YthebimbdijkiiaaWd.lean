/- What the evaluator comes to in these functions. -/
import Derived.Test.YthebimbdijkiiaaW0
import Derived.Test.YthebimbdijkiiaaWvLb
import Derived.KernelRfl
namespace Go.Proofs.Ythebimbdijkiiaa.Wa
open Go Go.Weave
set_option maxRecDepth 100000
set_option linter.unusedVariables false
/- f26 strandline/field.Get -/
theorem F26_eq (d : Nat) (f0 : Bool) (l1 : List AVal) (h : Heap) : evFn Cw (d + 1) 26 [(AVal.sl f0 0 l1)] h =
  (runK (evFn Cw d 18 [(AVal.sl f0 0 l1)] h) fun r1 h1 =>
    (consK r1 fun w2 ws3 =>
      (intK .u64 w2 fun y4 =>
        (consK ws3 fun w5 ws6 =>
          (intK .i64 w5 fun y7 =>
            (consK ws6 fun w8 ws9 =>
              (intK .i64 w8 fun y10 =>
                (nilK ws9
                  (bif ((y10 : Int) != 0) then
                    (Tr.ret ([(AVal.sl true 0 []), (AVal.int .i64 0), (AVal.int .i64 y10)], h1))
                  else
                    (bif (decide ((y4 : Int) > 65536)) then
                      (Tr.ret ([(AVal.sl true 0 []), (AVal.int .i64 0), (AVal.int .i64 5)], h1))
                    else
                      (bif (decide (((IntKind.i64.wrap (y7 + (IntKind.i64.wrap y4))) : Int) > (l1.length : Int))) then
                        (Tr.ret ([(AVal.sl true 0 []), (AVal.int .i64 0), (AVal.int .i64 1)], h1))
                      else
                        (bif ((decide ((0 : Int) ≤ y7) && decide ((y7 : Int) ≤ (IntKind.i64.wrap (y7 + (IntKind.i64.wrap y4))))) && decide (((IntKind.i64.wrap (y7 + (IntKind.i64.wrap y4))) : Int) ≤ (l1.length : Int))) then
                          (bif decide (((IntKind.i64.wrap (y7 + (IntKind.i64.wrap y4))) : Int) = (IntKind.i64.wrap (y7 + (IntKind.i64.wrap y4)))) then
                            (bif decide (((0 : Nat) + (Go.Weave.part y7 (IntKind.i64.wrap (y7 + (IntKind.i64.wrap y4))) l1).length) * 1 ≤ 140737488355328) then
                              (Tr.ret ([(AVal.sl false 0 ([] ++ (Go.Weave.part y7 (IntKind.i64.wrap (y7 + (IntKind.i64.wrap y4))) l1))), (AVal.int .i64 (IntKind.i64.wrap (y7 + (IntKind.i64.wrap y4)))), (AVal.int .i64 0)], h1))
                            else
                              Tr.fail)
                          else
                            Tr.fail)
                        else
                          Tr.fail)))))))))))) := by kernel_rfl
/- f27 strandline/strandlineref04.Get -/
theorem F27_eq (d : Nat) (f0 : Bool) (l1 : List AVal) (h : Heap) : evFn Cw (d + 1) 27 [(AVal.sl f0 0 l1)] h =
  (runK (evFn Cw d 20 [(AVal.sl f0 0 l1)] h) fun r1 h1 =>
    (consK r1 fun w2 ws3 =>
      (intK .u64 w2 fun y4 =>
        (consK ws3 fun w5 ws6 =>
          (intK .i64 w5 fun y7 =>
            (consK ws6 fun w8 ws9 =>
              (intK .i64 w8 fun y10 =>
                (nilK ws9
                  (bif ((y10 : Int) != 0) then
                    (Tr.ret ([(AVal.sl true 0 []), (AVal.int .i64 0), (AVal.int .i64 y10)], h1))
                  else
                    (bif (decide ((y4 : Int) > 65536)) then
                      (Tr.ret ([(AVal.sl true 0 []), (AVal.int .i64 0), (AVal.int .i64 5)], h1))
                    else
                      (bif (decide (((IntKind.i64.wrap y4) : Int) > (IntKind.i64.wrap ((l1.length : Int) - y7)))) then
                        (Tr.ret ([(AVal.sl true 0 []), (AVal.int .i64 0), (AVal.int .i64 1)], h1))
                      else
                        (bif ((decide ((0 : Int) ≤ y7) && decide ((y7 : Int) ≤ (IntKind.i64.wrap (y7 + (IntKind.i64.wrap y4))))) && decide (((IntKind.i64.wrap (y7 + (IntKind.i64.wrap y4))) : Int) ≤ (l1.length : Int))) then
                          (bif decide (((0 : Nat) + (Go.Weave.part y7 (IntKind.i64.wrap (y7 + (IntKind.i64.wrap y4))) l1).length) * 1 ≤ 140737488355328) then
                            (Tr.ret ([(AVal.sl false 0 ([] ++ (Go.Weave.part y7 (IntKind.i64.wrap (y7 + (IntKind.i64.wrap y4))) l1))), (AVal.int .i64 (IntKind.i64.wrap (y7 + (IntKind.i64.wrap y4)))), (AVal.int .i64 0)], h1))
                          else
                            Tr.fail)
                        else
                          Tr.fail)))))))))))) := by kernel_rfl
/- f28 strandline/field.Put -/
theorem F28_eq (d : Nat) (f0 : Bool) (l1 : List AVal) (f2 : Bool) (l3 : List AVal) (h : Heap) : evFn Cw (d + 1) 28 [(AVal.sl f0 0 l1), (AVal.sl f2 0 l3)] h =
  (bif (decide (((l3.length : Int) : Int) > 65536)) then
    (bif decide (((0 : Nat) + l1.length) * 1 ≤ 140737488355328) then (Tr.ret ([(AVal.sl false 0 ([] ++ l1))], h)) else Tr.fail)
  else
    (runK (evFn Cw d 15 [(AVal.sl f0 0 l1), (AVal.int .u64 (IntKind.u64.wrap (l3.length : Int)))] h) fun r1 h1 =>
      (consK r1 fun w2 ws3 =>
        (slOK 0 w2 fun es4 =>
          (nilK ws3
            (bif decide ((es4.length + l3.length) * 1 ≤ 140737488355328) then (Tr.ret ([(AVal.sl false 0 (es4 ++ l3))], h1)) else Tr.fail)))))) := by kernel_rfl
/- f36 strandline/field.Unpack -/
noncomputable def P36_0 (d k : Nat) (f0 : Bool) (l1 : List AVal) (l2 : List AVal) (h : Heap) : Tr Res :=
  loopPt Cw d 36 [true, true, false, true] [] k ⟨[(0, (EV.one (SV.val (AVal.sl f0 0 l1)))), (4, (EV.one (SV.own (tokOf 4 0) 0 l2)))], []⟩ h
theorem P36_0_eq (d k : Nat) (f0 : Bool) (l1 : List AVal) (l2 : List AVal) (h : Heap) : P36_0 d (k + 1) f0 l1 l2 h =
  (bif (decide (((l1.length : Int) : Int) > 0)) then
    (runK (evFn Cw d 26 [(AVal.sl f0 0 l1)] h) fun r1 h1 =>
      (consK r1 fun w2 ws3 =>
        (slOK 0 w2 fun es4 =>
          (consK ws3 fun w5 ws6 =>
            (intK .i64 w5 fun y7 =>
              (consK ws6 fun w8 ws9 =>
                (intK .i64 w8 fun y10 =>
                  (nilK ws9
                    (bif ((y10 : Int) != 0) then
                      (Tr.ret ([(AVal.sl true 0 []), (AVal.int .i64 y10)], h1))
                    else
                      (bif ((decide ((0 : Int) ≤ y7) && decide ((y7 : Int) ≤ (l1.length : Int))) && decide (((l1.length : Int) : Int) ≤ (l1.length : Int))) then
                        (bif decide ((l2.length + (1 : Nat)) * 24 ≤ 140737488355328) then
                          (P36_0 d k f0 (Go.Weave.part y7 (l1.length : Int) l1) (l2 ++ [(AVal.sl false 0 es4)]) h1)
                        else
                          Tr.fail)
                      else
                        Tr.fail))))))))))
  else
    (Tr.ret ([(AVal.sl false 0 l2), (AVal.int .i64 0)], h))) := by kernel_rfl
theorem F36_eq (d : Nat) (f0 : Bool) (l1 : List AVal) (h : Heap) : evFn Cw (d + 1) 36 [(AVal.sl f0 0 l1)] h =
  (P36_0 d rounds f0 l1 [] h) := by kernel_rfl
/- f29 strandline/strandlinelaw04.awake -/
theorem F29_eq (d : Nat) (h : Heap) : evFn Cw (d + 1) 29 [] h =
  (runK (evFn Cw d 36 [(AVal.sl true 0 [(AVal.int .u8 2), (AVal.int .u8 97), (AVal.int .u8 98), (AVal.int .u8 0)])] h) fun r1 h1 =>
    (consK r1 fun w2 ws3 =>
      (slOK 0 w2 fun es4 =>
        (consK ws3 fun w5 ws6 =>
          (intK .i64 w5 fun y7 =>
            (nilK ws6
              (bif ((y7 : Int) == 0) then
                (bif (((es4.length : Int) : Int) == 2) then
                  (bif decide ((0 : Int) < (es4.length : Int)) then
                    (slK 0 (es4.getD 0 AVal.undef) fun fl8 es9 =>
                      (optK (toBytes es9) fun ss10 =>
                        (bif (ss10 == [97, 98]) then
                          (bif decide ((1 : Int) < (es4.length : Int)) then
                            (slK 0 (es4.getD 1 AVal.undef) fun fl11 es12 =>
                              (Tr.ret ([(AVal.bool (((es12.length : Int) : Int) == 0))], h1)))
                          else
                            Tr.fail)
                        else
                          (Tr.ret ([(AVal.bool false)], h1)))))
                  else
                    Tr.fail)
                else
                  (Tr.ret ([(AVal.bool false)], h1)))
              else
                (Tr.ret ([(AVal.bool false)], h1))))))))) := by kernel_rfl
/- f7 strandline/strandlinelaw04.FieldGets -/
theorem F7_eq (d : Nat) (f0 : Bool) (l1 : List AVal) (h : Heap) : evFn Cw (d + 1) 7 [(AVal.sl f0 0 l1)] h =
  (runK (evFn Cw d 26 [(AVal.sl f0 0 l1)] h) fun r1 h1 =>
    (consK r1 fun w2 ws3 =>
      (slOK 0 w2 fun es4 =>
        (consK ws3 fun w5 ws6 =>
          (intK .i64 w5 fun y7 =>
            (consK ws6 fun w8 ws9 =>
              (intK .i64 w8 fun y10 =>
                (nilK ws9
                  (runK (evFn Cw d 27 [(AVal.sl f0 0 l1)] h1) fun r11 h11 =>
                    (consK r11 fun w12 ws13 =>
                      (slOK 0 w12 fun es14 =>
                        (consK ws13 fun w15 ws16 =>
                          (intK .i64 w15 fun y17 =>
                            (consK ws16 fun w18 ws19 =>
                              (intK .i64 w18 fun y20 =>
                                (nilK ws19
                                  (optK (toBytes es4) fun ss21 =>
                                    (optK (toBytes es14) fun ss22 =>
                                      (bif (!(ss21 == ss22)) then
                                        (Tr.ret ([(AVal.bool false)], h11))
                                      else
                                        (bif ((y7 : Int) != y17) then
                                          (Tr.ret ([(AVal.bool false)], h11))
                                        else
                                          (bif ((y10 : Int) != y20) then
                                            (Tr.ret ([(AVal.bool false)], h11))
                                          else
                                            (bif (decide ((y7 : Int) < 0)) then
                                              (Tr.ret ([(AVal.bool false)], h11))
                                            else
                                              (bif (decide ((y7 : Int) > (l1.length : Int))) then
                                                (Tr.ret ([(AVal.bool false)], h11))
                                              else
                                                (bif ((y10 : Int) != 0) then
                                                  (runK (evFn Cw d 29 [] h11) fun r23 h23 =>
                                                    (consK r23 fun w24 ws25 =>
                                                      (boolK w24 fun bb26 =>
                                                        (nilK ws25
                                                          (Tr.ret ([(AVal.bool bb26)], h23))))))
                                                else
                                                  (bif (decide ((0 : Int) ≤ y7) && decide ((y7 : Int) ≤ (l1.length : Int))) then
                                                    (optK (toBytes (Go.Weave.part 0 y7 l1)) fun ss27 =>
                                                      (runK (evFn Cw d 28 [(AVal.sl true 0 []), (AVal.sl false 0 es4)] h11) fun r28 h28 =>
                                                        (consK r28 fun w29 ws30 =>
                                                          (slOK 0 w29 fun es31 =>
                                                            (nilK ws30
                                                              (optK (toBytes es31) fun ss32 =>
                                                                (bif (ss32 == ss27) then
                                                                  (runK (evFn Cw d 29 [] h28) fun r33 h33 =>
                                                                    (consK r33 fun w34 ws35 =>
                                                                      (boolK w34 fun bb36 =>
                                                                        (nilK ws35
                                                                          (Tr.ret ([(AVal.bool bb36)], h33))))))
                                                                else
                                                                  (Tr.ret ([(AVal.bool false)], h28)))))))))
                                                  else
                                                    Tr.fail))))))))))))))))))))))))) := by kernel_rfl
/- f33 strandline/strandlinelaw04.Few -/
theorem F33_eq (d : Nat) (f0 : Bool) (l1 : List AVal) (h : Heap) : evFn Cw (d + 1) 33 [(AVal.sl f0 0 l1)] h =
  (Tr.ret ([(AVal.bool (decide (((l1.length : Int) : Int) ≤ 200)))], h)) := by kernel_rfl
/- f34 strandline/field.Pack -/
noncomputable def P34_0 (d k : Nat) (l0 : List AVal) (f1 : Bool) (l2 : List AVal) (x3 : Int) (x4 : Int) (h : Heap) : Tr Res :=
  loopPt Cw d 34 [true, true, false, true, true] [] k ⟨[(3, (EV.one (SV.own (tokOf 3 0) 0 l0))), (6, (EV.one (SV.val (AVal.sl f1 0 l2)))), (7, (EV.one (SV.val (AVal.int .i64 x3)))), (8, (EV.one (SV.val (AVal.int .i64 x4))))], []⟩ h
theorem P34_0_eq (d k : Nat) (l0 : List AVal) (f1 : Bool) (l2 : List AVal) (x3 : Int) (x4 : Int) (h : Heap) : P34_0 d (k + 1) l0 f1 l2 x3 x4 h =
  (bif (decide ((x4 : Int) < x3)) then
    (bif (decide ((0 : Int) ≤ x4) && decide ((x4 : Int) < (l2.length : Int))) then
      (slK 0 (l2.getD (Int.toNat x4) AVal.undef) fun fl1 es2 =>
        (runK (evFn Cw d 28 [(AVal.sl false 0 l0), (AVal.sl fl1 0 es2)] h) fun r3 h3 =>
          (consK r3 fun w4 ws5 =>
            (slOK 0 w4 fun es6 =>
              (nilK ws5
                (P34_0 d k es6 f1 l2 x3 (IntKind.i64.wrap (x4 + 1)) h3))))))
    else
      Tr.fail)
  else
    (Tr.ret ([(AVal.sl false 0 l0)], h))) := by kernel_rfl
theorem F34_eq (d : Nat) (f0 : Bool) (l1 : List AVal) (h : Heap) : evFn Cw (d + 1) 34 [(AVal.sl f0 0 l1)] h =
  (P34_0 d rounds [] f0 l1 (l1.length : Int) 0 h) := by kernel_rfl
/- f35 strandline/strandlineref04.Pack -/
noncomputable def P35_0 (d k : Nat) (f0 : Bool) (l1 : List AVal) (l2 : List AVal) (x3 : Int) (h : Heap) : Tr Res :=
  loopPt Cw d 35 [true, true, false, true, true] [] k ⟨[(0, (EV.one (SV.val (AVal.sl f0 0 l1)))), (3, (EV.one (SV.own (tokOf 3 0) 0 l2))), (4, (EV.one (SV.val (AVal.int .i64 x3))))], []⟩ h
theorem P35_0_eq (d k : Nat) (f0 : Bool) (l1 : List AVal) (l2 : List AVal) (x3 : Int) (h : Heap) : P35_0 d (k + 1) f0 l1 l2 x3 h =
  (bif (decide ((x3 : Int) < (l1.length : Int))) then
    (bif (decide ((0 : Int) ≤ x3) && decide ((x3 : Int) < (l1.length : Int))) then
      (slK 0 (l1.getD (Int.toNat x3) AVal.undef) fun fl1 es2 =>
        (bif (decide (((es2.length : Int) : Int) ≤ 65536)) then
          (bif (decide ((0 : Int) ≤ x3) && decide ((x3 : Int) < (l1.length : Int))) then
            (slK 0 (l1.getD (Int.toNat x3) AVal.undef) fun fl3 es4 =>
              (runK (evFn Cw d 16 [(AVal.sl false 0 l2), (AVal.int .u64 (IntKind.u64.wrap (es4.length : Int)))] h) fun r5 h5 =>
                (consK r5 fun w6 ws7 =>
                  (slOK 0 w6 fun es8 =>
                    (nilK ws7
                      (bif (decide ((0 : Int) ≤ x3) && decide ((x3 : Int) < (l1.length : Int))) then
                        (slK 0 (l1.getD (Int.toNat x3) AVal.undef) fun fl9 es10 =>
                          (bif decide ((es8.length + es10.length) * 1 ≤ 140737488355328) then (P35_0 d k f0 l1 (es8 ++ es10) (IntKind.i64.wrap (x3 + 1)) h5) else Tr.fail))
                      else
                        Tr.fail))))))
          else
            Tr.fail)
        else
          (P35_0 d k f0 l1 l2 (IntKind.i64.wrap (x3 + 1)) h)))
    else
      Tr.fail)
  else
    (Tr.ret ([(AVal.sl false 0 l2)], h))) := by kernel_rfl
theorem F35_eq (d : Nat) (f0 : Bool) (l1 : List AVal) (h : Heap) : evFn Cw (d + 1) 35 [(AVal.sl f0 0 l1)] h =
  (P35_0 d rounds f0 l1 [] 0 h) := by kernel_rfl
/- f37 strandline/strandlineref04.Unpack -/
noncomputable def P37_0 (d k : Nat) (f0 : Bool) (l1 : List AVal) (l2 : List AVal) (x3 : Int) (h : Heap) : Tr Res :=
  loopPt Cw d 37 [true, true, false, true, true] [] k ⟨[(0, (EV.one (SV.val (AVal.sl f0 0 l1)))), (4, (EV.one (SV.own (tokOf 4 0) 0 l2))), (5, (EV.one (SV.val (AVal.int .i64 x3))))], []⟩ h
theorem P37_0_eq (d k : Nat) (f0 : Bool) (l1 : List AVal) (l2 : List AVal) (x3 : Int) (h : Heap) : P37_0 d (k + 1) f0 l1 l2 x3 h =
  (bif (decide ((x3 : Int) < (l1.length : Int))) then
    (bif ((decide ((0 : Int) ≤ x3) && decide ((x3 : Int) ≤ (l1.length : Int))) && decide (((l1.length : Int) : Int) ≤ (l1.length : Int))) then
      (runK (evFn Cw d 27 [(AVal.sl f0 0 (Go.Weave.part x3 (l1.length : Int) l1))] h) fun r1 h1 =>
        (consK r1 fun w2 ws3 =>
          (slOK 0 w2 fun es4 =>
            (consK ws3 fun w5 ws6 =>
              (intK .i64 w5 fun y7 =>
                (consK ws6 fun w8 ws9 =>
                  (intK .i64 w8 fun y10 =>
                    (nilK ws9
                      (bif ((y10 : Int) != 0) then
                        (Tr.ret ([(AVal.sl true 0 []), (AVal.int .i64 y10)], h1))
                      else
                        (bif decide ((l2.length + (1 : Nat)) * 24 ≤ 140737488355328) then (P37_0 d k f0 l1 (l2 ++ [(AVal.sl false 0 es4)]) (IntKind.i64.wrap (x3 + y7)) h1) else Tr.fail))))))))))
    else
      Tr.fail)
  else
    (Tr.ret ([(AVal.sl false 0 l2), (AVal.int .i64 0)], h))) := by kernel_rfl
theorem F37_eq (d : Nat) (f0 : Bool) (l1 : List AVal) (h : Heap) : evFn Cw (d + 1) 37 [(AVal.sl f0 0 l1)] h =
  (P37_0 d rounds f0 l1 [] 0 h) := by kernel_rfl
/- f38 strandline/strandlineref04.Same -/
noncomputable def P38_0 (d k : Nat) (f0 : Bool) (l1 : List AVal) (f2 : Bool) (l3 : List AVal) (x4 : Int) (h : Heap) : Tr Res :=
  loopPt Cw d 38 [true, true, false, true, true] [] k ⟨[(0, (EV.one (SV.val (AVal.sl f0 0 l1)))), (1, (EV.one (SV.val (AVal.sl f2 0 l3)))), (5, (EV.one (SV.val (AVal.int .i64 x4))))], []⟩ h
theorem P38_0_eq (d k : Nat) (f0 : Bool) (l1 : List AVal) (f2 : Bool) (l3 : List AVal) (x4 : Int) (h : Heap) : P38_0 d (k + 1) f0 l1 f2 l3 x4 h =
  (bif (decide ((x4 : Int) < (l1.length : Int))) then
    (bif (decide ((0 : Int) ≤ x4) && decide ((x4 : Int) < (l1.length : Int))) then
      (slK 0 (l1.getD (Int.toNat x4) AVal.undef) fun fl1 es2 =>
        (optK (toBytes es2) fun ss3 =>
          (bif (decide ((0 : Int) ≤ x4) && decide ((x4 : Int) < (l3.length : Int))) then
            (slK 0 (l3.getD (Int.toNat x4) AVal.undef) fun fl4 es5 =>
              (optK (toBytes es5) fun ss6 =>
                (bif (!(ss3 == ss6)) then (Tr.ret ([(AVal.bool false)], h)) else (P38_0 d k f0 l1 f2 l3 (IntKind.i64.wrap (x4 + 1)) h))))
          else
            Tr.fail)))
    else
      Tr.fail)
  else
    (Tr.ret ([(AVal.bool true)], h))) := by kernel_rfl
theorem F38_eq (d : Nat) (f0 : Bool) (l1 : List AVal) (f2 : Bool) (l3 : List AVal) (h : Heap) : evFn Cw (d + 1) 38 [(AVal.sl f0 0 l1), (AVal.sl f2 0 l3)] h =
  (bif (((l1.length : Int) : Int) != (l3.length : Int)) then (Tr.ret ([(AVal.bool false)], h)) else (P38_0 d rounds f0 l1 f2 l3 0 h)) := by kernel_rfl
/- f9 strandline/strandlinelaw04.FieldPacks -/
noncomputable def P9_0 (d k : Nat) (f0 : Bool) (l1 : List AVal) (f2 : Bool) (l3 : List AVal) (l4 : List AVal) (x5 : Int) (h : Heap) : Tr Res :=
  loopPt Cw d 9 [true, true, true, true, false, true, true] [] k ⟨[(0, (EV.one (SV.val (AVal.sl f0 0 l1)))), (1, (EV.one (SV.val (AVal.sl f2 0 l3)))), (5, (EV.one (SV.own (tokOf 5 0) 0 l4))), (6, (EV.one (SV.val (AVal.int .i64 x5))))], []⟩ h
theorem P9_0_eq (d k : Nat) (f0 : Bool) (l1 : List AVal) (f2 : Bool) (l3 : List AVal) (l4 : List AVal) (x5 : Int) (h : Heap) : P9_0 d (k + 1) f0 l1 f2 l3 l4 x5 h =
  (bif (decide ((x5 : Int) < (l3.length : Int))) then
    (bif (decide ((0 : Int) ≤ x5) && decide ((x5 : Int) < (l3.length : Int))) then
      (bif ((decide ((0 : Int) ≤ x5) && decide ((x5 : Int) ≤ (IntKind.i64.wrap (x5 + 1)))) && decide (((IntKind.i64.wrap (x5 + 1)) : Int) ≤ (l3.length : Int))) then
        (Tr.anyL [
          (slK 0 (l3.getD (Int.toNat x5) AVal.undef) fun fl1 es2 =>
            (Tr.anyL [
              (runK (evFn Cw d 28 [(AVal.sl f0 0 l1), (AVal.sl fl1 0 es2)] h) fun r3 h3 =>
                (consK r3 fun w4 ws5 =>
                  (slOK 0 w4 fun es6 =>
                    (nilK ws5
                      (Tr.anyL [
                        (optK (toBytes es6) fun ss7 =>
                          (bif decide (((0 : Nat) + l1.length) * 1 ≤ 140737488355328) then
                            (runK (evFn Cw d 35 [(AVal.sl false 0 (Go.Weave.part x5 (IntKind.i64.wrap (x5 + 1)) l3))] h3) fun r8 h8 =>
                              (consK r8 fun w9 ws10 =>
                                (slOK 0 w9 fun es11 =>
                                  (nilK ws10
                                    (bif decide ((([] ++ l1).length + es11.length) * 1 ≤ 140737488355328) then
                                      (optK (toBytes (([] ++ l1) ++ es11)) fun ss12 =>
                                        (bif (!(ss7 == ss12)) then (Tr.ret ([(AVal.bool false)], h8)) else (P9_0 d k f0 l1 f2 l3 l4 (IntKind.i64.wrap (x5 + 1)) h8)))
                                    else
                                      Tr.fail)))))
                          else
                            Tr.fail)),
                        (Tr.anyL [
                          (optK (toBytes es6) fun ss7 =>
                            (bif decide (((0 : Nat) + l1.length) * 1 ≤ 140737488355328) then
                              (runK (evFn Cw d 35 [(AVal.sl false 0 (Go.Weave.part x5 (IntKind.i64.wrap (x5 + 1)) l3))] h3) fun r8 h8 =>
                                (consK r8 fun w9 ws10 =>
                                  (slOK 0 w9 fun es11 =>
                                    (nilK ws10
                                      (bif decide ((([] ++ l1).length + es11.length) * 1 ≤ 140737488355328) then
                                        (optK (toBytes (([] ++ l1) ++ es11)) fun ss12 =>
                                          (bif (!(ss7 == ss12)) then (Tr.ret ([(AVal.bool false)], h8)) else (P9_0 d k f0 l1 f2 l3 l4 (IntKind.i64.wrap (x5 + 1)) h8)))
                                      else
                                        Tr.fail)))))
                            else
                              Tr.fail)),
                          (bif decide (((0 : Nat) + l1.length) * 1 ≤ 140737488355328) then
                            (Tr.anyL [
                              (optK (toBytes es6) fun ss7 =>
                                (runK (evFn Cw d 35 [(AVal.sl false 0 (Go.Weave.part x5 (IntKind.i64.wrap (x5 + 1)) l3))] h3) fun r8 h8 =>
                                  (consK r8 fun w9 ws10 =>
                                    (slOK 0 w9 fun es11 =>
                                      (nilK ws10
                                        (bif decide ((([] ++ l1).length + es11.length) * 1 ≤ 140737488355328) then
                                          (optK (toBytes (([] ++ l1) ++ es11)) fun ss12 =>
                                            (bif (!(ss7 == ss12)) then (Tr.ret ([(AVal.bool false)], h8)) else (P9_0 d k f0 l1 f2 l3 l4 (IntKind.i64.wrap (x5 + 1)) h8)))
                                        else
                                          Tr.fail)))))),
                              (runK (evFn Cw d 35 [(AVal.sl false 0 (Go.Weave.part x5 (IntKind.i64.wrap (x5 + 1)) l3))] h3) fun r7 h7 =>
                                (consK r7 fun w8 ws9 =>
                                  (slOK 0 w8 fun es10 =>
                                    (nilK ws9
                                      (Tr.anyL [
                                        (optK (toBytes es6) fun ss11 =>
                                          (bif decide ((([] ++ l1).length + es10.length) * 1 ≤ 140737488355328) then
                                            (optK (toBytes (([] ++ l1) ++ es10)) fun ss12 =>
                                              (bif (!(ss11 == ss12)) then (Tr.ret ([(AVal.bool false)], h7)) else (P9_0 d k f0 l1 f2 l3 l4 (IntKind.i64.wrap (x5 + 1)) h7)))
                                          else
                                            Tr.fail)),
                                        (bif decide ((([] ++ l1).length + es10.length) * 1 ≤ 140737488355328) then
                                          (optK (toBytes es6) fun ss11 =>
                                            (optK (toBytes (([] ++ l1) ++ es10)) fun ss12 =>
                                              (bif (!(ss11 == ss12)) then (Tr.ret ([(AVal.bool false)], h7)) else (P9_0 d k f0 l1 f2 l3 l4 (IntKind.i64.wrap (x5 + 1)) h7))))
                                        else
                                          Tr.fail)])))))])
                          else
                            Tr.fail)])]))))),
              (runK (evFn Cw d 28 [(AVal.sl f0 0 l1), (AVal.sl fl1 0 es2)] h) fun r3 h3 =>
                (consK r3 fun w4 ws5 =>
                  (slOK 0 w4 fun es6 =>
                    (nilK ws5
                      (Tr.anyL [
                        (optK (toBytes es6) fun ss7 =>
                          (bif decide (((0 : Nat) + l1.length) * 1 ≤ 140737488355328) then
                            (runK (evFn Cw d 35 [(AVal.sl false 0 (Go.Weave.part x5 (IntKind.i64.wrap (x5 + 1)) l3))] h3) fun r8 h8 =>
                              (consK r8 fun w9 ws10 =>
                                (slOK 0 w9 fun es11 =>
                                  (nilK ws10
                                    (bif decide ((([] ++ l1).length + es11.length) * 1 ≤ 140737488355328) then
                                      (optK (toBytes (([] ++ l1) ++ es11)) fun ss12 =>
                                        (bif (!(ss7 == ss12)) then (Tr.ret ([(AVal.bool false)], h8)) else (P9_0 d k f0 l1 f2 l3 l4 (IntKind.i64.wrap (x5 + 1)) h8)))
                                    else
                                      Tr.fail)))))
                          else
                            Tr.fail)),
                        (bif decide (((0 : Nat) + l1.length) * 1 ≤ 140737488355328) then
                          (Tr.anyL [
                            (optK (toBytes es6) fun ss7 =>
                              (runK (evFn Cw d 35 [(AVal.sl false 0 (Go.Weave.part x5 (IntKind.i64.wrap (x5 + 1)) l3))] h3) fun r8 h8 =>
                                (consK r8 fun w9 ws10 =>
                                  (slOK 0 w9 fun es11 =>
                                    (nilK ws10
                                      (bif decide ((([] ++ l1).length + es11.length) * 1 ≤ 140737488355328) then
                                        (optK (toBytes (([] ++ l1) ++ es11)) fun ss12 =>
                                          (bif (!(ss7 == ss12)) then (Tr.ret ([(AVal.bool false)], h8)) else (P9_0 d k f0 l1 f2 l3 l4 (IntKind.i64.wrap (x5 + 1)) h8)))
                                      else
                                        Tr.fail)))))),
                            (runK (evFn Cw d 35 [(AVal.sl false 0 (Go.Weave.part x5 (IntKind.i64.wrap (x5 + 1)) l3))] h3) fun r7 h7 =>
                              (consK r7 fun w8 ws9 =>
                                (slOK 0 w8 fun es10 =>
                                  (nilK ws9
                                    (Tr.anyL [
                                      (optK (toBytes es6) fun ss11 =>
                                        (bif decide ((([] ++ l1).length + es10.length) * 1 ≤ 140737488355328) then
                                          (optK (toBytes (([] ++ l1) ++ es10)) fun ss12 =>
                                            (bif (!(ss11 == ss12)) then (Tr.ret ([(AVal.bool false)], h7)) else (P9_0 d k f0 l1 f2 l3 l4 (IntKind.i64.wrap (x5 + 1)) h7)))
                                        else
                                          Tr.fail)),
                                      (bif decide ((([] ++ l1).length + es10.length) * 1 ≤ 140737488355328) then
                                        (optK (toBytes es6) fun ss11 =>
                                          (optK (toBytes (([] ++ l1) ++ es10)) fun ss12 =>
                                            (bif (!(ss11 == ss12)) then (Tr.ret ([(AVal.bool false)], h7)) else (P9_0 d k f0 l1 f2 l3 l4 (IntKind.i64.wrap (x5 + 1)) h7))))
                                      else
                                        Tr.fail)])))))])
                        else
                          Tr.fail)])))))])),
          (slK 0 (l3.getD (Int.toNat x5) AVal.undef) fun fl1 es2 =>
            (runK (evFn Cw d 28 [(AVal.sl f0 0 l1), (AVal.sl fl1 0 es2)] h) fun r3 h3 =>
              (consK r3 fun w4 ws5 =>
                (slOK 0 w4 fun es6 =>
                  (nilK ws5
                    (Tr.anyL [
                      (optK (toBytes es6) fun ss7 =>
                        (bif decide (((0 : Nat) + l1.length) * 1 ≤ 140737488355328) then
                          (runK (evFn Cw d 35 [(AVal.sl false 0 (Go.Weave.part x5 (IntKind.i64.wrap (x5 + 1)) l3))] h3) fun r8 h8 =>
                            (consK r8 fun w9 ws10 =>
                              (slOK 0 w9 fun es11 =>
                                (nilK ws10
                                  (bif decide ((([] ++ l1).length + es11.length) * 1 ≤ 140737488355328) then
                                    (optK (toBytes (([] ++ l1) ++ es11)) fun ss12 =>
                                      (bif (!(ss7 == ss12)) then (Tr.ret ([(AVal.bool false)], h8)) else (P9_0 d k f0 l1 f2 l3 l4 (IntKind.i64.wrap (x5 + 1)) h8)))
                                  else
                                    Tr.fail)))))
                        else
                          Tr.fail)),
                      (bif decide (((0 : Nat) + l1.length) * 1 ≤ 140737488355328) then
                        (Tr.anyL [
                          (optK (toBytes es6) fun ss7 =>
                            (runK (evFn Cw d 35 [(AVal.sl false 0 (Go.Weave.part x5 (IntKind.i64.wrap (x5 + 1)) l3))] h3) fun r8 h8 =>
                              (consK r8 fun w9 ws10 =>
                                (slOK 0 w9 fun es11 =>
                                  (nilK ws10
                                    (bif decide ((([] ++ l1).length + es11.length) * 1 ≤ 140737488355328) then
                                      (optK (toBytes (([] ++ l1) ++ es11)) fun ss12 =>
                                        (bif (!(ss7 == ss12)) then (Tr.ret ([(AVal.bool false)], h8)) else (P9_0 d k f0 l1 f2 l3 l4 (IntKind.i64.wrap (x5 + 1)) h8)))
                                    else
                                      Tr.fail)))))),
                          (runK (evFn Cw d 35 [(AVal.sl false 0 (Go.Weave.part x5 (IntKind.i64.wrap (x5 + 1)) l3))] h3) fun r7 h7 =>
                            (consK r7 fun w8 ws9 =>
                              (slOK 0 w8 fun es10 =>
                                (nilK ws9
                                  (Tr.anyL [
                                    (optK (toBytes es6) fun ss11 =>
                                      (bif decide ((([] ++ l1).length + es10.length) * 1 ≤ 140737488355328) then
                                        (optK (toBytes (([] ++ l1) ++ es10)) fun ss12 =>
                                          (bif (!(ss11 == ss12)) then (Tr.ret ([(AVal.bool false)], h7)) else (P9_0 d k f0 l1 f2 l3 l4 (IntKind.i64.wrap (x5 + 1)) h7)))
                                      else
                                        Tr.fail)),
                                    (bif decide ((([] ++ l1).length + es10.length) * 1 ≤ 140737488355328) then
                                      (optK (toBytes es6) fun ss11 =>
                                        (optK (toBytes (([] ++ l1) ++ es10)) fun ss12 =>
                                          (bif (!(ss11 == ss12)) then (Tr.ret ([(AVal.bool false)], h7)) else (P9_0 d k f0 l1 f2 l3 l4 (IntKind.i64.wrap (x5 + 1)) h7))))
                                    else
                                      Tr.fail)])))))])
                      else
                        Tr.fail)]))))))])
      else
        Tr.fail)
    else
      Tr.fail)
  else
    (runK (evFn Cw d 36 [(AVal.sl false 0 l4)] h) fun r13 h13 =>
      (consK r13 fun w14 ws15 =>
        (slOK 0 w14 fun es16 =>
          (consK ws15 fun w17 ws18 =>
            (intK .i64 w17 fun y19 =>
              (nilK ws18
                (runK (evFn Cw d 35 [(AVal.sl f2 0 l3)] h13) fun r20 h20 =>
                  (consK r20 fun w21 ws22 =>
                    (slOK 0 w21 fun es23 =>
                      (nilK ws22
                        (runK (evFn Cw d 37 [(AVal.sl false 0 es23)] h20) fun r24 h24 =>
                          (consK r24 fun w25 ws26 =>
                            (slOK 0 w25 fun es27 =>
                              (consK ws26 fun w28 ws29 =>
                                (intK .i64 w28 fun y30 =>
                                  (nilK ws29
                                    (bif ((y19 : Int) == 0) then
                                      (runK (evFn Cw d 38 [(AVal.sl false 0 es16), (AVal.sl false 0 es27)] h24) fun r31 h31 =>
                                        (consK r31 fun w32 ws33 =>
                                          (boolK w32 fun bb34 =>
                                            (nilK ws33
                                              (bif bb34 then
                                                (runK (evFn Cw d 29 [] h31) fun r35 h35 =>
                                                  (consK r35 fun w36 ws37 =>
                                                    (boolK w36 fun bb38 =>
                                                      (nilK ws37
                                                        (Tr.ret ([(AVal.bool bb38)], h35))))))
                                              else
                                                (Tr.ret ([(AVal.bool false)], h31)))))))
                                    else
                                      (Tr.ret ([(AVal.bool false)], h24)))))))))))))))))))) := by kernel_rfl
theorem F9_eq (d : Nat) (f0 : Bool) (l1 : List AVal) (f2 : Bool) (l3 : List AVal) (h : Heap) : evFn Cw (d + 1) 9 [(AVal.sl f0 0 l1), (AVal.sl f2 0 l3)] h =
  (runK (evFn Cw d 33 [(AVal.sl f2 0 l3)] h) fun r1 h1 =>
    (consK r1 fun w2 ws3 =>
      (boolK w2 fun bb4 =>
        (nilK ws3
          (bif (!bb4) then
            (runK (evFn Cw d 29 [] h1) fun r5 h5 =>
              (consK r5 fun w6 ws7 =>
                (boolK w6 fun bb8 =>
                  (nilK ws7
                    (Tr.ret ([(AVal.bool bb8)], h5))))))
          else
            (runK (evFn Cw d 34 [(AVal.sl f2 0 l3)] h1) fun r9 h9 =>
              (consK r9 fun w10 ws11 =>
                (slOK 0 w10 fun es12 =>
                  (nilK ws11
                    (optK (toBytes es12) fun ss13 =>
                      (runK (evFn Cw d 35 [(AVal.sl f2 0 l3)] h9) fun r14 h14 =>
                        (consK r14 fun w15 ws16 =>
                          (slOK 0 w15 fun es17 =>
                            (nilK ws16
                              (optK (toBytes es17) fun ss18 =>
                                (bif (!(ss13 == ss18)) then (Tr.ret ([(AVal.bool false)], h14)) else (P9_0 d rounds f0 l1 f2 l3 es12 0 h14))))))))))))))))) := by kernel_rfl
/- f10 strandline/strandlinelaw04.FieldUnpacks -/
theorem F10_eq (d : Nat) (f0 : Bool) (l1 : List AVal) (h : Heap) : evFn Cw (d + 1) 10 [(AVal.sl f0 0 l1)] h =
  (runK (evFn Cw d 36 [(AVal.sl f0 0 l1)] h) fun r1 h1 =>
    (consK r1 fun w2 ws3 =>
      (slOK 0 w2 fun es4 =>
        (consK ws3 fun w5 ws6 =>
          (intK .i64 w5 fun y7 =>
            (nilK ws6
              (runK (evFn Cw d 37 [(AVal.sl f0 0 l1)] h1) fun r8 h8 =>
                (consK r8 fun w9 ws10 =>
                  (slOK 0 w9 fun es11 =>
                    (consK ws10 fun w12 ws13 =>
                      (intK .i64 w12 fun y14 =>
                        (nilK ws13
                          (runK (evFn Cw d 38 [(AVal.sl false 0 es4), (AVal.sl false 0 es11)] h8) fun r15 h15 =>
                            (consK r15 fun w16 ws17 =>
                              (boolK w16 fun bb18 =>
                                (nilK ws17
                                  (bif bb18 then
                                    (bif ((y7 : Int) == y14) then
                                      (bif ((y7 : Int) != 0) then
                                        (runK (evFn Cw d 29 [] h15) fun r19 h19 =>
                                          (consK r19 fun w20 ws21 =>
                                            (boolK w20 fun bb22 =>
                                              (nilK ws21
                                                (Tr.ret ([(AVal.bool bb22)], h19))))))
                                      else
                                        (optK (toBytes l1) fun ss23 =>
                                          (runK (evFn Cw d 34 [(AVal.sl false 0 es4)] h15) fun r24 h24 =>
                                            (consK r24 fun w25 ws26 =>
                                              (slOK 0 w25 fun es27 =>
                                                (nilK ws26
                                                  (optK (toBytes es27) fun ss28 =>
                                                    (bif (ss28 == ss23) then
                                                      (runK (evFn Cw d 29 [] h24) fun r29 h29 =>
                                                        (consK r29 fun w30 ws31 =>
                                                          (boolK w30 fun bb32 =>
                                                            (nilK ws31
                                                              (Tr.ret ([(AVal.bool bb32)], h29))))))
                                                    else
                                                      (Tr.ret ([(AVal.bool false)], h24))))))))))
                                    else
                                      (Tr.ret ([(AVal.bool false)], h15)))
                                  else
                                    (Tr.ret ([(AVal.bool false)], h15))))))))))))))))))) := by kernel_rfl
end Go.Proofs.Ythebimbdijkiiaa.Wa
