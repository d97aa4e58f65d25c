/- What the evaluator comes to in these functions. -/
import Derived.Test.YtkpjkaikeeldfaaW0
import Derived.Test.YtkpjkaikeeldfaaWvLb
import Derived.KernelRfl
namespace Go.Proofs.Ytkpjkaikeeldfaa.Wa
open Go Go.Weave
set_option maxRecDepth 100000
set_option linter.unusedVariables false
/- f28 strandline/field.Get -/
theorem F28_eq (d : Nat) (f0 : Bool) (l1 : List AVal) (h : Heap) : evFn Cw (d + 1) 28 [(AVal.sl f0 0 l1)] h =
  (runK (evFn Cw d 21 [(AVal.sl f0 0 l1)] h) fun r1 h1 =>
    (consK r1 fun w2 ws3 =>
      (intK .u64 w2 fun y4 =>
        (consK ws3 fun w5 ws6 =>
          (intK .i64 w5 fun y7 =>
            (consK ws6 fun w8 ws9 =>
              (intK .i64 w8 fun y10 =>
                (nilK ws9
                  (bif ((y10 : Int) != 0) then
                    (Tr.ret ([(AVal.sl true 0 []), (AVal.int .i64 0), (AVal.int .i64 y10)], h1))
                  else
                    (bif (decide ((y4 : Int) > 65536)) then
                      (Tr.ret ([(AVal.sl true 0 []), (AVal.int .i64 0), (AVal.int .i64 5)], h1))
                    else
                      (bif (decide (((IntKind.i64.wrap (y7 + (IntKind.i64.wrap y4))) : Int) > (l1.length : Int))) then
                        (Tr.ret ([(AVal.sl true 0 []), (AVal.int .i64 0), (AVal.int .i64 1)], h1))
                      else
                        (bif ((decide ((0 : Int) ≤ y7) && decide ((y7 : Int) ≤ (IntKind.i64.wrap (y7 + (IntKind.i64.wrap y4))))) && decide (((IntKind.i64.wrap (y7 + (IntKind.i64.wrap y4))) : Int) ≤ (l1.length : Int))) then
                          (bif decide (((IntKind.i64.wrap (y7 + (IntKind.i64.wrap y4))) : Int) = (IntKind.i64.wrap (y7 + (IntKind.i64.wrap y4)))) then
                            (bif decide (((0 : Nat) + (Go.Weave.part y7 (IntKind.i64.wrap (y7 + (IntKind.i64.wrap y4))) l1).length) * 1 ≤ 140737488355328) then
                              (Tr.ret ([(AVal.sl false 0 ([] ++ (Go.Weave.part y7 (IntKind.i64.wrap (y7 + (IntKind.i64.wrap y4))) l1))), (AVal.int .i64 (IntKind.i64.wrap (y7 + (IntKind.i64.wrap y4)))), (AVal.int .i64 0)], h1))
                            else
                              Tr.fail)
                          else
                            Tr.fail)
                        else
                          Tr.fail)))))))))))) := by kernel_rfl
/- f30 strandline/strandlineref04.Get -/
theorem F30_eq (d : Nat) (f0 : Bool) (l1 : List AVal) (h : Heap) : evFn Cw (d + 1) 30 [(AVal.sl f0 0 l1)] h =
  (runK (evFn Cw d 31 [(AVal.sl f0 0 l1)] h) fun r1 h1 =>
    (consK r1 fun w2 ws3 =>
      (intK .u64 w2 fun y4 =>
        (consK ws3 fun w5 ws6 =>
          (intK .i64 w5 fun y7 =>
            (consK ws6 fun w8 ws9 =>
              (intK .i64 w8 fun y10 =>
                (nilK ws9
                  (bif ((y10 : Int) != 0) then
                    (Tr.ret ([(AVal.sl true 0 []), (AVal.int .i64 0), (AVal.int .i64 y10)], h1))
                  else
                    (bif (decide ((y4 : Int) > 65536)) then
                      (Tr.ret ([(AVal.sl true 0 []), (AVal.int .i64 0), (AVal.int .i64 5)], h1))
                    else
                      (bif (decide (((IntKind.i64.wrap y4) : Int) > (IntKind.i64.wrap ((l1.length : Int) - y7)))) then
                        (Tr.ret ([(AVal.sl true 0 []), (AVal.int .i64 0), (AVal.int .i64 1)], h1))
                      else
                        (bif ((decide ((0 : Int) ≤ y7) && decide ((y7 : Int) ≤ (IntKind.i64.wrap (y7 + (IntKind.i64.wrap y4))))) && decide (((IntKind.i64.wrap (y7 + (IntKind.i64.wrap y4))) : Int) ≤ (l1.length : Int))) then
                          (bif decide (((0 : Nat) + (Go.Weave.part y7 (IntKind.i64.wrap (y7 + (IntKind.i64.wrap y4))) l1).length) * 1 ≤ 140737488355328) then
                            (Tr.ret ([(AVal.sl false 0 ([] ++ (Go.Weave.part y7 (IntKind.i64.wrap (y7 + (IntKind.i64.wrap y4))) l1))), (AVal.int .i64 (IntKind.i64.wrap (y7 + (IntKind.i64.wrap y4)))), (AVal.int .i64 0)], h1))
                          else
                            Tr.fail)
                        else
                          Tr.fail)))))))))))) := by kernel_rfl
/- f27 strandline/field.Put -/
theorem F27_eq (d : Nat) (f0 : Bool) (l1 : List AVal) (f2 : Bool) (l3 : List AVal) (h : Heap) : evFn Cw (d + 1) 27 [(AVal.sl f0 0 l1), (AVal.sl f2 0 l3)] h =
  (bif (decide (((l3.length : Int) : Int) > 65536)) then
    (bif decide (((0 : Nat) + l1.length) * 1 ≤ 140737488355328) then (Tr.ret ([(AVal.sl false 0 ([] ++ l1))], h)) else Tr.fail)
  else
    (runK (evFn Cw d 19 [(AVal.sl f0 0 l1), (AVal.int .u64 (IntKind.u64.wrap (l3.length : Int)))] h) fun r1 h1 =>
      (consK r1 fun w2 ws3 =>
        (slOK 0 w2 fun es4 =>
          (nilK ws3
            (bif decide ((es4.length + l3.length) * 1 ≤ 140737488355328) then (Tr.ret ([(AVal.sl false 0 (es4 ++ l3))], h1)) else Tr.fail)))))) := by kernel_rfl
/- f18 strandline/field.Pack -/
noncomputable def P18_0 (d k : Nat) (l0 : List AVal) (f1 : Bool) (l2 : List AVal) (x3 : Int) (x4 : Int) (h : Heap) : Tr Res :=
  loopPt Cw d 18 [true, true, false, true, true] [] k ⟨[(3, (EV.one (SV.own (tokOf 3 0) 0 l0))), (6, (EV.one (SV.val (AVal.sl f1 0 l2)))), (7, (EV.one (SV.val (AVal.int .i64 x3)))), (8, (EV.one (SV.val (AVal.int .i64 x4))))], []⟩ h
theorem P18_0_eq (d k : Nat) (l0 : List AVal) (f1 : Bool) (l2 : List AVal) (x3 : Int) (x4 : Int) (h : Heap) : P18_0 d (k + 1) l0 f1 l2 x3 x4 h =
  (bif (decide ((x4 : Int) < x3)) then
    (bif (decide ((0 : Int) ≤ x4) && decide ((x4 : Int) < (l2.length : Int))) then
      (slK 0 (l2.getD (Int.toNat x4) AVal.undef) fun fl1 es2 =>
        (runK (evFn Cw d 27 [(AVal.sl false 0 l0), (AVal.sl fl1 0 es2)] h) fun r3 h3 =>
          (consK r3 fun w4 ws5 =>
            (slOK 0 w4 fun es6 =>
              (nilK ws5
                (P18_0 d k es6 f1 l2 x3 (IntKind.i64.wrap (x4 + 1)) h3))))))
    else
      Tr.fail)
  else
    (Tr.ret ([(AVal.sl false 0 l0)], h))) := by kernel_rfl
theorem F18_eq (d : Nat) (f0 : Bool) (l1 : List AVal) (h : Heap) : evFn Cw (d + 1) 18 [(AVal.sl f0 0 l1)] h =
  (P18_0 d rounds [] f0 l1 (l1.length : Int) 0 h) := by kernel_rfl
/- f22 strandline/strandlineref04.Pack -/
noncomputable def P22_0 (d k : Nat) (f0 : Bool) (l1 : List AVal) (l2 : List AVal) (x3 : Int) (h : Heap) : Tr Res :=
  loopPt Cw d 22 [true, true, false, true, true] [] k ⟨[(0, (EV.one (SV.val (AVal.sl f0 0 l1)))), (3, (EV.one (SV.own (tokOf 3 0) 0 l2))), (4, (EV.one (SV.val (AVal.int .i64 x3))))], []⟩ h
theorem P22_0_eq (d k : Nat) (f0 : Bool) (l1 : List AVal) (l2 : List AVal) (x3 : Int) (h : Heap) : P22_0 d (k + 1) f0 l1 l2 x3 h =
  (bif (decide ((x3 : Int) < (l1.length : Int))) then
    (bif (decide ((0 : Int) ≤ x3) && decide ((x3 : Int) < (l1.length : Int))) then
      (slK 0 (l1.getD (Int.toNat x3) AVal.undef) fun fl1 es2 =>
        (bif (decide (((es2.length : Int) : Int) ≤ 65536)) then
          (bif (decide ((0 : Int) ≤ x3) && decide ((x3 : Int) < (l1.length : Int))) then
            (slK 0 (l1.getD (Int.toNat x3) AVal.undef) fun fl3 es4 =>
              (runK (evFn Cw d 23 [(AVal.sl false 0 l2), (AVal.int .u64 (IntKind.u64.wrap (es4.length : Int)))] h) fun r5 h5 =>
                (consK r5 fun w6 ws7 =>
                  (slOK 0 w6 fun es8 =>
                    (nilK ws7
                      (bif (decide ((0 : Int) ≤ x3) && decide ((x3 : Int) < (l1.length : Int))) then
                        (slK 0 (l1.getD (Int.toNat x3) AVal.undef) fun fl9 es10 =>
                          (bif decide ((es8.length + es10.length) * 1 ≤ 140737488355328) then (P22_0 d k f0 l1 (es8 ++ es10) (IntKind.i64.wrap (x3 + 1)) h5) else Tr.fail))
                      else
                        Tr.fail))))))
          else
            Tr.fail)
        else
          (P22_0 d k f0 l1 l2 (IntKind.i64.wrap (x3 + 1)) h)))
    else
      Tr.fail)
  else
    (Tr.ret ([(AVal.sl false 0 l2)], h))) := by kernel_rfl
theorem F22_eq (d : Nat) (f0 : Bool) (l1 : List AVal) (h : Heap) : evFn Cw (d + 1) 22 [(AVal.sl f0 0 l1)] h =
  (P22_0 d rounds f0 l1 [] 0 h) := by kernel_rfl
end Go.Proofs.Ytkpjkaikeeldfaa.Wa
