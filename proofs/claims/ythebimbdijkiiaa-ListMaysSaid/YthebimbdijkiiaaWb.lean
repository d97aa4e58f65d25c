/- What the evaluator comes to in these functions. -/
import Derived.Test.YthebimbdijkiiaaW0
import Derived.Test.YthebimbdijkiiaaWvLb
import Derived.KernelRfl
namespace Go.Proofs.Ythebimbdijkiiaa.Wa
open Go Go.Weave
set_option maxRecDepth 100000
set_option linter.unusedVariables false
/- f21 strandline/varint.All -/
noncomputable def P21_0 (d k : Nat) (f0 : Bool) (l1 : List AVal) (l2 : List AVal) (h : Heap) : Tr Res :=
  labelPt Cw d 21 [true] [] 0 k ⟨[(0, (EV.one (SV.val (AVal.sl f0 0 l1)))), (4, (EV.one (SV.own (tokOf 4 0) 0 l2)))], []⟩ h
theorem P21_0_eq (d k : Nat) (f0 : Bool) (l1 : List AVal) (l2 : List AVal) (h : Heap) : P21_0 d (k + 1) f0 l1 l2 h =
  (bif (((l1.length : Int) : Int) == 0) then
    (Tr.ret ([(AVal.sl false 0 l2), (AVal.int .i64 0)], h))
  else
    (runK (evFn Cw d 18 [(AVal.sl f0 0 l1)] h) fun r1 h1 =>
      (consK r1 fun w2 ws3 =>
        (intK .u64 w2 fun y4 =>
          (consK ws3 fun w5 ws6 =>
            (intK .i64 w5 fun y7 =>
              (consK ws6 fun w8 ws9 =>
                (intK .i64 w8 fun y10 =>
                  (nilK ws9
                    (bif ((y10 : Int) != 0) then
                      (Tr.ret ([(AVal.sl true 0 []), (AVal.int .i64 y10)], h1))
                    else
                      (bif ((decide ((0 : Int) ≤ y7) && decide ((y7 : Int) ≤ (l1.length : Int))) && decide (((l1.length : Int) : Int) ≤ (l1.length : Int))) then
                        (bif decide ((l2.length + (1 : Nat)) * 8 ≤ 140737488355328) then (P21_0 d k f0 (Go.Weave.part y7 (l1.length : Int) l1) (l2 ++ [(AVal.int .u64 y4)]) h1) else Tr.fail)
                      else
                        Tr.fail))))))))))) := by kernel_rfl
theorem F21_eq (d : Nat) (f0 : Bool) (l1 : List AVal) (h : Heap) : evFn Cw (d + 1) 21 [(AVal.sl f0 0 l1)] h =
  (bif (((l1.length : Int) : Int) == 0) then
    (Tr.ret ([(AVal.sl false 0 []), (AVal.int .i64 0)], h))
  else
    (runK (evFn Cw d 18 [(AVal.sl f0 0 l1)] h) fun r1 h1 =>
      (consK r1 fun w2 ws3 =>
        (intK .u64 w2 fun y4 =>
          (consK ws3 fun w5 ws6 =>
            (intK .i64 w5 fun y7 =>
              (consK ws6 fun w8 ws9 =>
                (intK .i64 w8 fun y10 =>
                  (nilK ws9
                    (bif ((y10 : Int) != 0) then
                      (Tr.ret ([(AVal.sl true 0 []), (AVal.int .i64 y10)], h1))
                    else
                      (bif ((decide ((0 : Int) ≤ y7) && decide ((y7 : Int) ≤ (l1.length : Int))) && decide (((l1.length : Int) : Int) ≤ (l1.length : Int))) then
                        (P21_0 d rounds f0 (Go.Weave.part y7 (l1.length : Int) l1) [(AVal.int .u64 y4)] h1)
                      else
                        Tr.fail))))))))))) := by kernel_rfl
/- f22 strandline/strandlineref02.All -/
noncomputable def P22_0 (d k : Nat) (f0 : Bool) (l1 : List AVal) (l2 : List AVal) (x3 : Int) (h : Heap) : Tr Res :=
  loopPt Cw d 22 [true, true, false, true, true] [] k ⟨[(0, (EV.one (SV.val (AVal.sl f0 0 l1)))), (4, (EV.one (SV.own (tokOf 4 0) 0 l2))), (5, (EV.one (SV.val (AVal.int .i64 x3))))], []⟩ h
theorem P22_0_eq (d k : Nat) (f0 : Bool) (l1 : List AVal) (l2 : List AVal) (x3 : Int) (h : Heap) : P22_0 d (k + 1) f0 l1 l2 x3 h =
  (bif (decide ((x3 : Int) < (l1.length : Int))) then
    (bif ((decide ((0 : Int) ≤ x3) && decide ((x3 : Int) ≤ (l1.length : Int))) && decide (((l1.length : Int) : Int) ≤ (l1.length : Int))) then
      (runK (evFn Cw d 20 [(AVal.sl f0 0 (Go.Weave.part x3 (l1.length : Int) l1))] h) fun r1 h1 =>
        (consK r1 fun w2 ws3 =>
          (intK .u64 w2 fun y4 =>
            (consK ws3 fun w5 ws6 =>
              (intK .i64 w5 fun y7 =>
                (consK ws6 fun w8 ws9 =>
                  (intK .i64 w8 fun y10 =>
                    (nilK ws9
                      (bif ((y10 : Int) != 0) then
                        (Tr.ret ([(AVal.sl true 0 []), (AVal.int .i64 y10)], h1))
                      else
                        (bif decide ((l2.length + (1 : Nat)) * 8 ≤ 140737488355328) then (P22_0 d k f0 l1 (l2 ++ [(AVal.int .u64 y4)]) (IntKind.i64.wrap (x3 + y7)) h1) else Tr.fail))))))))))
    else
      Tr.fail)
  else
    (Tr.ret ([(AVal.sl false 0 l2), (AVal.int .i64 0)], h))) := by kernel_rfl
theorem F22_eq (d : Nat) (f0 : Bool) (l1 : List AVal) (h : Heap) : evFn Cw (d + 1) 22 [(AVal.sl f0 0 l1)] h =
  (P22_0 d rounds f0 l1 [] 0 h) := by kernel_rfl
/- f5 strandline/strandlinelaw02.VarintAll -/
noncomputable def P5_0 (d k : Nat) (f0 : Bool) (l1 : List AVal) (l2 : List AVal) (l3 : List AVal) (x4 : Int) (h : Heap) : Tr Res :=
  loopPt Cw d 5 [true, true, true, true, true, false, true, true] [] k ⟨[(1, (EV.one (SV.val (AVal.sl f0 0 l1)))), (5, (EV.one (SV.own (tokOf 5 0) 0 l2))), (7, (EV.one (SV.own (tokOf 7 0) 0 l3))), (9, (EV.one (SV.val (AVal.int .i64 x4))))], []⟩ h
noncomputable def P5_1 (d k : Nat) (f0 : Bool) (l1 : List AVal) (l2 : List AVal) (x3 : Int) (h : Heap) : Tr Res :=
  loopPt Cw d 5 [true, true, true, true, true, true, true, false, true, true] [] k ⟨[(1, (EV.one (SV.val (AVal.sl f0 0 l1)))), (10, (EV.one (SV.own (tokOf 10 0) 0 l2))), (11, (EV.one (SV.val (AVal.int .i64 x3))))], []⟩ h
noncomputable def P5_2 (d k : Nat) (f0 : Bool) (l1 : List AVal) (l2 : List AVal) (x3 : Int) (h : Heap) : Tr Res :=
  loopPt Cw d 5 [true, true, true, true, true, true, true, true, true, true, false, true, true] [] k ⟨[(1, (EV.one (SV.val (AVal.sl f0 0 l1)))), (12, (EV.one (SV.own (tokOf 12 0) 0 l2))), (14, (EV.one (SV.val (AVal.int .i64 x3))))], []⟩ h
theorem P5_0_eq (d k : Nat) (f0 : Bool) (l1 : List AVal) (l2 : List AVal) (l3 : List AVal) (x4 : Int) (h : Heap) : P5_0 d (k + 1) f0 l1 l2 l3 x4 h =
  (bif (decide ((x4 : Int) < (l2.length : Int))) then
    (bif (decide ((0 : Int) ≤ x4) && decide ((x4 : Int) < (l2.length : Int))) then
      (intK .u64 (l2.getD (Int.toNat x4) AVal.undef) fun y1 =>
        (bif (decide ((0 : Int) ≤ x4) && decide ((x4 : Int) < (l3.length : Int))) then
          (intK .u64 (l3.getD (Int.toNat x4) AVal.undef) fun y2 =>
            (bif ((y1 : Int) != y2) then (Tr.ret ([(AVal.bool false)], h)) else (P5_0 d k f0 l1 l2 l3 (IntKind.i64.wrap (x4 + 1)) h)))
        else
          Tr.fail))
    else
      Tr.fail)
  else
    (P5_1 d rounds f0 l1 [] 0 h)) := by kernel_rfl
theorem P5_1_eq (d k : Nat) (f0 : Bool) (l1 : List AVal) (l2 : List AVal) (x3 : Int) (h : Heap) : P5_1 d (k + 1) f0 l1 l2 x3 h =
  (bif (decide ((x3 : Int) < (l1.length : Int))) then
    (bif (decide ((0 : Int) ≤ x3) && decide ((x3 : Int) < (l1.length : Int))) then
      (intK .u64 (l1.getD (Int.toNat x3) AVal.undef) fun y1 =>
        (runK (evFn Cw d 15 [(AVal.sl false 0 l2), (AVal.int .u64 y1)] h) fun r2 h2 =>
          (consK r2 fun w3 ws4 =>
            (slOK 0 w3 fun es5 =>
              (nilK ws4
                (P5_1 d k f0 l1 es5 (IntKind.i64.wrap (x3 + 1)) h2))))))
    else
      Tr.fail)
  else
    (runK (evFn Cw d 21 [(AVal.sl false 0 l2)] h) fun r6 h6 =>
      (consK r6 fun w7 ws8 =>
        (slOK 0 w7 fun es9 =>
          (consK ws8 fun w10 ws11 =>
            (intK .i64 w10 fun y12 =>
              (nilK ws11
                (bif (((es9.length : Int) : Int) != (l1.length : Int)) then
                  (Tr.ret ([(AVal.bool false)], h6))
                else
                  (bif ((y12 : Int) != 0) then (Tr.ret ([(AVal.bool false)], h6)) else (P5_2 d rounds f0 l1 es9 0 h6)))))))))) := by kernel_rfl
theorem P5_2_eq (d k : Nat) (f0 : Bool) (l1 : List AVal) (l2 : List AVal) (x3 : Int) (h : Heap) : P5_2 d (k + 1) f0 l1 l2 x3 h =
  (bif (decide ((x3 : Int) < (l1.length : Int))) then
    (bif (decide ((0 : Int) ≤ x3) && decide ((x3 : Int) < (l2.length : Int))) then
      (intK .u64 (l2.getD (Int.toNat x3) AVal.undef) fun y1 =>
        (bif (decide ((0 : Int) ≤ x3) && decide ((x3 : Int) < (l1.length : Int))) then
          (intK .u64 (l1.getD (Int.toNat x3) AVal.undef) fun y2 =>
            (bif ((y1 : Int) != y2) then (Tr.ret ([(AVal.bool false)], h)) else (P5_2 d k f0 l1 l2 (IntKind.i64.wrap (x3 + 1)) h)))
        else
          Tr.fail))
    else
      Tr.fail)
  else
    (runK (evFn Cw d 19 [] h) fun r3 h3 =>
      (consK r3 fun w4 ws5 =>
        (boolK w4 fun bb6 =>
          (nilK ws5
            (Tr.ret ([(AVal.bool bb6)], h3))))))) := by kernel_rfl
theorem F5_eq (d : Nat) (f0 : Bool) (l1 : List AVal) (f2 : Bool) (l3 : List AVal) (h : Heap) : evFn Cw (d + 1) 5 [(AVal.sl f0 0 l1), (AVal.sl f2 0 l3)] h =
  (bif (decide (((l3.length : Int) : Int) > 2000)) then
    (runK (evFn Cw d 19 [] h) fun r1 h1 =>
      (consK r1 fun w2 ws3 =>
        (boolK w2 fun bb4 =>
          (nilK ws3
            (Tr.ret ([(AVal.bool bb4)], h1))))))
  else
    (runK (evFn Cw d 21 [(AVal.sl f0 0 l1)] h) fun r5 h5 =>
      (consK r5 fun w6 ws7 =>
        (slOK 0 w6 fun es8 =>
          (consK ws7 fun w9 ws10 =>
            (intK .i64 w9 fun y11 =>
              (nilK ws10
                (runK (evFn Cw d 22 [(AVal.sl f0 0 l1)] h5) fun r12 h12 =>
                  (consK r12 fun w13 ws14 =>
                    (slOK 0 w13 fun es15 =>
                      (consK ws14 fun w16 ws17 =>
                        (intK .i64 w16 fun y18 =>
                          (nilK ws17
                            (bif (((es8.length : Int) : Int) != (es15.length : Int)) then
                              (Tr.ret ([(AVal.bool false)], h12))
                            else
                              (bif ((y11 : Int) != y18) then (Tr.ret ([(AVal.bool false)], h12)) else (P5_0 d rounds f2 l3 es8 es15 0 h12)))))))))))))))) := by kernel_rfl
end Go.Proofs.Ythebimbdijkiiaa.Wa
