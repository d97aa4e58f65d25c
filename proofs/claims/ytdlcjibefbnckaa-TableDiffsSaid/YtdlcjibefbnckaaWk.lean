/- What the evaluator comes to in these functions. -/
import Derived.Test.YtdlcjibefbnckaaW0
import Derived.Test.YtdlcjibefbnckaaWvLb
import Derived.KernelRfl
namespace Go.Proofs.Ytdlcjibefbnckaa.Wa
open Go Go.Weave
set_option maxRecDepth 100000
set_option linter.unusedVariables false
/- f86 (*strandline/table.Table).tree -/
theorem F86nil_eq (d : Nat) (h : Heap) : evFn Cw (d + 1) 86 [AVal.nilp] h =
  (Tr.ret ([AVal.nilp], h)) := by kernel_rfl
theorem F86_eq (d : Nat) (i0 : Nat) (h : Heap) : evFn Cw (d + 1) 86 [(AVal.obj i0 0)] h =
  (optK (Heap.cell? h i0 0) fun z1 =>
    (Tr.ret ([(HCell.toA z1)], h))) := by kernel_rfl
/- f32 (*strandline/table.Table).Get -/
theorem F32nil_eq (d : Nat) (s0 : List UInt8) (h : Heap) : evFn Cw (d + 1) 32 [AVal.nilp, (AVal.str s0)] h =
  (runK (evFn Cw d 86 [AVal.nilp] h) fun r1 h1 =>
    (consK r1 fun w2 ws3 =>
      (nilK ws3
        (runK (evFn Cw d 81 [w2, (AVal.str s0)] h1) fun r4 h4 =>
          (consK r4 fun w5 ws6 =>
            (strK w5 fun ss7 =>
              (consK ws6 fun w8 ws9 =>
                (boolK w8 fun bb10 =>
                  (nilK ws9
                    (Tr.ret ([(AVal.str ss7), (AVal.bool bb10)], h4))))))))))) := by kernel_rfl
theorem F32_eq (d : Nat) (i0 : Nat) (s1 : List UInt8) (h : Heap) : evFn Cw (d + 1) 32 [(AVal.obj i0 0), (AVal.str s1)] h =
  (runK (evFn Cw d 86 [(AVal.obj i0 0)] h) fun r1 h1 =>
    (consK r1 fun w2 ws3 =>
      (nilK ws3
        (runK (evFn Cw d 81 [w2, (AVal.str s1)] h1) fun r4 h4 =>
          (consK r4 fun w5 ws6 =>
            (strK w5 fun ss7 =>
              (consK ws6 fun w8 ws9 =>
                (boolK w8 fun bb10 =>
                  (nilK ws9
                    (Tr.ret ([(AVal.str ss7), (AVal.bool bb10)], h4))))))))))) := by kernel_rfl
/- f84 strandline/op.Right -/
theorem F84_eq (d : Nat) (x0 : Int) (s1 : List UInt8) (s2 : List UInt8) (h : Heap) : evFn Cw (d + 1) 84 [(AVal.agg [(AVal.int .i64 x0), (AVal.str s1), (AVal.str s2)])] h =
  (bif (decide (((s1.length : Int) : Int) < 1)) then
    (Tr.ret ([(AVal.bool false)], h))
  else
    (bif (decide (((s1.length : Int) : Int) > 24)) then
      (Tr.ret ([(AVal.bool false)], h))
    else
      (bif ((x0 : Int) == 1) then
        (Tr.ret ([(AVal.bool (decide (((s2.length : Int) : Int) ≤ 128)))], h))
      else
        (bif ((x0 : Int) == 2) then (Tr.ret ([(AVal.bool (s2 == []))], h)) else (Tr.ret ([(AVal.bool false)], h)))))) := by kernel_rfl
/- f85 (*strandline/table.Table).put -/
theorem F85_eq (d : Nat) (i0 : Nat) (s1 : List UInt8) (s2 : List UInt8) (h : Heap) : evFn Cw (d + 1) 85 [(AVal.obj i0 0), (AVal.str s1), (AVal.str s2)] h =
  (optK (Heap.cell? h i0 0) fun z1 =>
    (runK (evFn Cw d 21 [(HCell.toA z1), (AVal.str s1), (AVal.str s2)] h) fun r2 h2 =>
      (consK r2 fun w3 ws4 =>
        (strK w3 fun ss5 =>
          (consK ws4 fun w6 ws7 =>
            (boolK w6 fun bb8 =>
              (nilK ws7
                (optK (Heap.cell? h2 i0 1) fun z9 =>
                  (intK .i64 (HCell.toA z9) fun y10 =>
                    (optK (Heap.cell? h2 i0 1) fun _ =>
                      (bif (!bb8) then
                        (optK (Heap.cell? (Heap.setCell h2 i0 1 (HCell.val (AVal.int .i64 (IntKind.i64.wrap (y10 + (IntKind.i64.wrap ((s2.length : Int) - (ss5.length : Int)))))))) i0 1) fun z11 =>
                          (intK .i64 (HCell.toA z11) fun y12 =>
                            (optK (Heap.cell? (Heap.setCell h2 i0 1 (HCell.val (AVal.int .i64 (IntKind.i64.wrap (y10 + (IntKind.i64.wrap ((s2.length : Int) - (ss5.length : Int)))))))) i0 1) fun _ =>
                              (Tr.ret ([], (Heap.setCell (Heap.setCell h2 i0 1 (HCell.val (AVal.int .i64 (IntKind.i64.wrap (y10 + (IntKind.i64.wrap ((s2.length : Int) - (ss5.length : Int)))))))) i0 1 (HCell.val (AVal.int .i64 (IntKind.i64.wrap (y12 + (s1.length : Int)))))))))))
                      else
                        (Tr.ret ([], (Heap.setCell h2 i0 1 (HCell.val (AVal.int .i64 (IntKind.i64.wrap (y10 + (IntKind.i64.wrap ((s2.length : Int) - (ss5.length : Int))))))))))))))))))))) := by kernel_rfl
/- f30 (*strandline/table.Table).Apply -/
noncomputable def P30nil_0 (d k : Nat) (x0 : Int) (f1 : Bool) (l2 : List AVal) (x3 : Int) (x4 : Int) (h : Heap) : Tr Res :=
  loopPt Cw d 30 [true, true, false, true, true] [] k ⟨[(0, (EV.one (SV.val AVal.nilp))), (5, (EV.one (SV.val (AVal.int .i64 x0)))), (10, (EV.one (SV.val (AVal.sl f1 4 l2)))), (11, (EV.one (SV.val (AVal.int .i64 x3)))), (12, (EV.one (SV.val (AVal.int .i64 x4))))], []⟩ h
theorem P30nil_0_eq (d k : Nat) (x0 : Int) (f1 : Bool) (l2 : List AVal) (x3 : Int) (x4 : Int) (h : Heap) : P30nil_0 d (k + 1) x0 f1 l2 x3 x4 h =
  (bif (decide ((x4 : Int) < x3)) then
    (bif (decide ((0 : Int) ≤ x4) && decide ((x4 : Int) < (l2.length : Int))) then
      (aggK 3 (l2.getD (Int.toNat x4) AVal.undef) fun cc1 =>
        (bif ((cc1.length == 3) && true) then (P30nil_0 d k x0 f1 l2 x3 (IntKind.i64.wrap (x4 + 1)) h) else Tr.fail))
    else
      Tr.fail)
  else
    (Tr.ret ([(AVal.int .i64 x0)], h))) := by kernel_rfl
theorem F30nil_eq (d : Nat) (f0 : Bool) (l1 : List AVal) (h : Heap) : evFn Cw (d + 1) 30 [AVal.nilp, (AVal.sl f0 4 l1)] h =
  (P30nil_0 d rounds 0 f0 l1 (l1.length : Int) 0 h) := by kernel_rfl
noncomputable def P30_0 (d k : Nat) (i0 : Nat) (x1 : Int) (f2 : Bool) (l3 : List AVal) (x4 : Int) (x5 : Int) (h : Heap) : Tr Res :=
  loopPt Cw d 30 [true, true, false, true, true] [] k ⟨[(0, (EV.one (SV.val (AVal.obj i0 0)))), (5, (EV.one (SV.val (AVal.int .i64 x1)))), (10, (EV.one (SV.val (AVal.sl f2 4 l3)))), (11, (EV.one (SV.val (AVal.int .i64 x4)))), (12, (EV.one (SV.val (AVal.int .i64 x5))))], []⟩ h
theorem P30_0_eq (d k : Nat) (i0 : Nat) (x1 : Int) (f2 : Bool) (l3 : List AVal) (x4 : Int) (x5 : Int) (h : Heap) : P30_0 d (k + 1) i0 x1 f2 l3 x4 x5 h =
  (bif (decide ((x5 : Int) < x4)) then
    (bif (decide ((0 : Int) ≤ x5) && decide ((x5 : Int) < (l3.length : Int))) then
      (aggK 3 (l3.getD (Int.toNat x5) AVal.undef) fun cc1 =>
        (bif ((cc1.length == 3) && true) then
          (bif decide (0 + 3 ≤ cc1.length) then
            (runK (evFn Cw d 84 [(AVal.agg ((cc1.drop 0).take 3))] h) fun r2 h2 =>
              (consK r2 fun w3 ws4 =>
                (boolK w3 fun bb5 =>
                  (nilK ws4
                    (bif (!bb5) then
                      (P30_0 d k i0 x1 f2 l3 x4 (IntKind.i64.wrap (x5 + 1)) h2)
                    else
                      (optK (cc1[0]?) fun w6 =>
                        (intK .i64 w6 fun y7 =>
                          (bif ((y7 : Int) == 1) then
                            (optK (cc1[1]?) fun w8 =>
                              (strK w8 fun ss9 =>
                                (optK (cc1[2]?) fun w10 =>
                                  (strK w10 fun ss11 =>
                                    (runK (evFn Cw d 85 [(AVal.obj i0 0), (AVal.str ss9), (AVal.str ss11)] h2) fun r12 h12 =>
                                      (nilK r12
                                        (P30_0 d k i0 (IntKind.i64.wrap (x1 + 1)) f2 l3 x4 (IntKind.i64.wrap (x5 + 1)) h12)))))))
                          else
                            (optK (Heap.cell? h2 i0 0) fun z13 =>
                              (optK (cc1[1]?) fun w14 =>
                                (strK w14 fun ss15 =>
                                  (runK (evFn Cw d 23 [(HCell.toA z13), (AVal.str ss15)] h2) fun r16 h16 =>
                                    (consK r16 fun w17 ws18 =>
                                      (strK w17 fun ss19 =>
                                        (consK ws18 fun w20 ws21 =>
                                          (boolK w20 fun bb22 =>
                                            (nilK ws21
                                              (bif bb22 then
                                                (optK (Heap.cell? h16 i0 1) fun z23 =>
                                                  (intK .i64 (HCell.toA z23) fun y24 =>
                                                    (optK (cc1[1]?) fun w25 =>
                                                      (strK w25 fun ss26 =>
                                                        (optK (Heap.cell? h16 i0 1) fun _ =>
                                                          (P30_0 d k i0 (IntKind.i64.wrap (x1 + 1)) f2 l3 x4 (IntKind.i64.wrap (x5 + 1)) (Heap.setCell h16 i0 1 (HCell.val (AVal.int .i64 (IntKind.i64.wrap (y24 - (IntKind.i64.wrap ((ss26.length : Int) + (ss19.length : Int))))))))))))))
                                              else
                                                (P30_0 d k i0 (IntKind.i64.wrap (x1 + 1)) f2 l3 x4 (IntKind.i64.wrap (x5 + 1)) h16)))))))))))))))))))
          else
            Tr.fail)
        else
          Tr.fail))
    else
      Tr.fail)
  else
    (Tr.ret ([(AVal.int .i64 x1)], h))) := by kernel_rfl
theorem F30_eq (d : Nat) (i0 : Nat) (f1 : Bool) (l2 : List AVal) (h : Heap) : evFn Cw (d + 1) 30 [(AVal.obj i0 0), (AVal.sl f1 4 l2)] h =
  (P30_0 d rounds i0 0 f1 l2 (l2.length : Int) 0 h) := by kernel_rfl
/- f33 (*strandline/table.Table).Len -/
theorem F33nil_eq (d : Nat) (h : Heap) : evFn Cw (d + 1) 33 [AVal.nilp] h =
  (runK (evFn Cw d 86 [AVal.nilp] h) fun r1 h1 =>
    (consK r1 fun w2 ws3 =>
      (nilK ws3
        (runK (evFn Cw d 87 [w2] h1) fun r4 h4 =>
          (consK r4 fun w5 ws6 =>
            (intK .i64 w5 fun y7 =>
              (nilK ws6
                (Tr.ret ([(AVal.int .i64 y7)], h4))))))))) := by kernel_rfl
theorem F33_eq (d : Nat) (i0 : Nat) (h : Heap) : evFn Cw (d + 1) 33 [(AVal.obj i0 0)] h =
  (runK (evFn Cw d 86 [(AVal.obj i0 0)] h) fun r1 h1 =>
    (consK r1 fun w2 ws3 =>
      (nilK ws3
        (runK (evFn Cw d 87 [w2] h1) fun r4 h4 =>
          (consK r4 fun w5 ws6 =>
            (intK .i64 w5 fun y7 =>
              (nilK ws6
                (Tr.ret ([(AVal.int .i64 y7)], h4))))))))) := by kernel_rfl
/- f34 (*strandline/table.Table).Bytes -/
theorem F34nil_eq (d : Nat) (h : Heap) : evFn Cw (d + 1) 34 [AVal.nilp] h =
  (Tr.ret ([(AVal.int .i64 0)], h)) := by kernel_rfl
theorem F34_eq (d : Nat) (i0 : Nat) (h : Heap) : evFn Cw (d + 1) 34 [(AVal.obj i0 0)] h =
  (optK (Heap.cell? h i0 1) fun z1 =>
    (intK .i64 (HCell.toA z1) fun y2 =>
      (Tr.ret ([(AVal.int .i64 y2)], h)))) := by kernel_rfl
/- f38 (*strandline/table.Table).Range -/
theorem F38nil_eq (d : Nat) (s0 : List UInt8) (s1 : List UInt8) (x2 : Int) (h : Heap) : evFn Cw (d + 1) 38 [AVal.nilp, (AVal.str s0), (AVal.str s1), (AVal.int .i64 x2)] h =
  (runK (evFn Cw d 86 [AVal.nilp] h) fun r1 h1 =>
    (consK r1 fun w2 ws3 =>
      (nilK ws3
        (runK (evFn Cw d 88 [w2, (AVal.str s0), (AVal.str s1), (AVal.int .i64 x2)] h1) fun r4 h4 =>
          (consK r4 fun w5 ws6 =>
            (slOK 3 w5 fun es7 =>
              (nilK ws6
                (Tr.ret ([(AVal.sl false 3 es7)], h4))))))))) := by kernel_rfl
theorem F38_eq (d : Nat) (i0 : Nat) (s1 : List UInt8) (s2 : List UInt8) (x3 : Int) (h : Heap) : evFn Cw (d + 1) 38 [(AVal.obj i0 0), (AVal.str s1), (AVal.str s2), (AVal.int .i64 x3)] h =
  (runK (evFn Cw d 86 [(AVal.obj i0 0)] h) fun r1 h1 =>
    (consK r1 fun w2 ws3 =>
      (nilK ws3
        (runK (evFn Cw d 88 [w2, (AVal.str s1), (AVal.str s2), (AVal.int .i64 x3)] h1) fun r4 h4 =>
          (consK r4 fun w5 ws6 =>
            (slOK 3 w5 fun es7 =>
              (nilK ws6
                (Tr.ret ([(AVal.sl false 3 es7)], h4))))))))) := by kernel_rfl
/- f37 (*strandline/table.Table).Pairs -/
theorem F37nil_eq (d : Nat) (h : Heap) : evFn Cw (d + 1) 37 [AVal.nilp] h =
  (runK (evFn Cw d 33 [AVal.nilp] h) fun r1 h1 =>
    (consK r1 fun w2 ws3 =>
      (intK .i64 w2 fun y4 =>
        (nilK ws3
          (runK (evFn Cw d 38 [AVal.nilp, (AVal.str []), (AVal.str []), (AVal.int .i64 y4)] h1) fun r5 h5 =>
            (consK r5 fun w6 ws7 =>
              (slOK 3 w6 fun es8 =>
                (nilK ws7
                  (Tr.ret ([(AVal.sl false 3 es8)], h5)))))))))) := by kernel_rfl
theorem F37_eq (d : Nat) (i0 : Nat) (h : Heap) : evFn Cw (d + 1) 37 [(AVal.obj i0 0)] h =
  (runK (evFn Cw d 33 [(AVal.obj i0 0)] h) fun r1 h1 =>
    (consK r1 fun w2 ws3 =>
      (intK .i64 w2 fun y4 =>
        (nilK ws3
          (runK (evFn Cw d 38 [(AVal.obj i0 0), (AVal.str []), (AVal.str []), (AVal.int .i64 y4)] h1) fun r5 h5 =>
            (consK r5 fun w6 ws7 =>
              (slOK 3 w6 fun es8 =>
                (nilK ws7
                  (Tr.ret ([(AVal.sl false 3 es8)], h5)))))))))) := by kernel_rfl
/- f43 (*strandline/table.Table).Clone -/
theorem F43nil_eq (d : Nat) (h : Heap) : evFn Cw (d + 1) 43 [AVal.nilp] h =
  (Tr.ret ([AVal.nilp], h)) := by kernel_rfl
theorem F43_eq (d : Nat) (i0 : Nat) (h : Heap) : evFn Cw (d + 1) 43 [(AVal.obj i0 0)] h =
  (Tr.anyL [
    (optK (Heap.cell? h i0 0) fun z1 =>
      (Tr.anyL [
        (runK (evFn Cw d 89 [(HCell.toA z1)] h) fun r2 h2 =>
          (consK r2 fun w3 ws4 =>
            (nilK ws4
              (optK (Heap.cell? h2 i0 1) fun z5 =>
                (intK .i64 (HCell.toA z5) fun y6 =>
                  (bif (((!(AVal.isAgg w3)) && true) && true) then
                    (Tr.ret ([(AVal.obj h2.objs.length 0)], (Heap.push h2 (Go.Weave.Obj.cells ([w3, (AVal.int .i64 y6)].map HCell.val)))))
                  else
                    Tr.fail)))))),
        (optK (Heap.cell? h i0 1) fun z2 =>
          (intK .i64 (HCell.toA z2) fun y3 =>
            (runK (evFn Cw d 89 [(HCell.toA z1)] h) fun r4 h4 =>
              (consK r4 fun w5 ws6 =>
                (nilK ws6
                  (bif (((!(AVal.isAgg w5)) && true) && true) then
                    (Tr.ret ([(AVal.obj h4.objs.length 0)], (Heap.push h4 (Go.Weave.Obj.cells ([w5, (AVal.int .i64 y3)].map HCell.val)))))
                  else
                    Tr.fail))))))])),
    (optK (Heap.cell? h i0 1) fun z1 =>
      (intK .i64 (HCell.toA z1) fun y2 =>
        (optK (Heap.cell? h i0 0) fun z3 =>
          (runK (evFn Cw d 89 [(HCell.toA z3)] h) fun r4 h4 =>
            (consK r4 fun w5 ws6 =>
              (nilK ws6
                (bif (((!(AVal.isAgg w5)) && true) && true) then
                  (Tr.ret ([(AVal.obj h4.objs.length 0)], (Heap.push h4 (Go.Weave.Obj.cells ([w5, (AVal.int .i64 y2)].map HCell.val)))))
                else
                  Tr.fail)))))))]) := by kernel_rfl
/- f29 strandline/table.New -/
theorem F29_eq (d : Nat) (h : Heap) : evFn Cw (d + 1) 29 [] h =
  (runK (evFn Cw d 13 [] h) fun r1 h1 =>
    (consK r1 fun w2 ws3 =>
      (nilK ws3
        (bif (((!(AVal.isAgg w2)) && true) && true) then
          (Tr.ret ([(AVal.obj h1.objs.length 0)], (Heap.push h1 (Go.Weave.Obj.cells ([w2, (AVal.int .i64 0)].map HCell.val)))))
        else
          Tr.fail)))) := by kernel_rfl
/- f90 strandline/table.Diff$1 -/
theorem F90_eq (d : Nat) (i0 : Nat) (i1 : Nat) (h : Heap) : evFn Cw (d + 1) 90 [(AVal.obj i0 0), (AVal.obj i1 0)] h =
  (Tr.anyL [
    (optK (Heap.cell? h i0 0) fun z1 =>
      (slK 4 (HCell.toA z1) fun _ es2 =>
        (optK (Heap.cell? h i1 0) fun z3 =>
          (slK 3 (HCell.toA z3) fun _ es4 =>
            (bif decide ((0 : Int) < (es4.length : Int)) then
              (optK ((AVal.cells (es4.getD 0 AVal.undef))[0]?) fun w5 =>
                (strK w5 fun ss6 =>
                  (bif decide ((es2.length + (1 : Nat)) * 40 ≤ 140737488355328) then
                    (lentK h i0 0 4 es2 fun h7 =>
                      (optK (Heap.cell? h7 i0 0) fun _ =>
                        (optK (Heap.cell? (Heap.setCell h7 i0 0 (HCell.own 4 (es2 ++ [(AVal.agg [(AVal.int .i64 2), (AVal.str ss6), (AVal.str [])])]))) i1 0) fun z8 =>
                          (slK 3 (HCell.toA z8) fun _ es9 =>
                            (bif (decide ((1 : Int) ≤ (es9.length : Int)) && decide (((es9.length : Int) : Int) ≤ (es9.length : Int))) then
                              (optK (Heap.cell? (Heap.setCell h7 i0 0 (HCell.own 4 (es2 ++ [(AVal.agg [(AVal.int .i64 2), (AVal.str ss6), (AVal.str [])])]))) i1 0) fun _ =>
                                (Tr.ret ([], (Heap.setCell (Heap.setCell h7 i0 0 (HCell.own 4 (es2 ++ [(AVal.agg [(AVal.int .i64 2), (AVal.str ss6), (AVal.str [])])]))) i1 0 (HCell.val (AVal.sl false 3 (Go.Weave.part 1 (es9.length : Int) es9)))))))
                            else
                              Tr.fail)))))
                  else
                    Tr.fail)))
            else
              Tr.fail))))),
    (optK (Heap.cell? h i1 0) fun z1 =>
      (slK 3 (HCell.toA z1) fun _ es2 =>
        (bif decide ((0 : Int) < (es2.length : Int)) then
          (optK ((AVal.cells (es2.getD 0 AVal.undef))[0]?) fun w3 =>
            (strK w3 fun ss4 =>
              (sameL 2
                (optK (Heap.cell? h i0 0) fun z5 =>
                  (slK 4 (HCell.toA z5) fun _ es6 =>
                    (bif decide ((es6.length + (1 : Nat)) * 40 ≤ 140737488355328) then
                      (lentK h i0 0 4 es6 fun h7 =>
                        (optK (Heap.cell? h7 i0 0) fun _ =>
                          (optK (Heap.cell? (Heap.setCell h7 i0 0 (HCell.own 4 (es6 ++ [(AVal.agg [(AVal.int .i64 2), (AVal.str ss4), (AVal.str [])])]))) i1 0) fun z8 =>
                            (slK 3 (HCell.toA z8) fun _ es9 =>
                              (bif (decide ((1 : Int) ≤ (es9.length : Int)) && decide (((es9.length : Int) : Int) ≤ (es9.length : Int))) then
                                (optK (Heap.cell? (Heap.setCell h7 i0 0 (HCell.own 4 (es6 ++ [(AVal.agg [(AVal.int .i64 2), (AVal.str ss4), (AVal.str [])])]))) i1 0) fun _ =>
                                  (Tr.ret ([], (Heap.setCell (Heap.setCell h7 i0 0 (HCell.own 4 (es6 ++ [(AVal.agg [(AVal.int .i64 2), (AVal.str ss4), (AVal.str [])])]))) i1 0 (HCell.val (AVal.sl false 3 (Go.Weave.part 1 (es9.length : Int) es9)))))))
                              else
                                Tr.fail)))))
                    else
                      Tr.fail))))))
        else
          Tr.fail)))]) := by kernel_rfl
/- f91 strandline/table.Diff$2 -/
theorem F91_eq (d : Nat) (i0 : Nat) (i1 : Nat) (h : Heap) : evFn Cw (d + 1) 91 [(AVal.obj i0 0), (AVal.obj i1 0)] h =
  (Tr.anyL [
    (optK (Heap.cell? h i0 0) fun z1 =>
      (slK 4 (HCell.toA z1) fun _ es2 =>
        (Tr.anyL [
          (optK (Heap.cell? h i1 0) fun z3 =>
            (slK 3 (HCell.toA z3) fun _ es4 =>
              (bif decide ((0 : Int) < (es4.length : Int)) then
                (optK ((AVal.cells (es4.getD 0 AVal.undef))[0]?) fun w5 =>
                  (strK w5 fun ss6 =>
                    (optK (Heap.cell? h i1 0) fun z7 =>
                      (slK 3 (HCell.toA z7) fun _ es8 =>
                        (bif decide ((0 : Int) < (es8.length : Int)) then
                          (optK ((AVal.cells (es8.getD 0 AVal.undef))[1]?) fun w9 =>
                            (strK w9 fun ss10 =>
                              (bif decide ((es2.length + (1 : Nat)) * 40 ≤ 140737488355328) then
                                (lentK h i0 0 4 es2 fun h11 =>
                                  (optK (Heap.cell? h11 i0 0) fun _ =>
                                    (optK (Heap.cell? (Heap.setCell h11 i0 0 (HCell.own 4 (es2 ++ [(AVal.agg [(AVal.int .i64 1), (AVal.str ss6), (AVal.str ss10)])]))) i1 0) fun z12 =>
                                      (slK 3 (HCell.toA z12) fun _ es13 =>
                                        (bif (decide ((1 : Int) ≤ (es13.length : Int)) && decide (((es13.length : Int) : Int) ≤ (es13.length : Int))) then
                                          (optK (Heap.cell? (Heap.setCell h11 i0 0 (HCell.own 4 (es2 ++ [(AVal.agg [(AVal.int .i64 1), (AVal.str ss6), (AVal.str ss10)])]))) i1 0) fun _ =>
                                            (Tr.ret ([], (Heap.setCell (Heap.setCell h11 i0 0 (HCell.own 4 (es2 ++ [(AVal.agg [(AVal.int .i64 1), (AVal.str ss6), (AVal.str ss10)])]))) i1 0 (HCell.val (AVal.sl false 3 (Go.Weave.part 1 (es13.length : Int) es13)))))))
                                        else
                                          Tr.fail)))))
                              else
                                Tr.fail)))
                        else
                          Tr.fail)))))
              else
                Tr.fail))),
          (optK (Heap.cell? h i1 0) fun z3 =>
            (slK 3 (HCell.toA z3) fun _ es4 =>
              (bif decide ((0 : Int) < (es4.length : Int)) then
                (optK ((AVal.cells (es4.getD 0 AVal.undef))[1]?) fun w5 =>
                  (strK w5 fun ss6 =>
                    (optK (Heap.cell? h i1 0) fun z7 =>
                      (slK 3 (HCell.toA z7) fun _ es8 =>
                        (bif decide ((0 : Int) < (es8.length : Int)) then
                          (optK ((AVal.cells (es8.getD 0 AVal.undef))[0]?) fun w9 =>
                            (strK w9 fun ss10 =>
                              (bif decide ((es2.length + (1 : Nat)) * 40 ≤ 140737488355328) then
                                (lentK h i0 0 4 es2 fun h11 =>
                                  (optK (Heap.cell? h11 i0 0) fun _ =>
                                    (optK (Heap.cell? (Heap.setCell h11 i0 0 (HCell.own 4 (es2 ++ [(AVal.agg [(AVal.int .i64 1), (AVal.str ss10), (AVal.str ss6)])]))) i1 0) fun z12 =>
                                      (slK 3 (HCell.toA z12) fun _ es13 =>
                                        (bif (decide ((1 : Int) ≤ (es13.length : Int)) && decide (((es13.length : Int) : Int) ≤ (es13.length : Int))) then
                                          (optK (Heap.cell? (Heap.setCell h11 i0 0 (HCell.own 4 (es2 ++ [(AVal.agg [(AVal.int .i64 1), (AVal.str ss10), (AVal.str ss6)])]))) i1 0) fun _ =>
                                            (Tr.ret ([], (Heap.setCell (Heap.setCell h11 i0 0 (HCell.own 4 (es2 ++ [(AVal.agg [(AVal.int .i64 1), (AVal.str ss10), (AVal.str ss6)])]))) i1 0 (HCell.val (AVal.sl false 3 (Go.Weave.part 1 (es13.length : Int) es13)))))))
                                        else
                                          Tr.fail)))))
                              else
                                Tr.fail)))
                        else
                          Tr.fail)))))
              else
                Tr.fail)))]))),
    (optK (Heap.cell? h i1 0) fun z1 =>
      (slK 3 (HCell.toA z1) fun _ es2 =>
        (bif decide ((0 : Int) < (es2.length : Int)) then
          (optK ((AVal.cells (es2.getD 0 AVal.undef))[0]?) fun w3 =>
            (strK w3 fun ss4 =>
              (Tr.anyL [
                (optK (Heap.cell? h i0 0) fun z5 =>
                  (slK 4 (HCell.toA z5) fun _ es6 =>
                    (optK (Heap.cell? h i1 0) fun z7 =>
                      (slK 3 (HCell.toA z7) fun _ es8 =>
                        (bif decide ((0 : Int) < (es8.length : Int)) then
                          (optK ((AVal.cells (es8.getD 0 AVal.undef))[1]?) fun w9 =>
                            (strK w9 fun ss10 =>
                              (bif decide ((es6.length + (1 : Nat)) * 40 ≤ 140737488355328) then
                                (lentK h i0 0 4 es6 fun h11 =>
                                  (optK (Heap.cell? h11 i0 0) fun _ =>
                                    (optK (Heap.cell? (Heap.setCell h11 i0 0 (HCell.own 4 (es6 ++ [(AVal.agg [(AVal.int .i64 1), (AVal.str ss4), (AVal.str ss10)])]))) i1 0) fun z12 =>
                                      (slK 3 (HCell.toA z12) fun _ es13 =>
                                        (bif (decide ((1 : Int) ≤ (es13.length : Int)) && decide (((es13.length : Int) : Int) ≤ (es13.length : Int))) then
                                          (optK (Heap.cell? (Heap.setCell h11 i0 0 (HCell.own 4 (es6 ++ [(AVal.agg [(AVal.int .i64 1), (AVal.str ss4), (AVal.str ss10)])]))) i1 0) fun _ =>
                                            (Tr.ret ([], (Heap.setCell (Heap.setCell h11 i0 0 (HCell.own 4 (es6 ++ [(AVal.agg [(AVal.int .i64 1), (AVal.str ss4), (AVal.str ss10)])]))) i1 0 (HCell.val (AVal.sl false 3 (Go.Weave.part 1 (es13.length : Int) es13)))))))
                                        else
                                          Tr.fail)))))
                              else
                                Tr.fail)))
                        else
                          Tr.fail))))),
                (optK (Heap.cell? h i1 0) fun z5 =>
                  (slK 3 (HCell.toA z5) fun _ es6 =>
                    (bif decide ((0 : Int) < (es6.length : Int)) then
                      (optK ((AVal.cells (es6.getD 0 AVal.undef))[1]?) fun w7 =>
                        (strK w7 fun ss8 =>
                          (sameL 2
                            (optK (Heap.cell? h i0 0) fun z9 =>
                              (slK 4 (HCell.toA z9) fun _ es10 =>
                                (bif decide ((es10.length + (1 : Nat)) * 40 ≤ 140737488355328) then
                                  (lentK h i0 0 4 es10 fun h11 =>
                                    (optK (Heap.cell? h11 i0 0) fun _ =>
                                      (optK (Heap.cell? (Heap.setCell h11 i0 0 (HCell.own 4 (es10 ++ [(AVal.agg [(AVal.int .i64 1), (AVal.str ss4), (AVal.str ss8)])]))) i1 0) fun z12 =>
                                        (slK 3 (HCell.toA z12) fun _ es13 =>
                                          (bif (decide ((1 : Int) ≤ (es13.length : Int)) && decide (((es13.length : Int) : Int) ≤ (es13.length : Int))) then
                                            (optK (Heap.cell? (Heap.setCell h11 i0 0 (HCell.own 4 (es10 ++ [(AVal.agg [(AVal.int .i64 1), (AVal.str ss4), (AVal.str ss8)])]))) i1 0) fun _ =>
                                              (Tr.ret ([], (Heap.setCell (Heap.setCell h11 i0 0 (HCell.own 4 (es10 ++ [(AVal.agg [(AVal.int .i64 1), (AVal.str ss4), (AVal.str ss8)])]))) i1 0 (HCell.val (AVal.sl false 3 (Go.Weave.part 1 (es13.length : Int) es13)))))))
                                          else
                                            Tr.fail)))))
                                else
                                  Tr.fail))))))
                    else
                      Tr.fail)))])))
        else
          Tr.fail))),
    (optK (Heap.cell? h i1 0) fun z1 =>
      (slK 3 (HCell.toA z1) fun _ es2 =>
        (bif decide ((0 : Int) < (es2.length : Int)) then
          (optK ((AVal.cells (es2.getD 0 AVal.undef))[1]?) fun w3 =>
            (strK w3 fun ss4 =>
              (Tr.anyL [
                (optK (Heap.cell? h i0 0) fun z5 =>
                  (slK 4 (HCell.toA z5) fun _ es6 =>
                    (optK (Heap.cell? h i1 0) fun z7 =>
                      (slK 3 (HCell.toA z7) fun _ es8 =>
                        (bif decide ((0 : Int) < (es8.length : Int)) then
                          (optK ((AVal.cells (es8.getD 0 AVal.undef))[0]?) fun w9 =>
                            (strK w9 fun ss10 =>
                              (bif decide ((es6.length + (1 : Nat)) * 40 ≤ 140737488355328) then
                                (lentK h i0 0 4 es6 fun h11 =>
                                  (optK (Heap.cell? h11 i0 0) fun _ =>
                                    (optK (Heap.cell? (Heap.setCell h11 i0 0 (HCell.own 4 (es6 ++ [(AVal.agg [(AVal.int .i64 1), (AVal.str ss10), (AVal.str ss4)])]))) i1 0) fun z12 =>
                                      (slK 3 (HCell.toA z12) fun _ es13 =>
                                        (bif (decide ((1 : Int) ≤ (es13.length : Int)) && decide (((es13.length : Int) : Int) ≤ (es13.length : Int))) then
                                          (optK (Heap.cell? (Heap.setCell h11 i0 0 (HCell.own 4 (es6 ++ [(AVal.agg [(AVal.int .i64 1), (AVal.str ss10), (AVal.str ss4)])]))) i1 0) fun _ =>
                                            (Tr.ret ([], (Heap.setCell (Heap.setCell h11 i0 0 (HCell.own 4 (es6 ++ [(AVal.agg [(AVal.int .i64 1), (AVal.str ss10), (AVal.str ss4)])]))) i1 0 (HCell.val (AVal.sl false 3 (Go.Weave.part 1 (es13.length : Int) es13)))))))
                                        else
                                          Tr.fail)))))
                              else
                                Tr.fail)))
                        else
                          Tr.fail))))),
                (optK (Heap.cell? h i1 0) fun z5 =>
                  (slK 3 (HCell.toA z5) fun _ es6 =>
                    (bif decide ((0 : Int) < (es6.length : Int)) then
                      (optK ((AVal.cells (es6.getD 0 AVal.undef))[0]?) fun w7 =>
                        (strK w7 fun ss8 =>
                          (sameL 2
                            (optK (Heap.cell? h i0 0) fun z9 =>
                              (slK 4 (HCell.toA z9) fun _ es10 =>
                                (bif decide ((es10.length + (1 : Nat)) * 40 ≤ 140737488355328) then
                                  (lentK h i0 0 4 es10 fun h11 =>
                                    (optK (Heap.cell? h11 i0 0) fun _ =>
                                      (optK (Heap.cell? (Heap.setCell h11 i0 0 (HCell.own 4 (es10 ++ [(AVal.agg [(AVal.int .i64 1), (AVal.str ss8), (AVal.str ss4)])]))) i1 0) fun z12 =>
                                        (slK 3 (HCell.toA z12) fun _ es13 =>
                                          (bif (decide ((1 : Int) ≤ (es13.length : Int)) && decide (((es13.length : Int) : Int) ≤ (es13.length : Int))) then
                                            (optK (Heap.cell? (Heap.setCell h11 i0 0 (HCell.own 4 (es10 ++ [(AVal.agg [(AVal.int .i64 1), (AVal.str ss8), (AVal.str ss4)])]))) i1 0) fun _ =>
                                              (Tr.ret ([], (Heap.setCell (Heap.setCell h11 i0 0 (HCell.own 4 (es10 ++ [(AVal.agg [(AVal.int .i64 1), (AVal.str ss8), (AVal.str ss4)])]))) i1 0 (HCell.val (AVal.sl false 3 (Go.Weave.part 1 (es13.length : Int) es13)))))))
                                          else
                                            Tr.fail)))))
                                else
                                  Tr.fail))))))
                    else
                      Tr.fail)))])))
        else
          Tr.fail)))]) := by kernel_rfl
/- f44 strandline/table.Diff -/
noncomputable def P44_0 (d k : Nat) (i0 : Nat) (i1 : Nat) (i2 : Nat) (i3 : Nat) (i4 : Nat) (i5 : Nat) (i6 : Nat) (h : Heap) : Tr Res :=
  loopPt Cw d 44 [true, true, true, true, true, false, true] [] k ⟨[(5, (EV.one (SV.val (AVal.obj i0 0)))), (6, (EV.one (SV.val (AVal.obj i1 0)))), (7, (EV.one (SV.val (AVal.obj i2 0)))), (8, (EV.one (SV.val (AVal.fn 90 [] [(AVal.obj i3 0), (AVal.obj i4 0)])))), (9, (EV.one (SV.val (AVal.fn 91 [] [(AVal.obj i5 0), (AVal.obj i6 0)]))))], []⟩ h
theorem P44_0_eq (d k : Nat) (i0 : Nat) (i1 : Nat) (i2 : Nat) (i3 : Nat) (i4 : Nat) (i5 : Nat) (i6 : Nat) (h : Heap) : P44_0 d (k + 1) i0 i1 i2 i3 i4 i5 i6 h =
  (optK (Heap.cell? h i0 0) fun z1 =>
    (slK 3 (HCell.toA z1) fun _ es2 =>
      (bif (decide (((es2.length : Int) : Int) > 0)) then
        (optK (Heap.cell? h i1 0) fun z3 =>
          (slK 3 (HCell.toA z3) fun _ es4 =>
            (bif (((es4.length : Int) : Int) == 0) then
              (runK (evFn Cw d 90 [(AVal.obj i3 0), (AVal.obj i4 0)] h) fun r5 h5 =>
                (nilK r5
                  (P44_0 d k i0 i1 i2 i3 i4 i5 i6 h5)))
            else
              (optK (Heap.cell? h i0 0) fun z6 =>
                (slK 3 (HCell.toA z6) fun _ es7 =>
                  (bif (decide (((es7.length : Int) : Int) > 0)) then
                    (optK (Heap.cell? h i0 0) fun z8 =>
                      (slK 3 (HCell.toA z8) fun _ es9 =>
                        (bif decide ((0 : Int) < (es9.length : Int)) then
                          (optK ((AVal.cells (es9.getD 0 AVal.undef))[0]?) fun w10 =>
                            (strK w10 fun ss11 =>
                              (optK (Heap.cell? h i1 0) fun z12 =>
                                (slK 3 (HCell.toA z12) fun _ es13 =>
                                  (bif decide ((0 : Int) < (es13.length : Int)) then
                                    (optK ((AVal.cells (es13.getD 0 AVal.undef))[0]?) fun w14 =>
                                      (strK w14 fun ss15 =>
                                        (bif (Go.Op.bytesLess ss11 ss15) then
                                          (runK (evFn Cw d 90 [(AVal.obj i3 0), (AVal.obj i4 0)] h) fun r16 h16 =>
                                            (nilK r16
                                              (P44_0 d k i0 i1 i2 i3 i4 i5 i6 h16)))
                                        else
                                          (optK (Heap.cell? h i0 0) fun z17 =>
                                            (slK 3 (HCell.toA z17) fun _ es18 =>
                                              (bif (((es18.length : Int) : Int) == 0) then
                                                (runK (evFn Cw d 91 [(AVal.obj i5 0), (AVal.obj i6 0)] h) fun r19 h19 =>
                                                  (nilK r19
                                                    (P44_0 d k i0 i1 i2 i3 i4 i5 i6 h19)))
                                              else
                                                (optK (Heap.cell? h i1 0) fun z20 =>
                                                  (slK 3 (HCell.toA z20) fun _ es21 =>
                                                    (bif decide ((0 : Int) < (es21.length : Int)) then
                                                      (optK ((AVal.cells (es21.getD 0 AVal.undef))[0]?) fun w22 =>
                                                        (strK w22 fun ss23 =>
                                                          (optK (Heap.cell? h i0 0) fun z24 =>
                                                            (slK 3 (HCell.toA z24) fun _ es25 =>
                                                              (bif decide ((0 : Int) < (es25.length : Int)) then
                                                                (optK ((AVal.cells (es25.getD 0 AVal.undef))[0]?) fun w26 =>
                                                                  (strK w26 fun ss27 =>
                                                                    (bif (Go.Op.bytesLess ss23 ss27) then
                                                                      (runK (evFn Cw d 91 [(AVal.obj i5 0), (AVal.obj i6 0)] h) fun r28 h28 =>
                                                                        (nilK r28
                                                                          (P44_0 d k i0 i1 i2 i3 i4 i5 i6 h28)))
                                                                    else
                                                                      (optK (Heap.cell? h i0 0) fun z29 =>
                                                                        (slK 3 (HCell.toA z29) fun _ es30 =>
                                                                          (bif decide ((0 : Int) < (es30.length : Int)) then
                                                                            (aggK 2 (es30.getD 0 AVal.undef) fun cc31 =>
                                                                              (optK (Heap.cell? h i1 0) fun z32 =>
                                                                                (slK 3 (HCell.toA z32) fun _ es33 =>
                                                                                  (bif decide ((0 : Int) < (es33.length : Int)) then
                                                                                    (aggK 2 (es33.getD 0 AVal.undef) fun cc34 =>
                                                                                      (bif ((plainOk Cw.P 43 (AVal.agg cc31)) && (plainOk Cw.P 43 (AVal.agg cc34))) then
                                                                                        (bif (eqCells cc31 cc34) then
                                                                                          (optK (Heap.cell? h i0 0) fun z35 =>
                                                                                            (slK 3 (HCell.toA z35) fun _ es36 =>
                                                                                              (bif (decide ((1 : Int) ≤ (es36.length : Int)) && decide (((es36.length : Int) : Int) ≤ (es36.length : Int))) then
                                                                                                (Tr.anyL [
                                                                                                  (optK (Heap.cell? h i1 0) fun z37 =>
                                                                                                    (slK 3 (HCell.toA z37) fun _ es38 =>
                                                                                                      (bif (decide ((1 : Int) ≤ (es38.length : Int)) && decide (((es38.length : Int) : Int) ≤ (es38.length : Int))) then
                                                                                                        (optK (Heap.cell? h i0 0) fun _ =>
                                                                                                          (optK (Heap.cell? (Heap.setCell h i0 0 (HCell.val (AVal.sl false 3 (Go.Weave.part 1 (es36.length : Int) es36)))) i1 0) fun _ =>
                                                                                                            (P44_0 d k i0 i1 i2 i3 i4 i5 i6 (Heap.setCell (Heap.setCell h i0 0 (HCell.val (AVal.sl false 3 (Go.Weave.part 1 (es36.length : Int) es36)))) i1 0 (HCell.val (AVal.sl false 3 (Go.Weave.part 1 (es38.length : Int) es38)))))))
                                                                                                      else
                                                                                                        Tr.fail))),
                                                                                                  (optK (Heap.cell? h i0 0) fun _ =>
                                                                                                    (optK (Heap.cell? (Heap.setCell h i0 0 (HCell.val (AVal.sl false 3 (Go.Weave.part 1 (es36.length : Int) es36)))) i1 0) fun z37 =>
                                                                                                      (slK 3 (HCell.toA z37) fun _ es38 =>
                                                                                                        (bif (decide ((1 : Int) ≤ (es38.length : Int)) && decide (((es38.length : Int) : Int) ≤ (es38.length : Int))) then
                                                                                                          (optK (Heap.cell? (Heap.setCell h i0 0 (HCell.val (AVal.sl false 3 (Go.Weave.part 1 (es36.length : Int) es36)))) i1 0) fun _ =>
                                                                                                            (P44_0 d k i0 i1 i2 i3 i4 i5 i6 (Heap.setCell (Heap.setCell h i0 0 (HCell.val (AVal.sl false 3 (Go.Weave.part 1 (es36.length : Int) es36)))) i1 0 (HCell.val (AVal.sl false 3 (Go.Weave.part 1 (es38.length : Int) es38))))))
                                                                                                        else
                                                                                                          Tr.fail))))])
                                                                                              else
                                                                                                Tr.fail)))
                                                                                        else
                                                                                          (optK (Heap.cell? h i0 0) fun z39 =>
                                                                                            (slK 3 (HCell.toA z39) fun _ es40 =>
                                                                                              (bif (decide ((1 : Int) ≤ (es40.length : Int)) && decide (((es40.length : Int) : Int) ≤ (es40.length : Int))) then
                                                                                                (optK (Heap.cell? h i0 0) fun _ =>
                                                                                                  (runK (evFn Cw d 91 [(AVal.obj i5 0), (AVal.obj i6 0)] (Heap.setCell h i0 0 (HCell.val (AVal.sl false 3 (Go.Weave.part 1 (es40.length : Int) es40))))) fun r41 h41 =>
                                                                                                    (nilK r41
                                                                                                      (P44_0 d k i0 i1 i2 i3 i4 i5 i6 h41))))
                                                                                              else
                                                                                                Tr.fail))))
                                                                                      else
                                                                                        Tr.fail))
                                                                                  else
                                                                                    Tr.fail))))
                                                                          else
                                                                            Tr.fail))))))
                                                              else
                                                                Tr.fail)))))
                                                    else
                                                      Tr.fail)))))))))
                                  else
                                    Tr.fail)))))
                        else
                          Tr.fail)))
                  else
                    (optK (Heap.cell? h i0 0) fun z42 =>
                      (slK 3 (HCell.toA z42) fun _ es43 =>
                        (bif (((es43.length : Int) : Int) == 0) then
                          (runK (evFn Cw d 91 [(AVal.obj i5 0), (AVal.obj i6 0)] h) fun r44 h44 =>
                            (nilK r44
                              (P44_0 d k i0 i1 i2 i3 i4 i5 i6 h44)))
                        else
                          (optK (Heap.cell? h i1 0) fun z45 =>
                            (slK 3 (HCell.toA z45) fun _ es46 =>
                              (bif decide ((0 : Int) < (es46.length : Int)) then
                                (optK ((AVal.cells (es46.getD 0 AVal.undef))[0]?) fun w47 =>
                                  (strK w47 fun ss48 =>
                                    (optK (Heap.cell? h i0 0) fun z49 =>
                                      (slK 3 (HCell.toA z49) fun _ es50 =>
                                        (bif decide ((0 : Int) < (es50.length : Int)) then
                                          (optK ((AVal.cells (es50.getD 0 AVal.undef))[0]?) fun w51 =>
                                            (strK w51 fun ss52 =>
                                              (bif (Go.Op.bytesLess ss48 ss52) then
                                                (runK (evFn Cw d 91 [(AVal.obj i5 0), (AVal.obj i6 0)] h) fun r53 h53 =>
                                                  (nilK r53
                                                    (P44_0 d k i0 i1 i2 i3 i4 i5 i6 h53)))
                                              else
                                                (optK (Heap.cell? h i0 0) fun z54 =>
                                                  (slK 3 (HCell.toA z54) fun _ es55 =>
                                                    (bif decide ((0 : Int) < (es55.length : Int)) then
                                                      (aggK 2 (es55.getD 0 AVal.undef) fun cc56 =>
                                                        (optK (Heap.cell? h i1 0) fun z57 =>
                                                          (slK 3 (HCell.toA z57) fun _ es58 =>
                                                            (bif decide ((0 : Int) < (es58.length : Int)) then
                                                              (aggK 2 (es58.getD 0 AVal.undef) fun cc59 =>
                                                                (bif ((plainOk Cw.P 43 (AVal.agg cc56)) && (plainOk Cw.P 43 (AVal.agg cc59))) then
                                                                  (bif (eqCells cc56 cc59) then
                                                                    (optK (Heap.cell? h i0 0) fun z60 =>
                                                                      (slK 3 (HCell.toA z60) fun _ es61 =>
                                                                        (bif (decide ((1 : Int) ≤ (es61.length : Int)) && decide (((es61.length : Int) : Int) ≤ (es61.length : Int))) then
                                                                          (Tr.anyL [
                                                                            (optK (Heap.cell? h i1 0) fun z62 =>
                                                                              (slK 3 (HCell.toA z62) fun _ es63 =>
                                                                                (bif (decide ((1 : Int) ≤ (es63.length : Int)) && decide (((es63.length : Int) : Int) ≤ (es63.length : Int))) then
                                                                                  (optK (Heap.cell? h i0 0) fun _ =>
                                                                                    (optK (Heap.cell? (Heap.setCell h i0 0 (HCell.val (AVal.sl false 3 (Go.Weave.part 1 (es61.length : Int) es61)))) i1 0) fun _ =>
                                                                                      (P44_0 d k i0 i1 i2 i3 i4 i5 i6 (Heap.setCell (Heap.setCell h i0 0 (HCell.val (AVal.sl false 3 (Go.Weave.part 1 (es61.length : Int) es61)))) i1 0 (HCell.val (AVal.sl false 3 (Go.Weave.part 1 (es63.length : Int) es63)))))))
                                                                                else
                                                                                  Tr.fail))),
                                                                            (optK (Heap.cell? h i0 0) fun _ =>
                                                                              (optK (Heap.cell? (Heap.setCell h i0 0 (HCell.val (AVal.sl false 3 (Go.Weave.part 1 (es61.length : Int) es61)))) i1 0) fun z62 =>
                                                                                (slK 3 (HCell.toA z62) fun _ es63 =>
                                                                                  (bif (decide ((1 : Int) ≤ (es63.length : Int)) && decide (((es63.length : Int) : Int) ≤ (es63.length : Int))) then
                                                                                    (optK (Heap.cell? (Heap.setCell h i0 0 (HCell.val (AVal.sl false 3 (Go.Weave.part 1 (es61.length : Int) es61)))) i1 0) fun _ =>
                                                                                      (P44_0 d k i0 i1 i2 i3 i4 i5 i6 (Heap.setCell (Heap.setCell h i0 0 (HCell.val (AVal.sl false 3 (Go.Weave.part 1 (es61.length : Int) es61)))) i1 0 (HCell.val (AVal.sl false 3 (Go.Weave.part 1 (es63.length : Int) es63))))))
                                                                                  else
                                                                                    Tr.fail))))])
                                                                        else
                                                                          Tr.fail)))
                                                                  else
                                                                    (optK (Heap.cell? h i0 0) fun z64 =>
                                                                      (slK 3 (HCell.toA z64) fun _ es65 =>
                                                                        (bif (decide ((1 : Int) ≤ (es65.length : Int)) && decide (((es65.length : Int) : Int) ≤ (es65.length : Int))) then
                                                                          (optK (Heap.cell? h i0 0) fun _ =>
                                                                            (runK (evFn Cw d 91 [(AVal.obj i5 0), (AVal.obj i6 0)] (Heap.setCell h i0 0 (HCell.val (AVal.sl false 3 (Go.Weave.part 1 (es65.length : Int) es65))))) fun r66 h66 =>
                                                                              (nilK r66
                                                                                (P44_0 d k i0 i1 i2 i3 i4 i5 i6 h66))))
                                                                        else
                                                                          Tr.fail))))
                                                                else
                                                                  Tr.fail))
                                                            else
                                                              Tr.fail))))
                                                    else
                                                      Tr.fail))))))
                                        else
                                          Tr.fail)))))
                              else
                                Tr.fail))))))))))))
      else
        (optK (Heap.cell? h i1 0) fun z67 =>
          (slK 3 (HCell.toA z67) fun _ es68 =>
            (bif (decide (((es68.length : Int) : Int) > 0)) then
              (optK (Heap.cell? h i1 0) fun z69 =>
                (slK 3 (HCell.toA z69) fun _ es70 =>
                  (bif (((es70.length : Int) : Int) == 0) then
                    (runK (evFn Cw d 90 [(AVal.obj i3 0), (AVal.obj i4 0)] h) fun r71 h71 =>
                      (nilK r71
                        (P44_0 d k i0 i1 i2 i3 i4 i5 i6 h71)))
                  else
                    (optK (Heap.cell? h i0 0) fun z72 =>
                      (slK 3 (HCell.toA z72) fun _ es73 =>
                        (bif (decide (((es73.length : Int) : Int) > 0)) then
                          (optK (Heap.cell? h i0 0) fun z74 =>
                            (slK 3 (HCell.toA z74) fun _ es75 =>
                              (bif decide ((0 : Int) < (es75.length : Int)) then
                                (optK ((AVal.cells (es75.getD 0 AVal.undef))[0]?) fun w76 =>
                                  (strK w76 fun ss77 =>
                                    (optK (Heap.cell? h i1 0) fun z78 =>
                                      (slK 3 (HCell.toA z78) fun _ es79 =>
                                        (bif decide ((0 : Int) < (es79.length : Int)) then
                                          (optK ((AVal.cells (es79.getD 0 AVal.undef))[0]?) fun w80 =>
                                            (strK w80 fun ss81 =>
                                              (bif (Go.Op.bytesLess ss77 ss81) then
                                                (runK (evFn Cw d 90 [(AVal.obj i3 0), (AVal.obj i4 0)] h) fun r82 h82 =>
                                                  (nilK r82
                                                    (P44_0 d k i0 i1 i2 i3 i4 i5 i6 h82)))
                                              else
                                                (optK (Heap.cell? h i0 0) fun z83 =>
                                                  (slK 3 (HCell.toA z83) fun _ es84 =>
                                                    (bif (((es84.length : Int) : Int) == 0) then
                                                      (runK (evFn Cw d 91 [(AVal.obj i5 0), (AVal.obj i6 0)] h) fun r85 h85 =>
                                                        (nilK r85
                                                          (P44_0 d k i0 i1 i2 i3 i4 i5 i6 h85)))
                                                    else
                                                      (optK (Heap.cell? h i1 0) fun z86 =>
                                                        (slK 3 (HCell.toA z86) fun _ es87 =>
                                                          (bif decide ((0 : Int) < (es87.length : Int)) then
                                                            (optK ((AVal.cells (es87.getD 0 AVal.undef))[0]?) fun w88 =>
                                                              (strK w88 fun ss89 =>
                                                                (optK (Heap.cell? h i0 0) fun z90 =>
                                                                  (slK 3 (HCell.toA z90) fun _ es91 =>
                                                                    (bif decide ((0 : Int) < (es91.length : Int)) then
                                                                      (optK ((AVal.cells (es91.getD 0 AVal.undef))[0]?) fun w92 =>
                                                                        (strK w92 fun ss93 =>
                                                                          (bif (Go.Op.bytesLess ss89 ss93) then
                                                                            (runK (evFn Cw d 91 [(AVal.obj i5 0), (AVal.obj i6 0)] h) fun r94 h94 =>
                                                                              (nilK r94
                                                                                (P44_0 d k i0 i1 i2 i3 i4 i5 i6 h94)))
                                                                          else
                                                                            (optK (Heap.cell? h i0 0) fun z95 =>
                                                                              (slK 3 (HCell.toA z95) fun _ es96 =>
                                                                                (bif decide ((0 : Int) < (es96.length : Int)) then
                                                                                  (aggK 2 (es96.getD 0 AVal.undef) fun cc97 =>
                                                                                    (optK (Heap.cell? h i1 0) fun z98 =>
                                                                                      (slK 3 (HCell.toA z98) fun _ es99 =>
                                                                                        (bif decide ((0 : Int) < (es99.length : Int)) then
                                                                                          (aggK 2 (es99.getD 0 AVal.undef) fun cc100 =>
                                                                                            (bif ((plainOk Cw.P 43 (AVal.agg cc97)) && (plainOk Cw.P 43 (AVal.agg cc100))) then
                                                                                              (bif (eqCells cc97 cc100) then
                                                                                                (optK (Heap.cell? h i0 0) fun z101 =>
                                                                                                  (slK 3 (HCell.toA z101) fun _ es102 =>
                                                                                                    (bif (decide ((1 : Int) ≤ (es102.length : Int)) && decide (((es102.length : Int) : Int) ≤ (es102.length : Int))) then
                                                                                                      (Tr.anyL [
                                                                                                        (optK (Heap.cell? h i1 0) fun z103 =>
                                                                                                          (slK 3 (HCell.toA z103) fun _ es104 =>
                                                                                                            (bif (decide ((1 : Int) ≤ (es104.length : Int)) && decide (((es104.length : Int) : Int) ≤ (es104.length : Int))) then
                                                                                                              (optK (Heap.cell? h i0 0) fun _ =>
                                                                                                                (optK (Heap.cell? (Heap.setCell h i0 0 (HCell.val (AVal.sl false 3 (Go.Weave.part 1 (es102.length : Int) es102)))) i1 0) fun _ =>
                                                                                                                  (P44_0 d k i0 i1 i2 i3 i4 i5 i6 (Heap.setCell (Heap.setCell h i0 0 (HCell.val (AVal.sl false 3 (Go.Weave.part 1 (es102.length : Int) es102)))) i1 0 (HCell.val (AVal.sl false 3 (Go.Weave.part 1 (es104.length : Int) es104)))))))
                                                                                                            else
                                                                                                              Tr.fail))),
                                                                                                        (optK (Heap.cell? h i0 0) fun _ =>
                                                                                                          (optK (Heap.cell? (Heap.setCell h i0 0 (HCell.val (AVal.sl false 3 (Go.Weave.part 1 (es102.length : Int) es102)))) i1 0) fun z103 =>
                                                                                                            (slK 3 (HCell.toA z103) fun _ es104 =>
                                                                                                              (bif (decide ((1 : Int) ≤ (es104.length : Int)) && decide (((es104.length : Int) : Int) ≤ (es104.length : Int))) then
                                                                                                                (optK (Heap.cell? (Heap.setCell h i0 0 (HCell.val (AVal.sl false 3 (Go.Weave.part 1 (es102.length : Int) es102)))) i1 0) fun _ =>
                                                                                                                  (P44_0 d k i0 i1 i2 i3 i4 i5 i6 (Heap.setCell (Heap.setCell h i0 0 (HCell.val (AVal.sl false 3 (Go.Weave.part 1 (es102.length : Int) es102)))) i1 0 (HCell.val (AVal.sl false 3 (Go.Weave.part 1 (es104.length : Int) es104))))))
                                                                                                              else
                                                                                                                Tr.fail))))])
                                                                                                    else
                                                                                                      Tr.fail)))
                                                                                              else
                                                                                                (optK (Heap.cell? h i0 0) fun z105 =>
                                                                                                  (slK 3 (HCell.toA z105) fun _ es106 =>
                                                                                                    (bif (decide ((1 : Int) ≤ (es106.length : Int)) && decide (((es106.length : Int) : Int) ≤ (es106.length : Int))) then
                                                                                                      (optK (Heap.cell? h i0 0) fun _ =>
                                                                                                        (runK (evFn Cw d 91 [(AVal.obj i5 0), (AVal.obj i6 0)] (Heap.setCell h i0 0 (HCell.val (AVal.sl false 3 (Go.Weave.part 1 (es106.length : Int) es106))))) fun r107 h107 =>
                                                                                                          (nilK r107
                                                                                                            (P44_0 d k i0 i1 i2 i3 i4 i5 i6 h107))))
                                                                                                    else
                                                                                                      Tr.fail))))
                                                                                            else
                                                                                              Tr.fail))
                                                                                        else
                                                                                          Tr.fail))))
                                                                                else
                                                                                  Tr.fail))))))
                                                                    else
                                                                      Tr.fail)))))
                                                          else
                                                            Tr.fail)))))))))
                                        else
                                          Tr.fail)))))
                              else
                                Tr.fail)))
                        else
                          (optK (Heap.cell? h i0 0) fun z108 =>
                            (slK 3 (HCell.toA z108) fun _ es109 =>
                              (bif (((es109.length : Int) : Int) == 0) then
                                (runK (evFn Cw d 91 [(AVal.obj i5 0), (AVal.obj i6 0)] h) fun r110 h110 =>
                                  (nilK r110
                                    (P44_0 d k i0 i1 i2 i3 i4 i5 i6 h110)))
                              else
                                (optK (Heap.cell? h i1 0) fun z111 =>
                                  (slK 3 (HCell.toA z111) fun _ es112 =>
                                    (bif decide ((0 : Int) < (es112.length : Int)) then
                                      (optK ((AVal.cells (es112.getD 0 AVal.undef))[0]?) fun w113 =>
                                        (strK w113 fun ss114 =>
                                          (optK (Heap.cell? h i0 0) fun z115 =>
                                            (slK 3 (HCell.toA z115) fun _ es116 =>
                                              (bif decide ((0 : Int) < (es116.length : Int)) then
                                                (optK ((AVal.cells (es116.getD 0 AVal.undef))[0]?) fun w117 =>
                                                  (strK w117 fun ss118 =>
                                                    (bif (Go.Op.bytesLess ss114 ss118) then
                                                      (runK (evFn Cw d 91 [(AVal.obj i5 0), (AVal.obj i6 0)] h) fun r119 h119 =>
                                                        (nilK r119
                                                          (P44_0 d k i0 i1 i2 i3 i4 i5 i6 h119)))
                                                    else
                                                      (optK (Heap.cell? h i0 0) fun z120 =>
                                                        (slK 3 (HCell.toA z120) fun _ es121 =>
                                                          (bif decide ((0 : Int) < (es121.length : Int)) then
                                                            (aggK 2 (es121.getD 0 AVal.undef) fun cc122 =>
                                                              (optK (Heap.cell? h i1 0) fun z123 =>
                                                                (slK 3 (HCell.toA z123) fun _ es124 =>
                                                                  (bif decide ((0 : Int) < (es124.length : Int)) then
                                                                    (aggK 2 (es124.getD 0 AVal.undef) fun cc125 =>
                                                                      (bif ((plainOk Cw.P 43 (AVal.agg cc122)) && (plainOk Cw.P 43 (AVal.agg cc125))) then
                                                                        (bif (eqCells cc122 cc125) then
                                                                          (optK (Heap.cell? h i0 0) fun z126 =>
                                                                            (slK 3 (HCell.toA z126) fun _ es127 =>
                                                                              (bif (decide ((1 : Int) ≤ (es127.length : Int)) && decide (((es127.length : Int) : Int) ≤ (es127.length : Int))) then
                                                                                (Tr.anyL [
                                                                                  (optK (Heap.cell? h i1 0) fun z128 =>
                                                                                    (slK 3 (HCell.toA z128) fun _ es129 =>
                                                                                      (bif (decide ((1 : Int) ≤ (es129.length : Int)) && decide (((es129.length : Int) : Int) ≤ (es129.length : Int))) then
                                                                                        (optK (Heap.cell? h i0 0) fun _ =>
                                                                                          (optK (Heap.cell? (Heap.setCell h i0 0 (HCell.val (AVal.sl false 3 (Go.Weave.part 1 (es127.length : Int) es127)))) i1 0) fun _ =>
                                                                                            (P44_0 d k i0 i1 i2 i3 i4 i5 i6 (Heap.setCell (Heap.setCell h i0 0 (HCell.val (AVal.sl false 3 (Go.Weave.part 1 (es127.length : Int) es127)))) i1 0 (HCell.val (AVal.sl false 3 (Go.Weave.part 1 (es129.length : Int) es129)))))))
                                                                                      else
                                                                                        Tr.fail))),
                                                                                  (optK (Heap.cell? h i0 0) fun _ =>
                                                                                    (optK (Heap.cell? (Heap.setCell h i0 0 (HCell.val (AVal.sl false 3 (Go.Weave.part 1 (es127.length : Int) es127)))) i1 0) fun z128 =>
                                                                                      (slK 3 (HCell.toA z128) fun _ es129 =>
                                                                                        (bif (decide ((1 : Int) ≤ (es129.length : Int)) && decide (((es129.length : Int) : Int) ≤ (es129.length : Int))) then
                                                                                          (optK (Heap.cell? (Heap.setCell h i0 0 (HCell.val (AVal.sl false 3 (Go.Weave.part 1 (es127.length : Int) es127)))) i1 0) fun _ =>
                                                                                            (P44_0 d k i0 i1 i2 i3 i4 i5 i6 (Heap.setCell (Heap.setCell h i0 0 (HCell.val (AVal.sl false 3 (Go.Weave.part 1 (es127.length : Int) es127)))) i1 0 (HCell.val (AVal.sl false 3 (Go.Weave.part 1 (es129.length : Int) es129))))))
                                                                                        else
                                                                                          Tr.fail))))])
                                                                              else
                                                                                Tr.fail)))
                                                                        else
                                                                          (optK (Heap.cell? h i0 0) fun z130 =>
                                                                            (slK 3 (HCell.toA z130) fun _ es131 =>
                                                                              (bif (decide ((1 : Int) ≤ (es131.length : Int)) && decide (((es131.length : Int) : Int) ≤ (es131.length : Int))) then
                                                                                (optK (Heap.cell? h i0 0) fun _ =>
                                                                                  (runK (evFn Cw d 91 [(AVal.obj i5 0), (AVal.obj i6 0)] (Heap.setCell h i0 0 (HCell.val (AVal.sl false 3 (Go.Weave.part 1 (es131.length : Int) es131))))) fun r132 h132 =>
                                                                                    (nilK r132
                                                                                      (P44_0 d k i0 i1 i2 i3 i4 i5 i6 h132))))
                                                                              else
                                                                                Tr.fail))))
                                                                      else
                                                                        Tr.fail))
                                                                  else
                                                                    Tr.fail))))
                                                          else
                                                            Tr.fail))))))
                                              else
                                                Tr.fail)))))
                                    else
                                      Tr.fail))))))))))))
            else
              (optK (Heap.cell? h i2 0) fun z133 =>
                (slK 4 (HCell.toA z133) fun _ es134 =>
                  (Tr.ret ([(AVal.sl false 4 es134)], h)))))))))) := by kernel_rfl
theorem F44_eq (d : Nat) (i0 : Nat) (i1 : Nat) (h : Heap) : evFn Cw (d + 1) 44 [(AVal.obj i0 0), (AVal.obj i1 0)] h =
  (runK (evFn Cw d 37 [(AVal.obj i0 0)] h) fun r1 h1 =>
    (consK r1 fun w2 ws3 =>
      (slOK 3 w2 fun es4 =>
        (nilK ws3
          (runK (evFn Cw d 37 [(AVal.obj i1 0)] h1) fun r5 h5 =>
            (consK r5 fun w6 ws7 =>
              (slOK 3 w6 fun es8 =>
                (nilK ws7
                  (optK (Heap.cell? (Heap.push (Heap.push h5 (Go.Weave.Obj.cells [(HCell.val (AVal.sl true 3 []))])) (Go.Weave.Obj.cells [(HCell.val (AVal.sl true 3 []))])) h5.objs.length 0) fun _ =>
                    (optK (Heap.cell? (Heap.setCell (Heap.push (Heap.push h5 (Go.Weave.Obj.cells [(HCell.val (AVal.sl true 3 []))])) (Go.Weave.Obj.cells [(HCell.val (AVal.sl true 3 []))])) h5.objs.length 0 (HCell.own 3 es4)) (Heap.push h5 (Go.Weave.Obj.cells [(HCell.val (AVal.sl true 3 []))])).objs.length 0) fun _ =>
                      (P44_0 d rounds h5.objs.length ((Heap.push h5 (Go.Weave.Obj.cells [(HCell.val (AVal.sl true 3 []))])).objs.length) ((Heap.setCell (Heap.setCell (Heap.push (Heap.push h5 (Go.Weave.Obj.cells [(HCell.val (AVal.sl true 3 []))])) (Go.Weave.Obj.cells [(HCell.val (AVal.sl true 3 []))])) h5.objs.length 0 (HCell.own 3 es4)) (Heap.push h5 (Go.Weave.Obj.cells [(HCell.val (AVal.sl true 3 []))])).objs.length 0 (HCell.own 3 es8)).objs.length) ((Heap.setCell (Heap.setCell (Heap.push (Heap.push h5 (Go.Weave.Obj.cells [(HCell.val (AVal.sl true 3 []))])) (Go.Weave.Obj.cells [(HCell.val (AVal.sl true 3 []))])) h5.objs.length 0 (HCell.own 3 es4)) (Heap.push h5 (Go.Weave.Obj.cells [(HCell.val (AVal.sl true 3 []))])).objs.length 0 (HCell.own 3 es8)).objs.length) h5.objs.length ((Heap.setCell (Heap.setCell (Heap.push (Heap.push h5 (Go.Weave.Obj.cells [(HCell.val (AVal.sl true 3 []))])) (Go.Weave.Obj.cells [(HCell.val (AVal.sl true 3 []))])) h5.objs.length 0 (HCell.own 3 es4)) (Heap.push h5 (Go.Weave.Obj.cells [(HCell.val (AVal.sl true 3 []))])).objs.length 0 (HCell.own 3 es8)).objs.length) ((Heap.push h5 (Go.Weave.Obj.cells [(HCell.val (AVal.sl true 3 []))])).objs.length) (Heap.push (Heap.setCell (Heap.setCell (Heap.push (Heap.push h5 (Go.Weave.Obj.cells [(HCell.val (AVal.sl true 3 []))])) (Go.Weave.Obj.cells [(HCell.val (AVal.sl true 3 []))])) h5.objs.length 0 (HCell.own 3 es4)) (Heap.push h5 (Go.Weave.Obj.cells [(HCell.val (AVal.sl true 3 []))])).objs.length 0 (HCell.own 3 es8)) (Go.Weave.Obj.cells [(HCell.val (AVal.sl true 4 []))]))))))))))))) := by kernel_rfl
noncomputable def P44nn_0 (d k : Nat) (i0 : Nat) (i1 : Nat) (i2 : Nat) (i3 : Nat) (i4 : Nat) (i5 : Nat) (i6 : Nat) (h : Heap) : Tr Res :=
  loopPt Cw d 44 [true, true, true, true, true, false, true] [] k ⟨[(5, (EV.one (SV.val (AVal.obj i0 0)))), (6, (EV.one (SV.val (AVal.obj i1 0)))), (7, (EV.one (SV.val (AVal.obj i2 0)))), (8, (EV.one (SV.val (AVal.fn 90 [] [(AVal.obj i3 0), (AVal.obj i4 0)])))), (9, (EV.one (SV.val (AVal.fn 91 [] [(AVal.obj i5 0), (AVal.obj i6 0)]))))], []⟩ h
theorem P44nn_0_eq (d k : Nat) (i0 : Nat) (i1 : Nat) (i2 : Nat) (i3 : Nat) (i4 : Nat) (i5 : Nat) (i6 : Nat) (h : Heap) : P44nn_0 d (k + 1) i0 i1 i2 i3 i4 i5 i6 h =
  (optK (Heap.cell? h i0 0) fun z1 =>
    (slK 3 (HCell.toA z1) fun _ es2 =>
      (bif (decide (((es2.length : Int) : Int) > 0)) then
        (optK (Heap.cell? h i1 0) fun z3 =>
          (slK 3 (HCell.toA z3) fun _ es4 =>
            (bif (((es4.length : Int) : Int) == 0) then
              (runK (evFn Cw d 90 [(AVal.obj i3 0), (AVal.obj i4 0)] h) fun r5 h5 =>
                (nilK r5
                  (P44nn_0 d k i0 i1 i2 i3 i4 i5 i6 h5)))
            else
              (optK (Heap.cell? h i0 0) fun z6 =>
                (slK 3 (HCell.toA z6) fun _ es7 =>
                  (bif (decide (((es7.length : Int) : Int) > 0)) then
                    (optK (Heap.cell? h i0 0) fun z8 =>
                      (slK 3 (HCell.toA z8) fun _ es9 =>
                        (bif decide ((0 : Int) < (es9.length : Int)) then
                          (optK ((AVal.cells (es9.getD 0 AVal.undef))[0]?) fun w10 =>
                            (strK w10 fun ss11 =>
                              (optK (Heap.cell? h i1 0) fun z12 =>
                                (slK 3 (HCell.toA z12) fun _ es13 =>
                                  (bif decide ((0 : Int) < (es13.length : Int)) then
                                    (optK ((AVal.cells (es13.getD 0 AVal.undef))[0]?) fun w14 =>
                                      (strK w14 fun ss15 =>
                                        (bif (Go.Op.bytesLess ss11 ss15) then
                                          (runK (evFn Cw d 90 [(AVal.obj i3 0), (AVal.obj i4 0)] h) fun r16 h16 =>
                                            (nilK r16
                                              (P44nn_0 d k i0 i1 i2 i3 i4 i5 i6 h16)))
                                        else
                                          (optK (Heap.cell? h i0 0) fun z17 =>
                                            (slK 3 (HCell.toA z17) fun _ es18 =>
                                              (bif (((es18.length : Int) : Int) == 0) then
                                                (runK (evFn Cw d 91 [(AVal.obj i5 0), (AVal.obj i6 0)] h) fun r19 h19 =>
                                                  (nilK r19
                                                    (P44nn_0 d k i0 i1 i2 i3 i4 i5 i6 h19)))
                                              else
                                                (optK (Heap.cell? h i1 0) fun z20 =>
                                                  (slK 3 (HCell.toA z20) fun _ es21 =>
                                                    (bif decide ((0 : Int) < (es21.length : Int)) then
                                                      (optK ((AVal.cells (es21.getD 0 AVal.undef))[0]?) fun w22 =>
                                                        (strK w22 fun ss23 =>
                                                          (optK (Heap.cell? h i0 0) fun z24 =>
                                                            (slK 3 (HCell.toA z24) fun _ es25 =>
                                                              (bif decide ((0 : Int) < (es25.length : Int)) then
                                                                (optK ((AVal.cells (es25.getD 0 AVal.undef))[0]?) fun w26 =>
                                                                  (strK w26 fun ss27 =>
                                                                    (bif (Go.Op.bytesLess ss23 ss27) then
                                                                      (runK (evFn Cw d 91 [(AVal.obj i5 0), (AVal.obj i6 0)] h) fun r28 h28 =>
                                                                        (nilK r28
                                                                          (P44nn_0 d k i0 i1 i2 i3 i4 i5 i6 h28)))
                                                                    else
                                                                      (optK (Heap.cell? h i0 0) fun z29 =>
                                                                        (slK 3 (HCell.toA z29) fun _ es30 =>
                                                                          (bif decide ((0 : Int) < (es30.length : Int)) then
                                                                            (aggK 2 (es30.getD 0 AVal.undef) fun cc31 =>
                                                                              (optK (Heap.cell? h i1 0) fun z32 =>
                                                                                (slK 3 (HCell.toA z32) fun _ es33 =>
                                                                                  (bif decide ((0 : Int) < (es33.length : Int)) then
                                                                                    (aggK 2 (es33.getD 0 AVal.undef) fun cc34 =>
                                                                                      (bif ((plainOk Cw.P 43 (AVal.agg cc31)) && (plainOk Cw.P 43 (AVal.agg cc34))) then
                                                                                        (bif (eqCells cc31 cc34) then
                                                                                          (optK (Heap.cell? h i0 0) fun z35 =>
                                                                                            (slK 3 (HCell.toA z35) fun _ es36 =>
                                                                                              (bif (decide ((1 : Int) ≤ (es36.length : Int)) && decide (((es36.length : Int) : Int) ≤ (es36.length : Int))) then
                                                                                                (Tr.anyL [
                                                                                                  (optK (Heap.cell? h i1 0) fun z37 =>
                                                                                                    (slK 3 (HCell.toA z37) fun _ es38 =>
                                                                                                      (bif (decide ((1 : Int) ≤ (es38.length : Int)) && decide (((es38.length : Int) : Int) ≤ (es38.length : Int))) then
                                                                                                        (optK (Heap.cell? h i0 0) fun _ =>
                                                                                                          (optK (Heap.cell? (Heap.setCell h i0 0 (HCell.val (AVal.sl false 3 (Go.Weave.part 1 (es36.length : Int) es36)))) i1 0) fun _ =>
                                                                                                            (P44nn_0 d k i0 i1 i2 i3 i4 i5 i6 (Heap.setCell (Heap.setCell h i0 0 (HCell.val (AVal.sl false 3 (Go.Weave.part 1 (es36.length : Int) es36)))) i1 0 (HCell.val (AVal.sl false 3 (Go.Weave.part 1 (es38.length : Int) es38)))))))
                                                                                                      else
                                                                                                        Tr.fail))),
                                                                                                  (optK (Heap.cell? h i0 0) fun _ =>
                                                                                                    (optK (Heap.cell? (Heap.setCell h i0 0 (HCell.val (AVal.sl false 3 (Go.Weave.part 1 (es36.length : Int) es36)))) i1 0) fun z37 =>
                                                                                                      (slK 3 (HCell.toA z37) fun _ es38 =>
                                                                                                        (bif (decide ((1 : Int) ≤ (es38.length : Int)) && decide (((es38.length : Int) : Int) ≤ (es38.length : Int))) then
                                                                                                          (optK (Heap.cell? (Heap.setCell h i0 0 (HCell.val (AVal.sl false 3 (Go.Weave.part 1 (es36.length : Int) es36)))) i1 0) fun _ =>
                                                                                                            (P44nn_0 d k i0 i1 i2 i3 i4 i5 i6 (Heap.setCell (Heap.setCell h i0 0 (HCell.val (AVal.sl false 3 (Go.Weave.part 1 (es36.length : Int) es36)))) i1 0 (HCell.val (AVal.sl false 3 (Go.Weave.part 1 (es38.length : Int) es38))))))
                                                                                                        else
                                                                                                          Tr.fail))))])
                                                                                              else
                                                                                                Tr.fail)))
                                                                                        else
                                                                                          (optK (Heap.cell? h i0 0) fun z39 =>
                                                                                            (slK 3 (HCell.toA z39) fun _ es40 =>
                                                                                              (bif (decide ((1 : Int) ≤ (es40.length : Int)) && decide (((es40.length : Int) : Int) ≤ (es40.length : Int))) then
                                                                                                (optK (Heap.cell? h i0 0) fun _ =>
                                                                                                  (runK (evFn Cw d 91 [(AVal.obj i5 0), (AVal.obj i6 0)] (Heap.setCell h i0 0 (HCell.val (AVal.sl false 3 (Go.Weave.part 1 (es40.length : Int) es40))))) fun r41 h41 =>
                                                                                                    (nilK r41
                                                                                                      (P44nn_0 d k i0 i1 i2 i3 i4 i5 i6 h41))))
                                                                                              else
                                                                                                Tr.fail))))
                                                                                      else
                                                                                        Tr.fail))
                                                                                  else
                                                                                    Tr.fail))))
                                                                          else
                                                                            Tr.fail))))))
                                                              else
                                                                Tr.fail)))))
                                                    else
                                                      Tr.fail)))))))))
                                  else
                                    Tr.fail)))))
                        else
                          Tr.fail)))
                  else
                    (optK (Heap.cell? h i0 0) fun z42 =>
                      (slK 3 (HCell.toA z42) fun _ es43 =>
                        (bif (((es43.length : Int) : Int) == 0) then
                          (runK (evFn Cw d 91 [(AVal.obj i5 0), (AVal.obj i6 0)] h) fun r44 h44 =>
                            (nilK r44
                              (P44nn_0 d k i0 i1 i2 i3 i4 i5 i6 h44)))
                        else
                          (optK (Heap.cell? h i1 0) fun z45 =>
                            (slK 3 (HCell.toA z45) fun _ es46 =>
                              (bif decide ((0 : Int) < (es46.length : Int)) then
                                (optK ((AVal.cells (es46.getD 0 AVal.undef))[0]?) fun w47 =>
                                  (strK w47 fun ss48 =>
                                    (optK (Heap.cell? h i0 0) fun z49 =>
                                      (slK 3 (HCell.toA z49) fun _ es50 =>
                                        (bif decide ((0 : Int) < (es50.length : Int)) then
                                          (optK ((AVal.cells (es50.getD 0 AVal.undef))[0]?) fun w51 =>
                                            (strK w51 fun ss52 =>
                                              (bif (Go.Op.bytesLess ss48 ss52) then
                                                (runK (evFn Cw d 91 [(AVal.obj i5 0), (AVal.obj i6 0)] h) fun r53 h53 =>
                                                  (nilK r53
                                                    (P44nn_0 d k i0 i1 i2 i3 i4 i5 i6 h53)))
                                              else
                                                (optK (Heap.cell? h i0 0) fun z54 =>
                                                  (slK 3 (HCell.toA z54) fun _ es55 =>
                                                    (bif decide ((0 : Int) < (es55.length : Int)) then
                                                      (aggK 2 (es55.getD 0 AVal.undef) fun cc56 =>
                                                        (optK (Heap.cell? h i1 0) fun z57 =>
                                                          (slK 3 (HCell.toA z57) fun _ es58 =>
                                                            (bif decide ((0 : Int) < (es58.length : Int)) then
                                                              (aggK 2 (es58.getD 0 AVal.undef) fun cc59 =>
                                                                (bif ((plainOk Cw.P 43 (AVal.agg cc56)) && (plainOk Cw.P 43 (AVal.agg cc59))) then
                                                                  (bif (eqCells cc56 cc59) then
                                                                    (optK (Heap.cell? h i0 0) fun z60 =>
                                                                      (slK 3 (HCell.toA z60) fun _ es61 =>
                                                                        (bif (decide ((1 : Int) ≤ (es61.length : Int)) && decide (((es61.length : Int) : Int) ≤ (es61.length : Int))) then
                                                                          (Tr.anyL [
                                                                            (optK (Heap.cell? h i1 0) fun z62 =>
                                                                              (slK 3 (HCell.toA z62) fun _ es63 =>
                                                                                (bif (decide ((1 : Int) ≤ (es63.length : Int)) && decide (((es63.length : Int) : Int) ≤ (es63.length : Int))) then
                                                                                  (optK (Heap.cell? h i0 0) fun _ =>
                                                                                    (optK (Heap.cell? (Heap.setCell h i0 0 (HCell.val (AVal.sl false 3 (Go.Weave.part 1 (es61.length : Int) es61)))) i1 0) fun _ =>
                                                                                      (P44nn_0 d k i0 i1 i2 i3 i4 i5 i6 (Heap.setCell (Heap.setCell h i0 0 (HCell.val (AVal.sl false 3 (Go.Weave.part 1 (es61.length : Int) es61)))) i1 0 (HCell.val (AVal.sl false 3 (Go.Weave.part 1 (es63.length : Int) es63)))))))
                                                                                else
                                                                                  Tr.fail))),
                                                                            (optK (Heap.cell? h i0 0) fun _ =>
                                                                              (optK (Heap.cell? (Heap.setCell h i0 0 (HCell.val (AVal.sl false 3 (Go.Weave.part 1 (es61.length : Int) es61)))) i1 0) fun z62 =>
                                                                                (slK 3 (HCell.toA z62) fun _ es63 =>
                                                                                  (bif (decide ((1 : Int) ≤ (es63.length : Int)) && decide (((es63.length : Int) : Int) ≤ (es63.length : Int))) then
                                                                                    (optK (Heap.cell? (Heap.setCell h i0 0 (HCell.val (AVal.sl false 3 (Go.Weave.part 1 (es61.length : Int) es61)))) i1 0) fun _ =>
                                                                                      (P44nn_0 d k i0 i1 i2 i3 i4 i5 i6 (Heap.setCell (Heap.setCell h i0 0 (HCell.val (AVal.sl false 3 (Go.Weave.part 1 (es61.length : Int) es61)))) i1 0 (HCell.val (AVal.sl false 3 (Go.Weave.part 1 (es63.length : Int) es63))))))
                                                                                  else
                                                                                    Tr.fail))))])
                                                                        else
                                                                          Tr.fail)))
                                                                  else
                                                                    (optK (Heap.cell? h i0 0) fun z64 =>
                                                                      (slK 3 (HCell.toA z64) fun _ es65 =>
                                                                        (bif (decide ((1 : Int) ≤ (es65.length : Int)) && decide (((es65.length : Int) : Int) ≤ (es65.length : Int))) then
                                                                          (optK (Heap.cell? h i0 0) fun _ =>
                                                                            (runK (evFn Cw d 91 [(AVal.obj i5 0), (AVal.obj i6 0)] (Heap.setCell h i0 0 (HCell.val (AVal.sl false 3 (Go.Weave.part 1 (es65.length : Int) es65))))) fun r66 h66 =>
                                                                              (nilK r66
                                                                                (P44nn_0 d k i0 i1 i2 i3 i4 i5 i6 h66))))
                                                                        else
                                                                          Tr.fail))))
                                                                else
                                                                  Tr.fail))
                                                            else
                                                              Tr.fail))))
                                                    else
                                                      Tr.fail))))))
                                        else
                                          Tr.fail)))))
                              else
                                Tr.fail))))))))))))
      else
        (optK (Heap.cell? h i1 0) fun z67 =>
          (slK 3 (HCell.toA z67) fun _ es68 =>
            (bif (decide (((es68.length : Int) : Int) > 0)) then
              (optK (Heap.cell? h i1 0) fun z69 =>
                (slK 3 (HCell.toA z69) fun _ es70 =>
                  (bif (((es70.length : Int) : Int) == 0) then
                    (runK (evFn Cw d 90 [(AVal.obj i3 0), (AVal.obj i4 0)] h) fun r71 h71 =>
                      (nilK r71
                        (P44nn_0 d k i0 i1 i2 i3 i4 i5 i6 h71)))
                  else
                    (optK (Heap.cell? h i0 0) fun z72 =>
                      (slK 3 (HCell.toA z72) fun _ es73 =>
                        (bif (decide (((es73.length : Int) : Int) > 0)) then
                          (optK (Heap.cell? h i0 0) fun z74 =>
                            (slK 3 (HCell.toA z74) fun _ es75 =>
                              (bif decide ((0 : Int) < (es75.length : Int)) then
                                (optK ((AVal.cells (es75.getD 0 AVal.undef))[0]?) fun w76 =>
                                  (strK w76 fun ss77 =>
                                    (optK (Heap.cell? h i1 0) fun z78 =>
                                      (slK 3 (HCell.toA z78) fun _ es79 =>
                                        (bif decide ((0 : Int) < (es79.length : Int)) then
                                          (optK ((AVal.cells (es79.getD 0 AVal.undef))[0]?) fun w80 =>
                                            (strK w80 fun ss81 =>
                                              (bif (Go.Op.bytesLess ss77 ss81) then
                                                (runK (evFn Cw d 90 [(AVal.obj i3 0), (AVal.obj i4 0)] h) fun r82 h82 =>
                                                  (nilK r82
                                                    (P44nn_0 d k i0 i1 i2 i3 i4 i5 i6 h82)))
                                              else
                                                (optK (Heap.cell? h i0 0) fun z83 =>
                                                  (slK 3 (HCell.toA z83) fun _ es84 =>
                                                    (bif (((es84.length : Int) : Int) == 0) then
                                                      (runK (evFn Cw d 91 [(AVal.obj i5 0), (AVal.obj i6 0)] h) fun r85 h85 =>
                                                        (nilK r85
                                                          (P44nn_0 d k i0 i1 i2 i3 i4 i5 i6 h85)))
                                                    else
                                                      (optK (Heap.cell? h i1 0) fun z86 =>
                                                        (slK 3 (HCell.toA z86) fun _ es87 =>
                                                          (bif decide ((0 : Int) < (es87.length : Int)) then
                                                            (optK ((AVal.cells (es87.getD 0 AVal.undef))[0]?) fun w88 =>
                                                              (strK w88 fun ss89 =>
                                                                (optK (Heap.cell? h i0 0) fun z90 =>
                                                                  (slK 3 (HCell.toA z90) fun _ es91 =>
                                                                    (bif decide ((0 : Int) < (es91.length : Int)) then
                                                                      (optK ((AVal.cells (es91.getD 0 AVal.undef))[0]?) fun w92 =>
                                                                        (strK w92 fun ss93 =>
                                                                          (bif (Go.Op.bytesLess ss89 ss93) then
                                                                            (runK (evFn Cw d 91 [(AVal.obj i5 0), (AVal.obj i6 0)] h) fun r94 h94 =>
                                                                              (nilK r94
                                                                                (P44nn_0 d k i0 i1 i2 i3 i4 i5 i6 h94)))
                                                                          else
                                                                            (optK (Heap.cell? h i0 0) fun z95 =>
                                                                              (slK 3 (HCell.toA z95) fun _ es96 =>
                                                                                (bif decide ((0 : Int) < (es96.length : Int)) then
                                                                                  (aggK 2 (es96.getD 0 AVal.undef) fun cc97 =>
                                                                                    (optK (Heap.cell? h i1 0) fun z98 =>
                                                                                      (slK 3 (HCell.toA z98) fun _ es99 =>
                                                                                        (bif decide ((0 : Int) < (es99.length : Int)) then
                                                                                          (aggK 2 (es99.getD 0 AVal.undef) fun cc100 =>
                                                                                            (bif ((plainOk Cw.P 43 (AVal.agg cc97)) && (plainOk Cw.P 43 (AVal.agg cc100))) then
                                                                                              (bif (eqCells cc97 cc100) then
                                                                                                (optK (Heap.cell? h i0 0) fun z101 =>
                                                                                                  (slK 3 (HCell.toA z101) fun _ es102 =>
                                                                                                    (bif (decide ((1 : Int) ≤ (es102.length : Int)) && decide (((es102.length : Int) : Int) ≤ (es102.length : Int))) then
                                                                                                      (Tr.anyL [
                                                                                                        (optK (Heap.cell? h i1 0) fun z103 =>
                                                                                                          (slK 3 (HCell.toA z103) fun _ es104 =>
                                                                                                            (bif (decide ((1 : Int) ≤ (es104.length : Int)) && decide (((es104.length : Int) : Int) ≤ (es104.length : Int))) then
                                                                                                              (optK (Heap.cell? h i0 0) fun _ =>
                                                                                                                (optK (Heap.cell? (Heap.setCell h i0 0 (HCell.val (AVal.sl false 3 (Go.Weave.part 1 (es102.length : Int) es102)))) i1 0) fun _ =>
                                                                                                                  (P44nn_0 d k i0 i1 i2 i3 i4 i5 i6 (Heap.setCell (Heap.setCell h i0 0 (HCell.val (AVal.sl false 3 (Go.Weave.part 1 (es102.length : Int) es102)))) i1 0 (HCell.val (AVal.sl false 3 (Go.Weave.part 1 (es104.length : Int) es104)))))))
                                                                                                            else
                                                                                                              Tr.fail))),
                                                                                                        (optK (Heap.cell? h i0 0) fun _ =>
                                                                                                          (optK (Heap.cell? (Heap.setCell h i0 0 (HCell.val (AVal.sl false 3 (Go.Weave.part 1 (es102.length : Int) es102)))) i1 0) fun z103 =>
                                                                                                            (slK 3 (HCell.toA z103) fun _ es104 =>
                                                                                                              (bif (decide ((1 : Int) ≤ (es104.length : Int)) && decide (((es104.length : Int) : Int) ≤ (es104.length : Int))) then
                                                                                                                (optK (Heap.cell? (Heap.setCell h i0 0 (HCell.val (AVal.sl false 3 (Go.Weave.part 1 (es102.length : Int) es102)))) i1 0) fun _ =>
                                                                                                                  (P44nn_0 d k i0 i1 i2 i3 i4 i5 i6 (Heap.setCell (Heap.setCell h i0 0 (HCell.val (AVal.sl false 3 (Go.Weave.part 1 (es102.length : Int) es102)))) i1 0 (HCell.val (AVal.sl false 3 (Go.Weave.part 1 (es104.length : Int) es104))))))
                                                                                                              else
                                                                                                                Tr.fail))))])
                                                                                                    else
                                                                                                      Tr.fail)))
                                                                                              else
                                                                                                (optK (Heap.cell? h i0 0) fun z105 =>
                                                                                                  (slK 3 (HCell.toA z105) fun _ es106 =>
                                                                                                    (bif (decide ((1 : Int) ≤ (es106.length : Int)) && decide (((es106.length : Int) : Int) ≤ (es106.length : Int))) then
                                                                                                      (optK (Heap.cell? h i0 0) fun _ =>
                                                                                                        (runK (evFn Cw d 91 [(AVal.obj i5 0), (AVal.obj i6 0)] (Heap.setCell h i0 0 (HCell.val (AVal.sl false 3 (Go.Weave.part 1 (es106.length : Int) es106))))) fun r107 h107 =>
                                                                                                          (nilK r107
                                                                                                            (P44nn_0 d k i0 i1 i2 i3 i4 i5 i6 h107))))
                                                                                                    else
                                                                                                      Tr.fail))))
                                                                                            else
                                                                                              Tr.fail))
                                                                                        else
                                                                                          Tr.fail))))
                                                                                else
                                                                                  Tr.fail))))))
                                                                    else
                                                                      Tr.fail)))))
                                                          else
                                                            Tr.fail)))))))))
                                        else
                                          Tr.fail)))))
                              else
                                Tr.fail)))
                        else
                          (optK (Heap.cell? h i0 0) fun z108 =>
                            (slK 3 (HCell.toA z108) fun _ es109 =>
                              (bif (((es109.length : Int) : Int) == 0) then
                                (runK (evFn Cw d 91 [(AVal.obj i5 0), (AVal.obj i6 0)] h) fun r110 h110 =>
                                  (nilK r110
                                    (P44nn_0 d k i0 i1 i2 i3 i4 i5 i6 h110)))
                              else
                                (optK (Heap.cell? h i1 0) fun z111 =>
                                  (slK 3 (HCell.toA z111) fun _ es112 =>
                                    (bif decide ((0 : Int) < (es112.length : Int)) then
                                      (optK ((AVal.cells (es112.getD 0 AVal.undef))[0]?) fun w113 =>
                                        (strK w113 fun ss114 =>
                                          (optK (Heap.cell? h i0 0) fun z115 =>
                                            (slK 3 (HCell.toA z115) fun _ es116 =>
                                              (bif decide ((0 : Int) < (es116.length : Int)) then
                                                (optK ((AVal.cells (es116.getD 0 AVal.undef))[0]?) fun w117 =>
                                                  (strK w117 fun ss118 =>
                                                    (bif (Go.Op.bytesLess ss114 ss118) then
                                                      (runK (evFn Cw d 91 [(AVal.obj i5 0), (AVal.obj i6 0)] h) fun r119 h119 =>
                                                        (nilK r119
                                                          (P44nn_0 d k i0 i1 i2 i3 i4 i5 i6 h119)))
                                                    else
                                                      (optK (Heap.cell? h i0 0) fun z120 =>
                                                        (slK 3 (HCell.toA z120) fun _ es121 =>
                                                          (bif decide ((0 : Int) < (es121.length : Int)) then
                                                            (aggK 2 (es121.getD 0 AVal.undef) fun cc122 =>
                                                              (optK (Heap.cell? h i1 0) fun z123 =>
                                                                (slK 3 (HCell.toA z123) fun _ es124 =>
                                                                  (bif decide ((0 : Int) < (es124.length : Int)) then
                                                                    (aggK 2 (es124.getD 0 AVal.undef) fun cc125 =>
                                                                      (bif ((plainOk Cw.P 43 (AVal.agg cc122)) && (plainOk Cw.P 43 (AVal.agg cc125))) then
                                                                        (bif (eqCells cc122 cc125) then
                                                                          (optK (Heap.cell? h i0 0) fun z126 =>
                                                                            (slK 3 (HCell.toA z126) fun _ es127 =>
                                                                              (bif (decide ((1 : Int) ≤ (es127.length : Int)) && decide (((es127.length : Int) : Int) ≤ (es127.length : Int))) then
                                                                                (Tr.anyL [
                                                                                  (optK (Heap.cell? h i1 0) fun z128 =>
                                                                                    (slK 3 (HCell.toA z128) fun _ es129 =>
                                                                                      (bif (decide ((1 : Int) ≤ (es129.length : Int)) && decide (((es129.length : Int) : Int) ≤ (es129.length : Int))) then
                                                                                        (optK (Heap.cell? h i0 0) fun _ =>
                                                                                          (optK (Heap.cell? (Heap.setCell h i0 0 (HCell.val (AVal.sl false 3 (Go.Weave.part 1 (es127.length : Int) es127)))) i1 0) fun _ =>
                                                                                            (P44nn_0 d k i0 i1 i2 i3 i4 i5 i6 (Heap.setCell (Heap.setCell h i0 0 (HCell.val (AVal.sl false 3 (Go.Weave.part 1 (es127.length : Int) es127)))) i1 0 (HCell.val (AVal.sl false 3 (Go.Weave.part 1 (es129.length : Int) es129)))))))
                                                                                      else
                                                                                        Tr.fail))),
                                                                                  (optK (Heap.cell? h i0 0) fun _ =>
                                                                                    (optK (Heap.cell? (Heap.setCell h i0 0 (HCell.val (AVal.sl false 3 (Go.Weave.part 1 (es127.length : Int) es127)))) i1 0) fun z128 =>
                                                                                      (slK 3 (HCell.toA z128) fun _ es129 =>
                                                                                        (bif (decide ((1 : Int) ≤ (es129.length : Int)) && decide (((es129.length : Int) : Int) ≤ (es129.length : Int))) then
                                                                                          (optK (Heap.cell? (Heap.setCell h i0 0 (HCell.val (AVal.sl false 3 (Go.Weave.part 1 (es127.length : Int) es127)))) i1 0) fun _ =>
                                                                                            (P44nn_0 d k i0 i1 i2 i3 i4 i5 i6 (Heap.setCell (Heap.setCell h i0 0 (HCell.val (AVal.sl false 3 (Go.Weave.part 1 (es127.length : Int) es127)))) i1 0 (HCell.val (AVal.sl false 3 (Go.Weave.part 1 (es129.length : Int) es129))))))
                                                                                        else
                                                                                          Tr.fail))))])
                                                                              else
                                                                                Tr.fail)))
                                                                        else
                                                                          (optK (Heap.cell? h i0 0) fun z130 =>
                                                                            (slK 3 (HCell.toA z130) fun _ es131 =>
                                                                              (bif (decide ((1 : Int) ≤ (es131.length : Int)) && decide (((es131.length : Int) : Int) ≤ (es131.length : Int))) then
                                                                                (optK (Heap.cell? h i0 0) fun _ =>
                                                                                  (runK (evFn Cw d 91 [(AVal.obj i5 0), (AVal.obj i6 0)] (Heap.setCell h i0 0 (HCell.val (AVal.sl false 3 (Go.Weave.part 1 (es131.length : Int) es131))))) fun r132 h132 =>
                                                                                    (nilK r132
                                                                                      (P44nn_0 d k i0 i1 i2 i3 i4 i5 i6 h132))))
                                                                              else
                                                                                Tr.fail))))
                                                                      else
                                                                        Tr.fail))
                                                                  else
                                                                    Tr.fail))))
                                                          else
                                                            Tr.fail))))))
                                              else
                                                Tr.fail)))))
                                    else
                                      Tr.fail))))))))))))
            else
              (optK (Heap.cell? h i2 0) fun z133 =>
                (slK 4 (HCell.toA z133) fun _ es134 =>
                  (Tr.ret ([(AVal.sl false 4 es134)], h)))))))))) := by kernel_rfl
theorem F44nn_eq (d : Nat) (h : Heap) : evFn Cw (d + 1) 44 [AVal.nilp, AVal.nilp] h =
  (runK (evFn Cw d 37 [AVal.nilp] h) fun r1 h1 =>
    (consK r1 fun w2 ws3 =>
      (slOK 3 w2 fun es4 =>
        (nilK ws3
          (runK (evFn Cw d 37 [AVal.nilp] h1) fun r5 h5 =>
            (consK r5 fun w6 ws7 =>
              (slOK 3 w6 fun es8 =>
                (nilK ws7
                  (optK (Heap.cell? (Heap.push (Heap.push h5 (Go.Weave.Obj.cells [(HCell.val (AVal.sl true 3 []))])) (Go.Weave.Obj.cells [(HCell.val (AVal.sl true 3 []))])) h5.objs.length 0) fun _ =>
                    (optK (Heap.cell? (Heap.setCell (Heap.push (Heap.push h5 (Go.Weave.Obj.cells [(HCell.val (AVal.sl true 3 []))])) (Go.Weave.Obj.cells [(HCell.val (AVal.sl true 3 []))])) h5.objs.length 0 (HCell.own 3 es4)) (Heap.push h5 (Go.Weave.Obj.cells [(HCell.val (AVal.sl true 3 []))])).objs.length 0) fun _ =>
                      (P44nn_0 d rounds h5.objs.length ((Heap.push h5 (Go.Weave.Obj.cells [(HCell.val (AVal.sl true 3 []))])).objs.length) ((Heap.setCell (Heap.setCell (Heap.push (Heap.push h5 (Go.Weave.Obj.cells [(HCell.val (AVal.sl true 3 []))])) (Go.Weave.Obj.cells [(HCell.val (AVal.sl true 3 []))])) h5.objs.length 0 (HCell.own 3 es4)) (Heap.push h5 (Go.Weave.Obj.cells [(HCell.val (AVal.sl true 3 []))])).objs.length 0 (HCell.own 3 es8)).objs.length) ((Heap.setCell (Heap.setCell (Heap.push (Heap.push h5 (Go.Weave.Obj.cells [(HCell.val (AVal.sl true 3 []))])) (Go.Weave.Obj.cells [(HCell.val (AVal.sl true 3 []))])) h5.objs.length 0 (HCell.own 3 es4)) (Heap.push h5 (Go.Weave.Obj.cells [(HCell.val (AVal.sl true 3 []))])).objs.length 0 (HCell.own 3 es8)).objs.length) h5.objs.length ((Heap.setCell (Heap.setCell (Heap.push (Heap.push h5 (Go.Weave.Obj.cells [(HCell.val (AVal.sl true 3 []))])) (Go.Weave.Obj.cells [(HCell.val (AVal.sl true 3 []))])) h5.objs.length 0 (HCell.own 3 es4)) (Heap.push h5 (Go.Weave.Obj.cells [(HCell.val (AVal.sl true 3 []))])).objs.length 0 (HCell.own 3 es8)).objs.length) ((Heap.push h5 (Go.Weave.Obj.cells [(HCell.val (AVal.sl true 3 []))])).objs.length) (Heap.push (Heap.setCell (Heap.setCell (Heap.push (Heap.push h5 (Go.Weave.Obj.cells [(HCell.val (AVal.sl true 3 []))])) (Go.Weave.Obj.cells [(HCell.val (AVal.sl true 3 []))])) h5.objs.length 0 (HCell.own 3 es4)) (Heap.push h5 (Go.Weave.Obj.cells [(HCell.val (AVal.sl true 3 []))])).objs.length 0 (HCell.own 3 es8)) (Go.Weave.Obj.cells [(HCell.val (AVal.sl true 4 []))]))))))))))))) := by kernel_rfl
noncomputable def P44no_0 (d k : Nat) (i0 : Nat) (i1 : Nat) (i2 : Nat) (i3 : Nat) (i4 : Nat) (i5 : Nat) (i6 : Nat) (h : Heap) : Tr Res :=
  loopPt Cw d 44 [true, true, true, true, true, false, true] [] k ⟨[(5, (EV.one (SV.val (AVal.obj i0 0)))), (6, (EV.one (SV.val (AVal.obj i1 0)))), (7, (EV.one (SV.val (AVal.obj i2 0)))), (8, (EV.one (SV.val (AVal.fn 90 [] [(AVal.obj i3 0), (AVal.obj i4 0)])))), (9, (EV.one (SV.val (AVal.fn 91 [] [(AVal.obj i5 0), (AVal.obj i6 0)]))))], []⟩ h
theorem P44no_0_eq (d k : Nat) (i0 : Nat) (i1 : Nat) (i2 : Nat) (i3 : Nat) (i4 : Nat) (i5 : Nat) (i6 : Nat) (h : Heap) : P44no_0 d (k + 1) i0 i1 i2 i3 i4 i5 i6 h =
  (optK (Heap.cell? h i0 0) fun z1 =>
    (slK 3 (HCell.toA z1) fun _ es2 =>
      (bif (decide (((es2.length : Int) : Int) > 0)) then
        (optK (Heap.cell? h i1 0) fun z3 =>
          (slK 3 (HCell.toA z3) fun _ es4 =>
            (bif (((es4.length : Int) : Int) == 0) then
              (runK (evFn Cw d 90 [(AVal.obj i3 0), (AVal.obj i4 0)] h) fun r5 h5 =>
                (nilK r5
                  (P44no_0 d k i0 i1 i2 i3 i4 i5 i6 h5)))
            else
              (optK (Heap.cell? h i0 0) fun z6 =>
                (slK 3 (HCell.toA z6) fun _ es7 =>
                  (bif (decide (((es7.length : Int) : Int) > 0)) then
                    (optK (Heap.cell? h i0 0) fun z8 =>
                      (slK 3 (HCell.toA z8) fun _ es9 =>
                        (bif decide ((0 : Int) < (es9.length : Int)) then
                          (optK ((AVal.cells (es9.getD 0 AVal.undef))[0]?) fun w10 =>
                            (strK w10 fun ss11 =>
                              (optK (Heap.cell? h i1 0) fun z12 =>
                                (slK 3 (HCell.toA z12) fun _ es13 =>
                                  (bif decide ((0 : Int) < (es13.length : Int)) then
                                    (optK ((AVal.cells (es13.getD 0 AVal.undef))[0]?) fun w14 =>
                                      (strK w14 fun ss15 =>
                                        (bif (Go.Op.bytesLess ss11 ss15) then
                                          (runK (evFn Cw d 90 [(AVal.obj i3 0), (AVal.obj i4 0)] h) fun r16 h16 =>
                                            (nilK r16
                                              (P44no_0 d k i0 i1 i2 i3 i4 i5 i6 h16)))
                                        else
                                          (optK (Heap.cell? h i0 0) fun z17 =>
                                            (slK 3 (HCell.toA z17) fun _ es18 =>
                                              (bif (((es18.length : Int) : Int) == 0) then
                                                (runK (evFn Cw d 91 [(AVal.obj i5 0), (AVal.obj i6 0)] h) fun r19 h19 =>
                                                  (nilK r19
                                                    (P44no_0 d k i0 i1 i2 i3 i4 i5 i6 h19)))
                                              else
                                                (optK (Heap.cell? h i1 0) fun z20 =>
                                                  (slK 3 (HCell.toA z20) fun _ es21 =>
                                                    (bif decide ((0 : Int) < (es21.length : Int)) then
                                                      (optK ((AVal.cells (es21.getD 0 AVal.undef))[0]?) fun w22 =>
                                                        (strK w22 fun ss23 =>
                                                          (optK (Heap.cell? h i0 0) fun z24 =>
                                                            (slK 3 (HCell.toA z24) fun _ es25 =>
                                                              (bif decide ((0 : Int) < (es25.length : Int)) then
                                                                (optK ((AVal.cells (es25.getD 0 AVal.undef))[0]?) fun w26 =>
                                                                  (strK w26 fun ss27 =>
                                                                    (bif (Go.Op.bytesLess ss23 ss27) then
                                                                      (runK (evFn Cw d 91 [(AVal.obj i5 0), (AVal.obj i6 0)] h) fun r28 h28 =>
                                                                        (nilK r28
                                                                          (P44no_0 d k i0 i1 i2 i3 i4 i5 i6 h28)))
                                                                    else
                                                                      (optK (Heap.cell? h i0 0) fun z29 =>
                                                                        (slK 3 (HCell.toA z29) fun _ es30 =>
                                                                          (bif decide ((0 : Int) < (es30.length : Int)) then
                                                                            (aggK 2 (es30.getD 0 AVal.undef) fun cc31 =>
                                                                              (optK (Heap.cell? h i1 0) fun z32 =>
                                                                                (slK 3 (HCell.toA z32) fun _ es33 =>
                                                                                  (bif decide ((0 : Int) < (es33.length : Int)) then
                                                                                    (aggK 2 (es33.getD 0 AVal.undef) fun cc34 =>
                                                                                      (bif ((plainOk Cw.P 43 (AVal.agg cc31)) && (plainOk Cw.P 43 (AVal.agg cc34))) then
                                                                                        (bif (eqCells cc31 cc34) then
                                                                                          (optK (Heap.cell? h i0 0) fun z35 =>
                                                                                            (slK 3 (HCell.toA z35) fun _ es36 =>
                                                                                              (bif (decide ((1 : Int) ≤ (es36.length : Int)) && decide (((es36.length : Int) : Int) ≤ (es36.length : Int))) then
                                                                                                (Tr.anyL [
                                                                                                  (optK (Heap.cell? h i1 0) fun z37 =>
                                                                                                    (slK 3 (HCell.toA z37) fun _ es38 =>
                                                                                                      (bif (decide ((1 : Int) ≤ (es38.length : Int)) && decide (((es38.length : Int) : Int) ≤ (es38.length : Int))) then
                                                                                                        (optK (Heap.cell? h i0 0) fun _ =>
                                                                                                          (optK (Heap.cell? (Heap.setCell h i0 0 (HCell.val (AVal.sl false 3 (Go.Weave.part 1 (es36.length : Int) es36)))) i1 0) fun _ =>
                                                                                                            (P44no_0 d k i0 i1 i2 i3 i4 i5 i6 (Heap.setCell (Heap.setCell h i0 0 (HCell.val (AVal.sl false 3 (Go.Weave.part 1 (es36.length : Int) es36)))) i1 0 (HCell.val (AVal.sl false 3 (Go.Weave.part 1 (es38.length : Int) es38)))))))
                                                                                                      else
                                                                                                        Tr.fail))),
                                                                                                  (optK (Heap.cell? h i0 0) fun _ =>
                                                                                                    (optK (Heap.cell? (Heap.setCell h i0 0 (HCell.val (AVal.sl false 3 (Go.Weave.part 1 (es36.length : Int) es36)))) i1 0) fun z37 =>
                                                                                                      (slK 3 (HCell.toA z37) fun _ es38 =>
                                                                                                        (bif (decide ((1 : Int) ≤ (es38.length : Int)) && decide (((es38.length : Int) : Int) ≤ (es38.length : Int))) then
                                                                                                          (optK (Heap.cell? (Heap.setCell h i0 0 (HCell.val (AVal.sl false 3 (Go.Weave.part 1 (es36.length : Int) es36)))) i1 0) fun _ =>
                                                                                                            (P44no_0 d k i0 i1 i2 i3 i4 i5 i6 (Heap.setCell (Heap.setCell h i0 0 (HCell.val (AVal.sl false 3 (Go.Weave.part 1 (es36.length : Int) es36)))) i1 0 (HCell.val (AVal.sl false 3 (Go.Weave.part 1 (es38.length : Int) es38))))))
                                                                                                        else
                                                                                                          Tr.fail))))])
                                                                                              else
                                                                                                Tr.fail)))
                                                                                        else
                                                                                          (optK (Heap.cell? h i0 0) fun z39 =>
                                                                                            (slK 3 (HCell.toA z39) fun _ es40 =>
                                                                                              (bif (decide ((1 : Int) ≤ (es40.length : Int)) && decide (((es40.length : Int) : Int) ≤ (es40.length : Int))) then
                                                                                                (optK (Heap.cell? h i0 0) fun _ =>
                                                                                                  (runK (evFn Cw d 91 [(AVal.obj i5 0), (AVal.obj i6 0)] (Heap.setCell h i0 0 (HCell.val (AVal.sl false 3 (Go.Weave.part 1 (es40.length : Int) es40))))) fun r41 h41 =>
                                                                                                    (nilK r41
                                                                                                      (P44no_0 d k i0 i1 i2 i3 i4 i5 i6 h41))))
                                                                                              else
                                                                                                Tr.fail))))
                                                                                      else
                                                                                        Tr.fail))
                                                                                  else
                                                                                    Tr.fail))))
                                                                          else
                                                                            Tr.fail))))))
                                                              else
                                                                Tr.fail)))))
                                                    else
                                                      Tr.fail)))))))))
                                  else
                                    Tr.fail)))))
                        else
                          Tr.fail)))
                  else
                    (optK (Heap.cell? h i0 0) fun z42 =>
                      (slK 3 (HCell.toA z42) fun _ es43 =>
                        (bif (((es43.length : Int) : Int) == 0) then
                          (runK (evFn Cw d 91 [(AVal.obj i5 0), (AVal.obj i6 0)] h) fun r44 h44 =>
                            (nilK r44
                              (P44no_0 d k i0 i1 i2 i3 i4 i5 i6 h44)))
                        else
                          (optK (Heap.cell? h i1 0) fun z45 =>
                            (slK 3 (HCell.toA z45) fun _ es46 =>
                              (bif decide ((0 : Int) < (es46.length : Int)) then
                                (optK ((AVal.cells (es46.getD 0 AVal.undef))[0]?) fun w47 =>
                                  (strK w47 fun ss48 =>
                                    (optK (Heap.cell? h i0 0) fun z49 =>
                                      (slK 3 (HCell.toA z49) fun _ es50 =>
                                        (bif decide ((0 : Int) < (es50.length : Int)) then
                                          (optK ((AVal.cells (es50.getD 0 AVal.undef))[0]?) fun w51 =>
                                            (strK w51 fun ss52 =>
                                              (bif (Go.Op.bytesLess ss48 ss52) then
                                                (runK (evFn Cw d 91 [(AVal.obj i5 0), (AVal.obj i6 0)] h) fun r53 h53 =>
                                                  (nilK r53
                                                    (P44no_0 d k i0 i1 i2 i3 i4 i5 i6 h53)))
                                              else
                                                (optK (Heap.cell? h i0 0) fun z54 =>
                                                  (slK 3 (HCell.toA z54) fun _ es55 =>
                                                    (bif decide ((0 : Int) < (es55.length : Int)) then
                                                      (aggK 2 (es55.getD 0 AVal.undef) fun cc56 =>
                                                        (optK (Heap.cell? h i1 0) fun z57 =>
                                                          (slK 3 (HCell.toA z57) fun _ es58 =>
                                                            (bif decide ((0 : Int) < (es58.length : Int)) then
                                                              (aggK 2 (es58.getD 0 AVal.undef) fun cc59 =>
                                                                (bif ((plainOk Cw.P 43 (AVal.agg cc56)) && (plainOk Cw.P 43 (AVal.agg cc59))) then
                                                                  (bif (eqCells cc56 cc59) then
                                                                    (optK (Heap.cell? h i0 0) fun z60 =>
                                                                      (slK 3 (HCell.toA z60) fun _ es61 =>
                                                                        (bif (decide ((1 : Int) ≤ (es61.length : Int)) && decide (((es61.length : Int) : Int) ≤ (es61.length : Int))) then
                                                                          (Tr.anyL [
                                                                            (optK (Heap.cell? h i1 0) fun z62 =>
                                                                              (slK 3 (HCell.toA z62) fun _ es63 =>
                                                                                (bif (decide ((1 : Int) ≤ (es63.length : Int)) && decide (((es63.length : Int) : Int) ≤ (es63.length : Int))) then
                                                                                  (optK (Heap.cell? h i0 0) fun _ =>
                                                                                    (optK (Heap.cell? (Heap.setCell h i0 0 (HCell.val (AVal.sl false 3 (Go.Weave.part 1 (es61.length : Int) es61)))) i1 0) fun _ =>
                                                                                      (P44no_0 d k i0 i1 i2 i3 i4 i5 i6 (Heap.setCell (Heap.setCell h i0 0 (HCell.val (AVal.sl false 3 (Go.Weave.part 1 (es61.length : Int) es61)))) i1 0 (HCell.val (AVal.sl false 3 (Go.Weave.part 1 (es63.length : Int) es63)))))))
                                                                                else
                                                                                  Tr.fail))),
                                                                            (optK (Heap.cell? h i0 0) fun _ =>
                                                                              (optK (Heap.cell? (Heap.setCell h i0 0 (HCell.val (AVal.sl false 3 (Go.Weave.part 1 (es61.length : Int) es61)))) i1 0) fun z62 =>
                                                                                (slK 3 (HCell.toA z62) fun _ es63 =>
                                                                                  (bif (decide ((1 : Int) ≤ (es63.length : Int)) && decide (((es63.length : Int) : Int) ≤ (es63.length : Int))) then
                                                                                    (optK (Heap.cell? (Heap.setCell h i0 0 (HCell.val (AVal.sl false 3 (Go.Weave.part 1 (es61.length : Int) es61)))) i1 0) fun _ =>
                                                                                      (P44no_0 d k i0 i1 i2 i3 i4 i5 i6 (Heap.setCell (Heap.setCell h i0 0 (HCell.val (AVal.sl false 3 (Go.Weave.part 1 (es61.length : Int) es61)))) i1 0 (HCell.val (AVal.sl false 3 (Go.Weave.part 1 (es63.length : Int) es63))))))
                                                                                  else
                                                                                    Tr.fail))))])
                                                                        else
                                                                          Tr.fail)))
                                                                  else
                                                                    (optK (Heap.cell? h i0 0) fun z64 =>
                                                                      (slK 3 (HCell.toA z64) fun _ es65 =>
                                                                        (bif (decide ((1 : Int) ≤ (es65.length : Int)) && decide (((es65.length : Int) : Int) ≤ (es65.length : Int))) then
                                                                          (optK (Heap.cell? h i0 0) fun _ =>
                                                                            (runK (evFn Cw d 91 [(AVal.obj i5 0), (AVal.obj i6 0)] (Heap.setCell h i0 0 (HCell.val (AVal.sl false 3 (Go.Weave.part 1 (es65.length : Int) es65))))) fun r66 h66 =>
                                                                              (nilK r66
                                                                                (P44no_0 d k i0 i1 i2 i3 i4 i5 i6 h66))))
                                                                        else
                                                                          Tr.fail))))
                                                                else
                                                                  Tr.fail))
                                                            else
                                                              Tr.fail))))
                                                    else
                                                      Tr.fail))))))
                                        else
                                          Tr.fail)))))
                              else
                                Tr.fail))))))))))))
      else
        (optK (Heap.cell? h i1 0) fun z67 =>
          (slK 3 (HCell.toA z67) fun _ es68 =>
            (bif (decide (((es68.length : Int) : Int) > 0)) then
              (optK (Heap.cell? h i1 0) fun z69 =>
                (slK 3 (HCell.toA z69) fun _ es70 =>
                  (bif (((es70.length : Int) : Int) == 0) then
                    (runK (evFn Cw d 90 [(AVal.obj i3 0), (AVal.obj i4 0)] h) fun r71 h71 =>
                      (nilK r71
                        (P44no_0 d k i0 i1 i2 i3 i4 i5 i6 h71)))
                  else
                    (optK (Heap.cell? h i0 0) fun z72 =>
                      (slK 3 (HCell.toA z72) fun _ es73 =>
                        (bif (decide (((es73.length : Int) : Int) > 0)) then
                          (optK (Heap.cell? h i0 0) fun z74 =>
                            (slK 3 (HCell.toA z74) fun _ es75 =>
                              (bif decide ((0 : Int) < (es75.length : Int)) then
                                (optK ((AVal.cells (es75.getD 0 AVal.undef))[0]?) fun w76 =>
                                  (strK w76 fun ss77 =>
                                    (optK (Heap.cell? h i1 0) fun z78 =>
                                      (slK 3 (HCell.toA z78) fun _ es79 =>
                                        (bif decide ((0 : Int) < (es79.length : Int)) then
                                          (optK ((AVal.cells (es79.getD 0 AVal.undef))[0]?) fun w80 =>
                                            (strK w80 fun ss81 =>
                                              (bif (Go.Op.bytesLess ss77 ss81) then
                                                (runK (evFn Cw d 90 [(AVal.obj i3 0), (AVal.obj i4 0)] h) fun r82 h82 =>
                                                  (nilK r82
                                                    (P44no_0 d k i0 i1 i2 i3 i4 i5 i6 h82)))
                                              else
                                                (optK (Heap.cell? h i0 0) fun z83 =>
                                                  (slK 3 (HCell.toA z83) fun _ es84 =>
                                                    (bif (((es84.length : Int) : Int) == 0) then
                                                      (runK (evFn Cw d 91 [(AVal.obj i5 0), (AVal.obj i6 0)] h) fun r85 h85 =>
                                                        (nilK r85
                                                          (P44no_0 d k i0 i1 i2 i3 i4 i5 i6 h85)))
                                                    else
                                                      (optK (Heap.cell? h i1 0) fun z86 =>
                                                        (slK 3 (HCell.toA z86) fun _ es87 =>
                                                          (bif decide ((0 : Int) < (es87.length : Int)) then
                                                            (optK ((AVal.cells (es87.getD 0 AVal.undef))[0]?) fun w88 =>
                                                              (strK w88 fun ss89 =>
                                                                (optK (Heap.cell? h i0 0) fun z90 =>
                                                                  (slK 3 (HCell.toA z90) fun _ es91 =>
                                                                    (bif decide ((0 : Int) < (es91.length : Int)) then
                                                                      (optK ((AVal.cells (es91.getD 0 AVal.undef))[0]?) fun w92 =>
                                                                        (strK w92 fun ss93 =>
                                                                          (bif (Go.Op.bytesLess ss89 ss93) then
                                                                            (runK (evFn Cw d 91 [(AVal.obj i5 0), (AVal.obj i6 0)] h) fun r94 h94 =>
                                                                              (nilK r94
                                                                                (P44no_0 d k i0 i1 i2 i3 i4 i5 i6 h94)))
                                                                          else
                                                                            (optK (Heap.cell? h i0 0) fun z95 =>
                                                                              (slK 3 (HCell.toA z95) fun _ es96 =>
                                                                                (bif decide ((0 : Int) < (es96.length : Int)) then
                                                                                  (aggK 2 (es96.getD 0 AVal.undef) fun cc97 =>
                                                                                    (optK (Heap.cell? h i1 0) fun z98 =>
                                                                                      (slK 3 (HCell.toA z98) fun _ es99 =>
                                                                                        (bif decide ((0 : Int) < (es99.length : Int)) then
                                                                                          (aggK 2 (es99.getD 0 AVal.undef) fun cc100 =>
                                                                                            (bif ((plainOk Cw.P 43 (AVal.agg cc97)) && (plainOk Cw.P 43 (AVal.agg cc100))) then
                                                                                              (bif (eqCells cc97 cc100) then
                                                                                                (optK (Heap.cell? h i0 0) fun z101 =>
                                                                                                  (slK 3 (HCell.toA z101) fun _ es102 =>
                                                                                                    (bif (decide ((1 : Int) ≤ (es102.length : Int)) && decide (((es102.length : Int) : Int) ≤ (es102.length : Int))) then
                                                                                                      (Tr.anyL [
                                                                                                        (optK (Heap.cell? h i1 0) fun z103 =>
                                                                                                          (slK 3 (HCell.toA z103) fun _ es104 =>
                                                                                                            (bif (decide ((1 : Int) ≤ (es104.length : Int)) && decide (((es104.length : Int) : Int) ≤ (es104.length : Int))) then
                                                                                                              (optK (Heap.cell? h i0 0) fun _ =>
                                                                                                                (optK (Heap.cell? (Heap.setCell h i0 0 (HCell.val (AVal.sl false 3 (Go.Weave.part 1 (es102.length : Int) es102)))) i1 0) fun _ =>
                                                                                                                  (P44no_0 d k i0 i1 i2 i3 i4 i5 i6 (Heap.setCell (Heap.setCell h i0 0 (HCell.val (AVal.sl false 3 (Go.Weave.part 1 (es102.length : Int) es102)))) i1 0 (HCell.val (AVal.sl false 3 (Go.Weave.part 1 (es104.length : Int) es104)))))))
                                                                                                            else
                                                                                                              Tr.fail))),
                                                                                                        (optK (Heap.cell? h i0 0) fun _ =>
                                                                                                          (optK (Heap.cell? (Heap.setCell h i0 0 (HCell.val (AVal.sl false 3 (Go.Weave.part 1 (es102.length : Int) es102)))) i1 0) fun z103 =>
                                                                                                            (slK 3 (HCell.toA z103) fun _ es104 =>
                                                                                                              (bif (decide ((1 : Int) ≤ (es104.length : Int)) && decide (((es104.length : Int) : Int) ≤ (es104.length : Int))) then
                                                                                                                (optK (Heap.cell? (Heap.setCell h i0 0 (HCell.val (AVal.sl false 3 (Go.Weave.part 1 (es102.length : Int) es102)))) i1 0) fun _ =>
                                                                                                                  (P44no_0 d k i0 i1 i2 i3 i4 i5 i6 (Heap.setCell (Heap.setCell h i0 0 (HCell.val (AVal.sl false 3 (Go.Weave.part 1 (es102.length : Int) es102)))) i1 0 (HCell.val (AVal.sl false 3 (Go.Weave.part 1 (es104.length : Int) es104))))))
                                                                                                              else
                                                                                                                Tr.fail))))])
                                                                                                    else
                                                                                                      Tr.fail)))
                                                                                              else
                                                                                                (optK (Heap.cell? h i0 0) fun z105 =>
                                                                                                  (slK 3 (HCell.toA z105) fun _ es106 =>
                                                                                                    (bif (decide ((1 : Int) ≤ (es106.length : Int)) && decide (((es106.length : Int) : Int) ≤ (es106.length : Int))) then
                                                                                                      (optK (Heap.cell? h i0 0) fun _ =>
                                                                                                        (runK (evFn Cw d 91 [(AVal.obj i5 0), (AVal.obj i6 0)] (Heap.setCell h i0 0 (HCell.val (AVal.sl false 3 (Go.Weave.part 1 (es106.length : Int) es106))))) fun r107 h107 =>
                                                                                                          (nilK r107
                                                                                                            (P44no_0 d k i0 i1 i2 i3 i4 i5 i6 h107))))
                                                                                                    else
                                                                                                      Tr.fail))))
                                                                                            else
                                                                                              Tr.fail))
                                                                                        else
                                                                                          Tr.fail))))
                                                                                else
                                                                                  Tr.fail))))))
                                                                    else
                                                                      Tr.fail)))))
                                                          else
                                                            Tr.fail)))))))))
                                        else
                                          Tr.fail)))))
                              else
                                Tr.fail)))
                        else
                          (optK (Heap.cell? h i0 0) fun z108 =>
                            (slK 3 (HCell.toA z108) fun _ es109 =>
                              (bif (((es109.length : Int) : Int) == 0) then
                                (runK (evFn Cw d 91 [(AVal.obj i5 0), (AVal.obj i6 0)] h) fun r110 h110 =>
                                  (nilK r110
                                    (P44no_0 d k i0 i1 i2 i3 i4 i5 i6 h110)))
                              else
                                (optK (Heap.cell? h i1 0) fun z111 =>
                                  (slK 3 (HCell.toA z111) fun _ es112 =>
                                    (bif decide ((0 : Int) < (es112.length : Int)) then
                                      (optK ((AVal.cells (es112.getD 0 AVal.undef))[0]?) fun w113 =>
                                        (strK w113 fun ss114 =>
                                          (optK (Heap.cell? h i0 0) fun z115 =>
                                            (slK 3 (HCell.toA z115) fun _ es116 =>
                                              (bif decide ((0 : Int) < (es116.length : Int)) then
                                                (optK ((AVal.cells (es116.getD 0 AVal.undef))[0]?) fun w117 =>
                                                  (strK w117 fun ss118 =>
                                                    (bif (Go.Op.bytesLess ss114 ss118) then
                                                      (runK (evFn Cw d 91 [(AVal.obj i5 0), (AVal.obj i6 0)] h) fun r119 h119 =>
                                                        (nilK r119
                                                          (P44no_0 d k i0 i1 i2 i3 i4 i5 i6 h119)))
                                                    else
                                                      (optK (Heap.cell? h i0 0) fun z120 =>
                                                        (slK 3 (HCell.toA z120) fun _ es121 =>
                                                          (bif decide ((0 : Int) < (es121.length : Int)) then
                                                            (aggK 2 (es121.getD 0 AVal.undef) fun cc122 =>
                                                              (optK (Heap.cell? h i1 0) fun z123 =>
                                                                (slK 3 (HCell.toA z123) fun _ es124 =>
                                                                  (bif decide ((0 : Int) < (es124.length : Int)) then
                                                                    (aggK 2 (es124.getD 0 AVal.undef) fun cc125 =>
                                                                      (bif ((plainOk Cw.P 43 (AVal.agg cc122)) && (plainOk Cw.P 43 (AVal.agg cc125))) then
                                                                        (bif (eqCells cc122 cc125) then
                                                                          (optK (Heap.cell? h i0 0) fun z126 =>
                                                                            (slK 3 (HCell.toA z126) fun _ es127 =>
                                                                              (bif (decide ((1 : Int) ≤ (es127.length : Int)) && decide (((es127.length : Int) : Int) ≤ (es127.length : Int))) then
                                                                                (Tr.anyL [
                                                                                  (optK (Heap.cell? h i1 0) fun z128 =>
                                                                                    (slK 3 (HCell.toA z128) fun _ es129 =>
                                                                                      (bif (decide ((1 : Int) ≤ (es129.length : Int)) && decide (((es129.length : Int) : Int) ≤ (es129.length : Int))) then
                                                                                        (optK (Heap.cell? h i0 0) fun _ =>
                                                                                          (optK (Heap.cell? (Heap.setCell h i0 0 (HCell.val (AVal.sl false 3 (Go.Weave.part 1 (es127.length : Int) es127)))) i1 0) fun _ =>
                                                                                            (P44no_0 d k i0 i1 i2 i3 i4 i5 i6 (Heap.setCell (Heap.setCell h i0 0 (HCell.val (AVal.sl false 3 (Go.Weave.part 1 (es127.length : Int) es127)))) i1 0 (HCell.val (AVal.sl false 3 (Go.Weave.part 1 (es129.length : Int) es129)))))))
                                                                                      else
                                                                                        Tr.fail))),
                                                                                  (optK (Heap.cell? h i0 0) fun _ =>
                                                                                    (optK (Heap.cell? (Heap.setCell h i0 0 (HCell.val (AVal.sl false 3 (Go.Weave.part 1 (es127.length : Int) es127)))) i1 0) fun z128 =>
                                                                                      (slK 3 (HCell.toA z128) fun _ es129 =>
                                                                                        (bif (decide ((1 : Int) ≤ (es129.length : Int)) && decide (((es129.length : Int) : Int) ≤ (es129.length : Int))) then
                                                                                          (optK (Heap.cell? (Heap.setCell h i0 0 (HCell.val (AVal.sl false 3 (Go.Weave.part 1 (es127.length : Int) es127)))) i1 0) fun _ =>
                                                                                            (P44no_0 d k i0 i1 i2 i3 i4 i5 i6 (Heap.setCell (Heap.setCell h i0 0 (HCell.val (AVal.sl false 3 (Go.Weave.part 1 (es127.length : Int) es127)))) i1 0 (HCell.val (AVal.sl false 3 (Go.Weave.part 1 (es129.length : Int) es129))))))
                                                                                        else
                                                                                          Tr.fail))))])
                                                                              else
                                                                                Tr.fail)))
                                                                        else
                                                                          (optK (Heap.cell? h i0 0) fun z130 =>
                                                                            (slK 3 (HCell.toA z130) fun _ es131 =>
                                                                              (bif (decide ((1 : Int) ≤ (es131.length : Int)) && decide (((es131.length : Int) : Int) ≤ (es131.length : Int))) then
                                                                                (optK (Heap.cell? h i0 0) fun _ =>
                                                                                  (runK (evFn Cw d 91 [(AVal.obj i5 0), (AVal.obj i6 0)] (Heap.setCell h i0 0 (HCell.val (AVal.sl false 3 (Go.Weave.part 1 (es131.length : Int) es131))))) fun r132 h132 =>
                                                                                    (nilK r132
                                                                                      (P44no_0 d k i0 i1 i2 i3 i4 i5 i6 h132))))
                                                                              else
                                                                                Tr.fail))))
                                                                      else
                                                                        Tr.fail))
                                                                  else
                                                                    Tr.fail))))
                                                          else
                                                            Tr.fail))))))
                                              else
                                                Tr.fail)))))
                                    else
                                      Tr.fail))))))))))))
            else
              (optK (Heap.cell? h i2 0) fun z133 =>
                (slK 4 (HCell.toA z133) fun _ es134 =>
                  (Tr.ret ([(AVal.sl false 4 es134)], h)))))))))) := by kernel_rfl
theorem F44no_eq (d : Nat) (i0 : Nat) (h : Heap) : evFn Cw (d + 1) 44 [AVal.nilp, (AVal.obj i0 0)] h =
  (runK (evFn Cw d 37 [AVal.nilp] h) fun r1 h1 =>
    (consK r1 fun w2 ws3 =>
      (slOK 3 w2 fun es4 =>
        (nilK ws3
          (runK (evFn Cw d 37 [(AVal.obj i0 0)] h1) fun r5 h5 =>
            (consK r5 fun w6 ws7 =>
              (slOK 3 w6 fun es8 =>
                (nilK ws7
                  (optK (Heap.cell? (Heap.push (Heap.push h5 (Go.Weave.Obj.cells [(HCell.val (AVal.sl true 3 []))])) (Go.Weave.Obj.cells [(HCell.val (AVal.sl true 3 []))])) h5.objs.length 0) fun _ =>
                    (optK (Heap.cell? (Heap.setCell (Heap.push (Heap.push h5 (Go.Weave.Obj.cells [(HCell.val (AVal.sl true 3 []))])) (Go.Weave.Obj.cells [(HCell.val (AVal.sl true 3 []))])) h5.objs.length 0 (HCell.own 3 es4)) (Heap.push h5 (Go.Weave.Obj.cells [(HCell.val (AVal.sl true 3 []))])).objs.length 0) fun _ =>
                      (P44no_0 d rounds h5.objs.length ((Heap.push h5 (Go.Weave.Obj.cells [(HCell.val (AVal.sl true 3 []))])).objs.length) ((Heap.setCell (Heap.setCell (Heap.push (Heap.push h5 (Go.Weave.Obj.cells [(HCell.val (AVal.sl true 3 []))])) (Go.Weave.Obj.cells [(HCell.val (AVal.sl true 3 []))])) h5.objs.length 0 (HCell.own 3 es4)) (Heap.push h5 (Go.Weave.Obj.cells [(HCell.val (AVal.sl true 3 []))])).objs.length 0 (HCell.own 3 es8)).objs.length) ((Heap.setCell (Heap.setCell (Heap.push (Heap.push h5 (Go.Weave.Obj.cells [(HCell.val (AVal.sl true 3 []))])) (Go.Weave.Obj.cells [(HCell.val (AVal.sl true 3 []))])) h5.objs.length 0 (HCell.own 3 es4)) (Heap.push h5 (Go.Weave.Obj.cells [(HCell.val (AVal.sl true 3 []))])).objs.length 0 (HCell.own 3 es8)).objs.length) h5.objs.length ((Heap.setCell (Heap.setCell (Heap.push (Heap.push h5 (Go.Weave.Obj.cells [(HCell.val (AVal.sl true 3 []))])) (Go.Weave.Obj.cells [(HCell.val (AVal.sl true 3 []))])) h5.objs.length 0 (HCell.own 3 es4)) (Heap.push h5 (Go.Weave.Obj.cells [(HCell.val (AVal.sl true 3 []))])).objs.length 0 (HCell.own 3 es8)).objs.length) ((Heap.push h5 (Go.Weave.Obj.cells [(HCell.val (AVal.sl true 3 []))])).objs.length) (Heap.push (Heap.setCell (Heap.setCell (Heap.push (Heap.push h5 (Go.Weave.Obj.cells [(HCell.val (AVal.sl true 3 []))])) (Go.Weave.Obj.cells [(HCell.val (AVal.sl true 3 []))])) h5.objs.length 0 (HCell.own 3 es4)) (Heap.push h5 (Go.Weave.Obj.cells [(HCell.val (AVal.sl true 3 []))])).objs.length 0 (HCell.own 3 es8)) (Go.Weave.Obj.cells [(HCell.val (AVal.sl true 4 []))]))))))))))))) := by kernel_rfl
/- f42 strandline/table.Same -/
theorem F42_eq (d : Nat) (i0 : Nat) (i1 : Nat) (h : Heap) : evFn Cw (d + 1) 42 [(AVal.obj i0 0), (AVal.obj i1 0)] h =
  (runK (evFn Cw d 33 [(AVal.obj i0 0)] h) fun r1 h1 =>
    (consK r1 fun w2 ws3 =>
      (intK .i64 w2 fun y4 =>
        (nilK ws3
          (runK (evFn Cw d 33 [(AVal.obj i1 0)] h1) fun r5 h5 =>
            (consK r5 fun w6 ws7 =>
              (intK .i64 w6 fun y8 =>
                (nilK ws7
                  (bif ((y4 : Int) == y8) then
                    (runK (evFn Cw d 44 [(AVal.obj i0 0), (AVal.obj i1 0)] h5) fun r9 h9 =>
                      (consK r9 fun w10 ws11 =>
                        (slK 4 w10 fun fl12 es13 =>
                          (nilK ws11
                            (Tr.ret ([(AVal.bool (((es13.length : Int) : Int) == 0))], h9))))))
                  else
                    (Tr.ret ([(AVal.bool false)], h5))))))))))) := by kernel_rfl
theorem F42nn_eq (d : Nat) (h : Heap) : evFn Cw (d + 1) 42 [AVal.nilp, AVal.nilp] h =
  (runK (evFn Cw d 33 [AVal.nilp] h) fun r1 h1 =>
    (consK r1 fun w2 ws3 =>
      (intK .i64 w2 fun y4 =>
        (nilK ws3
          (runK (evFn Cw d 33 [AVal.nilp] h1) fun r5 h5 =>
            (consK r5 fun w6 ws7 =>
              (intK .i64 w6 fun y8 =>
                (nilK ws7
                  (bif ((y4 : Int) == y8) then
                    (runK (evFn Cw d 44 [AVal.nilp, AVal.nilp] h5) fun r9 h9 =>
                      (consK r9 fun w10 ws11 =>
                        (slK 4 w10 fun fl12 es13 =>
                          (nilK ws11
                            (Tr.ret ([(AVal.bool (((es13.length : Int) : Int) == 0))], h9))))))
                  else
                    (Tr.ret ([(AVal.bool false)], h5))))))))))) := by kernel_rfl
theorem F42no_eq (d : Nat) (i0 : Nat) (h : Heap) : evFn Cw (d + 1) 42 [AVal.nilp, (AVal.obj i0 0)] h =
  (runK (evFn Cw d 33 [AVal.nilp] h) fun r1 h1 =>
    (consK r1 fun w2 ws3 =>
      (intK .i64 w2 fun y4 =>
        (nilK ws3
          (runK (evFn Cw d 33 [(AVal.obj i0 0)] h1) fun r5 h5 =>
            (consK r5 fun w6 ws7 =>
              (intK .i64 w6 fun y8 =>
                (nilK ws7
                  (bif ((y4 : Int) == y8) then
                    (runK (evFn Cw d 44 [AVal.nilp, (AVal.obj i0 0)] h5) fun r9 h9 =>
                      (consK r9 fun w10 ws11 =>
                        (slK 4 w10 fun fl12 es13 =>
                          (nilK ws11
                            (Tr.ret ([(AVal.bool (((es13.length : Int) : Int) == 0))], h9))))))
                  else
                    (Tr.ret ([(AVal.bool false)], h5))))))))))) := by kernel_rfl
/- f28 strandline/strandlinelaw33.awake -/
theorem F28_eq (d : Nat) (h : Heap) : evFn Cw (d + 1) 28 [] h =
  (runK (evFn Cw d 29 [] h) fun r1 h1 =>
    (consK r1 fun w2 ws3 =>
      (nilK ws3
        (runK (evFn Cw d 30 [w2, (AVal.sl true 4 [(AVal.agg [(AVal.int .i64 1), (AVal.str [97]), (AVal.str [120, 121])]), (AVal.agg [(AVal.int .i64 1), (AVal.str [98]), (AVal.str [])]), (AVal.agg [(AVal.int .i64 2), (AVal.str [98]), (AVal.str [])]), (AVal.agg [(AVal.int .i64 0), (AVal.str []), (AVal.str [])])])] h1) fun r4 h4 =>
          (consK r4 fun w5 ws6 =>
            (intK .i64 w5 fun y7 =>
              (nilK ws6
                (bif ((y7 : Int) == 3) then
                  (runK (evFn Cw d 33 [w2] h4) fun r8 h8 =>
                    (consK r8 fun w9 ws10 =>
                      (intK .i64 w9 fun y11 =>
                        (nilK ws10
                          (bif ((y11 : Int) == 1) then
                            (runK (evFn Cw d 34 [w2] h8) fun r12 h12 =>
                              (consK r12 fun w13 ws14 =>
                                (intK .i64 w13 fun y15 =>
                                  (nilK ws14
                                    (Tr.ret ([(AVal.bool ((y15 : Int) == 3))], h12))))))
                          else
                            (Tr.ret ([(AVal.bool false)], h8)))))))
                else
                  (Tr.ret ([(AVal.bool false)], h4)))))))))) := by kernel_rfl
/- f5 strandline/strandlinelaw33.TableNobody -/
theorem F5_eq (d : Nat) (f0 : Bool) (l1 : List AVal) (s2 : List UInt8) (h : Heap) : evFn Cw (d + 1) 5 [(AVal.sl f0 4 l1), (AVal.str s2)] h =
  (runK (evFn Cw d 32 [AVal.nilp, (AVal.str s2)] h) fun r1 h1 =>
    (consK r1 fun w2 ws3 =>
      (strK w2 fun ss4 =>
        (consK ws3 fun w5 ws6 =>
          (boolK w5 fun bb7 =>
            (nilK ws6
              (bif (!bb7) then
                (runK (evFn Cw d 30 [AVal.nilp, (AVal.sl f0 4 l1)] h1) fun r8 h8 =>
                  (consK r8 fun w9 ws10 =>
                    (intK .i64 w9 fun y11 =>
                      (nilK ws10
                        (bif ((y11 : Int) == 0) then
                          (runK (evFn Cw d 33 [AVal.nilp] h8) fun r12 h12 =>
                            (consK r12 fun w13 ws14 =>
                              (intK .i64 w13 fun y15 =>
                                (nilK ws14
                                  (bif ((y15 : Int) == 0) then
                                    (runK (evFn Cw d 34 [AVal.nilp] h12) fun r16 h16 =>
                                      (consK r16 fun w17 ws18 =>
                                        (intK .i64 w17 fun y19 =>
                                          (nilK ws18
                                            (bif ((y19 : Int) == 0) then
                                              (runK (evFn Cw d 37 [AVal.nilp] h16) fun r20 h20 =>
                                                (consK r20 fun w21 ws22 =>
                                                  (slOK 3 w21 fun es23 =>
                                                    (nilK ws22
                                                      (bif (((es23.length : Int) : Int) == 0) then
                                                        (runK (evFn Cw d 43 [AVal.nilp] h20) fun r24 h24 =>
                                                          (consK r24 fun w25 ws26 =>
                                                            (nilK ws26
                                                              (bif AVal.isPtr w25 then
                                                                (bif (AVal.isNilp w25) then
                                                                  (runK (evFn Cw d 29 [] h24) fun r27 h27 =>
                                                                    (consK r27 fun w28 ws29 =>
                                                                      (nilK ws29
                                                                        (runK (evFn Cw d 42 [AVal.nilp, w28] h27) fun r30 h30 =>
                                                                          (consK r30 fun w31 ws32 =>
                                                                            (boolK w31 fun bb33 =>
                                                                              (nilK ws32
                                                                                (bif bb33 then
                                                                                  (runK (evFn Cw d 44 [AVal.nilp, AVal.nilp] h30) fun r34 h34 =>
                                                                                    (consK r34 fun w35 ws36 =>
                                                                                      (slK 4 w35 fun fl37 es38 =>
                                                                                        (nilK ws36
                                                                                          (bif (((es38.length : Int) : Int) == 0) then
                                                                                            (runK (evFn Cw d 28 [] h34) fun r39 h39 =>
                                                                                              (consK r39 fun w40 ws41 =>
                                                                                                (boolK w40 fun bb42 =>
                                                                                                  (nilK ws41
                                                                                                    (Tr.ret ([(AVal.bool bb42)], h39))))))
                                                                                          else
                                                                                            (Tr.ret ([(AVal.bool false)], h34)))))))
                                                                                else
                                                                                  (Tr.ret ([(AVal.bool false)], h30))))))))))
                                                                else
                                                                  (Tr.ret ([(AVal.bool false)], h24)))
                                                              else
                                                                Tr.fail))))
                                                      else
                                                        (Tr.ret ([(AVal.bool false)], h20)))))))
                                            else
                                              (Tr.ret ([(AVal.bool false)], h16)))))))
                                  else
                                    (Tr.ret ([(AVal.bool false)], h12)))))))
                        else
                          (Tr.ret ([(AVal.bool false)], h8)))))))
              else
                (Tr.ret ([(AVal.bool false)], h1))))))))) := by kernel_rfl
/- f40 strandline/strandlineref10.Right -/
theorem F40_eq (d : Nat) (x0 : Int) (s1 : List UInt8) (s2 : List UInt8) (h : Heap) : evFn Cw (d + 1) 40 [(AVal.agg [(AVal.int .i64 x0), (AVal.str s1), (AVal.str s2)])] h =
  (bif (((s1.length : Int) : Int) == 0) then
    (Tr.ret ([(AVal.bool false)], h))
  else
    (bif (decide (((s1.length : Int) : Int) > 24)) then
      (Tr.ret ([(AVal.bool false)], h))
    else
      (bif (decide (((s2.length : Int) : Int) > 128)) then
        (Tr.ret ([(AVal.bool false)], h))
      else
        (bif ((x0 : Int) == 1) then
          (Tr.ret ([(AVal.bool true)], h))
        else
          (bif ((x0 : Int) == 2) then (Tr.ret ([(AVal.bool (s2 == []))], h)) else (Tr.ret ([(AVal.bool false)], h))))))) := by kernel_rfl
/- f31 strandline/strandlineref33.Apply -/
noncomputable def P31_0 (d k : Nat) (f0 : Bool) (l1 : List AVal) (f2 : Bool) (l3 : List AVal) (x4 : Int) (x5 : Int) (h : Heap) : Tr Res :=
  loopPt Cw d 31 [true, true, false, true, true] [] k ⟨[(0, (EV.one (SV.val (AVal.sl f0 3 l1)))), (1, (EV.one (SV.val (AVal.sl f2 4 l3)))), (6, (EV.one (SV.val (AVal.int .i64 x4)))), (7, (EV.one (SV.val (AVal.int .i64 x5))))], []⟩ h
theorem P31_0_eq (d k : Nat) (f0 : Bool) (l1 : List AVal) (f2 : Bool) (l3 : List AVal) (x4 : Int) (x5 : Int) (h : Heap) : P31_0 d (k + 1) f0 l1 f2 l3 x4 x5 h =
  (bif (decide ((x5 : Int) < (l3.length : Int))) then
    (bif (decide ((0 : Int) ≤ x5) && decide ((x5 : Int) < (l3.length : Int))) then
      (aggK 3 (l3.getD (Int.toNat x5) AVal.undef) fun cc1 =>
        (runK (evFn Cw d 40 [(AVal.agg cc1)] h) fun r2 h2 =>
          (consK r2 fun w3 ws4 =>
            (boolK w3 fun bb5 =>
              (nilK ws4
                (bif (!bb5) then
                  (P31_0 d k f0 l1 f2 l3 x4 (IntKind.i64.wrap (x5 + 1)) h2)
                else
                  (bif (decide ((0 : Int) ≤ x5) && decide ((x5 : Int) < (l3.length : Int))) then
                    (optK ((AVal.cells (l3.getD (Int.toNat x5) AVal.undef))[0]?) fun w6 =>
                      (intK .i64 w6 fun y7 =>
                        (bif ((y7 : Int) == 1) then
                          (bif (decide ((0 : Int) ≤ x5) && decide ((x5 : Int) < (l3.length : Int))) then
                            (optK ((AVal.cells (l3.getD (Int.toNat x5) AVal.undef))[1]?) fun w8 =>
                              (strK w8 fun ss9 =>
                                (bif (decide ((0 : Int) ≤ x5) && decide ((x5 : Int) < (l3.length : Int))) then
                                  (optK ((AVal.cells (l3.getD (Int.toNat x5) AVal.undef))[2]?) fun w10 =>
                                    (strK w10 fun ss11 =>
                                      (runK (evFn Cw d 22 [(AVal.sl f0 3 l1), (AVal.str ss9), (AVal.str ss11)] h2) fun r12 h12 =>
                                        (consK r12 fun w13 ws14 =>
                                          (slOK 3 w13 fun es15 =>
                                            (nilK ws14
                                              (P31_0 d k false es15 f2 l3 (IntKind.i64.wrap (x4 + 1)) (IntKind.i64.wrap (x5 + 1)) h12)))))))
                                else
                                  Tr.fail)))
                          else
                            Tr.fail)
                        else
                          (bif (decide ((0 : Int) ≤ x5) && decide ((x5 : Int) < (l3.length : Int))) then
                            (optK ((AVal.cells (l3.getD (Int.toNat x5) AVal.undef))[1]?) fun w16 =>
                              (strK w16 fun ss17 =>
                                (runK (evFn Cw d 24 [(AVal.sl f0 3 l1), (AVal.str ss17)] h2) fun r18 h18 =>
                                  (consK r18 fun w19 ws20 =>
                                    (slOK 3 w19 fun es21 =>
                                      (nilK ws20
                                        (P31_0 d k false es21 f2 l3 (IntKind.i64.wrap (x4 + 1)) (IntKind.i64.wrap (x5 + 1)) h18)))))))
                          else
                            Tr.fail))))
                  else
                    Tr.fail)))))))
    else
      Tr.fail)
  else
    (Tr.ret ([(AVal.sl f0 3 l1), (AVal.int .i64 x4)], h))) := by kernel_rfl
theorem F31_eq (d : Nat) (f0 : Bool) (l1 : List AVal) (f2 : Bool) (l3 : List AVal) (h : Heap) : evFn Cw (d + 1) 31 [(AVal.sl f0 3 l1), (AVal.sl f2 4 l3)] h =
  (P31_0 d rounds f0 l1 f2 l3 0 0 h) := by kernel_rfl
noncomputable def P31n_0 (d k : Nat) (v0 : AVal) (f1 : Bool) (l2 : List AVal) (x3 : Int) (x4 : Int) (h : Heap) : Tr Res :=
  loopPt Cw d 31 [true, true, false, true, true] [] k ⟨[(0, (EV.one (SV.val v0))), (1, (EV.one (SV.val (AVal.sl f1 4 l2)))), (6, (EV.one (SV.val (AVal.int .i64 x3)))), (7, (EV.one (SV.val (AVal.int .i64 x4))))], []⟩ h
theorem P31n_0_eq (d k : Nat) (v0 : AVal) (f1 : Bool) (l2 : List AVal) (x3 : Int) (x4 : Int) (h : Heap) : P31n_0 d (k + 1) v0 f1 l2 x3 x4 h =
  (bif (decide ((x4 : Int) < (l2.length : Int))) then
    (bif (decide ((0 : Int) ≤ x4) && decide ((x4 : Int) < (l2.length : Int))) then
      (aggK 3 (l2.getD (Int.toNat x4) AVal.undef) fun cc1 =>
        (runK (evFn Cw d 40 [(AVal.agg cc1)] h) fun r2 h2 =>
          (consK r2 fun w3 ws4 =>
            (boolK w3 fun bb5 =>
              (nilK ws4
                (bif (!bb5) then
                  (P31n_0 d k v0 f1 l2 x3 (IntKind.i64.wrap (x4 + 1)) h2)
                else
                  (bif (decide ((0 : Int) ≤ x4) && decide ((x4 : Int) < (l2.length : Int))) then
                    (optK ((AVal.cells (l2.getD (Int.toNat x4) AVal.undef))[0]?) fun w6 =>
                      (intK .i64 w6 fun y7 =>
                        (bif ((y7 : Int) == 1) then
                          (bif (decide ((0 : Int) ≤ x4) && decide ((x4 : Int) < (l2.length : Int))) then
                            (optK ((AVal.cells (l2.getD (Int.toNat x4) AVal.undef))[1]?) fun w8 =>
                              (strK w8 fun ss9 =>
                                (bif (decide ((0 : Int) ≤ x4) && decide ((x4 : Int) < (l2.length : Int))) then
                                  (optK ((AVal.cells (l2.getD (Int.toNat x4) AVal.undef))[2]?) fun w10 =>
                                    (strK w10 fun ss11 =>
                                      (runK (evFn Cw d 22 [v0, (AVal.str ss9), (AVal.str ss11)] h2) fun r12 h12 =>
                                        (consK r12 fun w13 ws14 =>
                                          (slOK 3 w13 fun es15 =>
                                            (nilK ws14
                                              (P31n_0 d k (AVal.sl false 3 es15) f1 l2 (IntKind.i64.wrap (x3 + 1)) (IntKind.i64.wrap (x4 + 1)) h12)))))))
                                else
                                  Tr.fail)))
                          else
                            Tr.fail)
                        else
                          (bif (decide ((0 : Int) ≤ x4) && decide ((x4 : Int) < (l2.length : Int))) then
                            (optK ((AVal.cells (l2.getD (Int.toNat x4) AVal.undef))[1]?) fun w16 =>
                              (strK w16 fun ss17 =>
                                (runK (evFn Cw d 24 [v0, (AVal.str ss17)] h2) fun r18 h18 =>
                                  (consK r18 fun w19 ws20 =>
                                    (slOK 3 w19 fun es21 =>
                                      (nilK ws20
                                        (P31n_0 d k (AVal.sl false 3 es21) f1 l2 (IntKind.i64.wrap (x3 + 1)) (IntKind.i64.wrap (x4 + 1)) h18)))))))
                          else
                            Tr.fail))))
                  else
                    Tr.fail)))))))
    else
      Tr.fail)
  else
    (Tr.ret ([v0, (AVal.int .i64 x3)], h))) := by kernel_rfl
theorem F31n_eq (d : Nat) (f0 : Bool) (l1 : List AVal) (h : Heap) : evFn Cw (d + 1) 31 [(AVal.sl true 0 []), (AVal.sl f0 4 l1)] h =
  (P31n_0 d rounds (AVal.sl true 0 []) f0 l1 0 0 h) := by kernel_rfl
/- f35 strandline/strandlineref33.Bytes -/
noncomputable def P35_0 (d k : Nat) (f0 : Bool) (l1 : List AVal) (x2 : Int) (x3 : Int) (h : Heap) : Tr Res :=
  loopPt Cw d 35 [true, true, false, true, true] [] k ⟨[(0, (EV.one (SV.val (AVal.sl f0 3 l1)))), (3, (EV.one (SV.val (AVal.int .i64 x2)))), (4, (EV.one (SV.val (AVal.int .i64 x3))))], []⟩ h
theorem P35_0_eq (d k : Nat) (f0 : Bool) (l1 : List AVal) (x2 : Int) (x3 : Int) (h : Heap) : P35_0 d (k + 1) f0 l1 x2 x3 h =
  (bif (decide ((x3 : Int) < (l1.length : Int))) then
    (bif (decide ((0 : Int) ≤ x3) && decide ((x3 : Int) < (l1.length : Int))) then
      (optK ((AVal.cells (l1.getD (Int.toNat x3) AVal.undef))[0]?) fun w1 =>
        (strK w1 fun ss2 =>
          (bif (decide ((0 : Int) ≤ x3) && decide ((x3 : Int) < (l1.length : Int))) then
            (optK ((AVal.cells (l1.getD (Int.toNat x3) AVal.undef))[1]?) fun w3 =>
              (strK w3 fun ss4 =>
                (P35_0 d k f0 l1 (IntKind.i64.wrap ((IntKind.i64.wrap (x2 + (ss2.length : Int))) + (ss4.length : Int))) (IntKind.i64.wrap (x3 + 1)) h)))
          else
            Tr.fail)))
    else
      Tr.fail)
  else
    (Tr.ret ([(AVal.int .i64 x2)], h))) := by kernel_rfl
theorem F35_eq (d : Nat) (f0 : Bool) (l1 : List AVal) (h : Heap) : evFn Cw (d + 1) 35 [(AVal.sl f0 3 l1)] h =
  (P35_0 d rounds f0 l1 0 0 h) := by kernel_rfl
/- f41 strandline/strandlineref12.Last -/
noncomputable def P41_0 (d k : Nat) (f0 : Bool) (l1 : List AVal) (l2 : List AVal) (x3 : Int) (h : Heap) : Tr Res :=
  loopPt Cw d 41 [true, true, false, true, true] [] k ⟨[(0, (EV.one (SV.val (AVal.sl f0 4 l1)))), (3, (EV.one (SV.own (tokOf 3 0) 4 l2))), (4, (EV.one (SV.val (AVal.int .i64 x3))))], []⟩ h
noncomputable def P41_1 (d n0 k : Nat) (f0 : Bool) (l1 : List AVal) (l2 : List AVal) (x3 : Int) (l4 : List AVal) (b5 : Bool) (x6 : Int) (h : Heap) : Tr Res :=
  loopPt Cw d 41 [true, true, false, true, true, true, true, false, true, true, true, false, true, true] [n0] k ⟨[(0, (EV.one (SV.val (AVal.sl f0 4 l1)))), (3, (EV.one (SV.own (tokOf 3 0) 4 l2))), (4, (EV.one (SV.val (AVal.int .i64 x3)))), (5, (EV.one (SV.own (tokOf 5 0) 4 l4))), (6, (EV.one (SV.val (AVal.bool b5)))), (7, (EV.one (SV.val (AVal.int .i64 x6))))], []⟩ h
noncomputable def P41_2 (d n0 n1 : Nat) (f0 : Bool) (l1 : List AVal) (l2 : List AVal) (x3 : Int) (l4 : List AVal) (b5 : Bool) (x6 : Int) (h : Heap) : Tr Res :=
  heldPt Cw d 41 [true, true, false, true, true, true, true, false, true, true, true, false, true, true, true, true, false, true, true] [n0, n1] ⟨[(0, (EV.one (SV.val (AVal.sl f0 4 l1)))), (3, (EV.one (SV.own (tokOf 3 0) 4 l2))), (4, (EV.one (SV.val (AVal.int .i64 x3)))), (5, (EV.one (SV.own (tokOf 5 0) 4 l4))), (6, (EV.one (SV.val (AVal.bool b5)))), (7, (EV.one (SV.val (AVal.int .i64 x6))))], []⟩ h
theorem P41_0_eq (d k : Nat) (f0 : Bool) (l1 : List AVal) (l2 : List AVal) (x3 : Int) (h : Heap) : P41_0 d (k + 1) f0 l1 l2 x3 h =
  (bif (decide ((x3 : Int) < (l1.length : Int))) then (P41_1 d k rounds f0 l1 l2 x3 [] false 0 h) else (Tr.ret ([(AVal.sl false 4 l2)], h))) := by kernel_rfl
theorem P41_1_eq (d n0 k : Nat) (f0 : Bool) (l1 : List AVal) (l2 : List AVal) (x3 : Int) (l4 : List AVal) (b5 : Bool) (x6 : Int) (h : Heap) : P41_1 d n0 (k + 1) f0 l1 l2 x3 l4 b5 x6 h =
  (bif (decide ((x6 : Int) < (l2.length : Int))) then
    (bif (!b5) then
      (bif (decide ((0 : Int) ≤ x6) && decide ((x6 : Int) < (l2.length : Int))) then
        (optK ((AVal.cells (l2.getD (Int.toNat x6) AVal.undef))[1]?) fun w1 =>
          (strK w1 fun ss2 =>
            (bif (decide ((0 : Int) ≤ x3) && decide ((x3 : Int) < (l1.length : Int))) then
              (optK ((AVal.cells (l1.getD (Int.toNat x3) AVal.undef))[1]?) fun w3 =>
                (strK w3 fun ss4 =>
                  (bif (!(Go.Op.bytesLess ss2 ss4)) then
                    (bif (decide ((0 : Int) ≤ x3) && decide ((x3 : Int) < (l1.length : Int))) then
                      (aggK 3 (l1.getD (Int.toNat x3) AVal.undef) fun cc5 =>
                        (bif ((cc5.length == 3) && true) then
                          (bif decide ((l4.length + (1 : Nat)) * 40 ≤ 140737488355328) then (P41_2 d n0 k f0 l1 l2 x3 (l4 ++ [(AVal.agg cc5)]) true x6 h) else Tr.fail)
                        else
                          Tr.fail))
                    else
                      Tr.fail)
                  else
                    (P41_2 d n0 k f0 l1 l2 x3 l4 b5 x6 h))))
            else
              Tr.fail)))
      else
        Tr.fail)
    else
      (P41_2 d n0 k f0 l1 l2 x3 l4 b5 x6 h))
  else
    (bif (!b5) then
      (bif (decide ((0 : Int) ≤ x3) && decide ((x3 : Int) < (l1.length : Int))) then
        (aggK 3 (l1.getD (Int.toNat x3) AVal.undef) fun cc6 =>
          (bif ((cc6.length == 3) && true) then
            (bif decide ((l4.length + (1 : Nat)) * 40 ≤ 140737488355328) then (P41_0 d n0 f0 l1 (l4 ++ [(AVal.agg cc6)]) (IntKind.i64.wrap (x3 + 1)) h) else Tr.fail)
          else
            Tr.fail))
      else
        Tr.fail)
    else
      (P41_0 d n0 f0 l1 l4 (IntKind.i64.wrap (x3 + 1)) h))) := by kernel_rfl
theorem P41_2_eq (d n0 n1 : Nat) (f0 : Bool) (l1 : List AVal) (l2 : List AVal) (x3 : Int) (l4 : List AVal) (b5 : Bool) (x6 : Int) (h : Heap) : P41_2 d n0 n1 f0 l1 l2 x3 l4 b5 x6 h =
  (bif (decide ((0 : Int) ≤ x6) && decide ((x6 : Int) < (l2.length : Int))) then
    (optK ((AVal.cells (l2.getD (Int.toNat x6) AVal.undef))[1]?) fun w1 =>
      (strK w1 fun ss2 =>
        (bif (decide ((0 : Int) ≤ x3) && decide ((x3 : Int) < (l1.length : Int))) then
          (optK ((AVal.cells (l1.getD (Int.toNat x3) AVal.undef))[1]?) fun w3 =>
            (strK w3 fun ss4 =>
              (bif (!(ss2 == ss4)) then
                (bif (decide ((0 : Int) ≤ x6) && decide ((x6 : Int) < (l2.length : Int))) then
                  (aggK 3 (l2.getD (Int.toNat x6) AVal.undef) fun cc5 =>
                    (bif ((cc5.length == 3) && true) then
                      (bif decide ((l4.length + (1 : Nat)) * 40 ≤ 140737488355328) then (P41_1 d n0 n1 f0 l1 l2 x3 (l4 ++ [(AVal.agg cc5)]) b5 (IntKind.i64.wrap (x6 + 1)) h) else Tr.fail)
                    else
                      Tr.fail))
                else
                  Tr.fail)
              else
                (P41_1 d n0 n1 f0 l1 l2 x3 l4 b5 (IntKind.i64.wrap (x6 + 1)) h))))
        else
          Tr.fail)))
  else
    Tr.fail) := (heldPt_eq _ _ _ _ _ _ _).trans (by kernel_rfl)
theorem F41_eq (d : Nat) (f0 : Bool) (l1 : List AVal) (h : Heap) : evFn Cw (d + 1) 41 [(AVal.sl f0 4 l1)] h =
  (P41_0 d rounds f0 l1 [] 0 h) := by kernel_rfl
/- f4 strandline/strandlinelaw33.TableApplies -/
noncomputable def P4_0 (d k : Nat) (f0 : Bool) (l1 : List AVal) (v2 : AVal) (l3 : List AVal) (x4 : Int) (h : Heap) : Tr Res :=
  loopPt Cw d 4 [true, true, true, true, true, true, true, true, true, false, true, true] [] k ⟨[(0, (EV.one (SV.val (AVal.sl f0 4 l1)))), (7, (EV.one (SV.val v2))), (15, (EV.one (SV.own (tokOf 15 0) 4 l3))), (16, (EV.one (SV.val (AVal.int .i64 x4))))], []⟩ h
theorem P4_0_eq (d k : Nat) (f0 : Bool) (l1 : List AVal) (v2 : AVal) (l3 : List AVal) (x4 : Int) (h : Heap) : P4_0 d (k + 1) f0 l1 v2 l3 x4 h =
  (bif (decide ((x4 : Int) < (l1.length : Int))) then
    (bif (decide ((0 : Int) ≤ x4) && decide ((x4 : Int) < (l1.length : Int))) then
      (aggK 3 (l1.getD (Int.toNat x4) AVal.undef) fun cc1 =>
        (runK (evFn Cw d 40 [(AVal.agg cc1)] h) fun r2 h2 =>
          (consK r2 fun w3 ws4 =>
            (boolK w3 fun bb5 =>
              (nilK ws4
                (bif bb5 then
                  (bif (decide ((0 : Int) ≤ x4) && decide ((x4 : Int) < (l1.length : Int))) then
                    (aggK 3 (l1.getD (Int.toNat x4) AVal.undef) fun cc6 =>
                      (bif ((cc6.length == 3) && true) then
                        (bif decide ((l3.length + (1 : Nat)) * 40 ≤ 140737488355328) then (P4_0 d k f0 l1 v2 (l3 ++ [(AVal.agg cc6)]) (IntKind.i64.wrap (x4 + 1)) h2) else Tr.fail)
                      else
                        Tr.fail))
                  else
                    Tr.fail)
                else
                  (P4_0 d k f0 l1 v2 l3 (IntKind.i64.wrap (x4 + 1)) h2)))))))
    else
      Tr.fail)
  else
    (runK (evFn Cw d 29 [] h) fun r7 h7 =>
      (consK r7 fun w8 ws9 =>
        (nilK ws9
          (runK (evFn Cw d 41 [(AVal.sl false 4 l3)] h7) fun r10 h10 =>
            (consK r10 fun w11 ws12 =>
              (slOK 4 w11 fun es13 =>
                (nilK ws12
                  (runK (evFn Cw d 30 [w8, (AVal.sl false 4 es13)] h10) fun r14 h14 =>
                    (consK r14 fun w15 ws16 =>
                      (intK .i64 w15 fun y17 =>
                        (nilK ws16
                          (runK (evFn Cw d 42 [v2, w8] h14) fun r18 h18 =>
                            (consK r18 fun w19 ws20 =>
                              (boolK w19 fun bb21 =>
                                (nilK ws20
                                  (bif bb21 then
                                    (runK (evFn Cw d 28 [] h18) fun r22 h22 =>
                                      (consK r22 fun w23 ws24 =>
                                        (boolK w23 fun bb25 =>
                                          (nilK ws24
                                            (Tr.ret ([(AVal.bool bb25)], h22))))))
                                  else
                                    (Tr.ret ([(AVal.bool false)], h18))))))))))))))))))) := by kernel_rfl
theorem F4_eq (d : Nat) (f0 : Bool) (l1 : List AVal) (s2 : List UInt8) (s3 : List UInt8) (x4 : Int) (h : Heap) : evFn Cw (d + 1) 4 [(AVal.sl f0 4 l1), (AVal.agg [(AVal.str s2), (AVal.str s3)]), (AVal.int .i64 x4)] h =
  (bif (decide (((l1.length : Int) : Int) > 200)) then
    (runK (evFn Cw d 28 [] h) fun r1 h1 =>
      (consK r1 fun w2 ws3 =>
        (boolK w2 fun bb4 =>
          (nilK ws3
            (Tr.ret ([(AVal.bool bb4)], h1))))))
  else
    (runK (evFn Cw d 29 [] h) fun r5 h5 =>
      (consK r5 fun w6 ws7 =>
        (nilK ws7
          (runK (evFn Cw d 30 [w6, (AVal.sl f0 4 l1)] h5) fun r8 h8 =>
            (consK r8 fun w9 ws10 =>
              (intK .i64 w9 fun y11 =>
                (nilK ws10
                  (runK (evFn Cw d 31 [(AVal.sl true 0 []), (AVal.sl f0 4 l1)] h8) fun r12 h12 =>
                    (consK r12 fun w13 ws14 =>
                      (slK 3 w13 fun fl15 es16 =>
                        (consK ws14 fun w17 ws18 =>
                          (intK .i64 w17 fun y19 =>
                            (nilK ws18
                              (runK (evFn Cw d 32 [w6, (AVal.str s2)] h12) fun r20 h20 =>
                                (consK r20 fun w21 ws22 =>
                                  (strK w21 fun ss23 =>
                                    (consK ws22 fun w24 ws25 =>
                                      (boolK w24 fun bb26 =>
                                        (nilK ws25
                                          (runK (evFn Cw d 26 [(AVal.sl fl15 3 es16), (AVal.str s2)] h20) fun r27 h27 =>
                                            (consK r27 fun w28 ws29 =>
                                              (strK w28 fun ss30 =>
                                                (consK ws29 fun w31 ws32 =>
                                                  (boolK w31 fun bb33 =>
                                                    (nilK ws32
                                                      (bif ((y11 : Int) != y19) then
                                                        (Tr.ret ([(AVal.bool false)], h27))
                                                      else
                                                        (bif (!(ss23 == ss30)) then
                                                          (Tr.ret ([(AVal.bool false)], h27))
                                                        else
                                                          (bif (!(bb26 == bb33)) then
                                                            (Tr.ret ([(AVal.bool false)], h27))
                                                          else
                                                            (runK (evFn Cw d 33 [w6] h27) fun r34 h34 =>
                                                              (consK r34 fun w35 ws36 =>
                                                                (intK .i64 w35 fun y37 =>
                                                                  (nilK ws36
                                                                    (bif ((y37 : Int) != (es16.length : Int)) then
                                                                      (Tr.ret ([(AVal.bool false)], h34))
                                                                    else
                                                                      (runK (evFn Cw d 34 [w6] h34) fun r38 h38 =>
                                                                        (consK r38 fun w39 ws40 =>
                                                                          (intK .i64 w39 fun y41 =>
                                                                            (nilK ws40
                                                                              (runK (evFn Cw d 35 [(AVal.sl fl15 3 es16)] h38) fun r42 h42 =>
                                                                                (consK r42 fun w43 ws44 =>
                                                                                  (intK .i64 w43 fun y45 =>
                                                                                    (nilK ws44
                                                                                      (bif ((y41 : Int) != y45) then
                                                                                        (Tr.ret ([(AVal.bool false)], h42))
                                                                                      else
                                                                                        (runK (evFn Cw d 37 [w6] h42) fun r46 h46 =>
                                                                                          (consK r46 fun w47 ws48 =>
                                                                                            (slOK 3 w47 fun es49 =>
                                                                                              (nilK ws48
                                                                                                (runK (evFn Cw d 36 [(AVal.sl false 3 es49), (AVal.sl fl15 3 es16)] h46) fun r50 h50 =>
                                                                                                  (consK r50 fun w51 ws52 =>
                                                                                                    (boolK w51 fun bb53 =>
                                                                                                      (nilK ws52
                                                                                                        (bif (!bb53) then
                                                                                                          (Tr.ret ([(AVal.bool false)], h50))
                                                                                                        else
                                                                                                          (runK (evFn Cw d 38 [w6, (AVal.str s2), (AVal.str s3), (AVal.int .i64 x4)] h50) fun r54 h54 =>
                                                                                                            (consK r54 fun w55 ws56 =>
                                                                                                              (slOK 3 w55 fun es57 =>
                                                                                                                (nilK ws56
                                                                                                                  (runK (evFn Cw d 39 [(AVal.sl fl15 3 es16), (AVal.str s2), (AVal.str s3), (AVal.int .i64 x4)] h54) fun r58 h58 =>
                                                                                                                    (consK r58 fun w59 ws60 =>
                                                                                                                      (slOK 3 w59 fun es61 =>
                                                                                                                        (nilK ws60
                                                                                                                          (runK (evFn Cw d 36 [(AVal.sl false 3 es57), (AVal.sl false 3 es61)] h58) fun r62 h62 =>
                                                                                                                            (consK r62 fun w63 ws64 =>
                                                                                                                              (boolK w63 fun bb65 =>
                                                                                                                                (nilK ws64
                                                                                                                                  (bif (!bb65) then (Tr.ret ([(AVal.bool false)], h62)) else (P4_0 d rounds f0 l1 w6 [] 0 h62)))))))))))))))))))))))))))))))))))))))))))))))))))))))))))))))))) := by kernel_rfl
/- f50 strandline/strandlineref33.Of -/
noncomputable def P50_0 (d k : Nat) (f0 : Bool) (l1 : List AVal) (l2 : List AVal) (x3 : Int) (h : Heap) : Tr Res :=
  loopPt Cw d 50 [true, true, false, true, true] [] k ⟨[(0, (EV.one (SV.val (AVal.sl f0 3 l1)))), (3, (EV.one (SV.own (tokOf 3 0) 3 l2))), (4, (EV.one (SV.val (AVal.int .i64 x3))))], []⟩ h
theorem P50_0_eq (d k : Nat) (f0 : Bool) (l1 : List AVal) (l2 : List AVal) (x3 : Int) (h : Heap) : P50_0 d (k + 1) f0 l1 l2 x3 h =
  (bif (decide ((x3 : Int) < (l1.length : Int))) then
    (bif (decide ((0 : Int) ≤ x3) && decide ((x3 : Int) < (l1.length : Int))) then
      (optK ((AVal.cells (l1.getD (Int.toNat x3) AVal.undef))[0]?) fun w1 =>
        (strK w1 fun ss2 =>
          (bif (decide ((0 : Int) ≤ x3) && decide ((x3 : Int) < (l1.length : Int))) then
            (optK ((AVal.cells (l1.getD (Int.toNat x3) AVal.undef))[1]?) fun w3 =>
              (strK w3 fun ss4 =>
                (runK (evFn Cw d 22 [(AVal.sl false 3 l2), (AVal.str ss2), (AVal.str ss4)] h) fun r5 h5 =>
                  (consK r5 fun w6 ws7 =>
                    (slOK 3 w6 fun es8 =>
                      (nilK ws7
                        (P50_0 d k f0 l1 es8 (IntKind.i64.wrap (x3 + 1)) h5)))))))
          else
            Tr.fail)))
    else
      Tr.fail)
  else
    (Tr.ret ([(AVal.sl false 3 l2)], h))) := by kernel_rfl
theorem F50_eq (d : Nat) (f0 : Bool) (l1 : List AVal) (h : Heap) : evFn Cw (d + 1) 50 [(AVal.sl f0 3 l1)] h =
  (P50_0 d rounds f0 l1 [] 0 h) := by kernel_rfl
/- f51 strandline/table.Of -/
noncomputable def P51_0 (d k : Nat) (v0 : AVal) (f1 : Bool) (l2 : List AVal) (x3 : Int) (x4 : Int) (h : Heap) : Tr Res :=
  loopPt Cw d 51 [true, true, false, true, true] [] k ⟨[(3, (EV.one (SV.val v0))), (7, (EV.one (SV.val (AVal.sl f1 3 l2)))), (8, (EV.one (SV.val (AVal.int .i64 x3)))), (9, (EV.one (SV.val (AVal.int .i64 x4))))], []⟩ h
theorem P51_0_eq (d k : Nat) (v0 : AVal) (f1 : Bool) (l2 : List AVal) (x3 : Int) (x4 : Int) (h : Heap) : P51_0 d (k + 1) v0 f1 l2 x3 x4 h =
  (bif (decide ((x4 : Int) < x3)) then
    (bif (decide ((0 : Int) ≤ x4) && decide ((x4 : Int) < (l2.length : Int))) then
      (aggK 2 (l2.getD (Int.toNat x4) AVal.undef) fun cc1 =>
        (bif ((cc1.length == 2) && true) then
          (optK (cc1[0]?) fun w2 =>
            (strK w2 fun ss3 =>
              (optK (cc1[1]?) fun w4 =>
                (strK w4 fun ss5 =>
                  (runK (evFn Cw d 85 [v0, (AVal.str ss3), (AVal.str ss5)] h) fun r6 h6 =>
                    (nilK r6
                      (P51_0 d k v0 f1 l2 x3 (IntKind.i64.wrap (x4 + 1)) h6)))))))
        else
          Tr.fail))
    else
      Tr.fail)
  else
    (Tr.ret ([v0], h))) := by kernel_rfl
theorem F51_eq (d : Nat) (f0 : Bool) (l1 : List AVal) (h : Heap) : evFn Cw (d + 1) 51 [(AVal.sl f0 3 l1)] h =
  (runK (evFn Cw d 29 [] h) fun r1 h1 =>
    (consK r1 fun w2 ws3 =>
      (nilK ws3
        (P51_0 d rounds w2 f0 l1 (l1.length : Int) 0 h1)))) := by kernel_rfl
/- f53 strandline/strandlineref33.Diff -/
noncomputable def P53_0 (d k : Nat) (f0 : Bool) (l1 : List AVal) (f2 : Bool) (l3 : List AVal) (l4 : List AVal) (l5 : List AVal) (x6 : Int) (h : Heap) : Tr Res :=
  loopPt Cw d 53 [true, true, true, false, true, true] [] k ⟨[(0, (EV.one (SV.val (AVal.sl f0 3 l1)))), (1, (EV.one (SV.val (AVal.sl f2 3 l3)))), (5, (EV.one (SV.own (tokOf 5 0) 3 l4))), (6, (EV.one (SV.own (tokOf 6 0) 4 l5))), (7, (EV.one (SV.val (AVal.int .i64 x6))))], []⟩ h
theorem P53_0_eq (d k : Nat) (f0 : Bool) (l1 : List AVal) (f2 : Bool) (l3 : List AVal) (l4 : List AVal) (l5 : List AVal) (x6 : Int) (h : Heap) : P53_0 d (k + 1) f0 l1 f2 l3 l4 l5 x6 h =
  (bif (decide ((x6 : Int) < (l4.length : Int))) then
    (bif (decide ((0 : Int) ≤ x6) && decide ((x6 : Int) < (l4.length : Int))) then
      (optK ((AVal.cells (l4.getD (Int.toNat x6) AVal.undef))[0]?) fun w1 =>
        (strK w1 fun ss2 =>
          (runK (evFn Cw d 26 [(AVal.sl f0 3 l1), (AVal.str ss2)] h) fun r3 h3 =>
            (consK r3 fun w4 ws5 =>
              (strK w4 fun ss6 =>
                (consK ws5 fun w7 ws8 =>
                  (boolK w7 fun bb9 =>
                    (nilK ws8
                      (bif (decide ((0 : Int) ≤ x6) && decide ((x6 : Int) < (l4.length : Int))) then
                        (optK ((AVal.cells (l4.getD (Int.toNat x6) AVal.undef))[0]?) fun w10 =>
                          (strK w10 fun ss11 =>
                            (runK (evFn Cw d 26 [(AVal.sl f2 3 l3), (AVal.str ss11)] h3) fun r12 h12 =>
                              (consK r12 fun w13 ws14 =>
                                (strK w13 fun ss15 =>
                                  (consK ws14 fun w16 ws17 =>
                                    (boolK w16 fun bb18 =>
                                      (nilK ws17
                                        (bif bb9 then
                                          (bif (!bb18) then
                                            (bif (decide ((0 : Int) ≤ x6) && decide ((x6 : Int) < (l4.length : Int))) then
                                              (optK ((AVal.cells (l4.getD (Int.toNat x6) AVal.undef))[0]?) fun w19 =>
                                                (strK w19 fun ss20 =>
                                                  (bif decide ((l5.length + (1 : Nat)) * 40 ≤ 140737488355328) then
                                                    (P53_0 d k f0 l1 f2 l3 l4 (l5 ++ [(AVal.agg [(AVal.int .i64 2), (AVal.str ss20), (AVal.str [])])]) (IntKind.i64.wrap (x6 + 1)) h12)
                                                  else
                                                    Tr.fail)))
                                            else
                                              Tr.fail)
                                          else
                                            (bif (!bb9) then
                                              (bif (decide ((0 : Int) ≤ x6) && decide ((x6 : Int) < (l4.length : Int))) then
                                                (optK ((AVal.cells (l4.getD (Int.toNat x6) AVal.undef))[0]?) fun w21 =>
                                                  (strK w21 fun ss22 =>
                                                    (bif decide ((l5.length + (1 : Nat)) * 40 ≤ 140737488355328) then
                                                      (P53_0 d k f0 l1 f2 l3 l4 (l5 ++ [(AVal.agg [(AVal.int .i64 1), (AVal.str ss22), (AVal.str ss15)])]) (IntKind.i64.wrap (x6 + 1)) h12)
                                                    else
                                                      Tr.fail)))
                                              else
                                                Tr.fail)
                                            else
                                              (bif (!(ss6 == ss15)) then
                                                (bif (decide ((0 : Int) ≤ x6) && decide ((x6 : Int) < (l4.length : Int))) then
                                                  (optK ((AVal.cells (l4.getD (Int.toNat x6) AVal.undef))[0]?) fun w23 =>
                                                    (strK w23 fun ss24 =>
                                                      (bif decide ((l5.length + (1 : Nat)) * 40 ≤ 140737488355328) then
                                                        (P53_0 d k f0 l1 f2 l3 l4 (l5 ++ [(AVal.agg [(AVal.int .i64 1), (AVal.str ss24), (AVal.str ss15)])]) (IntKind.i64.wrap (x6 + 1)) h12)
                                                      else
                                                        Tr.fail)))
                                                else
                                                  Tr.fail)
                                              else
                                                (P53_0 d k f0 l1 f2 l3 l4 l5 (IntKind.i64.wrap (x6 + 1)) h12))))
                                        else
                                          (bif (!bb9) then
                                            (bif (decide ((0 : Int) ≤ x6) && decide ((x6 : Int) < (l4.length : Int))) then
                                              (optK ((AVal.cells (l4.getD (Int.toNat x6) AVal.undef))[0]?) fun w25 =>
                                                (strK w25 fun ss26 =>
                                                  (bif decide ((l5.length + (1 : Nat)) * 40 ≤ 140737488355328) then
                                                    (P53_0 d k f0 l1 f2 l3 l4 (l5 ++ [(AVal.agg [(AVal.int .i64 1), (AVal.str ss26), (AVal.str ss15)])]) (IntKind.i64.wrap (x6 + 1)) h12)
                                                  else
                                                    Tr.fail)))
                                            else
                                              Tr.fail)
                                          else
                                            (bif (!(ss6 == ss15)) then
                                              (bif (decide ((0 : Int) ≤ x6) && decide ((x6 : Int) < (l4.length : Int))) then
                                                (optK ((AVal.cells (l4.getD (Int.toNat x6) AVal.undef))[0]?) fun w27 =>
                                                  (strK w27 fun ss28 =>
                                                    (bif decide ((l5.length + (1 : Nat)) * 40 ≤ 140737488355328) then
                                                      (P53_0 d k f0 l1 f2 l3 l4 (l5 ++ [(AVal.agg [(AVal.int .i64 1), (AVal.str ss28), (AVal.str ss15)])]) (IntKind.i64.wrap (x6 + 1)) h12)
                                                    else
                                                      Tr.fail)))
                                              else
                                                Tr.fail)
                                            else
                                              (P53_0 d k f0 l1 f2 l3 l4 l5 (IntKind.i64.wrap (x6 + 1)) h12))))))))))))
                      else
                        Tr.fail)))))))))
    else
      Tr.fail)
  else
    (Tr.ret ([(AVal.sl false 4 l5)], h))) := by kernel_rfl
theorem F53_eq (d : Nat) (f0 : Bool) (l1 : List AVal) (f2 : Bool) (l3 : List AVal) (h : Heap) : evFn Cw (d + 1) 53 [(AVal.sl f0 3 l1), (AVal.sl f2 3 l3)] h =
  (bif decide (((0 : Nat) + l1.length) * 32 ≤ 140737488355328) then
    (bif decide ((([] ++ l1).length + l3.length) * 32 ≤ 140737488355328) then
      (runK (evFn Cw d 50 [(AVal.sl false 3 (([] ++ l1) ++ l3))] h) fun r1 h1 =>
        (consK r1 fun w2 ws3 =>
          (slOK 3 w2 fun es4 =>
            (nilK ws3
              (P53_0 d rounds f0 l1 f2 l3 es4 [] 0 h1)))))
    else
      Tr.fail)
  else
    Tr.fail) := by kernel_rfl
/- f52 strandline/strandlineref10.Same -/
noncomputable def P52_0 (d k : Nat) (f0 : Bool) (l1 : List AVal) (f2 : Bool) (l3 : List AVal) (x4 : Int) (h : Heap) : Tr Res :=
  loopPt Cw d 52 [true, true, false, true, true] [] k ⟨[(0, (EV.one (SV.val (AVal.sl f0 4 l1)))), (1, (EV.one (SV.val (AVal.sl f2 4 l3)))), (5, (EV.one (SV.val (AVal.int .i64 x4))))], []⟩ h
theorem P52_0_eq (d k : Nat) (f0 : Bool) (l1 : List AVal) (f2 : Bool) (l3 : List AVal) (x4 : Int) (h : Heap) : P52_0 d (k + 1) f0 l1 f2 l3 x4 h =
  (bif (decide ((x4 : Int) < (l1.length : Int))) then
    (bif (decide ((0 : Int) ≤ x4) && decide ((x4 : Int) < (l1.length : Int))) then
      (aggK 3 (l1.getD (Int.toNat x4) AVal.undef) fun cc1 =>
        (bif (decide ((0 : Int) ≤ x4) && decide ((x4 : Int) < (l3.length : Int))) then
          (aggK 3 (l3.getD (Int.toNat x4) AVal.undef) fun cc2 =>
            (bif ((plainOk Cw.P 63 (AVal.agg cc1)) && (plainOk Cw.P 63 (AVal.agg cc2))) then
              (bif (!(eqCells cc1 cc2)) then (Tr.ret ([(AVal.bool false)], h)) else (P52_0 d k f0 l1 f2 l3 (IntKind.i64.wrap (x4 + 1)) h))
            else
              Tr.fail))
        else
          Tr.fail))
    else
      Tr.fail)
  else
    (Tr.ret ([(AVal.bool true)], h))) := by kernel_rfl
theorem F52_eq (d : Nat) (f0 : Bool) (l1 : List AVal) (f2 : Bool) (l3 : List AVal) (h : Heap) : evFn Cw (d + 1) 52 [(AVal.sl f0 4 l1), (AVal.sl f2 4 l3)] h =
  (bif (((l1.length : Int) : Int) != (l3.length : Int)) then (Tr.ret ([(AVal.bool false)], h)) else (P52_0 d rounds f0 l1 f2 l3 0 h)) := by kernel_rfl
/- f7 strandline/strandlinelaw33.TableDiffs -/
noncomputable def P7_0 (d k : Nat) (l0 : List AVal) (v1 : AVal) (v2 : AVal) (f3 : Bool) (l4 : List AVal) (x5 : Int) (h : Heap) : Tr Res :=
  loopPt Cw d 7 [true, true, true, true, true, true, false, true, true] [] k ⟨[(5, (EV.one (SV.own (tokOf 5 0) 3 l0))), (7, (EV.one (SV.val v1))), (8, (EV.one (SV.val v2))), (9, (EV.one (SV.val (AVal.sl f3 4 l4)))), (10, (EV.one (SV.val (AVal.int .i64 x5))))], []⟩ h
theorem P7_0_eq (d k : Nat) (l0 : List AVal) (v1 : AVal) (v2 : AVal) (f3 : Bool) (l4 : List AVal) (x5 : Int) (h : Heap) : P7_0 d (k + 1) l0 v1 v2 f3 l4 x5 h =
  (bif (decide ((x5 : Int) < (l4.length : Int))) then
    (bif (decide ((0 : Int) ≤ x5) && decide ((x5 : Int) < (l4.length : Int))) then
      (aggK 3 (l4.getD (Int.toNat x5) AVal.undef) fun cc1 =>
        (runK (evFn Cw d 40 [(AVal.agg cc1)] h) fun r2 h2 =>
          (consK r2 fun w3 ws4 =>
            (boolK w3 fun bb5 =>
              (nilK ws4
                (bif (!bb5) then
                  (runK (evFn Cw d 28 [] h2) fun r6 h6 =>
                    (consK r6 fun w7 ws8 =>
                      (boolK w7 fun bb9 =>
                        (nilK ws8
                          (Tr.ret ([(AVal.bool bb9)], h6))))))
                else
                  (P7_0 d k l0 v1 v2 f3 l4 (IntKind.i64.wrap (x5 + 1)) h2)))))))
    else
      Tr.fail)
  else
    (runK (evFn Cw d 43 [v1] h) fun r10 h10 =>
      (consK r10 fun w11 ws12 =>
        (nilK ws12
          (runK (evFn Cw d 30 [w11, (AVal.sl f3 4 l4)] h10) fun r13 h13 =>
            (consK r13 fun w14 ws15 =>
              (intK .i64 w14 fun y16 =>
                (nilK ws15
                  (bif ((y16 : Int) == (l4.length : Int)) then
                    (runK (evFn Cw d 42 [w11, v2] h13) fun r17 h17 =>
                      (consK r17 fun w18 ws19 =>
                        (boolK w18 fun bb20 =>
                          (nilK ws19
                            (bif bb20 then
                              (runK (evFn Cw d 37 [v1] h17) fun r21 h21 =>
                                (consK r21 fun w22 ws23 =>
                                  (slOK 3 w22 fun es24 =>
                                    (nilK ws23
                                      (runK (evFn Cw d 36 [(AVal.sl false 3 es24), (AVal.sl false 3 l0)] h21) fun r25 h25 =>
                                        (consK r25 fun w26 ws27 =>
                                          (boolK w26 fun bb28 =>
                                            (nilK ws27
                                              (bif bb28 then
                                                (runK (evFn Cw d 28 [] h25) fun r29 h29 =>
                                                  (consK r29 fun w30 ws31 =>
                                                    (boolK w30 fun bb32 =>
                                                      (nilK ws31
                                                        (Tr.ret ([(AVal.bool bb32)], h29))))))
                                              else
                                                (Tr.ret ([(AVal.bool false)], h25)))))))))))
                            else
                              (Tr.ret ([(AVal.bool false)], h17)))))))
                  else
                    (Tr.ret ([(AVal.bool false)], h13))))))))))) := by kernel_rfl
theorem F7_eq (d : Nat) (f0 : Bool) (l1 : List AVal) (f2 : Bool) (l3 : List AVal) (h : Heap) : evFn Cw (d + 1) 7 [(AVal.sl f0 3 l1), (AVal.sl f2 3 l3)] h =
  (bif (decide (((l1.length : Int) : Int) > 60)) then
    (runK (evFn Cw d 28 [] h) fun r1 h1 =>
      (consK r1 fun w2 ws3 =>
        (boolK w2 fun bb4 =>
          (nilK ws3
            (Tr.ret ([(AVal.bool bb4)], h1))))))
  else
    (bif (decide (((l3.length : Int) : Int) > 60)) then
      (runK (evFn Cw d 28 [] h) fun r5 h5 =>
        (consK r5 fun w6 ws7 =>
          (boolK w6 fun bb8 =>
            (nilK ws7
              (Tr.ret ([(AVal.bool bb8)], h5))))))
    else
      (runK (evFn Cw d 50 [(AVal.sl f0 3 l1)] h) fun r9 h9 =>
        (consK r9 fun w10 ws11 =>
          (slOK 3 w10 fun es12 =>
            (nilK ws11
              (runK (evFn Cw d 50 [(AVal.sl f2 3 l3)] h9) fun r13 h13 =>
                (consK r13 fun w14 ws15 =>
                  (slOK 3 w14 fun es16 =>
                    (nilK ws15
                      (runK (evFn Cw d 51 [(AVal.sl f0 3 l1)] h13) fun r17 h17 =>
                        (consK r17 fun w18 ws19 =>
                          (nilK ws19
                            (runK (evFn Cw d 51 [(AVal.sl f2 3 l3)] h17) fun r20 h20 =>
                              (consK r20 fun w21 ws22 =>
                                (nilK ws22
                                  (runK (evFn Cw d 44 [w18, w21] h20) fun r23 h23 =>
                                    (consK r23 fun w24 ws25 =>
                                      (slK 4 w24 fun fl26 es27 =>
                                        (nilK ws25
                                          (runK (evFn Cw d 37 [w18] h23) fun r28 h28 =>
                                            (consK r28 fun w29 ws30 =>
                                              (slOK 3 w29 fun es31 =>
                                                (nilK ws30
                                                  (runK (evFn Cw d 36 [(AVal.sl false 3 es31), (AVal.sl false 3 es12)] h28) fun r32 h32 =>
                                                    (consK r32 fun w33 ws34 =>
                                                      (boolK w33 fun bb35 =>
                                                        (nilK ws34
                                                          (bif (!bb35) then
                                                            (Tr.ret ([(AVal.bool false)], h32))
                                                          else
                                                            (runK (evFn Cw d 53 [(AVal.sl false 3 es12), (AVal.sl false 3 es16)] h32) fun r36 h36 =>
                                                              (consK r36 fun w37 ws38 =>
                                                                (slOK 4 w37 fun es39 =>
                                                                  (nilK ws38
                                                                    (runK (evFn Cw d 52 [(AVal.sl fl26 4 es27), (AVal.sl false 4 es39)] h36) fun r40 h40 =>
                                                                      (consK r40 fun w41 ws42 =>
                                                                        (boolK w41 fun bb43 =>
                                                                          (nilK ws42
                                                                            (bif (!bb43) then
                                                                              (Tr.ret ([(AVal.bool false)], h40))
                                                                            else
                                                                              (runK (evFn Cw d 42 [w18, w21] h40) fun r44 h44 =>
                                                                                (consK r44 fun w45 ws46 =>
                                                                                  (boolK w45 fun bb47 =>
                                                                                    (nilK ws46
                                                                                      (runK (evFn Cw d 36 [(AVal.sl false 3 es12), (AVal.sl false 3 es16)] h44) fun r48 h48 =>
                                                                                        (consK r48 fun w49 ws50 =>
                                                                                          (boolK w49 fun bb51 =>
                                                                                            (nilK ws50
                                                                                              (bif (!(bb47 == bb51)) then
                                                                                                (Tr.ret ([(AVal.bool false)], h48))
                                                                                              else
                                                                                                (runK (evFn Cw d 42 [w18, w18] h48) fun r52 h52 =>
                                                                                                  (consK r52 fun w53 ws54 =>
                                                                                                    (boolK w53 fun bb55 =>
                                                                                                      (nilK ws54
                                                                                                        (bif (!bb55) then (Tr.ret ([(AVal.bool false)], h52)) else (P7_0 d rounds es12 w18 w21 fl26 es27 0 h52))))))))))))))))))))))))))))))))))))))))))))))))))))) := by kernel_rfl
end Go.Proofs.Ytdlcjibefbnckaa.Wa
