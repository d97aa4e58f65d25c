/- Texts of this proof, laid together: the evaluator, what it comes to, and the laws. No condition. -/
import Derived.Test.YtdlcjibefbnckaaDoorM32
import Derived.Test.YtdlcjibefbnckaaDoorWvLb
import Derived.KernelRfl
import Derived.Test.YtdlcjibefbnckaaDoorWvLc
section
/- What the evaluator comes to in these functions. -/
namespace Go.Proofs.YtdlcjibefbnckaaDoor.Wa
open Go Go.Weave
set_option maxRecDepth 100000
set_option linter.unusedVariables false
/- f11 strandline/strandlinelaw35.small -/
noncomputable def P11_0 (d k : Nat) (f0 : Bool) (l1 : List AVal) (x2 : Int) (h : Heap) : Tr Res :=
  loopPt Cw d 11 [true, false, true, true] [] k ⟨[(0, (EV.one (SV.val (AVal.sl f0 6 l1)))), (3, (EV.one (SV.val (AVal.int .i64 x2))))], []⟩ h
theorem P11_0_eq (d k : Nat) (f0 : Bool) (l1 : List AVal) (x2 : Int) (h : Heap) : P11_0 d (k + 1) f0 l1 x2 h =
  (bif (decide ((x2 : Int) < (l1.length : Int))) then
    (bif (decide ((0 : Int) ≤ x2) && decide ((x2 : Int) < (l1.length : Int))) then
      (optK ((AVal.cells (l1.getD (Int.toNat x2) AVal.undef))[4]?) fun w1 =>
        (slK 0 w1 fun fl2 es3 =>
          (bif (decide (((es3.length : Int) : Int) > 600)) then (Tr.ret ([(AVal.bool false)], h)) else (P11_0 d k f0 l1 (IntKind.i64.wrap (x2 + 1)) h))))
    else
      Tr.fail)
  else
    (Tr.ret ([(AVal.bool (decide (((l1.length : Int) : Int) ≤ 60)))], h))) := by kernel_rfl
theorem F11_eq (d : Nat) (f0 : Bool) (l1 : List AVal) (h : Heap) : evFn Cw (d + 1) 11 [(AVal.sl f0 6 l1)] h =
  (P11_0 d rounds f0 l1 0 h) := by kernel_rfl
/- f29 strandline/table.New -/
theorem F29_eq (d : Nat) (h : Heap) : evFn Cw (d + 1) 29 [] h =
  (runK (evFn Cw d 45 [] h) fun r1 h1 =>
    (consK r1 fun w2 ws3 =>
      (nilK ws3
        (bif (((!(AVal.isAgg w2)) && true) && true) then
          (Tr.ret ([(AVal.obj h1.objs.length 0)], (Heap.push h1 (Go.Weave.Obj.cells ([w2, (AVal.int .i64 0)].map HCell.val)))))
        else
          Tr.fail)))) := by kernel_rfl
/- f72 (*strandline/table.Table).put -/
theorem F72_eq (d : Nat) (i0 : Nat) (s1 : List UInt8) (s2 : List UInt8) (h : Heap) : evFn Cw (d + 1) 72 [(AVal.obj i0 0), (AVal.str s1), (AVal.str s2)] h =
  (optK (Heap.cell? h i0 0) fun z1 =>
    (runK (evFn Cw d 83 [(HCell.toA z1), (AVal.str s1), (AVal.str s2)] h) fun r2 h2 =>
      (consK r2 fun w3 ws4 =>
        (strK w3 fun ss5 =>
          (consK ws4 fun w6 ws7 =>
            (boolK w6 fun bb8 =>
              (nilK ws7
                (optK (Heap.cell? h2 i0 1) fun z9 =>
                  (intK .i64 (HCell.toA z9) fun y10 =>
                    (optK (Heap.cell? h2 i0 1) fun _ =>
                      (bif (!bb8) then
                        (optK (Heap.cell? (Heap.setCell h2 i0 1 (HCell.val (AVal.int .i64 (IntKind.i64.wrap (y10 + (IntKind.i64.wrap ((s2.length : Int) - (ss5.length : Int)))))))) i0 1) fun z11 =>
                          (intK .i64 (HCell.toA z11) fun y12 =>
                            (optK (Heap.cell? (Heap.setCell h2 i0 1 (HCell.val (AVal.int .i64 (IntKind.i64.wrap (y10 + (IntKind.i64.wrap ((s2.length : Int) - (ss5.length : Int)))))))) i0 1) fun _ =>
                              (Tr.ret ([], (Heap.setCell (Heap.setCell h2 i0 1 (HCell.val (AVal.int .i64 (IntKind.i64.wrap (y10 + (IntKind.i64.wrap ((s2.length : Int) - (ss5.length : Int)))))))) i0 1 (HCell.val (AVal.int .i64 (IntKind.i64.wrap (y12 + (s1.length : Int)))))))))))
                      else
                        (Tr.ret ([], (Heap.setCell h2 i0 1 (HCell.val (AVal.int .i64 (IntKind.i64.wrap (y10 + (IntKind.i64.wrap ((s2.length : Int) - (ss5.length : Int))))))))))))))))))))) := by kernel_rfl
/- f61 strandline/table.Of -/
noncomputable def P61_0 (d k : Nat) (v0 : AVal) (f1 : Bool) (l2 : List AVal) (x3 : Int) (x4 : Int) (h : Heap) : Tr Res :=
  loopPt Cw d 61 [true, true, false, true, true] [] k ⟨[(3, (EV.one (SV.val v0))), (7, (EV.one (SV.val (AVal.sl f1 3 l2)))), (8, (EV.one (SV.val (AVal.int .i64 x3)))), (9, (EV.one (SV.val (AVal.int .i64 x4))))], []⟩ h
theorem P61_0_eq (d k : Nat) (v0 : AVal) (f1 : Bool) (l2 : List AVal) (x3 : Int) (x4 : Int) (h : Heap) : P61_0 d (k + 1) v0 f1 l2 x3 x4 h =
  (bif (decide ((x4 : Int) < x3)) then
    (bif (decide ((0 : Int) ≤ x4) && decide ((x4 : Int) < (l2.length : Int))) then
      (aggK 2 (l2.getD (Int.toNat x4) AVal.undef) fun cc1 =>
        (bif ((cc1.length == 2) && true) then
          (optK (cc1[0]?) fun w2 =>
            (strK w2 fun ss3 =>
              (optK (cc1[1]?) fun w4 =>
                (strK w4 fun ss5 =>
                  (runK (evFn Cw d 72 [v0, (AVal.str ss3), (AVal.str ss5)] h) fun r6 h6 =>
                    (nilK r6
                      (P61_0 d k v0 f1 l2 x3 (IntKind.i64.wrap (x4 + 1)) h6)))))))
        else
          Tr.fail))
    else
      Tr.fail)
  else
    (Tr.ret ([v0], h))) := by kernel_rfl
theorem F61_eq (d : Nat) (f0 : Bool) (l1 : List AVal) (h : Heap) : evFn Cw (d + 1) 61 [(AVal.sl f0 3 l1)] h =
  (runK (evFn Cw d 29 [] h) fun r1 h1 =>
    (consK r1 fun w2 ws3 =>
      (nilK ws3
        (P61_0 d rounds w2 f0 l1 (l1.length : Int) 0 h1)))) := by kernel_rfl
/- f46 (*strandline/replay.replayer).whole -/
theorem F46_eq (d : Nat) (i0 : Nat) (f1 : Bool) (l2 : List AVal) (h : Heap) : evFn Cw (d + 1) 46 [(AVal.obj i0 0), (AVal.sl f1 0 l2)] h =
  (runK (evFn Cw d 6 [(AVal.sl f1 0 l2)] h) fun r1 h1 =>
    (consK r1 fun w2 ws3 =>
      (aggK 3 w2 fun cc4 =>
        (consK ws3 fun w5 ws6 =>
          (intK .i64 w5 fun y7 =>
            (nilK ws6
              (bif ((cc4.length == 3) && true) then
                (bif ((y7 : Int) != 0) then
                  (Tr.ret ([(AVal.bool false)], h1))
                else
                  (optK (Heap.cell? h1 i0 3) fun z8 =>
                    (slK 0 (HCell.toA z8) fun _ es9 =>
                      (optK (Heap.cell? h1 i0 3) fun z10 =>
                        (slK 0 (HCell.toA z10) fun _ es11 =>
                          (optK (cc4[0]?) fun w12 =>
                            (intK .i64 w12 fun y13 =>
                              (bif ((decide ((0 : Int) ≤ (if ((IntKind.i64.wrap ((es11.length : Int) - y13)) : Int) > 0 then (IntKind.i64.wrap ((es11.length : Int) - y13)) else 0)) && decide (((if ((IntKind.i64.wrap ((es11.length : Int) - y13)) : Int) > 0 then (IntKind.i64.wrap ((es11.length : Int) - y13)) else 0) : Int) ≤ (es9.length : Int))) && decide (((es9.length : Int) : Int) ≤ (es9.length : Int))) then
                                (bif decide (0 + 3 ≤ cc4.length) then
                                  (runK (evFn Cw d 60 [(AVal.agg ((cc4.drop 0).take 3)), (AVal.sl false 0 (Go.Weave.part (if ((IntKind.i64.wrap ((es11.length : Int) - y13)) : Int) > 0 then (IntKind.i64.wrap ((es11.length : Int) - y13)) else 0) (es9.length : Int) es9))] h1) fun r14 h14 =>
                                    (consK r14 fun w15 ws16 =>
                                      (slOK 3 w15 fun es17 =>
                                        (consK ws16 fun w18 ws19 =>
                                          (intK .i64 w18 fun y20 =>
                                            (nilK ws19
                                              (bif ((y20 : Int) != 0) then
                                                (optK (Heap.cell? h14 i0 4) fun z21 =>
                                                  (boolK (HCell.toA z21) fun bb22 =>
                                                    (Tr.ret ([(AVal.bool bb22)], h14))))
                                              else
                                                (Tr.anyL [
                                                  (runK (evFn Cw d 61 [(AVal.sl false 3 es17)] h14) fun r23 h23 =>
                                                    (consK r23 fun w24 ws25 =>
                                                      (nilK ws25
                                                        (optK (Heap.cell? h23 i0 1) fun z26 =>
                                                          (intK .i64 (HCell.toA z26) fun y27 =>
                                                            (bif (((!(AVal.isAgg w24)) && true) && true) then
                                                              (putCellsK h23 i0 0 3 [w24, (AVal.int .i64 (IntKind.i64.wrap (y27 + 1))), (AVal.int .i64 0)] fun h28 =>
                                                                (Tr.ret ([(AVal.bool true)], h28)))
                                                            else
                                                              Tr.fail)))))),
                                                  (optK (Heap.cell? h14 i0 1) fun z23 =>
                                                    (intK .i64 (HCell.toA z23) fun y24 =>
                                                      (runK (evFn Cw d 61 [(AVal.sl false 3 es17)] h14) fun r25 h25 =>
                                                        (consK r25 fun w26 ws27 =>
                                                          (nilK ws27
                                                            (bif (((!(AVal.isAgg w26)) && true) && true) then
                                                              (putCellsK h25 i0 0 3 [w26, (AVal.int .i64 (IntKind.i64.wrap (y24 + 1))), (AVal.int .i64 0)] fun h28 =>
                                                                (Tr.ret ([(AVal.bool true)], h28)))
                                                            else
                                                              Tr.fail))))))]))))))))
                                else
                                  Tr.fail)
                              else
                                Tr.fail))))))))
              else
                Tr.fail))))))) := by kernel_rfl
/- f84 (*strandline/op.reader).text -/
theorem F84_eq (d : Nat) (i0 : Nat) (h : Heap) : evFn Cw (d + 1) 84 [(AVal.obj i0 0)] h =
  (optK (Heap.cell? h i0 2) fun z1 =>
    (intK .i64 (HCell.toA z1) fun y2 =>
      (bif ((y2 : Int) != 0) then
        (Tr.ret ([(AVal.str [])], h))
      else
        (Tr.anyL [
          (optK (Heap.cell? h i0 0) fun z3 =>
            (slK 0 (HCell.toA z3) fun _ es4 =>
              (optK (Heap.cell? h i0 1) fun z5 =>
                (intK .i64 (HCell.toA z5) fun y6 =>
                  (bif ((decide ((0 : Int) ≤ y6) && decide ((y6 : Int) ≤ (es4.length : Int))) && decide (((es4.length : Int) : Int) ≤ (es4.length : Int))) then
                    (runK (evFn Cw d 82 [(AVal.sl false 0 (Go.Weave.part y6 (es4.length : Int) es4))] h) fun r7 h7 =>
                      (consK r7 fun w8 ws9 =>
                        (slOK 0 w8 fun es10 =>
                          (consK ws9 fun w11 ws12 =>
                            (intK .i64 w11 fun y13 =>
                              (consK ws12 fun w14 ws15 =>
                                (intK .i64 w14 fun y16 =>
                                  (nilK ws15
                                    (optK (Heap.cell? h7 i0 1) fun z17 =>
                                      (intK .i64 (HCell.toA z17) fun y18 =>
                                        (optK (Heap.cell? h7 i0 1) fun _ =>
                                          (optK (Heap.cell? (Heap.setCell h7 i0 1 (HCell.val (AVal.int .i64 (IntKind.i64.wrap (y18 + y13))))) i0 2) fun _ =>
                                            (optK (toBytes es10) fun ss19 =>
                                              (Tr.ret ([(AVal.str ss19)], (Heap.setCell (Heap.setCell h7 i0 1 (HCell.val (AVal.int .i64 (IntKind.i64.wrap (y18 + y13))))) i0 2 (HCell.val (AVal.int .i64 y16))))))))))))))))))
                  else
                    Tr.fail))))),
          (optK (Heap.cell? h i0 1) fun z3 =>
            (intK .i64 (HCell.toA z3) fun y4 =>
              (optK (Heap.cell? h i0 0) fun z5 =>
                (slK 0 (HCell.toA z5) fun _ es6 =>
                  (bif ((decide ((0 : Int) ≤ y4) && decide ((y4 : Int) ≤ (es6.length : Int))) && decide (((es6.length : Int) : Int) ≤ (es6.length : Int))) then
                    (runK (evFn Cw d 82 [(AVal.sl false 0 (Go.Weave.part y4 (es6.length : Int) es6))] h) fun r7 h7 =>
                      (consK r7 fun w8 ws9 =>
                        (slOK 0 w8 fun es10 =>
                          (consK ws9 fun w11 ws12 =>
                            (intK .i64 w11 fun y13 =>
                              (consK ws12 fun w14 ws15 =>
                                (intK .i64 w14 fun y16 =>
                                  (nilK ws15
                                    (optK (Heap.cell? h7 i0 1) fun z17 =>
                                      (intK .i64 (HCell.toA z17) fun y18 =>
                                        (optK (Heap.cell? h7 i0 1) fun _ =>
                                          (optK (Heap.cell? (Heap.setCell h7 i0 1 (HCell.val (AVal.int .i64 (IntKind.i64.wrap (y18 + y13))))) i0 2) fun _ =>
                                            (optK (toBytes es10) fun ss19 =>
                                              (Tr.ret ([(AVal.str ss19)], (Heap.setCell (Heap.setCell h7 i0 1 (HCell.val (AVal.int .i64 (IntKind.i64.wrap (y18 + y13))))) i0 2 (HCell.val (AVal.int .i64 y16))))))))))))))))))
                  else
                    Tr.fail)))))])))) := by kernel_rfl
/- f75 strandline/op.Right -/
theorem F75_eq (d : Nat) (x0 : Int) (s1 : List UInt8) (s2 : List UInt8) (h : Heap) : evFn Cw (d + 1) 75 [(AVal.agg [(AVal.int .i64 x0), (AVal.str s1), (AVal.str s2)])] h =
  (bif (decide (((s1.length : Int) : Int) < 1)) then
    (Tr.ret ([(AVal.bool false)], h))
  else
    (bif (decide (((s1.length : Int) : Int) > 24)) then
      (Tr.ret ([(AVal.bool false)], h))
    else
      (bif ((x0 : Int) == 1) then
        (Tr.ret ([(AVal.bool (decide (((s2.length : Int) : Int) ≤ 128)))], h))
      else
        (bif ((x0 : Int) == 2) then (Tr.ret ([(AVal.bool (s2 == []))], h)) else (Tr.ret ([(AVal.bool false)], h)))))) := by kernel_rfl
/- f73 strandline/op.Get -/
noncomputable def P73_0 (d : Nat) (i0 : Nat) (x1 : Int) (s2 : List UInt8) (s3 : List UInt8) (x4 : Int) (s5 : List UInt8) (s6 : List UInt8) (h : Heap) : Tr Res :=
  heldPt Cw d 73 [true, true, true, true, true, true, true, true] [] ⟨[(2, (EV.one (SV.loc 2 0))), (5, (EV.one (SV.loc 5 0))), (6, (EV.one (SV.val (AVal.obj i0 0))))], [(2, (Box.plain [(AVal.int .i64 x1), (AVal.str s2), (AVal.str s3)])), (5, (Box.plain [(AVal.int .i64 x4), (AVal.str s5), (AVal.str s6)]))]⟩ h
noncomputable def P73_1 (d : Nat) (i0 : Nat) (x1 : Int) (s2 : List UInt8) (s3 : List UInt8) (x4 : Int) (s5 : List UInt8) (s6 : List UInt8) (h : Heap) : Tr Res :=
  heldPt Cw d 73 [true, true, true, true, true, true, true, true, true] [] ⟨[(2, (EV.one (SV.loc 2 0))), (5, (EV.one (SV.loc 5 0))), (6, (EV.one (SV.val (AVal.obj i0 0))))], [(2, (Box.plain [(AVal.int .i64 x1), (AVal.str s2), (AVal.str s3)])), (5, (Box.plain [(AVal.int .i64 x4), (AVal.str s5), (AVal.str s6)]))]⟩ h
theorem P73_0_eq (d : Nat) (i0 : Nat) (x1 : Int) (s2 : List UInt8) (s3 : List UInt8) (x4 : Int) (s5 : List UInt8) (s6 : List UInt8) (h : Heap) : P73_0 d i0 x1 s2 s3 x4 s5 s6 h =
  (optK (Heap.cell? h i0 2) fun z1 =>
    (intK .i64 (HCell.toA z1) fun y2 =>
      (bif ((y2 : Int) == 0) then
        (runK (evFn Cw d 75 [(AVal.agg [(AVal.int .i64 x4), (AVal.str s5), (AVal.str s6)])] h) fun r3 h3 =>
          (consK r3 fun w4 ws5 =>
            (boolK w4 fun bb6 =>
              (nilK ws5
                (bif (!bb6) then
                  (optK (Heap.cell? h3 i0 2) fun _ =>
                    (P73_1 d i0 x1 s2 s3 x4 s5 s6 (Heap.setCell h3 i0 2 (HCell.val (AVal.int .i64 2)))))
                else
                  (P73_1 d i0 x1 s2 s3 x4 s5 s6 h3))))))
      else
        (P73_1 d i0 x1 s2 s3 x4 s5 s6 h)))) := (heldPt_eq _ _ _ _ _ _ _).trans (by kernel_rfl)
theorem P73_1_eq (d : Nat) (i0 : Nat) (x1 : Int) (s2 : List UInt8) (s3 : List UInt8) (x4 : Int) (s5 : List UInt8) (s6 : List UInt8) (h : Heap) : P73_1 d i0 x1 s2 s3 x4 s5 s6 h =
  (optK (Heap.cell? h i0 2) fun z1 =>
    (intK .i64 (HCell.toA z1) fun y2 =>
      (bif ((y2 : Int) != 0) then
        (sameL 2
          (optK (Heap.cell? h i0 2) fun z3 =>
            (intK .i64 (HCell.toA z3) fun y4 =>
              (Tr.ret ([(AVal.agg [(AVal.int .i64 0), (AVal.str []), (AVal.str [])]), (AVal.int .i64 0), (AVal.int .i64 y4)], h)))))
      else
        (sameL 2
          (optK (Heap.cell? h i0 1) fun z5 =>
            (intK .i64 (HCell.toA z5) fun y6 =>
              (Tr.ret ([(AVal.agg [(AVal.int .i64 x4), (AVal.str s5), (AVal.str s6)]), (AVal.int .i64 y6), (AVal.int .i64 0)], h)))))))) := (heldPt_eq _ _ _ _ _ _ _).trans (by kernel_rfl)
theorem F73_eq (d : Nat) (f0 : Bool) (l1 : List AVal) (h : Heap) : evFn Cw (d + 1) 73 [(AVal.sl f0 0 l1)] h =
  (bif (((l1.length : Int) : Int) == 0) then
    (Tr.ret ([(AVal.agg [(AVal.int .i64 0), (AVal.str []), (AVal.str [])]), (AVal.int .i64 0), (AVal.int .i64 1)], h))
  else
    (bif decide ((0 : Int) < (l1.length : Int)) then
      (intK .u8 (l1.getD 0 AVal.undef) fun y1 =>
        (bif (((IntKind.i64.wrap y1) : Int) != 1) then
          (bif (((IntKind.i64.wrap y1) : Int) != 2) then
            (Tr.ret ([(AVal.agg [(AVal.int .i64 0), (AVal.str []), (AVal.str [])]), (AVal.int .i64 0), (AVal.int .i64 2)], h))
          else
            (runK (evFn Cw d 84 [(AVal.obj h.objs.length 0)] (Heap.push h (Go.Weave.Obj.cells ([(AVal.sl f0 0 l1), (AVal.int .i64 1), (AVal.int .i64 0)].map HCell.val)))) fun r2 h2 =>
              (consK r2 fun w3 ws4 =>
                (strK w3 fun ss5 =>
                  (nilK ws4
                    (bif (((IntKind.i64.wrap y1) : Int) == 1) then
                      (runK (evFn Cw d 84 [(AVal.obj h.objs.length 0)] h2) fun r6 h6 =>
                        (consK r6 fun w7 ws8 =>
                          (strK w7 fun ss9 =>
                            (nilK ws8
                              (P73_0 d h.objs.length 0 [] [] (IntKind.i64.wrap y1) ss5 ss9 h6)))))
                    else
                      (P73_0 d h.objs.length 0 [] [] (IntKind.i64.wrap y1) ss5 [] h2)))))))
        else
          (runK (evFn Cw d 84 [(AVal.obj h.objs.length 0)] (Heap.push h (Go.Weave.Obj.cells ([(AVal.sl f0 0 l1), (AVal.int .i64 1), (AVal.int .i64 0)].map HCell.val)))) fun r10 h10 =>
            (consK r10 fun w11 ws12 =>
              (strK w11 fun ss13 =>
                (nilK ws12
                  (bif (((IntKind.i64.wrap y1) : Int) == 1) then
                    (runK (evFn Cw d 84 [(AVal.obj h.objs.length 0)] h10) fun r14 h14 =>
                      (consK r14 fun w15 ws16 =>
                        (strK w15 fun ss17 =>
                          (nilK ws16
                            (P73_0 d h.objs.length 0 [] [] (IntKind.i64.wrap y1) ss13 ss17 h14)))))
                  else
                    (P73_0 d h.objs.length 0 [] [] (IntKind.i64.wrap y1) ss13 [] h10))))))))
    else
      Tr.fail)) := by kernel_rfl
/- f74 strandline/batch.Right -/
noncomputable def P74_0 (d k : Nat) (f0 : Bool) (l1 : List AVal) (f2 : Bool) (l3 : List AVal) (x4 : Int) (x5 : Int) (h : Heap) : Tr Res :=
  loopPt Cw d 74 [true, false, true, true] [] k ⟨[(0, (EV.one (SV.val (AVal.sl f0 4 l1)))), (5, (EV.one (SV.val (AVal.sl f2 4 l3)))), (6, (EV.one (SV.val (AVal.int .i64 x4)))), (7, (EV.one (SV.val (AVal.int .i64 x5))))], []⟩ h
theorem P74_0_eq (d k : Nat) (f0 : Bool) (l1 : List AVal) (f2 : Bool) (l3 : List AVal) (x4 : Int) (x5 : Int) (h : Heap) : P74_0 d (k + 1) f0 l1 f2 l3 x4 x5 h =
  (bif (decide ((x5 : Int) < x4)) then
    (bif (decide ((0 : Int) ≤ x5) && decide ((x5 : Int) < (l3.length : Int))) then
      (aggK 3 (l3.getD (Int.toNat x5) AVal.undef) fun cc1 =>
        (bif ((cc1.length == 3) && true) then
          (bif decide (0 + 3 ≤ cc1.length) then
            (runK (evFn Cw d 75 [(AVal.agg ((cc1.drop 0).take 3))] h) fun r2 h2 =>
              (consK r2 fun w3 ws4 =>
                (boolK w3 fun bb5 =>
                  (nilK ws4
                    (bif (!bb5) then (Tr.ret ([(AVal.bool false)], h2)) else (P74_0 d k f0 l1 f2 l3 x4 (IntKind.i64.wrap (x5 + 1)) h2))))))
          else
            Tr.fail)
        else
          Tr.fail))
    else
      Tr.fail)
  else
    (bif (decide (((l1.length : Int) : Int) ≥ 1)) then (Tr.ret ([(AVal.bool (decide (((l1.length : Int) : Int) ≤ 8)))], h)) else (Tr.ret ([(AVal.bool false)], h)))) := by kernel_rfl
theorem F74_eq (d : Nat) (f0 : Bool) (l1 : List AVal) (h : Heap) : evFn Cw (d + 1) 74 [(AVal.sl f0 4 l1)] h =
  (P74_0 d rounds f0 l1 f0 l1 (l1.length : Int) 0 h) := by kernel_rfl
/- f62 strandline/batch.Decode -/
noncomputable def P62_0 (d k : Nat) (f0 : Bool) (l1 : List AVal) (l2 : List AVal) (h : Heap) : Tr Res :=
  loopPt Cw d 62 [true, true, false, true] [] k ⟨[(0, (EV.one (SV.val (AVal.sl f0 0 l1)))), (4, (EV.one (SV.own (tokOf 4 0) 4 l2)))], []⟩ h
theorem P62_0_eq (d k : Nat) (f0 : Bool) (l1 : List AVal) (l2 : List AVal) (h : Heap) : P62_0 d (k + 1) f0 l1 l2 h =
  (bif (decide (((l1.length : Int) : Int) > 0)) then
    (runK (evFn Cw d 73 [(AVal.sl f0 0 l1)] h) fun r1 h1 =>
      (consK r1 fun w2 ws3 =>
        (aggK 3 w2 fun cc4 =>
          (consK ws3 fun w5 ws6 =>
            (intK .i64 w5 fun y7 =>
              (consK ws6 fun w8 ws9 =>
                (intK .i64 w8 fun y10 =>
                  (nilK ws9
                    (bif ((cc4.length == 3) && true) then
                      (bif ((y10 : Int) != 0) then
                        (Tr.ret ([(AVal.sl true 0 []), (AVal.int .i64 y10)], h1))
                      else
                        (bif decide (0 + 3 ≤ cc4.length) then
                          (bif ((decide ((0 : Int) ≤ y7) && decide ((y7 : Int) ≤ (l1.length : Int))) && decide (((l1.length : Int) : Int) ≤ (l1.length : Int))) then
                            (bif ((((cc4.drop 0).take 3).length == 3) && true) then
                              (bif decide ((l2.length + (1 : Nat)) * 40 ≤ 140737488355328) then
                                (P62_0 d k f0 (Go.Weave.part y7 (l1.length : Int) l1) (l2 ++ [(AVal.agg ((cc4.drop 0).take 3))]) h1)
                              else
                                Tr.fail)
                            else
                              Tr.fail)
                          else
                            Tr.fail)
                        else
                          Tr.fail))
                    else
                      Tr.fail)))))))))
  else
    (runK (evFn Cw d 74 [(AVal.sl false 4 l2)] h) fun r11 h11 =>
      (consK r11 fun w12 ws13 =>
        (boolK w12 fun bb14 =>
          (nilK ws13
            (bif (!bb14) then (Tr.ret ([(AVal.sl true 0 []), (AVal.int .i64 2)], h11)) else (Tr.ret ([(AVal.sl false 4 l2), (AVal.int .i64 0)], h11)))))))) := by kernel_rfl
theorem F62_eq (d : Nat) (f0 : Bool) (l1 : List AVal) (h : Heap) : evFn Cw (d + 1) 62 [(AVal.sl f0 0 l1)] h =
  (P62_0 d rounds f0 l1 [] h) := by kernel_rfl
/- f63 (*strandline/table.Table).Apply -/
noncomputable def P63_0 (d k : Nat) (i0 : Nat) (x1 : Int) (f2 : Bool) (l3 : List AVal) (x4 : Int) (x5 : Int) (h : Heap) : Tr Res :=
  loopPt Cw d 63 [true, true, false, true, true] [] k ⟨[(0, (EV.one (SV.val (AVal.obj i0 0)))), (5, (EV.one (SV.val (AVal.int .i64 x1)))), (10, (EV.one (SV.val (AVal.sl f2 4 l3)))), (11, (EV.one (SV.val (AVal.int .i64 x4)))), (12, (EV.one (SV.val (AVal.int .i64 x5))))], []⟩ h
theorem P63_0_eq (d k : Nat) (i0 : Nat) (x1 : Int) (f2 : Bool) (l3 : List AVal) (x4 : Int) (x5 : Int) (h : Heap) : P63_0 d (k + 1) i0 x1 f2 l3 x4 x5 h =
  (bif (decide ((x5 : Int) < x4)) then
    (bif (decide ((0 : Int) ≤ x5) && decide ((x5 : Int) < (l3.length : Int))) then
      (aggK 3 (l3.getD (Int.toNat x5) AVal.undef) fun cc1 =>
        (bif ((cc1.length == 3) && true) then
          (bif decide (0 + 3 ≤ cc1.length) then
            (runK (evFn Cw d 75 [(AVal.agg ((cc1.drop 0).take 3))] h) fun r2 h2 =>
              (consK r2 fun w3 ws4 =>
                (boolK w3 fun bb5 =>
                  (nilK ws4
                    (bif (!bb5) then
                      (P63_0 d k i0 x1 f2 l3 x4 (IntKind.i64.wrap (x5 + 1)) h2)
                    else
                      (optK (cc1[0]?) fun w6 =>
                        (intK .i64 w6 fun y7 =>
                          (bif ((y7 : Int) == 1) then
                            (optK (cc1[1]?) fun w8 =>
                              (strK w8 fun ss9 =>
                                (optK (cc1[2]?) fun w10 =>
                                  (strK w10 fun ss11 =>
                                    (runK (evFn Cw d 72 [(AVal.obj i0 0), (AVal.str ss9), (AVal.str ss11)] h2) fun r12 h12 =>
                                      (nilK r12
                                        (P63_0 d k i0 (IntKind.i64.wrap (x1 + 1)) f2 l3 x4 (IntKind.i64.wrap (x5 + 1)) h12)))))))
                          else
                            (optK (Heap.cell? h2 i0 0) fun z13 =>
                              (optK (cc1[1]?) fun w14 =>
                                (strK w14 fun ss15 =>
                                  (runK (evFn Cw d 76 [(HCell.toA z13), (AVal.str ss15)] h2) fun r16 h16 =>
                                    (consK r16 fun w17 ws18 =>
                                      (strK w17 fun ss19 =>
                                        (consK ws18 fun w20 ws21 =>
                                          (boolK w20 fun bb22 =>
                                            (nilK ws21
                                              (bif bb22 then
                                                (optK (Heap.cell? h16 i0 1) fun z23 =>
                                                  (intK .i64 (HCell.toA z23) fun y24 =>
                                                    (optK (cc1[1]?) fun w25 =>
                                                      (strK w25 fun ss26 =>
                                                        (optK (Heap.cell? h16 i0 1) fun _ =>
                                                          (P63_0 d k i0 (IntKind.i64.wrap (x1 + 1)) f2 l3 x4 (IntKind.i64.wrap (x5 + 1)) (Heap.setCell h16 i0 1 (HCell.val (AVal.int .i64 (IntKind.i64.wrap (y24 - (IntKind.i64.wrap ((ss26.length : Int) + (ss19.length : Int))))))))))))))
                                              else
                                                (P63_0 d k i0 (IntKind.i64.wrap (x1 + 1)) f2 l3 x4 (IntKind.i64.wrap (x5 + 1)) h16)))))))))))))))))))
          else
            Tr.fail)
        else
          Tr.fail))
    else
      Tr.fail)
  else
    (Tr.ret ([(AVal.int .i64 x1)], h))) := by kernel_rfl
theorem F63_eq (d : Nat) (i0 : Nat) (f1 : Bool) (l2 : List AVal) (h : Heap) : evFn Cw (d + 1) 63 [(AVal.obj i0 0), (AVal.sl f1 4 l2)] h =
  (P63_0 d rounds i0 0 f1 l2 (l2.length : Int) 0 h) := by kernel_rfl
/- f47 (*strandline/replay.replayer).apply -/
theorem F47_eq (d : Nat) (i0 : Nat) (f1 : Bool) (l2 : List AVal) (h : Heap) : evFn Cw (d + 1) 47 [(AVal.obj i0 0), (AVal.sl f1 0 l2)] h =
  (runK (evFn Cw d 62 [(AVal.sl f1 0 l2)] h) fun r1 h1 =>
    (consK r1 fun w2 ws3 =>
      (slOK 4 w2 fun es4 =>
        (consK ws3 fun w5 ws6 =>
          (intK .i64 w5 fun y7 =>
            (nilK ws6
              (bif ((y7 : Int) != 0) then
                (Tr.ret ([(AVal.bool false)], h1))
              else
                (optK (Heap.cell? h1 i0 0) fun z8 =>
                  (bif AVal.isPtr (HCell.toA z8) then
                    (bif (!(AVal.isNilp (HCell.toA z8))) then
                      (optK (Heap.cell? h1 i0 0) fun z9 =>
                        (runK (evFn Cw d 63 [(HCell.toA z9), (AVal.sl false 4 es4)] h1) fun r10 h10 =>
                          (consK r10 fun w11 ws12 =>
                            (intK .i64 w11 fun y13 =>
                              (nilK ws12
                                (optK (Heap.cell? h10 i0 2) fun z14 =>
                                  (intK .i64 (HCell.toA z14) fun y15 =>
                                    (optK (Heap.cell? h10 i0 2) fun _ =>
                                      (Tr.ret ([(AVal.bool true)], (Heap.setCell h10 i0 2 (HCell.val (AVal.int .i64 (IntKind.i64.wrap (y15 + 1)))))))))))))))
                    else
                      (Tr.ret ([(AVal.bool true)], h1)))
                  else
                    Tr.fail))))))))) := by kernel_rfl
/- f30 (*strandline/replay.replayer).one -/
theorem F30_eq (d : Nat) (i0 : Nat) (x1 : Int) (x2 : Int) (x3 : Int) (x4 : Int) (f5 : Bool) (l6 : List AVal) (h : Heap) : evFn Cw (d + 1) 30 [(AVal.obj i0 0), (AVal.agg [(AVal.int .i64 x1), (AVal.int .i64 x2), (AVal.int .i64 x3), (AVal.int .i64 x4), (AVal.sl f5 0 l6)])] h =
  (bif ((x1 : Int) == 3) then
    (runK (evFn Cw d 27 [(AVal.sl true 0 [(AVal.sl f5 0 l6)])] h) fun r1 h1 =>
      (consK r1 fun w2 ws3 =>
        (aggK 3 w2 fun cc4 =>
          (consK ws3 fun w5 ws6 =>
            (intK .i64 w5 fun y7 =>
              (nilK ws6
                (bif ((cc4.length == 3) && true) then
                  (sameL 2
                    (optK (Heap.cell? h1 i0 3) fun z8 =>
                      (slK 0 (HCell.toA z8) fun _ es9 =>
                        (bif decide ((es9.length + (1 : Nat)) * 24 ≤ 140737488355328) then
                          (lentK h1 i0 3 0 es9 fun h10 =>
                            (optK (Heap.cell? h10 i0 3) fun _ =>
                              (Tr.ret ([(AVal.bool ((y7 : Int) == 0))], (Heap.setCell h10 i0 3 (HCell.own 0 (es9 ++ [(AVal.sl f5 0 l6)])))))))
                        else
                          Tr.fail))))
                else
                  Tr.fail)))))))
  else
    (bif ((x1 : Int) == 4) then
      (runK (evFn Cw d 46 [(AVal.obj i0 0), (AVal.sl f5 0 l6)] h) fun r11 h11 =>
        (consK r11 fun w12 ws13 =>
          (boolK w12 fun bb14 =>
            (nilK ws13
              (bif (!bb14) then
                (Tr.ret ([(AVal.bool bb14)], h11))
              else
                (optK (Heap.cell? h11 i0 3) fun _ =>
                  (optK (Heap.cell? (Heap.setCell h11 i0 3 (HCell.val (AVal.sl true 0 []))) i0 4) fun _ =>
                    (Tr.ret ([(AVal.bool bb14)], (Heap.setCell (Heap.setCell h11 i0 3 (HCell.val (AVal.sl true 0 []))) i0 4 (HCell.val (AVal.bool false))))))))))))
    else
      (bif ((x1 : Int) == 2) then
        (runK (evFn Cw d 47 [(AVal.obj i0 0), (AVal.sl f5 0 l6)] h) fun r15 h15 =>
          (consK r15 fun w16 ws17 =>
            (boolK w16 fun bb18 =>
              (nilK ws17
                (optK (Heap.cell? h15 i0 3) fun _ =>
                  (optK (Heap.cell? (Heap.setCell h15 i0 3 (HCell.val (AVal.sl true 0 []))) i0 4) fun _ =>
                    (Tr.ret ([(AVal.bool bb18)], (Heap.setCell (Heap.setCell h15 i0 3 (HCell.val (AVal.sl true 0 []))) i0 4 (HCell.val (AVal.bool false)))))))))))
      else
        (Tr.ret ([(AVal.bool true)], h))))) := by kernel_rfl
/- f13 strandline/replay.Replay -/
noncomputable def P13_0 (d : Nat) (f0 : Bool) (l1 : List AVal) (i2 : Nat) (x3 : Int) (x4 : Int) (h : Heap) : Tr Res :=
  heldPt Cw d 13 [true, true, true] [] ⟨[(0, (EV.one (SV.val (AVal.sl f0 6 l1)))), (4, (EV.one (SV.loc 4 0))), (6, (EV.one (SV.val (AVal.obj i2 0))))], [(4, (Box.plain [AVal.nilp, (AVal.int .i64 x3), (AVal.int .i64 x4)]))]⟩ h
noncomputable def P13_1 (d k : Nat) (i0 : Nat) (f1 : Bool) (l2 : List AVal) (x3 : Int) (x4 : Int) (x5 : Int) (x6 : Int) (h : Heap) : Tr Res :=
  loopPt Cw d 13 [true, true, true, false, true, true] [] k ⟨[(4, (EV.one (SV.loc 4 0))), (6, (EV.one (SV.val (AVal.obj i0 0)))), (20, (EV.one (SV.val (AVal.sl f1 6 l2)))), (21, (EV.one (SV.val (AVal.int .i64 x3)))), (22, (EV.one (SV.val (AVal.int .i64 x4))))], [(4, (Box.plain [AVal.nilp, (AVal.int .i64 x5), (AVal.int .i64 x6)]))]⟩ h
theorem P13_0_eq (d : Nat) (f0 : Bool) (l1 : List AVal) (i2 : Nat) (x3 : Int) (x4 : Int) (h : Heap) : P13_0 d f0 l1 i2 x3 x4 h =
  (P13_1 d rounds i2 f0 l1 (l1.length : Int) 0 x3 x4 h) := (heldPt_eq _ _ _ _ _ _ _).trans (by kernel_rfl)
theorem P13_1_eq (d k : Nat) (i0 : Nat) (f1 : Bool) (l2 : List AVal) (x3 : Int) (x4 : Int) (x5 : Int) (x6 : Int) (h : Heap) : P13_1 d (k + 1) i0 f1 l2 x3 x4 x5 x6 h =
  (bif (decide ((x4 : Int) < x3)) then
    (bif (decide ((0 : Int) ≤ x4) && decide ((x4 : Int) < (l2.length : Int))) then
      (aggK 5 (l2.getD (Int.toNat x4) AVal.undef) fun cc1 =>
        (bif ((cc1.length == 5) && true) then
          (bif decide (0 + 5 ≤ cc1.length) then
            (runK (evFn Cw d 30 [(AVal.obj i0 0), (AVal.agg ((cc1.drop 0).take 5))] h) fun r2 h2 =>
              (consK r2 fun w3 ws4 =>
                (boolK w3 fun bb5 =>
                  (nilK ws4
                    (bif (!bb5) then
                      (Tr.ret ([(AVal.agg [AVal.nilp, (AVal.int .i64 0), (AVal.int .i64 0)]), (AVal.int .i64 12)], h2))
                    else
                      (P13_1 d k i0 f1 l2 x3 (IntKind.i64.wrap (x4 + 1)) x5 x6 h2))))))
          else
            Tr.fail)
        else
          Tr.fail))
    else
      Tr.fail)
  else
    (optK (Heap.cell? h i0 0) fun z6 =>
      (bif AVal.isPtr (HCell.toA z6) then
        (bif (AVal.isNilp (HCell.toA z6)) then
          (Tr.ret ([(AVal.agg [AVal.nilp, (AVal.int .i64 0), (AVal.int .i64 0)]), (AVal.int .i64 12)], h))
        else
          (optK (Heap.cells? h i0 0 3) fun cc7 =>
            (bif (cc7.length == 3) then
              (bif ((cc7.length == 3) && true) then
                (bif decide (0 + 3 ≤ cc7.length) then (Tr.ret ([(AVal.agg ((cc7.drop 0).take 3)), (AVal.int .i64 0)], h)) else Tr.fail)
              else
                Tr.fail)
            else
              Tr.fail)))
      else
        Tr.fail))) := by kernel_rfl
theorem F13_eq (d : Nat) (f0 : Bool) (l1 : List AVal) (x2 : Int) (h : Heap) : evFn Cw (d + 1) 13 [(AVal.sl f0 6 l1), (AVal.int .i64 x2)] h =
  (bif ((x2 : Int) == 1) then
    (runK (evFn Cw d 29 [] (Heap.push h (Go.Weave.Obj.cells ([AVal.nilp, (AVal.int .i64 0), (AVal.int .i64 0), (AVal.sl true 0 []), (AVal.bool ((x2 : Int) != 1))].map HCell.val)))) fun r1 h1 =>
      (consK r1 fun w2 ws3 =>
        (nilK ws3
          (bif (AVal.isAgg w2) then
            Tr.fail
          else
            (optK (Heap.cell? h1 h.objs.length 0) fun _ =>
              (P13_0 d f0 l1 h.objs.length 0 0 (Heap.setCell h1 h.objs.length 0 (HCell.val w2))))))))
  else
    (P13_0 d f0 l1 h.objs.length 0 0 (Heap.push h (Go.Weave.Obj.cells ([AVal.nilp, (AVal.int .i64 0), (AVal.int .i64 0), (AVal.sl true 0 []), (AVal.bool ((x2 : Int) != 1))].map HCell.val))))) := by kernel_rfl
noncomputable def P13n_0 (d : Nat) (i0 : Nat) (x1 : Int) (x2 : Int) (h : Heap) : Tr Res :=
  heldPt Cw d 13 [true, true, true] [] ⟨[(0, (EV.one (SV.val (AVal.sl true 0 [])))), (4, (EV.one (SV.loc 4 0))), (6, (EV.one (SV.val (AVal.obj i0 0))))], [(4, (Box.plain [AVal.nilp, (AVal.int .i64 x1), (AVal.int .i64 x2)]))]⟩ h
noncomputable def P13n_1 (d k : Nat) (i0 : Nat) (x1 : Int) (x2 : Int) (x3 : Int) (x4 : Int) (h : Heap) : Tr Res :=
  loopPt Cw d 13 [true, true, true, false, true, true] [] k ⟨[(4, (EV.one (SV.loc 4 0))), (6, (EV.one (SV.val (AVal.obj i0 0)))), (20, (EV.one (SV.val (AVal.sl true 0 [])))), (21, (EV.one (SV.val (AVal.int .i64 x1)))), (22, (EV.one (SV.val (AVal.int .i64 x2))))], [(4, (Box.plain [AVal.nilp, (AVal.int .i64 x3), (AVal.int .i64 x4)]))]⟩ h
theorem P13n_0_eq (d : Nat) (i0 : Nat) (x1 : Int) (x2 : Int) (h : Heap) : P13n_0 d i0 x1 x2 h =
  (P13n_1 d rounds i0 0 0 x1 x2 h) := (heldPt_eq _ _ _ _ _ _ _).trans (by kernel_rfl)
theorem P13n_1_eq (d k : Nat) (i0 : Nat) (x1 : Int) (x2 : Int) (x3 : Int) (x4 : Int) (h : Heap) : P13n_1 d (k + 1) i0 x1 x2 x3 x4 h =
  (bif (decide ((x2 : Int) < x1)) then
    (bif (decide ((0 : Int) ≤ x2) && decide ((x2 : Int) < 0)) then
      (aggK 5 ([].getD (Int.toNat x2) AVal.undef) fun cc1 =>
        (bif ((cc1.length == 5) && true) then
          (bif decide (0 + 5 ≤ cc1.length) then
            (runK (evFn Cw d 30 [(AVal.obj i0 0), (AVal.agg ((cc1.drop 0).take 5))] h) fun r2 h2 =>
              (consK r2 fun w3 ws4 =>
                (boolK w3 fun bb5 =>
                  (nilK ws4
                    (bif (!bb5) then
                      (Tr.ret ([(AVal.agg [AVal.nilp, (AVal.int .i64 0), (AVal.int .i64 0)]), (AVal.int .i64 12)], h2))
                    else
                      (P13n_1 d k i0 x1 (IntKind.i64.wrap (x2 + 1)) x3 x4 h2))))))
          else
            Tr.fail)
        else
          Tr.fail))
    else
      Tr.fail)
  else
    (optK (Heap.cell? h i0 0) fun z6 =>
      (bif AVal.isPtr (HCell.toA z6) then
        (bif (AVal.isNilp (HCell.toA z6)) then
          (Tr.ret ([(AVal.agg [AVal.nilp, (AVal.int .i64 0), (AVal.int .i64 0)]), (AVal.int .i64 12)], h))
        else
          (optK (Heap.cells? h i0 0 3) fun cc7 =>
            (bif (cc7.length == 3) then
              (bif ((cc7.length == 3) && true) then
                (bif decide (0 + 3 ≤ cc7.length) then (Tr.ret ([(AVal.agg ((cc7.drop 0).take 3)), (AVal.int .i64 0)], h)) else Tr.fail)
              else
                Tr.fail)
            else
              Tr.fail)))
      else
        Tr.fail))) := by kernel_rfl
theorem F13n_eq (d : Nat) (x0 : Int) (h : Heap) : evFn Cw (d + 1) 13 [(AVal.sl true 0 []), (AVal.int .i64 x0)] h =
  (bif ((x0 : Int) == 1) then
    (runK (evFn Cw d 29 [] (Heap.push h (Go.Weave.Obj.cells ([AVal.nilp, (AVal.int .i64 0), (AVal.int .i64 0), (AVal.sl true 0 []), (AVal.bool ((x0 : Int) != 1))].map HCell.val)))) fun r1 h1 =>
      (consK r1 fun w2 ws3 =>
        (nilK ws3
          (bif (AVal.isAgg w2) then
            Tr.fail
          else
            (optK (Heap.cell? h1 h.objs.length 0) fun _ =>
              (P13n_0 d h.objs.length 0 0 (Heap.setCell h1 h.objs.length 0 (HCell.val w2))))))))
  else
    (P13n_0 d h.objs.length 0 0 (Heap.push h (Go.Weave.Obj.cells ([AVal.nilp, (AVal.int .i64 0), (AVal.int .i64 0), (AVal.sl true 0 []), (AVal.bool ((x0 : Int) != 1))].map HCell.val))))) := by kernel_rfl
/- f43 (*strandline/table.Table).tree -/
theorem F43_eq (d : Nat) (i0 : Nat) (h : Heap) : evFn Cw (d + 1) 43 [(AVal.obj i0 0)] h =
  (optK (Heap.cell? h i0 0) fun z1 =>
    (Tr.ret ([(HCell.toA z1)], h))) := by kernel_rfl
/- f28 (*strandline/table.Table).Len -/
theorem F28_eq (d : Nat) (i0 : Nat) (h : Heap) : evFn Cw (d + 1) 28 [(AVal.obj i0 0)] h =
  (runK (evFn Cw d 43 [(AVal.obj i0 0)] h) fun r1 h1 =>
    (consK r1 fun w2 ws3 =>
      (nilK ws3
        (runK (evFn Cw d 44 [w2] h1) fun r4 h4 =>
          (consK r4 fun w5 ws6 =>
            (intK .i64 w5 fun y7 =>
              (nilK ws6
                (Tr.ret ([(AVal.int .i64 y7)], h4))))))))) := by kernel_rfl
/- f12 strandline/strandlinelaw35.awake -/
theorem F12_eq (d : Nat) (h : Heap) : evFn Cw (d + 1) 12 [] h =
  (runK (evFn Cw d 13 [(AVal.sl true 6 [(AVal.agg [(AVal.int .i64 2), (AVal.int .i64 0), (AVal.int .i64 0), (AVal.int .i64 0), (AVal.sl false 0 [(AVal.int .u8 1), (AVal.int .u8 1), (AVal.int .u8 97), (AVal.int .u8 1), (AVal.int .u8 98)])])]), (AVal.int .i64 1)] h) fun r1 h1 =>
    (consK r1 fun w2 ws3 =>
      (aggK 3 w2 fun cc4 =>
        (consK ws3 fun w5 ws6 =>
          (intK .i64 w5 fun y7 =>
            (nilK ws6
              (bif ((cc4.length == 3) && true) then
                (runK (evFn Cw d 13 [(AVal.sl true 0 []), (AVal.int .i64 2)] h1) fun r8 h8 =>
                  (consK r8 fun w9 ws10 =>
                    (aggK 3 w9 fun cc11 =>
                      (consK ws10 fun w12 ws13 =>
                        (intK .i64 w12 fun y14 =>
                          (nilK ws13
                            (bif ((cc11.length == 3) && true) then
                              (bif ((y7 : Int) == 0) then
                                (bif ((y14 : Int) == 12) then
                                  (optK (cc4[0]?) fun w15 =>
                                    (runK (evFn Cw d 28 [w15] h8) fun r16 h16 =>
                                      (consK r16 fun w17 ws18 =>
                                        (intK .i64 w17 fun y19 =>
                                          (nilK ws18
                                            (bif ((y19 : Int) == 1) then
                                              (optK (cc4[2]?) fun w20 =>
                                                (intK .i64 w20 fun y21 =>
                                                  (Tr.ret ([(AVal.bool ((y21 : Int) == 1))], h16))))
                                            else
                                              (Tr.ret ([(AVal.bool false)], h16))))))))
                                else
                                  (Tr.ret ([(AVal.bool false)], h8)))
                              else
                                (Tr.ret ([(AVal.bool false)], h8)))
                            else
                              Tr.fail)))))))
              else
                Tr.fail))))))) := by kernel_rfl
/- f53 strandline/strandlineref10.Right -/
theorem F53_eq (d : Nat) (x0 : Int) (s1 : List UInt8) (s2 : List UInt8) (h : Heap) : evFn Cw (d + 1) 53 [(AVal.agg [(AVal.int .i64 x0), (AVal.str s1), (AVal.str s2)])] h =
  (bif (((s1.length : Int) : Int) == 0) then
    (Tr.ret ([(AVal.bool false)], h))
  else
    (bif (decide (((s1.length : Int) : Int) > 24)) then
      (Tr.ret ([(AVal.bool false)], h))
    else
      (bif (decide (((s2.length : Int) : Int) > 128)) then
        (Tr.ret ([(AVal.bool false)], h))
      else
        (bif ((x0 : Int) == 1) then
          (Tr.ret ([(AVal.bool true)], h))
        else
          (bif ((x0 : Int) == 2) then (Tr.ret ([(AVal.bool (s2 == []))], h)) else (Tr.ret ([(AVal.bool false)], h))))))) := by kernel_rfl
/- f51 strandline/strandlineref10.Get -/
noncomputable def P51_0 (d : Nat) (f0 : Bool) (l1 : List AVal) (x2 : Int) (x3 : Int) (s4 : List UInt8) (s5 : List UInt8) (x6 : Int) (s7 : List UInt8) (s8 : List UInt8) (h : Heap) : Tr Res :=
  heldPt Cw d 51 [true, true, true, true, true, true] [] ⟨[(0, (EV.one (SV.val (AVal.sl f0 0 l1)))), (2, (EV.one (SV.loc 2 0))), (6, (EV.one (SV.val (AVal.int .i64 x2)))), (8, (EV.one (SV.loc 8 0)))], [(2, (Box.plain [(AVal.int .i64 x3), (AVal.str s4), (AVal.str s5)])), (8, (Box.plain [(AVal.int .i64 x6), (AVal.str s7), (AVal.str s8)]))]⟩ h
theorem P51_0_eq (d : Nat) (f0 : Bool) (l1 : List AVal) (x2 : Int) (x3 : Int) (s4 : List UInt8) (s5 : List UInt8) (x6 : Int) (s7 : List UInt8) (s8 : List UInt8) (h : Heap) : P51_0 d f0 l1 x2 x3 s4 s5 x6 s7 s8 h =
  (bif decide ((0 : Int) < (l1.length : Int)) then
    (intK .u8 (l1.getD 0 AVal.undef) fun y1 =>
      (bif ((y1 : Int) == 1) then
        (bif ((decide ((0 : Int) ≤ (IntKind.i64.wrap (x2 + 1))) && decide (((IntKind.i64.wrap (x2 + 1)) : Int) ≤ (l1.length : Int))) && decide (((l1.length : Int) : Int) ≤ (l1.length : Int))) then
          (runK (evFn Cw d 64 [(AVal.sl f0 0 (Go.Weave.part (IntKind.i64.wrap (x2 + 1)) (l1.length : Int) l1))] h) fun r2 h2 =>
            (consK r2 fun w3 ws4 =>
              (slOK 0 w3 fun es5 =>
                (consK ws4 fun w6 ws7 =>
                  (intK .i64 w6 fun y8 =>
                    (consK ws7 fun w9 ws10 =>
                      (intK .i64 w9 fun y11 =>
                        (nilK ws10
                          (bif ((y11 : Int) != 0) then
                            (Tr.ret ([(AVal.agg [(AVal.int .i64 0), (AVal.str []), (AVal.str [])]), (AVal.int .i64 0), (AVal.int .i64 y11)], h2))
                          else
                            (optK (toBytes es5) fun ss12 =>
                              (runK (evFn Cw d 53 [(AVal.agg [(AVal.int .i64 x6), (AVal.str s7), (AVal.str ss12)])] h2) fun r13 h13 =>
                                (consK r13 fun w14 ws15 =>
                                  (boolK w14 fun bb16 =>
                                    (nilK ws15
                                      (bif (!bb16) then
                                        (Tr.ret ([(AVal.agg [(AVal.int .i64 0), (AVal.str []), (AVal.str [])]), (AVal.int .i64 0), (AVal.int .i64 2)], h13))
                                      else
                                        (Tr.ret ([(AVal.agg [(AVal.int .i64 x6), (AVal.str s7), (AVal.str ss12)]), (AVal.int .i64 (IntKind.i64.wrap ((IntKind.i64.wrap (x2 + 1)) + y8))), (AVal.int .i64 0)], h13)))))))))))))))))
        else
          Tr.fail)
      else
        (runK (evFn Cw d 53 [(AVal.agg [(AVal.int .i64 x6), (AVal.str s7), (AVal.str s8)])] h) fun r17 h17 =>
          (consK r17 fun w18 ws19 =>
            (boolK w18 fun bb20 =>
              (nilK ws19
                (bif (!bb20) then
                  (Tr.ret ([(AVal.agg [(AVal.int .i64 0), (AVal.str []), (AVal.str [])]), (AVal.int .i64 0), (AVal.int .i64 2)], h17))
                else
                  (Tr.ret ([(AVal.agg [(AVal.int .i64 x6), (AVal.str s7), (AVal.str s8)]), (AVal.int .i64 (IntKind.i64.wrap (x2 + 1))), (AVal.int .i64 0)], h17)))))))))
  else
    Tr.fail) := (heldPt_eq _ _ _ _ _ _ _).trans (by kernel_rfl)
theorem F51_eq (d : Nat) (f0 : Bool) (l1 : List AVal) (h : Heap) : evFn Cw (d + 1) 51 [(AVal.sl f0 0 l1)] h =
  (bif (((l1.length : Int) : Int) == 0) then
    (Tr.ret ([(AVal.agg [(AVal.int .i64 0), (AVal.str []), (AVal.str [])]), (AVal.int .i64 0), (AVal.int .i64 1)], h))
  else
    (bif decide ((0 : Int) < (l1.length : Int)) then
      (intK .u8 (l1.getD 0 AVal.undef) fun y1 =>
        (bif ((y1 : Int) != 1) then
          (bif decide ((0 : Int) < (l1.length : Int)) then
            (intK .u8 (l1.getD 0 AVal.undef) fun y2 =>
              (bif ((y2 : Int) != 2) then
                (Tr.ret ([(AVal.agg [(AVal.int .i64 0), (AVal.str []), (AVal.str [])]), (AVal.int .i64 0), (AVal.int .i64 2)], h))
              else
                (bif (decide ((1 : Int) ≤ (l1.length : Int)) && decide (((l1.length : Int) : Int) ≤ (l1.length : Int))) then
                  (runK (evFn Cw d 64 [(AVal.sl f0 0 (Go.Weave.part 1 (l1.length : Int) l1))] h) fun r3 h3 =>
                    (consK r3 fun w4 ws5 =>
                      (slOK 0 w4 fun es6 =>
                        (consK ws5 fun w7 ws8 =>
                          (intK .i64 w7 fun y9 =>
                            (consK ws8 fun w10 ws11 =>
                              (intK .i64 w10 fun y12 =>
                                (nilK ws11
                                  (bif ((y12 : Int) != 0) then
                                    (Tr.ret ([(AVal.agg [(AVal.int .i64 0), (AVal.str []), (AVal.str [])]), (AVal.int .i64 0), (AVal.int .i64 y12)], h3))
                                  else
                                    (bif decide ((0 : Int) < (l1.length : Int)) then
                                      (Tr.anyL [
                                        (intK .u8 (l1.getD 0 AVal.undef) fun y13 =>
                                          (sameL 2
                                            (optK (toBytes es6) fun ss14 =>
                                              (P51_0 d f0 l1 y9 0 [] [] (IntKind.i64.wrap y13) ss14 [] h3)))),
                                        (optK (toBytes es6) fun ss13 =>
                                          (sameL 2
                                            (intK .u8 (l1.getD 0 AVal.undef) fun y14 =>
                                              (P51_0 d f0 l1 y9 0 [] [] (IntKind.i64.wrap y14) ss13 [] h3)))),
                                        (intK .u8 (l1.getD 0 AVal.undef) fun y13 =>
                                          (optK (toBytes es6) fun ss14 =>
                                            (P51_0 d f0 l1 y9 0 [] [] (IntKind.i64.wrap y13) ss14 [] h3)))])
                                    else
                                      Tr.fail))))))))))
                else
                  Tr.fail)))
          else
            Tr.fail)
        else
          (bif (decide ((1 : Int) ≤ (l1.length : Int)) && decide (((l1.length : Int) : Int) ≤ (l1.length : Int))) then
            (runK (evFn Cw d 64 [(AVal.sl f0 0 (Go.Weave.part 1 (l1.length : Int) l1))] h) fun r15 h15 =>
              (consK r15 fun w16 ws17 =>
                (slOK 0 w16 fun es18 =>
                  (consK ws17 fun w19 ws20 =>
                    (intK .i64 w19 fun y21 =>
                      (consK ws20 fun w22 ws23 =>
                        (intK .i64 w22 fun y24 =>
                          (nilK ws23
                            (bif ((y24 : Int) != 0) then
                              (Tr.ret ([(AVal.agg [(AVal.int .i64 0), (AVal.str []), (AVal.str [])]), (AVal.int .i64 0), (AVal.int .i64 y24)], h15))
                            else
                              (bif decide ((0 : Int) < (l1.length : Int)) then
                                (Tr.anyL [
                                  (intK .u8 (l1.getD 0 AVal.undef) fun y25 =>
                                    (sameL 2
                                      (optK (toBytes es18) fun ss26 =>
                                        (P51_0 d f0 l1 y21 0 [] [] (IntKind.i64.wrap y25) ss26 [] h15)))),
                                  (optK (toBytes es18) fun ss25 =>
                                    (sameL 2
                                      (intK .u8 (l1.getD 0 AVal.undef) fun y26 =>
                                        (P51_0 d f0 l1 y21 0 [] [] (IntKind.i64.wrap y26) ss25 [] h15)))),
                                  (intK .u8 (l1.getD 0 AVal.undef) fun y25 =>
                                    (optK (toBytes es18) fun ss26 =>
                                      (P51_0 d f0 l1 y21 0 [] [] (IntKind.i64.wrap y25) ss26 [] h15)))])
                              else
                                Tr.fail))))))))))
          else
            Tr.fail)))
    else
      Tr.fail)) := by kernel_rfl
/- f52 strandline/strandlineref12.Right -/
noncomputable def P52_0 (d k : Nat) (f0 : Bool) (l1 : List AVal) (x2 : Int) (h : Heap) : Tr Res :=
  loopPt Cw d 52 [true, false, true, true] [] k ⟨[(0, (EV.one (SV.val (AVal.sl f0 4 l1)))), (3, (EV.one (SV.val (AVal.int .i64 x2))))], []⟩ h
theorem P52_0_eq (d k : Nat) (f0 : Bool) (l1 : List AVal) (x2 : Int) (h : Heap) : P52_0 d (k + 1) f0 l1 x2 h =
  (bif (decide ((x2 : Int) < (l1.length : Int))) then
    (bif (decide ((0 : Int) ≤ x2) && decide ((x2 : Int) < (l1.length : Int))) then
      (aggK 3 (l1.getD (Int.toNat x2) AVal.undef) fun cc1 =>
        (runK (evFn Cw d 53 [(AVal.agg cc1)] h) fun r2 h2 =>
          (consK r2 fun w3 ws4 =>
            (boolK w3 fun bb5 =>
              (nilK ws4
                (bif (!bb5) then (Tr.ret ([(AVal.bool false)], h2)) else (P52_0 d k f0 l1 (IntKind.i64.wrap (x2 + 1)) h2)))))))
    else
      Tr.fail)
  else
    (bif (decide (((l1.length : Int) : Int) > 0)) then (Tr.ret ([(AVal.bool (decide (((l1.length : Int) : Int) ≤ 8)))], h)) else (Tr.ret ([(AVal.bool false)], h)))) := by kernel_rfl
theorem F52_eq (d : Nat) (f0 : Bool) (l1 : List AVal) (h : Heap) : evFn Cw (d + 1) 52 [(AVal.sl f0 4 l1)] h =
  (P52_0 d rounds f0 l1 0 h) := by kernel_rfl
/- f33 strandline/strandlineref12.Decode -/
noncomputable def P33_0 (d k : Nat) (f0 : Bool) (l1 : List AVal) (l2 : List AVal) (x3 : Int) (h : Heap) : Tr Res :=
  loopPt Cw d 33 [true, true, false, true, true] [] k ⟨[(0, (EV.one (SV.val (AVal.sl f0 0 l1)))), (4, (EV.one (SV.own (tokOf 4 0) 4 l2))), (5, (EV.one (SV.val (AVal.int .i64 x3))))], []⟩ h
theorem P33_0_eq (d k : Nat) (f0 : Bool) (l1 : List AVal) (l2 : List AVal) (x3 : Int) (h : Heap) : P33_0 d (k + 1) f0 l1 l2 x3 h =
  (bif (decide ((x3 : Int) < (l1.length : Int))) then
    (bif ((decide ((0 : Int) ≤ x3) && decide ((x3 : Int) ≤ (l1.length : Int))) && decide (((l1.length : Int) : Int) ≤ (l1.length : Int))) then
      (runK (evFn Cw d 51 [(AVal.sl f0 0 (Go.Weave.part x3 (l1.length : Int) l1))] h) fun r1 h1 =>
        (consK r1 fun w2 ws3 =>
          (aggK 3 w2 fun cc4 =>
            (consK ws3 fun w5 ws6 =>
              (intK .i64 w5 fun y7 =>
                (consK ws6 fun w8 ws9 =>
                  (intK .i64 w8 fun y10 =>
                    (nilK ws9
                      (bif ((cc4.length == 3) && true) then
                        (bif ((y10 : Int) != 0) then
                          (Tr.ret ([(AVal.sl true 0 []), (AVal.int .i64 y10)], h1))
                        else
                          (bif decide (0 + 3 ≤ cc4.length) then
                            (bif ((((cc4.drop 0).take 3).length == 3) && true) then
                              (bif decide ((l2.length + (1 : Nat)) * 40 ≤ 140737488355328) then
                                (P33_0 d k f0 l1 (l2 ++ [(AVal.agg ((cc4.drop 0).take 3))]) (IntKind.i64.wrap (x3 + y7)) h1)
                              else
                                Tr.fail)
                            else
                              Tr.fail)
                          else
                            Tr.fail))
                      else
                        Tr.fail)))))))))
    else
      Tr.fail)
  else
    (runK (evFn Cw d 52 [(AVal.sl false 4 l2)] h) fun r11 h11 =>
      (consK r11 fun w12 ws13 =>
        (boolK w12 fun bb14 =>
          (nilK ws13
            (bif (!bb14) then (Tr.ret ([(AVal.sl true 0 []), (AVal.int .i64 2)], h11)) else (Tr.ret ([(AVal.sl false 4 l2), (AVal.int .i64 0)], h11)))))))) := by kernel_rfl
theorem F33_eq (d : Nat) (f0 : Bool) (l1 : List AVal) (h : Heap) : evFn Cw (d + 1) 33 [(AVal.sl f0 0 l1)] h =
  (P33_0 d rounds f0 l1 [] 0 h) := by kernel_rfl
/- f34 strandline/strandlineref33.Apply -/
noncomputable def P34_0 (d k : Nat) (f0 : Bool) (l1 : List AVal) (f2 : Bool) (l3 : List AVal) (x4 : Int) (x5 : Int) (h : Heap) : Tr Res :=
  loopPt Cw d 34 [true, true, false, true, true] [] k ⟨[(0, (EV.one (SV.val (AVal.sl f0 3 l1)))), (1, (EV.one (SV.val (AVal.sl f2 4 l3)))), (6, (EV.one (SV.val (AVal.int .i64 x4)))), (7, (EV.one (SV.val (AVal.int .i64 x5))))], []⟩ h
theorem P34_0_eq (d k : Nat) (f0 : Bool) (l1 : List AVal) (f2 : Bool) (l3 : List AVal) (x4 : Int) (x5 : Int) (h : Heap) : P34_0 d (k + 1) f0 l1 f2 l3 x4 x5 h =
  (bif (decide ((x5 : Int) < (l3.length : Int))) then
    (bif (decide ((0 : Int) ≤ x5) && decide ((x5 : Int) < (l3.length : Int))) then
      (aggK 3 (l3.getD (Int.toNat x5) AVal.undef) fun cc1 =>
        (runK (evFn Cw d 53 [(AVal.agg cc1)] h) fun r2 h2 =>
          (consK r2 fun w3 ws4 =>
            (boolK w3 fun bb5 =>
              (nilK ws4
                (bif (!bb5) then
                  (P34_0 d k f0 l1 f2 l3 x4 (IntKind.i64.wrap (x5 + 1)) h2)
                else
                  (bif (decide ((0 : Int) ≤ x5) && decide ((x5 : Int) < (l3.length : Int))) then
                    (optK ((AVal.cells (l3.getD (Int.toNat x5) AVal.undef))[0]?) fun w6 =>
                      (intK .i64 w6 fun y7 =>
                        (bif ((y7 : Int) == 1) then
                          (bif (decide ((0 : Int) ≤ x5) && decide ((x5 : Int) < (l3.length : Int))) then
                            (optK ((AVal.cells (l3.getD (Int.toNat x5) AVal.undef))[1]?) fun w8 =>
                              (strK w8 fun ss9 =>
                                (bif (decide ((0 : Int) ≤ x5) && decide ((x5 : Int) < (l3.length : Int))) then
                                  (optK ((AVal.cells (l3.getD (Int.toNat x5) AVal.undef))[2]?) fun w10 =>
                                    (strK w10 fun ss11 =>
                                      (runK (evFn Cw d 54 [(AVal.sl f0 3 l1), (AVal.str ss9), (AVal.str ss11)] h2) fun r12 h12 =>
                                        (consK r12 fun w13 ws14 =>
                                          (slOK 3 w13 fun es15 =>
                                            (nilK ws14
                                              (P34_0 d k false es15 f2 l3 (IntKind.i64.wrap (x4 + 1)) (IntKind.i64.wrap (x5 + 1)) h12)))))))
                                else
                                  Tr.fail)))
                          else
                            Tr.fail)
                        else
                          (bif (decide ((0 : Int) ≤ x5) && decide ((x5 : Int) < (l3.length : Int))) then
                            (optK ((AVal.cells (l3.getD (Int.toNat x5) AVal.undef))[1]?) fun w16 =>
                              (strK w16 fun ss17 =>
                                (runK (evFn Cw d 55 [(AVal.sl f0 3 l1), (AVal.str ss17)] h2) fun r18 h18 =>
                                  (consK r18 fun w19 ws20 =>
                                    (slOK 3 w19 fun es21 =>
                                      (nilK ws20
                                        (P34_0 d k false es21 f2 l3 (IntKind.i64.wrap (x4 + 1)) (IntKind.i64.wrap (x5 + 1)) h18)))))))
                          else
                            Tr.fail))))
                  else
                    Tr.fail)))))))
    else
      Tr.fail)
  else
    (Tr.ret ([(AVal.sl f0 3 l1), (AVal.int .i64 x4)], h))) := by kernel_rfl
theorem F34_eq (d : Nat) (f0 : Bool) (l1 : List AVal) (f2 : Bool) (l3 : List AVal) (h : Heap) : evFn Cw (d + 1) 34 [(AVal.sl f0 3 l1), (AVal.sl f2 4 l3)] h =
  (P34_0 d rounds f0 l1 f2 l3 0 0 h) := by kernel_rfl
noncomputable def P14_0 (d k : Nat) (f0 : Bool) (l1 : List AVal) (b2 : Bool) (b3 : Bool) (l4 : List AVal) (x5 : Int) (l6 : List AVal) (x7 : Int) (x8 : Int) (f9 : Bool) (l10 : List AVal) (x11 : Int) (x12 : Int) (h : Heap) : Tr Res :=
  loopPt Cw d 14 [true, true, true, true, true, false, true, true] [] k ⟨[(0, (EV.one (SV.val (AVal.sl f0 6 l1)))), (4, (EV.one (SV.loc 4 0))), (6, (EV.one (SV.val (AVal.bool b2)))), (7, (EV.one (SV.val (AVal.bool b3)))), (8, (EV.one (SV.loc 8 0))), (9, (EV.one (SV.own (tokOf 9 0) 0 l4))), (10, (EV.one (SV.val (AVal.int .i64 x5))))], [(4, (Box.plain [(AVal.sl true 3 l6), (AVal.int .i64 x7), (AVal.int .i64 x8)])), (8, (Box.plain [(AVal.sl f9 3 l10), (AVal.int .i64 x11), (AVal.int .i64 x12)]))]⟩ h
noncomputable def P14_1 (d n0 : Nat) (f0 : Bool) (l1 : List AVal) (b2 : Bool) (b3 : Bool) (l4 : List AVal) (x5 : Int) (l6 : List AVal) (x7 : Int) (x8 : Int) (f9 : Bool) (l10 : List AVal) (x11 : Int) (x12 : Int) (h : Heap) : Tr Res :=
  heldPt Cw d 14 [true, true, true, true, true, false, true, true, true, true, false, true, true] [n0] ⟨[(0, (EV.one (SV.val (AVal.sl f0 6 l1)))), (4, (EV.one (SV.loc 4 0))), (6, (EV.one (SV.val (AVal.bool b2)))), (7, (EV.one (SV.val (AVal.bool b3)))), (8, (EV.one (SV.loc 8 0))), (9, (EV.one (SV.own (tokOf 9 0) 0 l4))), (10, (EV.one (SV.val (AVal.int .i64 x5))))], [(4, (Box.plain [(AVal.sl true 3 l6), (AVal.int .i64 x7), (AVal.int .i64 x8)])), (8, (Box.plain [(AVal.sl f9 3 l10), (AVal.int .i64 x11), (AVal.int .i64 x12)]))]⟩ h
noncomputable def P14_2 (d n0 : Nat) (f0 : Bool) (l1 : List AVal) (b2 : Bool) (b3 : Bool) (l4 : List AVal) (x5 : Int) (l6 : List AVal) (x7 : Int) (x8 : Int) (f9 : Bool) (l10 : List AVal) (x11 : Int) (x12 : Int) (c13 : List AVal) (h : Heap) : Tr Res :=
  heldPt Cw d 14 [true, true, true, true, true, false, true, true, true, true, false, true, true, false, true, true, true, true, true] [n0] ⟨[(0, (EV.one (SV.val (AVal.sl f0 6 l1)))), (4, (EV.one (SV.loc 4 0))), (6, (EV.one (SV.val (AVal.bool b2)))), (7, (EV.one (SV.val (AVal.bool b3)))), (8, (EV.one (SV.loc 8 0))), (9, (EV.one (SV.own (tokOf 9 0) 0 l4))), (10, (EV.one (SV.val (AVal.int .i64 x5)))), (13, (EV.one (SV.loc 13 0)))], [(4, (Box.plain [(AVal.sl true 3 l6), (AVal.int .i64 x7), (AVal.int .i64 x8)])), (8, (Box.plain [(AVal.sl f9 3 l10), (AVal.int .i64 x11), (AVal.int .i64 x12)])), (13, (Box.plain c13))]⟩ h
noncomputable def P14_3 (d n0 : Nat) (f0 : Bool) (l1 : List AVal) (b2 : Bool) (b3 : Bool) (l4 : List AVal) (x5 : Int) (l6 : List AVal) (x7 : Int) (x8 : Int) (f9 : Bool) (l10 : List AVal) (x11 : Int) (x12 : Int) (h : Heap) : Tr Res :=
  heldPt Cw d 14 [true, true, true, true, true, false, true, true, true, true, false, true, true, true] [n0] ⟨[(0, (EV.one (SV.val (AVal.sl f0 6 l1)))), (4, (EV.one (SV.loc 4 0))), (6, (EV.one (SV.val (AVal.bool b2)))), (7, (EV.one (SV.val (AVal.bool b3)))), (8, (EV.one (SV.loc 8 0))), (9, (EV.one (SV.own (tokOf 9 0) 0 l4))), (10, (EV.one (SV.val (AVal.int .i64 x5))))], [(4, (Box.plain [(AVal.sl true 3 l6), (AVal.int .i64 x7), (AVal.int .i64 x8)])), (8, (Box.plain [(AVal.sl f9 3 l10), (AVal.int .i64 x11), (AVal.int .i64 x12)]))]⟩ h
theorem P14_0_eq (d k : Nat) (f0 : Bool) (l1 : List AVal) (b2 : Bool) (b3 : Bool) (l4 : List AVal) (x5 : Int) (l6 : List AVal) (x7 : Int) (x8 : Int) (f9 : Bool) (l10 : List AVal) (x11 : Int) (x12 : Int) (h : Heap) : P14_0 d (k + 1) f0 l1 b2 b3 l4 x5 l6 x7 x8 f9 l10 x11 x12 h =
  (bif (decide ((x5 : Int) < (l1.length : Int))) then
    (bif (decide ((0 : Int) ≤ x5) && decide ((x5 : Int) < (l1.length : Int))) then
      (optK ((AVal.cells (l1.getD (Int.toNat x5) AVal.undef))[0]?) fun w1 =>
        (intK .i64 w1 fun y2 =>
          (bif ((y2 : Int) == 3) then
            (bif (decide ((0 : Int) ≤ x5) && decide ((x5 : Int) < (l1.length : Int))) then
              (optK ((AVal.cells (l1.getD (Int.toNat x5) AVal.undef))[4]?) fun w3 =>
                (slK 0 w3 fun fl4 es5 =>
                  (runK (evFn Cw d 31 [(AVal.sl true 0 [(AVal.sl fl4 0 es5)])] h) fun r6 h6 =>
                    (consK r6 fun w7 ws8 =>
                      (slOK 3 w7 fun es9 =>
                        (consK ws8 fun w10 ws11 =>
                          (boolK w10 fun bb12 =>
                            (nilK ws11
                              (bif (!bb12) then
                                (Tr.ret ([(AVal.agg [(AVal.sl true 3 []), (AVal.int .i64 0), (AVal.int .i64 0)]), (AVal.int .i64 12)], h6))
                              else
                                (bif (decide ((0 : Int) ≤ x5) && decide ((x5 : Int) < (l1.length : Int))) then
                                  (optK ((AVal.cells (l1.getD (Int.toNat x5) AVal.undef))[4]?) fun w13 =>
                                    (slK 0 w13 fun fl14 es15 =>
                                      (bif decide ((l4.length + (1 : Nat)) * 24 ≤ 140737488355328) then (P14_1 d k f0 l1 b2 b3 (l4 ++ [(AVal.sl fl14 0 es15)]) x5 l6 x7 x8 f9 l10 x11 x12 h6) else Tr.fail)))
                                else
                                  Tr.fail))))))))))
            else
              Tr.fail)
          else
            (P14_1 d k f0 l1 b2 b3 l4 x5 l6 x7 x8 f9 l10 x11 x12 h))))
    else
      Tr.fail)
  else
    (bif (!b2) then
      (Tr.ret ([(AVal.agg [(AVal.sl true 3 []), (AVal.int .i64 0), (AVal.int .i64 0)]), (AVal.int .i64 12)], h))
    else
      (Tr.ret ([(AVal.agg [(AVal.sl f9 3 l10), (AVal.int .i64 x11), (AVal.int .i64 x12)]), (AVal.int .i64 0)], h)))) := by kernel_rfl
theorem P14_1_eq (d n0 : Nat) (f0 : Bool) (l1 : List AVal) (b2 : Bool) (b3 : Bool) (l4 : List AVal) (x5 : Int) (l6 : List AVal) (x7 : Int) (x8 : Int) (f9 : Bool) (l10 : List AVal) (x11 : Int) (x12 : Int) (h : Heap) : P14_1 d n0 f0 l1 b2 b3 l4 x5 l6 x7 x8 f9 l10 x11 x12 h =
  (bif (decide ((0 : Int) ≤ x5) && decide ((x5 : Int) < (l1.length : Int))) then
    (optK ((AVal.cells (l1.getD (Int.toNat x5) AVal.undef))[0]?) fun w1 =>
      (intK .i64 w1 fun y2 =>
        (bif ((y2 : Int) == 4) then
          (bif (decide ((0 : Int) ≤ x5) && decide ((x5 : Int) < (l1.length : Int))) then
            (optK ((AVal.cells (l1.getD (Int.toNat x5) AVal.undef))[4]?) fun w3 =>
              (slK 0 w3 fun fl4 es5 =>
                (runK (evFn Cw d 7 [(AVal.sl fl4 0 es5)] h) fun r6 h6 =>
                  (consK r6 fun w7 ws8 =>
                    (aggK 3 w7 fun cc9 =>
                      (consK ws8 fun w10 ws11 =>
                        (intK .i64 w10 fun y12 =>
                          (nilK ws11
                            (bif ((cc9.length == 3) && true) then
                              (bif ((y12 : Int) != 0) then
                                (Tr.ret ([(AVal.agg [(AVal.sl true 3 []), (AVal.int .i64 0), (AVal.int .i64 0)]), (AVal.int .i64 12)], h6))
                              else
                                (optK (cc9[0]?) fun w13 =>
                                  (intK .i64 w13 fun y14 =>
                                    (bif (decide (((l4.length : Int) : Int) > y14)) then
                                      (optK (cc9[0]?) fun w15 =>
                                        (intK .i64 w15 fun y16 =>
                                          (bif ((decide ((0 : Int) ≤ (IntKind.i64.wrap ((l4.length : Int) - y16))) && decide (((IntKind.i64.wrap ((l4.length : Int) - y16)) : Int) ≤ (l4.length : Int))) && decide (((l4.length : Int) : Int) ≤ (l4.length : Int))) then
                                            (P14_2 d n0 f0 l1 b2 b3 (Go.Weave.part (IntKind.i64.wrap ((l4.length : Int) - y16)) (l4.length : Int) l4) x5 l6 x7 x8 f9 l10 x11 x12 cc9 h6)
                                          else
                                            Tr.fail)))
                                    else
                                      (P14_2 d n0 f0 l1 b2 b3 l4 x5 l6 x7 x8 f9 l10 x11 x12 cc9 h6)))))
                            else
                              Tr.fail)))))))))
          else
            Tr.fail)
        else
          (P14_3 d n0 f0 l1 b2 b3 l4 x5 l6 x7 x8 f9 l10 x11 x12 h))))
  else
    Tr.fail) := (heldPt_eq _ _ _ _ _ _ _).trans (by kernel_rfl)
theorem P14_2_eq (d n0 : Nat) (f0 : Bool) (l1 : List AVal) (b2 : Bool) (b3 : Bool) (l4 : List AVal) (x5 : Int) (l6 : List AVal) (x7 : Int) (x8 : Int) (f9 : Bool) (l10 : List AVal) (x11 : Int) (x12 : Int) (c13 : List AVal) (h : Heap) : P14_2 d n0 f0 l1 b2 b3 l4 x5 l6 x7 x8 f9 l10 x11 x12 c13 h =
  (bif decide (0 + 3 ≤ c13.length) then
    (runK (evFn Cw d 32 [(AVal.agg ((c13.drop 0).take 3)), (AVal.sl false 0 l4)] h) fun r1 h1 =>
      (consK r1 fun w2 ws3 =>
        (slOK 3 w2 fun es4 =>
          (consK ws3 fun w5 ws6 =>
            (intK .i64 w5 fun y7 =>
              (nilK ws6
                (bif ((y7 : Int) != 0) then
                  (bif (!b3) then
                    (Tr.ret ([(AVal.agg [(AVal.sl true 3 []), (AVal.int .i64 0), (AVal.int .i64 0)]), (AVal.int .i64 12)], h1))
                  else
                    (bif ((y7 : Int) == 0) then
                      (P14_3 d n0 f0 l1 true false [] x5 l6 x7 x8 false es4 (IntKind.i64.wrap (x11 + 1)) 0 h1)
                    else
                      (P14_3 d n0 f0 l1 b2 false [] x5 l6 x7 x8 f9 l10 x11 x12 h1)))
                else
                  (bif ((y7 : Int) == 0) then
                    (P14_3 d n0 f0 l1 true false [] x5 l6 x7 x8 false es4 (IntKind.i64.wrap (x11 + 1)) 0 h1)
                  else
                    (P14_3 d n0 f0 l1 b2 false [] x5 l6 x7 x8 f9 l10 x11 x12 h1)))))))))
  else
    Tr.fail) := (heldPt_eq _ _ _ _ _ _ _).trans (by kernel_rfl)
theorem P14_3_eq (d n0 : Nat) (f0 : Bool) (l1 : List AVal) (b2 : Bool) (b3 : Bool) (l4 : List AVal) (x5 : Int) (l6 : List AVal) (x7 : Int) (x8 : Int) (f9 : Bool) (l10 : List AVal) (x11 : Int) (x12 : Int) (h : Heap) : P14_3 d n0 f0 l1 b2 b3 l4 x5 l6 x7 x8 f9 l10 x11 x12 h =
  (bif (decide ((0 : Int) ≤ x5) && decide ((x5 : Int) < (l1.length : Int))) then
    (optK ((AVal.cells (l1.getD (Int.toNat x5) AVal.undef))[0]?) fun w1 =>
      (intK .i64 w1 fun y2 =>
        (bif ((y2 : Int) == 2) then
          (bif (decide ((0 : Int) ≤ x5) && decide ((x5 : Int) < (l1.length : Int))) then
            (optK ((AVal.cells (l1.getD (Int.toNat x5) AVal.undef))[4]?) fun w3 =>
              (slK 0 w3 fun fl4 es5 =>
                (runK (evFn Cw d 33 [(AVal.sl fl4 0 es5)] h) fun r6 h6 =>
                  (consK r6 fun w7 ws8 =>
                    (slOK 4 w7 fun es9 =>
                      (consK ws8 fun w10 ws11 =>
                        (intK .i64 w10 fun y12 =>
                          (nilK ws11
                            (bif ((y12 : Int) != 0) then
                              (Tr.ret ([(AVal.agg [(AVal.sl true 3 []), (AVal.int .i64 0), (AVal.int .i64 0)]), (AVal.int .i64 12)], h6))
                            else
                              (bif b2 then
                                (runK (evFn Cw d 34 [(AVal.sl f9 3 l10), (AVal.sl false 4 es9)] h6) fun r13 h13 =>
                                  (consK r13 fun w14 ws15 =>
                                    (slK 3 w14 fun fl16 es17 =>
                                      (consK ws15 fun w18 ws19 =>
                                        (intK .i64 w18 fun y20 =>
                                          (nilK ws19
                                            (P14_0 d n0 f0 l1 b2 false [] (IntKind.i64.wrap (x5 + 1)) l6 x7 x8 fl16 es17 x11 (IntKind.i64.wrap (x12 + 1)) h13)))))))
                              else
                                (P14_0 d n0 f0 l1 b2 false [] (IntKind.i64.wrap (x5 + 1)) l6 x7 x8 f9 l10 x11 x12 h6)))))))))))
          else
            Tr.fail)
        else
          (P14_0 d n0 f0 l1 b2 b3 l4 (IntKind.i64.wrap (x5 + 1)) l6 x7 x8 f9 l10 x11 x12 h))))
  else
    Tr.fail) := (heldPt_eq _ _ _ _ _ _ _).trans (by kernel_rfl)
theorem F14_eq (d : Nat) (f0 : Bool) (l1 : List AVal) (x2 : Int) (h : Heap) : evFn Cw (d + 1) 14 [(AVal.sl f0 6 l1), (AVal.int .i64 x2)] h =
  (P14_0 d rounds f0 l1 ((x2 : Int) == 1) ((x2 : Int) != 1) [] 0 [] 0 0 true [] 0 0 h) := by kernel_rfl
/- f35 (*strandline/table.Table).Range -/
theorem F35_eq (d : Nat) (i0 : Nat) (s1 : List UInt8) (s2 : List UInt8) (x3 : Int) (h : Heap) : evFn Cw (d + 1) 35 [(AVal.obj i0 0), (AVal.str s1), (AVal.str s2), (AVal.int .i64 x3)] h =
  (runK (evFn Cw d 43 [(AVal.obj i0 0)] h) fun r1 h1 =>
    (consK r1 fun w2 ws3 =>
      (nilK ws3
        (runK (evFn Cw d 56 [w2, (AVal.str s1), (AVal.str s2), (AVal.int .i64 x3)] h1) fun r4 h4 =>
          (consK r4 fun w5 ws6 =>
            (slOK 3 w5 fun es7 =>
              (nilK ws6
                (Tr.ret ([(AVal.sl false 3 es7)], h4))))))))) := by kernel_rfl
/- f16 (*strandline/table.Table).Pairs -/
theorem F16_eq (d : Nat) (i0 : Nat) (h : Heap) : evFn Cw (d + 1) 16 [(AVal.obj i0 0)] h =
  (runK (evFn Cw d 28 [(AVal.obj i0 0)] h) fun r1 h1 =>
    (consK r1 fun w2 ws3 =>
      (intK .i64 w2 fun y4 =>
        (nilK ws3
          (runK (evFn Cw d 35 [(AVal.obj i0 0), (AVal.str []), (AVal.str []), (AVal.int .i64 y4)] h1) fun r5 h5 =>
            (consK r5 fun w6 ws7 =>
              (slOK 3 w6 fun es8 =>
                (nilK ws7
                  (Tr.ret ([(AVal.sl false 3 es8)], h5)))))))))) := by kernel_rfl
/- f17 strandline/replay.Kinds -/
noncomputable def P4_0 (d k : Nat) (f0 : Bool) (l1 : List AVal) (x2 : Int) (f3 : Bool) (l4 : List AVal) (x5 : Int) (x6 : Int) (c7 : List AVal) (h : Heap) : Tr Res :=
  loopPt Cw d 4 [true, true, true, true, true, false, true, true] [] k ⟨[(0, (EV.one (SV.val (AVal.sl f0 6 l1)))), (1, (EV.one (SV.val (AVal.int .i64 x2)))), (2, (EV.one (SV.val (AVal.sl f3 6 l4)))), (7, (EV.one (SV.loc 7 0))), (9, (EV.one (SV.val (AVal.int .i64 x5)))), (10, (EV.one (SV.val (AVal.int .i64 x6))))], [(7, (Box.plain c7))]⟩ h
noncomputable def P4_1 (d k : Nat) (f0 : Bool) (l1 : List AVal) (x2 : Int) (f3 : Bool) (l4 : List AVal) (x5 : Int) (x6 : Int) (c7 : List AVal) (h : Heap) : Tr Res :=
  loopPt Cw d 4 [true, true, true, true, true, true, true, false, true, true] [] k ⟨[(0, (EV.one (SV.val (AVal.sl f0 6 l1)))), (1, (EV.one (SV.val (AVal.int .i64 x2)))), (2, (EV.one (SV.val (AVal.sl f3 6 l4)))), (7, (EV.one (SV.loc 7 0))), (9, (EV.one (SV.val (AVal.int .i64 x5)))), (13, (EV.one (SV.val (AVal.int .i64 x6))))], [(7, (Box.plain c7))]⟩ h
noncomputable def P4_2 (d k : Nat) (f0 : Bool) (l1 : List AVal) (x2 : Int) (f3 : Bool) (l4 : List AVal) (x5 : Int) (x6 : Int) (l7 : List AVal) (x8 : Int) (c9 : List AVal) (c10 : List AVal) (h : Heap) : Tr Res :=
  loopPt Cw d 4 [true, true, true, true, true, true, true, true, true, true, false, true, true] [] k ⟨[(0, (EV.one (SV.val (AVal.sl f0 6 l1)))), (1, (EV.one (SV.val (AVal.int .i64 x2)))), (2, (EV.one (SV.val (AVal.sl f3 6 l4)))), (7, (EV.one (SV.loc 7 0))), (9, (EV.one (SV.val (AVal.int .i64 x5)))), (14, (EV.one (SV.loc 14 0))), (15, (EV.one (SV.val (AVal.int .i64 x6)))), (16, (EV.one (SV.own (tokOf 16 0) 6 l7))), (17, (EV.one (SV.val (AVal.int .i64 x8))))], [(7, (Box.plain c9)), (14, (Box.plain c10))]⟩ h
theorem P4_0_eq (d k : Nat) (f0 : Bool) (l1 : List AVal) (x2 : Int) (f3 : Bool) (l4 : List AVal) (x5 : Int) (x6 : Int) (c7 : List AVal) (h : Heap) : P4_0 d (k + 1) f0 l1 x2 f3 l4 x5 x6 c7 h =
  (bif (decide ((x6 : Int) < (l1.length : Int))) then
    (bif (decide ((0 : Int) ≤ x6) && decide ((x6 : Int) < (l1.length : Int))) then
      (optK ((AVal.cells (l1.getD (Int.toNat x6) AVal.undef))[0]?) fun w1 =>
        (intK .i64 w1 fun y2 =>
          (bif ((y2 : Int) == 4) then (P4_0 d k f0 l1 x2 f3 l4 x6 (IntKind.i64.wrap (x6 + 1)) c7 h) else (P4_0 d k f0 l1 x2 f3 l4 x5 (IntKind.i64.wrap (x6 + 1)) c7 h))))
    else
      Tr.fail)
  else
    (bif (decide ((0 : Int) ≤ x5) && decide ((x5 : Int) < (l1.length : Int))) then
      (optK ((AVal.cells (l1.getD (Int.toNat x5) AVal.undef))[4]?) fun w3 =>
        (slK 0 w3 fun fl4 es5 =>
          (runK (evFn Cw d 7 [(AVal.sl fl4 0 es5)] h) fun r6 h6 =>
            (consK r6 fun w7 ws8 =>
              (aggK 3 w7 fun cc9 =>
                (consK ws8 fun w10 ws11 =>
                  (intK .i64 w10 fun y12 =>
                    (nilK ws11
                      (bif ((cc9.length == 3) && true) then
                        (optK (cc9[0]?) fun w13 =>
                          (intK .i64 w13 fun y14 =>
                            (P4_1 d rounds f0 l1 x2 f3 l4 x5 y14 c7 h6)))
                      else
                        Tr.fail)))))))))
    else
      Tr.fail)) := by kernel_rfl
theorem P4_1_eq (d k : Nat) (f0 : Bool) (l1 : List AVal) (x2 : Int) (f3 : Bool) (l4 : List AVal) (x5 : Int) (x6 : Int) (c7 : List AVal) (h : Heap) : P4_1 d (k + 1) f0 l1 x2 f3 l4 x5 x6 c7 h =
  (bif (decide ((x6 : Int) > 0)) then
    (bif (decide ((x5 : Int) > 0)) then
      (bif (decide ((0 : Int) ≤ (IntKind.i64.wrap (x5 - 1))) && decide (((IntKind.i64.wrap (x5 - 1)) : Int) < (l1.length : Int))) then
        (optK ((AVal.cells (l1.getD (Int.toNat (IntKind.i64.wrap (x5 - 1))) AVal.undef))[0]?) fun w1 =>
          (intK .i64 w1 fun y2 =>
            (bif ((y2 : Int) == 3) then
              (P4_1 d k f0 l1 x2 f3 l4 (IntKind.i64.wrap (x5 - 1)) (IntKind.i64.wrap (x6 - 1)) c7 h)
            else
              (P4_1 d k f0 l1 x2 f3 l4 (IntKind.i64.wrap (x5 - 1)) x6 c7 h))))
      else
        Tr.fail)
    else
      (bif ((decide ((0 : Int) ≤ x5) && decide ((x5 : Int) ≤ (l1.length : Int))) && decide (((l1.length : Int) : Int) ≤ (l1.length : Int))) then
        (runK (evFn Cw d 13 [(AVal.sl f0 6 (Go.Weave.part x5 (l1.length : Int) l1)), (AVal.int .i64 1)] h) fun r3 h3 =>
          (consK r3 fun w4 ws5 =>
            (aggK 3 w4 fun cc6 =>
              (consK ws5 fun w7 ws8 =>
                (intK .i64 w7 fun y9 =>
                  (nilK ws8
                    (bif ((cc6.length == 3) && true) then (P4_2 d rounds f0 l1 x2 f3 l4 x5 y9 [] 0 c7 cc6 h3) else Tr.fail)))))))
      else
        Tr.fail))
  else
    (bif ((decide ((0 : Int) ≤ x5) && decide ((x5 : Int) ≤ (l1.length : Int))) && decide (((l1.length : Int) : Int) ≤ (l1.length : Int))) then
      (runK (evFn Cw d 13 [(AVal.sl f0 6 (Go.Weave.part x5 (l1.length : Int) l1)), (AVal.int .i64 1)] h) fun r10 h10 =>
        (consK r10 fun w11 ws12 =>
          (aggK 3 w11 fun cc13 =>
            (consK ws12 fun w14 ws15 =>
              (intK .i64 w14 fun y16 =>
                (nilK ws15
                  (bif ((cc13.length == 3) && true) then (P4_2 d rounds f0 l1 x2 f3 l4 x5 y16 [] 0 c7 cc13 h10) else Tr.fail)))))))
    else
      Tr.fail)) := by kernel_rfl
theorem P4_2_eq (d k : Nat) (f0 : Bool) (l1 : List AVal) (x2 : Int) (f3 : Bool) (l4 : List AVal) (x5 : Int) (x6 : Int) (l7 : List AVal) (x8 : Int) (c9 : List AVal) (c10 : List AVal) (h : Heap) : P4_2 d (k + 1) f0 l1 x2 f3 l4 x5 x6 l7 x8 c9 c10 h =
  (bif (decide ((x8 : Int) < (l4.length : Int))) then
    (bif ((decide ((0 : Int) ≤ x8) && decide ((x8 : Int) ≤ (IntKind.i64.wrap (x8 + 1)))) && decide (((IntKind.i64.wrap (x8 + 1)) : Int) ≤ (l4.length : Int))) then
      (runK (evFn Cw d 14 [(AVal.sl false 6 (Go.Weave.part x8 (IntKind.i64.wrap (x8 + 1)) l4)), (AVal.int .i64 1)] h) fun r1 h1 =>
        (consK r1 fun w2 ws3 =>
          (aggK 3 w2 fun cc4 =>
            (consK ws3 fun w5 ws6 =>
              (intK .i64 w5 fun y7 =>
                (nilK ws6
                  (bif ((cc4.length == 3) && true) then
                    (bif (decide ((0 : Int) ≤ x8) && decide ((x8 : Int) < (l4.length : Int))) then
                      (optK ((AVal.cells (l4.getD (Int.toNat x8) AVal.undef))[0]?) fun w8 =>
                        (intK .i64 w8 fun y9 =>
                          (bif ((y9 : Int) == 3) then
                            (bif ((y7 : Int) == 0) then
                              (bif (decide ((0 : Int) ≤ x8) && decide ((x8 : Int) < (l4.length : Int))) then
                                (aggK 5 (l4.getD (Int.toNat x8) AVal.undef) fun cc10 =>
                                  (bif ((cc10.length == 5) && true) then
                                    (bif decide ((l7.length + (1 : Nat)) * 56 ≤ 140737488355328) then
                                      (P4_2 d k f0 l1 x2 f3 l4 x5 x6 (l7 ++ [(AVal.agg cc10)]) (IntKind.i64.wrap (x8 + 1)) c9 c10 h1)
                                    else
                                      Tr.fail)
                                  else
                                    Tr.fail))
                              else
                                Tr.fail)
                            else
                              (P4_2 d k f0 l1 x2 f3 l4 x5 x6 l7 (IntKind.i64.wrap (x8 + 1)) c9 c10 h1))
                          else
                            (P4_2 d k f0 l1 x2 f3 l4 x5 x6 l7 (IntKind.i64.wrap (x8 + 1)) c9 c10 h1))))
                    else
                      Tr.fail)
                  else
                    Tr.fail)))))))
    else
      Tr.fail)
  else
    (bif (decide ((0 : Int) ≤ (IntKind.i64.wrap (x5 * (IntKind.i64.wrap (BitVec.ofInt 64 x2 &&& BitVec.ofInt 64 1).toNat)))) && decide (((IntKind.i64.wrap (x5 * (IntKind.i64.wrap (BitVec.ofInt 64 x2 &&& BitVec.ofInt 64 1).toNat))) : Int) ≤ (l1.length : Int))) then
      (bif ((decide ((0 : Int) ≤ (IntKind.i64.wrap (x5 * (IntKind.i64.wrap (BitVec.ofInt 64 x2 &&& BitVec.ofInt 64 1).toNat)))) && decide (((IntKind.i64.wrap (x5 * (IntKind.i64.wrap (BitVec.ofInt 64 x2 &&& BitVec.ofInt 64 1).toNat))) : Int) ≤ (l1.length : Int))) && decide (((l1.length : Int) : Int) ≤ (l1.length : Int))) then
        (bif decide (((0 : Nat) + (Go.Weave.part 0 (IntKind.i64.wrap (x5 * (IntKind.i64.wrap (BitVec.ofInt 64 x2 &&& BitVec.ofInt 64 1).toNat))) l1).length) * 56 ≤ 140737488355328) then
          (bif decide ((([] ++ (Go.Weave.part 0 (IntKind.i64.wrap (x5 * (IntKind.i64.wrap (BitVec.ofInt 64 x2 &&& BitVec.ofInt 64 1).toNat))) l1)).length + l7.length) * 56 ≤ 140737488355328) then
            (bif decide (((([] ++ (Go.Weave.part 0 (IntKind.i64.wrap (x5 * (IntKind.i64.wrap (BitVec.ofInt 64 x2 &&& BitVec.ofInt 64 1).toNat))) l1)) ++ l7).length + (Go.Weave.part (IntKind.i64.wrap (x5 * (IntKind.i64.wrap (BitVec.ofInt 64 x2 &&& BitVec.ofInt 64 1).toNat))) (l1.length : Int) l1).length) * 56 ≤ 140737488355328) then
              (runK (evFn Cw d 13 [(AVal.sl false 6 ((([] ++ (Go.Weave.part 0 (IntKind.i64.wrap (x5 * (IntKind.i64.wrap (BitVec.ofInt 64 x2 &&& BitVec.ofInt 64 1).toNat))) l1)) ++ l7) ++ (Go.Weave.part (IntKind.i64.wrap (x5 * (IntKind.i64.wrap (BitVec.ofInt 64 x2 &&& BitVec.ofInt 64 1).toNat))) (l1.length : Int) l1))), (AVal.int .i64 2)] h) fun r11 h11 =>
                (consK r11 fun w12 ws13 =>
                  (aggK 3 w12 fun cc14 =>
                    (consK ws13 fun w15 ws16 =>
                      (intK .i64 w15 fun y17 =>
                        (nilK ws16
                          (bif ((cc14.length == 3) && true) then
                            (bif ((x6 : Int) == 0) then
                              (optK (c9[0]?) fun w18 =>
                                (optK (c10[0]?) fun w19 =>
                                  (runK (evFn Cw d 16 [w18] h11) fun r20 h20 =>
                                    (consK r20 fun w21 ws22 =>
                                      (slOK 3 w21 fun es23 =>
                                        (nilK ws22
                                          (runK (evFn Cw d 16 [w19] h20) fun r24 h24 =>
                                            (consK r24 fun w25 ws26 =>
                                              (slOK 3 w25 fun es27 =>
                                                (nilK ws26
                                                  (runK (evFn Cw d 15 [(AVal.sl false 3 es23), (AVal.sl false 3 es27)] h24) fun r28 h28 =>
                                                    (consK r28 fun w29 ws30 =>
                                                      (boolK w29 fun bb31 =>
                                                        (nilK ws30
                                                          (bif bb31 then
                                                            (bif ((y17 : Int) == 0) then
                                                              (optK (cc14[0]?) fun w32 =>
                                                                (optK (c9[0]?) fun w33 =>
                                                                  (runK (evFn Cw d 16 [w32] h28) fun r34 h34 =>
                                                                    (consK r34 fun w35 ws36 =>
                                                                      (slOK 3 w35 fun es37 =>
                                                                        (nilK ws36
                                                                          (runK (evFn Cw d 16 [w33] h34) fun r38 h38 =>
                                                                            (consK r38 fun w39 ws40 =>
                                                                              (slOK 3 w39 fun es41 =>
                                                                                (nilK ws40
                                                                                  (runK (evFn Cw d 15 [(AVal.sl false 3 es37), (AVal.sl false 3 es41)] h38) fun r42 h42 =>
                                                                                    (consK r42 fun w43 ws44 =>
                                                                                      (boolK w43 fun bb45 =>
                                                                                        (nilK ws44
                                                                                          (bif bb45 then
                                                                                            (runK (evFn Cw d 12 [] h42) fun r46 h46 =>
                                                                                              (consK r46 fun w47 ws48 =>
                                                                                                (boolK w47 fun bb49 =>
                                                                                                  (nilK ws48
                                                                                                    (Tr.ret ([(AVal.bool bb49)], h46))))))
                                                                                          else
                                                                                            (Tr.ret ([(AVal.bool false)], h42)))))))))))))))))
                                                            else
                                                              (Tr.ret ([(AVal.bool false)], h28)))
                                                          else
                                                            (Tr.ret ([(AVal.bool false)], h28)))))))))))))))))
                            else
                              (Tr.ret ([(AVal.bool false)], h11)))
                          else
                            Tr.fail)))))))
            else
              Tr.fail)
          else
            Tr.fail)
        else
          Tr.fail)
      else
        Tr.fail)
    else
      Tr.fail)) := by kernel_rfl
theorem F4_eq (d : Nat) (f0 : Bool) (l1 : List AVal) (x2 : Int) (f3 : Bool) (l4 : List AVal) (h : Heap) : evFn Cw (d + 1) 4 [(AVal.sl f0 6 l1), (AVal.int .i64 x2), (AVal.sl f3 6 l4)] h =
  (runK (evFn Cw d 11 [(AVal.sl f0 6 l1)] h) fun r1 h1 =>
    (consK r1 fun w2 ws3 =>
      (boolK w2 fun bb4 =>
        (nilK ws3
          (bif (!bb4) then
            (runK (evFn Cw d 12 [] h1) fun r5 h5 =>
              (consK r5 fun w6 ws7 =>
                (boolK w6 fun bb8 =>
                  (nilK ws7
                    (Tr.ret ([(AVal.bool bb8)], h5))))))
          else
            (runK (evFn Cw d 11 [(AVal.sl f3 6 l4)] h1) fun r9 h9 =>
              (consK r9 fun w10 ws11 =>
                (boolK w10 fun bb12 =>
                  (nilK ws11
                    (bif (!bb12) then
                      (runK (evFn Cw d 12 [] h9) fun r13 h13 =>
                        (consK r13 fun w14 ws15 =>
                          (boolK w14 fun bb16 =>
                            (nilK ws15
                              (Tr.ret ([(AVal.bool bb16)], h13))))))
                    else
                      (runK (evFn Cw d 13 [(AVal.sl f0 6 l1), (AVal.int .i64 2)] h9) fun r17 h17 =>
                        (consK r17 fun w18 ws19 =>
                          (aggK 3 w18 fun cc20 =>
                            (consK ws19 fun w21 ws22 =>
                              (intK .i64 w21 fun y23 =>
                                (nilK ws22
                                  (bif ((cc20.length == 3) && true) then
                                    (bif ((y23 : Int) != 0) then
                                      (runK (evFn Cw d 12 [] h17) fun r24 h24 =>
                                        (consK r24 fun w25 ws26 =>
                                          (boolK w25 fun bb27 =>
                                            (nilK ws26
                                              (Tr.ret ([(AVal.bool bb27)], h24))))))
                                    else
                                      (P4_0 d rounds f0 l1 x2 f3 l4 0 0 cc20 h17))
                                  else
                                    Tr.fail))))))))))))))))) := by kernel_rfl
end Go.Proofs.YtdlcjibefbnckaaDoor.Wa
end

section
/- Tables. -/
namespace Go.Proofs.YtdlcjibefbnckaaDoor.Wa
open Go Go.Weave
set_option maxRecDepth 100000
set_option linter.unusedSimpArgs false
set_option linter.unusedVariables false
set_option linter.unusedSectionVars false

/-! ### Sorted pairs, plainly -/
def btot : List KPair → Nat
  | [] => 0
  | p :: l => p.key.length + p.val.length + btot l
theorem btot_append (a b : List KPair) : btot (a ++ b) = btot a + btot b := by
  induction a with
  | nil => simp [btot]
  | cons p a ih => simp only [List.cons_append, btot, ih]; omega
theorem btot_le {B : Nat} : ∀ {l : List KPair}, (∀ p ∈ l, p.key.length ≤ B ∧ p.val.length ≤ B) → btot l ≤ l.length * (2 * B)
  | [], _ => by simp [btot]
  | p :: l, h => by
    have h1 := h p List.mem_cons_self
    have h2 := btot_le fun q hq => h q (List.mem_cons_of_mem _ hq)
    simp only [btot, List.length_cons, Nat.add_mul, Nat.one_mul]
    omega
theorem btot_new {k v : List UInt8} {l : List KPair} (h : (lget k l).isSome = false) : btot (lput k v l) = btot l + v.length + k.length := by
  have h0 := lget_none h
  have : ∀ l : List KPair, (∀ p ∈ l, p.key ≠ k) → btot (l.filter (fun p => blt p.key k)) + btot (l.filter (fun p => blt k p.key)) = btot l := by
    intro l
    induction l with
    | nil => intro _; rfl
    | cons p l ih =>
      intro h
      have ih := ih fun q hq => h q (List.mem_cons_of_mem _ hq)
      have hp := h p List.mem_cons_self
      rw [List.filter_cons, List.filter_cons]
      by_cases c : blt p.key k = true
      · rw [if_pos c, if_neg (by rw [blt_asym c]; simp)]
        simp only [btot]; omega
      · have c2 : blt k p.key = true := by
          cases hh : blt k p.key
          · exact absurd (blt_tri (by simpa using c) hh) hp
          · rfl
        rw [if_neg c, if_pos c2]
        simp only [btot]; omega
  unfold lput
  rw [btot_append]
  simp only [btot]
  have := this l h0
  omega
theorem lget_split {k : List UInt8} {l : List KPair} (h : (lget k l).isSome = true) : ∃ a b, l = a ++ ⟨k, oVal (lget k l)⟩ :: b := by
  cases hp : lget k l with
  | none => rw [hp] at h; simp at h
  | some p =>
    unfold lget at hp
    have e : p.key = k := by simpa using List.find?_some hp
    obtain ⟨a, b, e2⟩ := List.append_of_mem (List.mem_of_find?_eq_some hp)
    exact ⟨a, b, by rw [e2, ← e]; rfl⟩
theorem btot_old {k v : List UInt8} {l : List KPair} (hs : Srt l) (h : (lget k l).isSome = true) : btot (lput k v l) + (oVal (lget k l)).length = btot l + v.length := by
  obtain ⟨a, b, e⟩ := lget_split h
  generalize oVal (lget k l) = x at e
  subst e
  rw [lput_eq hs, btot_append, btot_append]
  simp only [btot]; omega
theorem btot_del {k : List UInt8} {l : List KPair} (hs : Srt l) (h : (lget k l).isSome = true) : btot (ldel k l) + (k.length + (oVal (lget k l)).length) = btot l := by
  obtain ⟨a, b, e⟩ := lget_split h
  generalize oVal (lget k l) = x at e
  subst e
  have := ldel_eq hs
  simp only at this
  rw [this, btot_append, btot_append]
  simp only [btot]; omega
theorem oVal_new {k : List UInt8} {l : List KPair} (h : (lget k l).isSome = false) : oVal (lget k l) = [] := by cases hp : lget k l <;> simp_all [oVal]
/-! ### Operations, plainly -/
def rightO (o : KOp) : Bool := decide (1 ≤ o.key.length) && (decide (o.key.length ≤ 24) && ((o.kind == 1 && decide (o.val.length ≤ 128)) || (o.kind == 2 && (o.val == []))))
def apO (l : List KPair) (o : KOp) : List KPair := if o.kind = 1 then lput o.key o.val l else ldel o.key l
def aps (l : List KPair) (ops : List KOp) : List KPair := ops.foldl (fun l o => if rightO o then apO l o else l) l
def cntO (ops : List KOp) : Nat := (ops.filter rightO).length
theorem aps_nil (l : List KPair) : aps l [] = l := rfl
theorem aps_cons (l : List KPair) (o : KOp) (ops : List KOp) : aps l (o :: ops) = aps (if rightO o then apO l o else l) ops := rfl
theorem apO_srt {l : List KPair} {o : KOp} (h : Srt l) : Srt (apO l o) := by unfold apO; split; exact h.put; exact h.del
theorem aps_srt : ∀ {ops : List KOp} {l : List KPair}, Srt l → Srt (aps l ops)
  | [], _, h => h
  | o :: ops, l, h => by
    rw [aps_cons]
    exact aps_srt (by split; exact apO_srt h; exact h)
end Go.Proofs.YtdlcjibefbnckaaDoor.Wa
end

section
/- Tables: what the program does with them. -/
namespace Go.Proofs.YtdlcjibefbnckaaDoor.Wa
open Go Go.Weave
set_option maxRecDepth 100000
set_option linter.unusedSimpArgs false
set_option linter.unusedVariables false
set_option linter.unusedSectionVars false

/-! ### Right operations -/
theorem opright_run {d : Nat} {o : KOp} {h : Heap} {Q : Res → Prop} {tg : Hid Q} : Run (evFn Cw (d + 1) 75 [.agg [.int .i64 o.kind, .str o.key, .str o.val]] h) Q tg = Q ([.bool (rightO o)], h) := by
  rw [F75_eq]
  by_cases c1 : 1 ≤ o.key.length
  · by_cases c2 : o.key.length ≤ 24
    · by_cases c3 : o.kind = 1
      · have c3' : (o.kind == 1) = true := by simp [c3]
        have e : rightO o = decide ((o.val.length : Int) ≤ 128) := by simp [rightO, c1, c2, c3]; omega
        rw [e]
        simp (disch := (first | assumption | (simp only [Bool.and_eq_true, Bool.and_eq_false_iff, decide_eq_true_eq, decide_eq_false_iff_not, bne_iff_ne, beq_iff_eq, beq_eq_false_iff_ne, bne_eq_false_iff_eq, Bool.not_eq_true', Bool.not_eq_false', bys_length, List.length_append, List.length_cons, List.length_nil, List.length_map, List.length_drop, List.length_take, Int.natCast_add, wrap_i64_eq, wrap_u64, wrap_u8, ne_eq, not_true_eq_false, not_false_eq_true, Nat.zero_add, Nat.mul_one] <;> omega) | omega | (simp; done) | (simp; omega))) only [↓CR, MC, ↓PR, MR, c3']
      · have c3' : (o.kind == 1) = false := by simpa using c3
        by_cases c4 : o.kind = 2
        · have c4' : (o.kind == 2) = true := by simp [c4]
          have e : rightO o = (o.val == []) := by simp [rightO, c1, c2, c4]
          rw [e]
          simp (disch := (first | assumption | (simp only [Bool.and_eq_true, Bool.and_eq_false_iff, decide_eq_true_eq, decide_eq_false_iff_not, bne_iff_ne, beq_iff_eq, beq_eq_false_iff_ne, bne_eq_false_iff_eq, Bool.not_eq_true', Bool.not_eq_false', bys_length, List.length_append, List.length_cons, List.length_nil, List.length_map, List.length_drop, List.length_take, Int.natCast_add, wrap_i64_eq, wrap_u64, wrap_u8, ne_eq, not_true_eq_false, not_false_eq_true, Nat.zero_add, Nat.mul_one] <;> omega) | omega | (simp; done) | (simp; omega))) only [↓CR, MC, ↓PR, MR, c3', c4']
        · have c4' : (o.kind == 2) = false := by simpa using c4
          have e : rightO o = false := by simp [rightO, c3, c4]
          rw [e]
          simp (disch := (first | assumption | (simp only [Bool.and_eq_true, Bool.and_eq_false_iff, decide_eq_true_eq, decide_eq_false_iff_not, bne_iff_ne, beq_iff_eq, beq_eq_false_iff_ne, bne_eq_false_iff_eq, Bool.not_eq_true', Bool.not_eq_false', bys_length, List.length_append, List.length_cons, List.length_nil, List.length_map, List.length_drop, List.length_take, Int.natCast_add, wrap_i64_eq, wrap_u64, wrap_u8, ne_eq, not_true_eq_false, not_false_eq_true, Nat.zero_add, Nat.mul_one] <;> omega) | omega | (simp; done) | (simp; omega))) only [↓CR, MC, ↓PR, MR, c3', c4']
    · have e : rightO o = false := by simp [rightO, c2]
      rw [e]
      simp (disch := (first | assumption | (simp only [Bool.and_eq_true, Bool.and_eq_false_iff, decide_eq_true_eq, decide_eq_false_iff_not, bne_iff_ne, beq_iff_eq, beq_eq_false_iff_ne, bne_eq_false_iff_eq, Bool.not_eq_true', Bool.not_eq_false', bys_length, List.length_append, List.length_cons, List.length_nil, List.length_map, List.length_drop, List.length_take, Int.natCast_add, wrap_i64_eq, wrap_u64, wrap_u8, ne_eq, not_true_eq_false, not_false_eq_true, Nat.zero_add, Nat.mul_one] <;> omega) | omega | (simp; done) | (simp; omega))) only [↓CR, MC, ↓PR, MR]
  · have e : rightO o = false := by simp [rightO, c1]
    rw [e]
    simp (disch := (first | assumption | (simp only [Bool.and_eq_true, Bool.and_eq_false_iff, decide_eq_true_eq, decide_eq_false_iff_not, bne_iff_ne, beq_iff_eq, beq_eq_false_iff_ne, bne_eq_false_iff_eq, Bool.not_eq_true', Bool.not_eq_false', bys_length, List.length_append, List.length_cons, List.length_nil, List.length_map, List.length_drop, List.length_take, Int.natCast_add, wrap_i64_eq, wrap_u64, wrap_u8, ne_eq, not_true_eq_false, not_false_eq_true, Nat.zero_add, Nat.mul_one] <;> omega) | omega | (simp; done) | (simp; omega))) only [↓CR, MC, ↓PR, MR]
theorem r10right_run {d : Nat} {o : KOp} {h : Heap} {Q : Res → Prop} {tg : Hid Q} : Run (evFn Cw (d + 1) 53 [.agg [.int .i64 o.kind, .str o.key, .str o.val]] h) Q tg = Q ([.bool (rightO o)], h) := by
  rw [F53_eq]
  by_cases c1 : 1 ≤ o.key.length
  · have k1 : ((o.key.length : Int) == 0) = false := by simp; intro e; rw [e] at c1; simp at c1
    by_cases c2 : o.key.length ≤ 24
    · by_cases c5 : o.val.length ≤ 128
      · by_cases c3 : o.kind = 1
        · have c3' : (o.kind == 1) = true := by simp [c3]
          have e : rightO o = true := by simp [rightO, c1, c2, c3, c5]
          rw [e]
          simp (disch := (first | assumption | (simp only [Bool.and_eq_true, Bool.and_eq_false_iff, decide_eq_true_eq, decide_eq_false_iff_not, bne_iff_ne, beq_iff_eq, beq_eq_false_iff_ne, bne_eq_false_iff_eq, Bool.not_eq_true', Bool.not_eq_false', bys_length, List.length_append, List.length_cons, List.length_nil, List.length_map, List.length_drop, List.length_take, Int.natCast_add, wrap_i64_eq, wrap_u64, wrap_u8, ne_eq, not_true_eq_false, not_false_eq_true, Nat.zero_add, Nat.mul_one] <;> omega) | omega | (simp; done) | (simp; omega))) only [↓CR, MC, ↓PR, MR, c3', k1]
        · have c3' : (o.kind == 1) = false := by simpa using c3
          by_cases c4 : o.kind = 2
          · have c4' : (o.kind == 2) = true := by simp [c4]
            have e : rightO o = (o.val == []) := by simp [rightO, c1, c2, c4]
            rw [e]
            simp (disch := (first | assumption | (simp only [Bool.and_eq_true, Bool.and_eq_false_iff, decide_eq_true_eq, decide_eq_false_iff_not, bne_iff_ne, beq_iff_eq, beq_eq_false_iff_ne, bne_eq_false_iff_eq, Bool.not_eq_true', Bool.not_eq_false', bys_length, List.length_append, List.length_cons, List.length_nil, List.length_map, List.length_drop, List.length_take, Int.natCast_add, wrap_i64_eq, wrap_u64, wrap_u8, ne_eq, not_true_eq_false, not_false_eq_true, Nat.zero_add, Nat.mul_one] <;> omega) | omega | (simp; done) | (simp; omega))) only [↓CR, MC, ↓PR, MR, c3', c4', k1]
          · have c4' : (o.kind == 2) = false := by simpa using c4
            have e : rightO o = false := by simp [rightO, c3, c4]
            rw [e]
            simp (disch := (first | assumption | (simp only [Bool.and_eq_true, Bool.and_eq_false_iff, decide_eq_true_eq, decide_eq_false_iff_not, bne_iff_ne, beq_iff_eq, beq_eq_false_iff_ne, bne_eq_false_iff_eq, Bool.not_eq_true', Bool.not_eq_false', bys_length, List.length_append, List.length_cons, List.length_nil, List.length_map, List.length_drop, List.length_take, Int.natCast_add, wrap_i64_eq, wrap_u64, wrap_u8, ne_eq, not_true_eq_false, not_false_eq_true, Nat.zero_add, Nat.mul_one] <;> omega) | omega | (simp; done) | (simp; omega))) only [↓CR, MC, ↓PR, MR, c3', c4', k1]
      · have c6 : (o.val == []) = false := by simp; intro e; rw [e] at c5; simp at c5
        have e : rightO o = false := by simp only [rightO, c6, Bool.and_false, Bool.or_false]; simp [c5]
        rw [e]
        simp (disch := (first | assumption | (simp only [Bool.and_eq_true, Bool.and_eq_false_iff, decide_eq_true_eq, decide_eq_false_iff_not, bne_iff_ne, beq_iff_eq, beq_eq_false_iff_ne, bne_eq_false_iff_eq, Bool.not_eq_true', Bool.not_eq_false', bys_length, List.length_append, List.length_cons, List.length_nil, List.length_map, List.length_drop, List.length_take, Int.natCast_add, wrap_i64_eq, wrap_u64, wrap_u8, ne_eq, not_true_eq_false, not_false_eq_true, Nat.zero_add, Nat.mul_one] <;> omega) | omega | (simp; done) | (simp; omega))) only [↓CR, MC, ↓PR, MR, k1]
    · have e : rightO o = false := by simp [rightO, c2]
      rw [e]
      simp (disch := (first | assumption | (simp only [Bool.and_eq_true, Bool.and_eq_false_iff, decide_eq_true_eq, decide_eq_false_iff_not, bne_iff_ne, beq_iff_eq, beq_eq_false_iff_ne, bne_eq_false_iff_eq, Bool.not_eq_true', Bool.not_eq_false', bys_length, List.length_append, List.length_cons, List.length_nil, List.length_map, List.length_drop, List.length_take, Int.natCast_add, wrap_i64_eq, wrap_u64, wrap_u8, ne_eq, not_true_eq_false, not_false_eq_true, Nat.zero_add, Nat.mul_one] <;> omega) | omega | (simp; done) | (simp; omega))) only [↓CR, MC, ↓PR, MR, k1]
  · have k1 : ((o.key.length : Int) == 0) = true := by rw [beq_iff_eq]; omega
    have e : rightO o = false := by simp [rightO, c1]
    rw [e]
    simp (disch := (first | assumption | (simp only [Bool.and_eq_true, Bool.and_eq_false_iff, decide_eq_true_eq, decide_eq_false_iff_not, bne_iff_ne, beq_iff_eq, beq_eq_false_iff_ne, bne_eq_false_iff_eq, Bool.not_eq_true', Bool.not_eq_false', bys_length, List.length_append, List.length_cons, List.length_nil, List.length_map, List.length_drop, List.length_take, Int.natCast_add, wrap_i64_eq, wrap_u64, wrap_u8, ne_eq, not_true_eq_false, not_false_eq_true, Nat.zero_add, Nat.mul_one] <;> omega) | omega | (simp; done) | (simp; omega))) only [↓CR, MC, ↓PR, MR, k1]
theorem rightO_ok {o : KOp} (h : rightO o = true) : KPair.ok ⟨o.key, o.val⟩ := by
  unfold rightO at h
  simp only [Bool.and_eq_true, decide_eq_true_eq, Bool.or_eq_true, beq_iff_eq] at h
  obtain ⟨h1, h2, h3⟩ := h
  refine ⟨by show o.key.length ≤ _; omega, ?_⟩
  show o.val.length ≤ _
  rcases h3 with ⟨_, h3⟩ | ⟨_, h3⟩
  · omega
  · rw [h3]; simp

/-! ### A table -/
def tabO (ti : Nat) (b : Nat) : Weave.Obj := .cells [HCell.val (.obj ti 0), HCell.val (.int .i64 b)]
structure IsTab (h : Heap) (i ti : Nat) (t : Nd) : Prop where
  tb : h.objs[i]? = some (tabO ti (btot t.toL))
  tr : h.objs[ti]? = some (trT t)
  ne : i ≠ ti
  ok : TOk' t
  kv : ∀ p ∈ t.toL, p.key.length ≤ 140737488351232 ∧ p.val.length ≤ 140737488351232
theorem IsTab.bytes {h : Heap} {i ti : Nat} {t : Nd} (T : IsTab h i ti t) : btot t.toL ≤ 8725724277776384000 := by
  have := btot_le T.kv
  have h2 := T.ok.len
  have : t.toL.length * (2 * 140737488351232) ≤ 31000 * (2 * 140737488351232) := Nat.mul_le_mul_right _ h2
  omega
def tabH (h : Heap) (i ti : Nat) (t : Nd) : Heap := (h.put ti (trT t)).put i (tabO ti (btot t.toL))
theorem tabH_ne {h : Heap} {i ti j : Nat} {t : Nd} (h1 : j ≠ i) (h2 : j ≠ ti) : (tabH h i ti t).objs[j]? = h.objs[j]? := by unfold tabH; rw [Heap.put_ne (Ne.symm h1), Heap.put_ne (Ne.symm h2)]
theorem tabH_tabH {h : Heap} {i ti : Nat} {t t' : Nd} (hne : i ≠ ti) : tabH (tabH h i ti t) i ti t' = tabH h i ti t' := by
  unfold tabH
  rw [Heap.put_comm _ _ _ hne, Heap.put_put, Heap.put_put]
theorem tabH_self {h : Heap} {i ti : Nat} {t : Nd} (T : IsTab h i ti t) : tabH h i ti t = h := by
  unfold tabH
  rw [Heap.put_self' T.tr, Heap.put_self' T.tb]
theorem IsTab.step {h : Heap} {i ti : Nat} {t t' : Nd} (T : IsTab h i ti t) (ok : TOk' t') (kv : ∀ p ∈ t'.toL, p.key.length ≤ 140737488351232 ∧ p.val.length ≤ 140737488351232) : IsTab (tabH h i ti t') i ti t' := by
  refine ⟨?_, ?_, T.ne, ok, kv⟩
  · unfold tabH; exact Heap.put_get (o' := tabO ti (btot t.toL)) (by rw [Heap.put_ne (Ne.symm T.ne)]; exact T.tb)
  · unfold tabH; rw [Heap.put_ne T.ne]; exact Heap.put_get T.tr
theorem IsTab.ext {h h' : Heap} {i ti : Nat} {t : Nd} (T : IsTab h i ti t) (E : h.ext h') : IsTab h' i ti t := ⟨E.get T.tb, E.get T.tr, T.ne, T.ok, T.kv⟩
theorem tab_t {h : Heap} {i ti b : Nat} (hm : h.objs[i]? = some (tabO ti b)) : h.cell? i 0 = some (HCell.val (.obj ti 0)) := by rw [Heap.cell_at hm]; rfl
theorem tab_b {h : Heap} {i ti b : Nat} (hm : h.objs[i]? = some (tabO ti b)) : h.cell? i 1 = some (HCell.val (.int .i64 b)) := by rw [Heap.cell_at hm]; rfl
theorem tab_s {h : Heap} {i ti b b' : Nat} (hm : h.objs[i]? = some (tabO ti b)) : h.setCell i 1 (HCell.val (.int .i64 b')) = h.put i (tabO ti b') := by rw [Heap.set_at hm]; rfl
theorem lput_kv {k v : List UInt8} {l : List KPair} (hk : k.length ≤ 140737488351232) (hv : v.length ≤ 140737488351232) (h : ∀ p ∈ l, p.key.length ≤ 140737488351232 ∧ p.val.length ≤ 140737488351232) : ∀ p ∈ lput k v l, p.key.length ≤ 140737488351232 ∧ p.val.length ≤ 140737488351232 := by
  intro p hp
  unfold lput at hp
  rcases List.mem_append.1 hp with hp | hp
  · exact h p (List.mem_filter.1 hp).1
  · rcases List.mem_cons.1 hp with rfl | hp
    · exact ⟨hk, hv⟩
    · exact h p (List.mem_filter.1 hp).1
theorem tabput_run {d i ti : Nat} {t : Nd} {k v : List UInt8} {h : Heap} {Q : Res → Prop} {tg : Hid Q} (T : IsTab h i ti t) (hl : t.toL.length ≤ 30999) (hk : k.length ≤ 140737488351232) (hv : v.length ≤ 140737488351232) (hd : 31010 ≤ d) :
    Run (evFn Cw (d + 1) 72 [.obj i 0, .str k, .str v] h) Q tg = Q ([], tabH h i ti (t.put k v)) := by
  have rp := fun (Q : Res → Prop) (tg : Hid Q) => tput_run (d := d) (k := k) (v := v) (Q := Q) (tg := tg) T.ok hl T.tr hd
  have hb := T.bytes
  have m1 : (h.put ti (trT (t.put k v))).objs[i]? = some (tabO ti (btot t.toL)) := by rw [Heap.put_ne (Ne.symm T.ne)]; exact T.tb
  have eL := (T.ok.put k v hl).2
  rw [F72_eq]
  unfold tabH
  rw [eL]
  cases hg : (lget k t.toL).isSome
  · have eb := btot_new (v := v) hg
    have eo := oVal_new hg
    have e0' : (([] : List UInt8).length : Int) = 0 := rfl
    have e1 : IntKind.i64.wrap ((v.length : Int) - 0) = (v.length : Int) := by rw [wrap_i64_id (by omega) (by omega)]; omega
    have e2 : IntKind.i64.wrap (((btot t.toL : Nat) : Int) + (v.length : Int)) = ((btot t.toL + v.length : Nat) : Int) := by rw [wrap_i64_id (by omega) (by omega)]; omega
    have m2 : ((h.put ti (trT (t.put k v))).put i (tabO ti (btot t.toL + v.length))).objs[i]? = some (tabO ti (btot t.toL + v.length)) := Heap.put_get m1
    have e3 : IntKind.i64.wrap (((btot t.toL + v.length : Nat) : Int) + (k.length : Int)) = ((btot (lput k v t.toL) : Nat) : Int) := by rw [wrap_i64_id (by omega) (by omega)]; omega
    rw [hg, eo] at rp
    simp (disch := (first | assumption | (simp only [Bool.and_eq_true, Bool.and_eq_false_iff, decide_eq_true_eq, decide_eq_false_iff_not, bne_iff_ne, beq_iff_eq, beq_eq_false_iff_ne, bne_eq_false_iff_eq, Bool.not_eq_true', Bool.not_eq_false', bys_length, List.length_append, List.length_cons, List.length_nil, List.length_map, List.length_drop, List.length_take, Int.natCast_add, wrap_i64_eq, wrap_u64, wrap_u8, ne_eq, not_true_eq_false, not_false_eq_true, Nat.zero_add, Nat.mul_one] <;> omega) | omega | (simp; done) | (simp; omega))) only [↓CR, MC, ↓PR, MR, tab_t T.tb, rp, tab_b m1, e0', e1, e2, tab_s m1, Bool.not_false, tab_b m2, e3, tab_s m2, Heap.put_put]
  · have eb := btot_old (v := v) T.ok.srt hg
    have el := btot_del T.ok.srt hg
    rw [hg] at rp
    generalize (oVal (lget k t.toL)).length = n at *
    have e1 : IntKind.i64.wrap ((v.length : Int) - ((oVal (lget k t.toL)).length : Int)) = (v.length : Int) - ((oVal (lget k t.toL)).length : Int) := wrap_i64_id (by have := btot_del T.ok.srt hg; omega) (by have := btot_del T.ok.srt hg; omega)
    have e2 : IntKind.i64.wrap (((btot t.toL : Nat) : Int) + ((v.length : Int) - ((oVal (lget k t.toL)).length : Int))) = ((btot (lput k v t.toL) : Nat) : Int) := by
      have h1 := btot_del T.ok.srt hg
      have h2 := btot_old (v := v) T.ok.srt hg
      rw [wrap_i64_id (by omega) (by omega)]; omega
    simp (disch := (first | assumption | (simp only [Bool.and_eq_true, Bool.and_eq_false_iff, decide_eq_true_eq, decide_eq_false_iff_not, bne_iff_ne, beq_iff_eq, beq_eq_false_iff_ne, bne_eq_false_iff_eq, Bool.not_eq_true', Bool.not_eq_false', bys_length, List.length_append, List.length_cons, List.length_nil, List.length_map, List.length_drop, List.length_take, Int.natCast_add, wrap_i64_eq, wrap_u64, wrap_u8, ne_eq, not_true_eq_false, not_false_eq_true, Nat.zero_add, Nat.mul_one] <;> omega) | omega | (simp; done) | (simp; omega))) only [↓CR, MC, ↓PR, MR, tab_t T.tb, rp, tab_b m1, e1, e2, tab_s m1, Bool.not_true]
theorem tabnew_run {d : Nat} {h : Heap} {Q : Res → Prop} {tg : Hid Q} : Run (evFn Cw (d + 2) 29 [] h) Q tg = Q ([.obj (h.objs.length + 1) 0], (h.push (trT .nil)).push (tabO h.objs.length 0)) := by
  have e1 : (h.push (trT .nil)).objs.length = h.objs.length + 1 := Heap.push_len _ _
  have e2 : AVal.isAgg (.obj h.objs.length 0) = false := rfl
  have e3 : Weave.Obj.cells ([AVal.obj h.objs.length 0, AVal.int .i64 0].map HCell.val) = tabO h.objs.length 0 := of_eq_true (eq_self _)
  rw [F29_eq]
  simp (disch := (first | assumption | (simp only [Bool.and_eq_true, Bool.and_eq_false_iff, decide_eq_true_eq, decide_eq_false_iff_not, bne_iff_ne, beq_iff_eq, beq_eq_false_iff_ne, bne_eq_false_iff_eq, Bool.not_eq_true', Bool.not_eq_false', bys_length, List.length_append, List.length_cons, List.length_nil, List.length_map, List.length_drop, List.length_take, Int.natCast_add, wrap_i64_eq, wrap_u64, wrap_u8, ne_eq, not_true_eq_false, not_false_eq_true, Nat.zero_add, Nat.mul_one] <;> omega) | omega | (simp; done) | (simp; omega))) only [↓CR, MC, ↓PR, MR, tnew_run, e1, e2, e3, Bool.not_false]
theorem tabnew_is (h : Heap) : h.ext ((h.push (trT .nil)).push (tabO h.objs.length 0)) ∧ IsTab ((h.push (trT .nil)).push (tabO h.objs.length 0)) (h.objs.length + 1) h.objs.length .nil := by
  have E1 := Heap.ext.push h (trT .nil)
  have E2 := Heap.ext.push (h.push (trT .nil)) (tabO h.objs.length 0)
  have e1 : (h.push (trT .nil)).objs.length = h.objs.length + 1 := Heap.push_len _ _
  have m := Heap.push_new (h.push (trT .nil)) (tabO h.objs.length 0)
  rw [e1] at m
  exact ⟨E1.trans E2, m, E2.get (Heap.push_new _ _), by omega, ⟨trivial, List.Pairwise.nil, by simp [Nd.toL]⟩, by simp [Nd.toL]⟩
theorem tabtree_run {d i ti : Nat} {t : Nd} {h : Heap} {Q : Res → Prop} {tg : Hid Q} (T : IsTab h i ti t) : Run (evFn Cw (d + 1) 43 [.obj i 0] h) Q tg = Q ([.obj ti 0], h) := by
  rw [F43_eq]
  simp (disch := (first | assumption | (simp only [Bool.and_eq_true, Bool.and_eq_false_iff, decide_eq_true_eq, decide_eq_false_iff_not, bne_iff_ne, beq_iff_eq, beq_eq_false_iff_ne, bne_eq_false_iff_eq, Bool.not_eq_true', Bool.not_eq_false', bys_length, List.length_append, List.length_cons, List.length_nil, List.length_map, List.length_drop, List.length_take, Int.natCast_add, wrap_i64_eq, wrap_u64, wrap_u8, ne_eq, not_true_eq_false, not_false_eq_true, Nat.zero_add, Nat.mul_one] <;> omega) | omega | (simp; done) | (simp; omega))) only [↓CR, MC, ↓PR, MR, tab_t T.tb]
theorem tablen_run {d i ti : Nat} {t : Nd} {h : Heap} {Q : Res → Prop} {tg : Hid Q} (T : IsTab h i ti t) : Run (evFn Cw (d + 2) 28 [.obj i 0] h) Q tg = Q ([.int .i64 t.toL.length], h) := by
  have r := fun (Q : Res → Prop) (tg : Hid Q) => tabtree_run (d := d) (Q := Q) (tg := tg) T
  have q := fun (Q : Res → Prop) (tg : Hid Q) => tlen_run (d := d) (Q := Q) (tg := tg) T.tr
  rw [F28_eq]
  simp (disch := (first | assumption | (simp only [Bool.and_eq_true, Bool.and_eq_false_iff, decide_eq_true_eq, decide_eq_false_iff_not, bne_iff_ne, beq_iff_eq, beq_eq_false_iff_ne, bne_eq_false_iff_eq, Bool.not_eq_true', Bool.not_eq_false', bys_length, List.length_append, List.length_cons, List.length_nil, List.length_map, List.length_drop, List.length_take, Int.natCast_add, wrap_i64_eq, wrap_u64, wrap_u8, ne_eq, not_true_eq_false, not_false_eq_true, Nat.zero_add, Nat.mul_one] <;> omega) | omega | (simp; done) | (simp; omega))) only [↓CR, MC, ↓PR, MR, r, q]
theorem tabrange_run (d i ti : Nat) (t : Nd) (fr to : List UInt8) (most : Int) (h : Heap) (T : IsTab h i ti t) :
    ∃ h', h.ext h' ∧ ∀ (Q : Res → Prop) (tg : Hid Q), Run (evFn Cw (d + 6) 35 [.obj i 0, .str fr, .str to, .int .i64 most] h) Q tg = Q ([.sl false 3 (prs (rngR fr to most t.toL []))], h') := by
  obtain ⟨h', E, q⟩ := crange_run d ti fr to most t T.ok (fun p hp => (T.kv p hp).1) h T.tr
  refine ⟨h', E, fun Q tg => ?_⟩
  have r := fun (Q : Res → Prop) (tg : Hid Q) => tabtree_run (d := d + 4) (Q := Q) (tg := tg) T
  rw [F35_eq]
  simp (disch := (first | assumption | (simp only [Bool.and_eq_true, Bool.and_eq_false_iff, decide_eq_true_eq, decide_eq_false_iff_not, bne_iff_ne, beq_iff_eq, beq_eq_false_iff_ne, bne_eq_false_iff_eq, Bool.not_eq_true', Bool.not_eq_false', bys_length, List.length_append, List.length_cons, List.length_nil, List.length_map, List.length_drop, List.length_take, Int.natCast_add, wrap_i64_eq, wrap_u64, wrap_u8, ne_eq, not_true_eq_false, not_false_eq_true, Nat.zero_add, Nat.mul_one] <;> omega) | omega | (simp; done) | (simp; omega))) only [↓CR, MC, ↓PR, MR, r, q]
theorem rng_all {most : Int} : ∀ {l acc : List KPair}, ((acc.length + l.length : Nat) : Int) ≤ most → rngR [] [] most l acc = acc ++ l
  | [], acc, _ => by unfold rngR; simp
  | p :: l, acc, h => by
    unfold rngR
    simp only [List.length_cons] at h
    have e : (!blt p.key [] && inTo [] p.key) = true := by
      have : blt p.key [] = false := by cases p.key <;> rfl
      rw [this]; simp [inTo]
    rw [if_pos (by omega), if_pos e, rng_all (by simp; omega)]
    simp
theorem tabpairs_run (d i ti : Nat) (t : Nd) (h : Heap) (T : IsTab h i ti t) :
    ∃ h', h.ext h' ∧ ∀ (Q : Res → Prop) (tg : Hid Q), Run (evFn Cw (d + 7) 16 [.obj i 0] h) Q tg = Q ([.sl false 3 (prs t.toL)], h') := by
  obtain ⟨h', E, q⟩ := tabrange_run d i ti t [] [] (t.toL.length : Nat) h T
  have e : rngR [] [] (t.toL.length : Nat) t.toL [] = t.toL := by rw [rng_all (by simp)]; rfl
  rw [e] at q
  refine ⟨h', E, fun Q tg => ?_⟩
  have r := fun (Q : Res → Prop) (tg : Hid Q) => tablen_run (d := d + 4) (Q := Q) (tg := tg) T
  rw [F16_eq]
  simp (disch := (first | assumption | (simp only [Bool.and_eq_true, Bool.and_eq_false_iff, decide_eq_true_eq, decide_eq_false_iff_not, bne_iff_ne, beq_iff_eq, beq_eq_false_iff_ne, bne_eq_false_iff_eq, Bool.not_eq_true', Bool.not_eq_false', bys_length, List.length_append, List.length_cons, List.length_nil, List.length_map, List.length_drop, List.length_take, Int.natCast_add, wrap_i64_eq, wrap_u64, wrap_u8, ne_eq, not_true_eq_false, not_false_eq_true, Nat.zero_add, Nat.mul_one] <;> omega) | omega | (simp; done) | (simp; omega))) only [↓CR, MC, ↓PR, MR, r, q]
theorem cntO_cons (o : KOp) (ops : List KOp) : cntO (o :: ops) = (if rightO o then 1 else 0) + cntO ops := by
  unfold cntO
  rw [List.filter_cons]
  cases rightO o <;> simp
  omega
theorem tabapply_loop (d i ti : Nat) (f : Bool) (ops : List KOp) (ho : ops.length ≤ 31000) : ∀ (n j k c : Nat) (t : Nd) (h : Heap), IsTab h i ti t → t.toL.length + n ≤ 31000 → ops.length = j + n → n < k → c ≤ j →
    ∃ t', IsTab (tabH h i ti t') i ti t' ∧ t'.toL = aps t.toL (ops.drop j) ∧ ∀ (Q : Res → Prop) (tg : Hid Q),
      Run (P63_0 (d + 31020) k i c f (kops ops) (ops.length : Int) j h) Q tg = Q ([.int .i64 (c + cntO (ops.drop j) : Nat)], tabH h i ti t') := by
  intro n
  induction n with
  | zero =>
    intro j k c t h T hl hj hk hc
    obtain ⟨k, rfl⟩ : ∃ m, k = m + 1 := ⟨k - 1, by omega⟩
    have hd : ops.drop j = [] := List.drop_eq_nil_of_le (by omega)
    refine ⟨t, by rw [tabH_self T]; exact T, by rw [hd]; rfl, fun Q tg => ?_⟩
    rw [tabH_self T, P63_0_eq, hd]
    have e : c + cntO [] = c := rfl
    rw [e]
    simp (disch := (first | assumption | (simp only [Bool.and_eq_true, Bool.and_eq_false_iff, decide_eq_true_eq, decide_eq_false_iff_not, bne_iff_ne, beq_iff_eq, beq_eq_false_iff_ne, bne_eq_false_iff_eq, Bool.not_eq_true', Bool.not_eq_false', bys_length, List.length_append, List.length_cons, List.length_nil, List.length_map, List.length_drop, List.length_take, Int.natCast_add, wrap_i64_eq, wrap_u64, wrap_u8, ne_eq, not_true_eq_false, not_false_eq_true, Nat.zero_add, Nat.mul_one] <;> omega) | omega | (simp; done) | (simp; omega))) only [↓CR, MC, ↓PR, MR]
  | succ n ih =>
    intro j k c t h T hl hj hk hc
    obtain ⟨k, rfl⟩ : ∃ m, k = m + 1 := ⟨k - 1, by omega⟩
    have h1 : j < ops.length := by omega
    have e1 := succ_wrap (i := j) (by omega)
    have e2 := succ_wrap (i := c) (by omega)
    rw [List.drop_eq_getElem_cons h1, aps_cons, cntO_cons]
    cases hr : rightO ops[j]
    · obtain ⟨t', T', hL, r⟩ := ih (j + 1) k c t h T (by omega) (by omega) (by omega) (by omega)
      refine ⟨t', T', by simpa using hL, fun Q tg => ?_⟩
      have r' : ∀ (Q : Res → Prop) (tg : Hid Q), Run (P63_0 (d + 31020) k i c f (kops ops) (ops.length : Int) (j + 1 : Nat) h) Q tg = Q ([.int .i64 (c + ((if false = true then 1 else 0) + cntO (ops.drop (j + 1))) : Nat)], tabH h i ti t') := by simpa using r
      rw [P63_0_eq]
      simp (disch := (first | assumption | (simp only [Bool.and_eq_true, Bool.and_eq_false_iff, decide_eq_true_eq, decide_eq_false_iff_not, bne_iff_ne, beq_iff_eq, beq_eq_false_iff_ne, bne_eq_false_iff_eq, Bool.not_eq_true', Bool.not_eq_false', bys_length, List.length_append, List.length_cons, List.length_nil, List.length_map, List.length_drop, List.length_take, Int.natCast_add, wrap_i64_eq, wrap_u64, wrap_u8, ne_eq, not_true_eq_false, not_false_eq_true, Nat.zero_add, Nat.mul_one] <;> omega) | omega | (simp; done) | (simp; omega))) only [↓CR, MC, ↓PR, MR, kops_length, kops_getD h1, opright_run, hr, Bool.not_false, e1, r']
    · have hok := rightO_ok hr
      by_cases c1 : ops[j].kind = 1
      · have c1' : (ops[j].kind == 1) = true := by simp [c1]
        have rp := fun (Q : Res → Prop) (tg : Hid Q) => tabput_run (d := d + 31019) (k := ops[j].key) (v := ops[j].val) (Q := Q) (tg := tg) T (by omega) hok.1 hok.2 (by omega)
        obtain ⟨ok', hP⟩ := T.ok.put ops[j].key ops[j].val (by omega)
        have T1 := T.step ok' (by rw [hP]; exact lput_kv hok.1 hok.2 T.kv)
        have hlen' : (t.put ops[j].key ops[j].val).toL.length + n ≤ 31000 := by rw [hP]; have := lput_len_le (k := ops[j].key) (v := ops[j].val) T.ok.srt; omega
        obtain ⟨t', T', hL, r⟩ := ih (j + 1) k (c + 1) _ _ T1 hlen' (by omega) (by omega) (by omega)
        rw [tabH_tabH T.ne] at T' r
        refine ⟨t', T', by rw [if_pos rfl]; unfold apO; rw [if_pos c1, hL, hP], fun Q tg => ?_⟩
        have r' : ∀ (Q : Res → Prop) (tg : Hid Q), Run (P63_0 (d + 31020) k i (c + 1 : Nat) f (kops ops) (ops.length : Int) (j + 1 : Nat) (tabH h i ti (t.put ops[j].key ops[j].val))) Q tg = Q ([.int .i64 (c + ((if true = true then 1 else 0) + cntO (ops.drop (j + 1))) : Nat)], tabH h i ti t') := fun Q tg => by
          rw [r Q tg, if_pos rfl, Nat.add_assoc]
        rw [P63_0_eq]
        simp (disch := (first | assumption | (simp only [Bool.and_eq_true, Bool.and_eq_false_iff, decide_eq_true_eq, decide_eq_false_iff_not, bne_iff_ne, beq_iff_eq, beq_eq_false_iff_ne, bne_eq_false_iff_eq, Bool.not_eq_true', Bool.not_eq_false', bys_length, List.length_append, List.length_cons, List.length_nil, List.length_map, List.length_drop, List.length_take, Int.natCast_add, wrap_i64_eq, wrap_u64, wrap_u8, ne_eq, not_true_eq_false, not_false_eq_true, Nat.zero_add, Nat.mul_one] <;> omega) | omega | (simp; done) | (simp; omega))) only [↓CR, MC, ↓PR, MR, kops_length, kops_getD h1, opright_run, hr, Bool.not_true, c1', rp, e1, e2, r']
      · have c1' : (ops[j].kind == 1) = false := by simpa using c1
        have rd := fun (Q : Res → Prop) (tg : Hid Q) => tdel_run (d := d + 31020) (k := ops[j].key) (Q := Q) (tg := tg) T.ok T.tr (by omega)
        have hb := T.bytes
        obtain ⟨t1, ok1, hL1, hT1, hrun⟩ : ∃ t1, TOk' t1 ∧ t1.toL = ldel ops[j].key t.toL ∧ t1.toL.length ≤ t.toL.length ∧ ∀ (Q : Res → Prop) (tg : Hid Q),
            Run (P63_0 (d + 31020) (k + 1) i c f (kops ops) (ops.length : Int) j h) Q tg = Run (P63_0 (d + 31020) k i (c + 1 : Nat) f (kops ops) (ops.length : Int) (j + 1 : Nat) (tabH h i ti t1)) Q ⟨⟩ := by
          cases hg : (lget ops[j].key t.toL).isSome
          · have hn := ldel_none (lget_none hg)
            refine ⟨t, T.ok, hn.symm, Nat.le_refl _, fun Q tg => ?_⟩
            rw [hg] at rd
            simp only [Bool.false_eq_true, if_false] at rd
            rw [Heap.put_self' T.tr] at rd
            rw [tabH_self T, P63_0_eq]
            simp (disch := (first | assumption | (simp only [Bool.and_eq_true, Bool.and_eq_false_iff, decide_eq_true_eq, decide_eq_false_iff_not, bne_iff_ne, beq_iff_eq, beq_eq_false_iff_ne, bne_eq_false_iff_eq, Bool.not_eq_true', Bool.not_eq_false', bys_length, List.length_append, List.length_cons, List.length_nil, List.length_map, List.length_drop, List.length_take, Int.natCast_add, wrap_i64_eq, wrap_u64, wrap_u8, ne_eq, not_true_eq_false, not_false_eq_true, Nat.zero_add, Nat.mul_one] <;> omega) | omega | (simp; done) | (simp; omega))) only [↓CR, MC, ↓PR, MR, kops_length, kops_getD h1, opright_run, hr, Bool.not_true, c1', tab_t T.tb, rd, e1, e2]
          · obtain ⟨ok1, hL1⟩ := T.ok.del hg
            have el := btot_del T.ok.srt hg
            refine ⟨t.without ops[j].key, ok1, hL1, by rw [hL1]; exact ldel_len_le _ _, fun Q tg => ?_⟩
            rw [hg] at rd
            simp only [if_true] at rd
            have m1 : (h.put ti (trT (t.without ops[j].key))).objs[i]? = some (tabO ti (btot t.toL)) := by rw [Heap.put_ne (Ne.symm T.ne)]; exact T.tb
            have w1 : IntKind.i64.wrap ((ops[j].key.length : Int) + ((oVal (lget ops[j].key t.toL)).length : Int)) = (ops[j].key.length : Int) + ((oVal (lget ops[j].key t.toL)).length : Int) := wrap_i64_id (by omega) (by omega)
            have w2 : IntKind.i64.wrap (((btot t.toL : Nat) : Int) - ((ops[j].key.length : Int) + ((oVal (lget ops[j].key t.toL)).length : Int))) = ((btot (t.without ops[j].key).toL : Nat) : Int) := by
              rw [hL1, wrap_i64_id (by omega) (by omega)]; omega
            unfold tabH
            rw [P63_0_eq]
            simp (disch := (first | assumption | (simp only [Bool.and_eq_true, Bool.and_eq_false_iff, decide_eq_true_eq, decide_eq_false_iff_not, bne_iff_ne, beq_iff_eq, beq_eq_false_iff_ne, bne_eq_false_iff_eq, Bool.not_eq_true', Bool.not_eq_false', bys_length, List.length_append, List.length_cons, List.length_nil, List.length_map, List.length_drop, List.length_take, Int.natCast_add, wrap_i64_eq, wrap_u64, wrap_u8, ne_eq, not_true_eq_false, not_false_eq_true, Nat.zero_add, Nat.mul_one] <;> omega) | omega | (simp; done) | (simp; omega))) only [↓CR, MC, ↓PR, MR, kops_length, kops_getD h1, opright_run, hr, Bool.not_true, c1', tab_t T.tb, rd, tab_b m1, w1, w2, tab_s m1, e1, e2]
        have T1 := T.step ok1 (by rw [hL1]; intro p hp; exact T.kv p (List.mem_filter.1 hp).1)
        obtain ⟨t', T', hL, r⟩ := ih (j + 1) k (c + 1) _ _ T1 (by omega) (by omega) (by omega) (by omega)
        rw [tabH_tabH T.ne] at T' r
        refine ⟨t', T', by rw [if_pos rfl]; unfold apO; rw [if_neg c1, hL, hL1], fun Q tg => ?_⟩
        rw [hrun Q tg, r Q ⟨⟩, if_pos rfl, Nat.add_assoc]
theorem tabapply_run (d i ti : Nat) (f : Bool) (ops : List KOp) (t : Nd) (h : Heap) (T : IsTab h i ti t) (hl : t.toL.length + ops.length ≤ 31000) :
    ∃ t', IsTab (tabH h i ti t') i ti t' ∧ t'.toL = aps t.toL ops ∧ ∀ (Q : Res → Prop) (tg : Hid Q),
      Run (evFn Cw (d + 31021) 63 [.obj i 0, .sl f 4 (kops ops)] h) Q tg = Q ([.int .i64 (cntO ops : Nat)], tabH h i ti t') := by
  obtain ⟨t', T', hL, r⟩ := tabapply_loop d i ti f ops (by omega) ops.length 0 rounds 0 t h T (by omega) (by omega) (rounds_gt' (by omega)) (by omega)
  rw [List.drop_zero] at hL r
  rw [e0, Nat.zero_add] at r
  refine ⟨t', T', hL, fun Q tg => ?_⟩
  rw [F63_eq]
  simp (disch := (first | assumption | (simp only [Bool.and_eq_true, Bool.and_eq_false_iff, decide_eq_true_eq, decide_eq_false_iff_not, bne_iff_ne, beq_iff_eq, beq_eq_false_iff_ne, bne_eq_false_iff_eq, Bool.not_eq_true', Bool.not_eq_false', bys_length, List.length_append, List.length_cons, List.length_nil, List.length_map, List.length_drop, List.length_take, Int.natCast_add, wrap_i64_eq, wrap_u64, wrap_u8, ne_eq, not_true_eq_false, not_false_eq_true, Nat.zero_add, Nat.mul_one] <;> omega) | omega | (simp; done) | (simp; omega))) only [↓CR, MC, ↓PR, MR, kops_length, r]
end Go.Proofs.YtdlcjibefbnckaaDoor.Wa
end

section
/- Operations and batches, decoded. -/
namespace Go.Proofs.YtdlcjibefbnckaaDoor.Wa
open Go Go.Weave
set_option maxRecDepth 100000
set_option linter.unusedSimpArgs false
set_option linter.unusedVariables false
set_option linter.unusedSectionVars false

abbrev oZ : KOp := ⟨0, [], []⟩
noncomputable def ogetR (x : UInt8) (r : List UInt8) : KOp × Nat × Nat :=
  if (fget r).2.2 ≠ 0 then (oZ, 0, (fget r).2.2) else
  if x = 1 then
    (if (fget (r.drop (fget r).2.1)).2.2 ≠ 0 then (oZ, 0, (fget (r.drop (fget r).2.1)).2.2) else
      if rightO ⟨1, (fget r).1, (fget (r.drop (fget r).2.1)).1⟩ then (⟨1, (fget r).1, (fget (r.drop (fget r).2.1)).1⟩, 1 + (fget r).2.1 + (fget (r.drop (fget r).2.1)).2.1, 0) else (oZ, 0, 2))
  else if rightO ⟨2, (fget r).1, []⟩ then (⟨2, (fget r).1, []⟩, 1 + (fget r).2.1, 0) else (oZ, 0, 2)
noncomputable def oget : List UInt8 → KOp × Nat × Nat
  | [] => (oZ, 0, 1)
  | x :: r => if x = 1 ∨ x = 2 then ogetR x r else (oZ, 0, 2)
theorem fgetle (b : List UInt8) : (fget b).2.1 ≤ b.length := by
  by_cases h : (fget b).2.2 = 0
  · exact (fget_spec h).2.2.1
  · rw [fget_eq] at h ⊢
    unfold fgetW at h ⊢
    split
    · simp
    · rename_i h1
      rw [if_neg h1] at h
      split
      · simp
      · rename_i h2
        rw [if_neg h2] at h
        split
        · simp
        · rename_i h3
          rw [if_neg h3] at h
          simp at h
theorem oget_spec {b : List UInt8} (h : (oget b).2.2 = 0) : 2 ≤ (oget b).2.1 ∧ (oget b).2.1 ≤ b.length ∧ rightO (oget b).1 = true := by
  match b with
  | [] => simp [oget] at h
  | x :: r =>
    simp only [oget] at h ⊢
    split at h
    · rename_i hx
      rw [if_pos hx]
      have l1 := fgetle r
      have l2 := fgetle (r.drop (fget r).2.1)
      rw [List.length_drop] at l2
      unfold ogetR at h ⊢
      split at h
      · rename_i he; exact absurd h he
      · rename_i he
        have he' : (fget r).2.2 = 0 := by simpa using he
        have s1 := (fget_spec he').2.1
        rw [if_neg he]
        split at h
        · rename_i h1
          rw [if_pos h1]
          split at h
          · rename_i he2; exact absurd h he2
          · rename_i he2
            rw [if_neg he2]
            split at h
            · rename_i hr; rw [if_pos hr]; simp only [List.length_cons]; exact ⟨by omega, by omega, hr⟩
            · simp at h
        · rename_i h1
          rw [if_neg h1]
          split at h
          · rename_i hr; rw [if_pos hr]; simp only [List.length_cons]; exact ⟨by omega, by omega, hr⟩
          · simp at h
    · simp at h
def rdO (f : Bool) (b : List UInt8) (at' e : Nat) : Weave.Obj := .cells [HCell.val (.sl f 0 (bys b)), HCell.val (.int .i64 at'), HCell.val (.int .i64 e)]
theorem part_dropk {l : List UInt8} {k : Nat} : Weave.part (k : Int) (l.length : Int) (bys l) = bys (l.drop k) := by
  have e : ((l.length : Int) - (k : Int)).toNat = l.length - k := by omega
  simp only [Weave.part, Int.toNat_natCast, e, bys, ← List.map_drop]
  rw [List.take_of_length_le (by simp)]
theorem otext_run {d i : Nat} {f : Bool} {b : List UInt8} {p : Nat} {h : Heap} (hm : h.objs[i]? = some (rdO f b p 0)) (hp : p ≤ b.length) (hb : b.length ≤ 140737488351232) {Q : Res → Prop} {tg : Hid Q} :
    Run (evFn Cw (d + 3) 84 [.obj i 0] h) Q tg = Q ([.str (fget (b.drop p)).1], h.put i (rdO f b (p + (fget (b.drop p)).2.1) (fget (b.drop p)).2.2)) := by
  have k0 : h.cell? i 0 = some (HCell.val (.sl f 0 (bys b))) := by rw [Heap.cell_at hm]; rfl
  have k1 : h.cell? i 1 = some (HCell.val (.int .i64 p)) := by rw [Heap.cell_at hm]; rfl
  have k2 : h.cell? i 2 = some (HCell.val (.int .i64 0)) := by rw [Heap.cell_at hm]; rfl
  have hk := fgetle (b.drop p)
  rw [List.length_drop] at hk
  have ek : IntKind.i64.wrap ((p : Int) + ((fget (b.drop p)).2.1 : Nat)) = ((p + (fget (b.drop p)).2.1 : Nat) : Int) := by rw [wrap_i64_id (by omega) (by omega)]; omega
  have s1 : h.setCell i 1 (HCell.val (.int .i64 (p + (fget (b.drop p)).2.1 : Nat))) = h.put i (rdO f b (p + (fget (b.drop p)).2.1) 0) := by rw [Heap.set_at hm]; rfl
  have hm2 : (h.put i (rdO f b (p + (fget (b.drop p)).2.1) 0)).objs[i]? = some (rdO f b (p + (fget (b.drop p)).2.1) 0) := Heap.put_get hm
  have k3 : (h.put i (rdO f b (p + (fget (b.drop p)).2.1) 0)).cell? i 2 = some (HCell.val (.int .i64 0)) := by rw [Heap.cell_at hm2]; rfl
  have s2 : (h.put i (rdO f b (p + (fget (b.drop p)).2.1) 0)).setCell i 2 (HCell.val (.int .i64 (fget (b.drop p)).2.2)) = h.put i (rdO f b (p + (fget (b.drop p)).2.1) (fget (b.drop p)).2.2) := by rw [Heap.set_at hm2, Heap.put_put]; rfl
  have z : ((0 : Int) != 0) = false := rfl
  have hdl : (b.drop p).length ≤ 140737488351232 := by simp; omega
  rw [F84_eq]
  simp (disch := (first | assumption | (simp only [Bool.and_eq_true, Bool.and_eq_false_iff, decide_eq_true_eq, decide_eq_false_iff_not, bne_iff_ne, beq_iff_eq, beq_eq_false_iff_ne, bne_eq_false_iff_eq, Bool.not_eq_true', Bool.not_eq_false', bys_length, List.length_append, List.length_cons, List.length_nil, List.length_map, List.length_drop, List.length_take, Int.natCast_add, wrap_i64_eq, wrap_u64, wrap_u8, ne_eq, not_true_eq_false, not_false_eq_true, Nat.zero_add, Nat.mul_one] <;> omega) | omega | (simp; done) | (simp; omega))) only [↓CR, MC, ↓PR, MR, k0, k1, k2, z, bys_length, part_dropk, fget_run, ek, s1, k3, s2]
theorem otext_err {d i : Nat} {f : Bool} {b : List UInt8} {p e : Nat} {h : Heap} (hm : h.objs[i]? = some (rdO f b p e)) (he : e ≠ 0) {Q : Res → Prop} {tg : Hid Q} :
    Run (evFn Cw (d + 1) 84 [.obj i 0] h) Q tg = Q ([.str []], h) := by
  have k2 : h.cell? i 2 = some (HCell.val (.int .i64 e)) := by rw [Heap.cell_at hm]; rfl
  have z : ((e : Int) != 0) = true := by simp; omega
  rw [F84_eq]
  simp (disch := (first | assumption | (simp only [Bool.and_eq_true, Bool.and_eq_false_iff, decide_eq_true_eq, decide_eq_false_iff_not, bne_iff_ne, beq_iff_eq, beq_eq_false_iff_ne, bne_eq_false_iff_eq, Bool.not_eq_true', Bool.not_eq_false', bys_length, List.length_append, List.length_cons, List.length_nil, List.length_map, List.length_drop, List.length_take, Int.natCast_add, wrap_i64_eq, wrap_u64, wrap_u8, ne_eq, not_true_eq_false, not_false_eq_true, Nat.zero_add, Nat.mul_one] <;> omega) | omega | (simp; done) | (simp; omega))) only [↓CR, MC, ↓PR, MR, k2, z]
theorem oend_ok {d i : Nat} {f : Bool} {b : List UInt8} {p : Nat} {x1 : Int} {s2 s3 : List UInt8} {o : KOp} {h : Heap} (hm : h.objs[i]? = some (rdO f b p 0)) {Q : Res → Prop} {tg : Hid Q} (hr : rightO o = true) :
    Run (P73_0 (d + 1) i x1 s2 s3 o.kind o.key o.val h) Q tg = Q ([.agg [.int .i64 o.kind, .str o.key, .str o.val], .int .i64 p, .int .i64 0], h) := by
  have k1 : h.cell? i 1 = some (HCell.val (.int .i64 p)) := by rw [Heap.cell_at hm]; rfl
  have k2 : h.cell? i 2 = some (HCell.val (.int .i64 0)) := by rw [Heap.cell_at hm]; rfl
  have z : ((0 : Int) == 0) = true := rfl
  have z' : ((0 : Int) != 0) = false := rfl
  rw [P73_0_eq]
  simp (disch := (first | assumption | (simp only [Bool.and_eq_true, Bool.and_eq_false_iff, decide_eq_true_eq, decide_eq_false_iff_not, bne_iff_ne, beq_iff_eq, beq_eq_false_iff_ne, bne_eq_false_iff_eq, Bool.not_eq_true', Bool.not_eq_false', bys_length, List.length_append, List.length_cons, List.length_nil, List.length_map, List.length_drop, List.length_take, Int.natCast_add, wrap_i64_eq, wrap_u64, wrap_u8, ne_eq, not_true_eq_false, not_false_eq_true, Nat.zero_add, Nat.mul_one] <;> omega) | omega | (simp; done) | (simp; omega))) only [↓CR, MC, ↓PR, MR, k2, z, opright_run, hr, Bool.not_true, P73_1_eq, z', k1]
theorem oend_form {d i : Nat} {f : Bool} {b : List UInt8} {p : Nat} {x1 : Int} {s2 s3 : List UInt8} {o : KOp} {h : Heap} (hm : h.objs[i]? = some (rdO f b p 0)) {Q : Res → Prop} {tg : Hid Q} (hr : rightO o = false) :
    Run (P73_0 (d + 1) i x1 s2 s3 o.kind o.key o.val h) Q tg = Q ([.agg [.int .i64 0, .str [], .str []], .int .i64 0, .int .i64 2], h.put i (rdO f b p 2)) := by
  have k2 : h.cell? i 2 = some (HCell.val (.int .i64 0)) := by rw [Heap.cell_at hm]; rfl
  have s2' : h.setCell i 2 (HCell.val (.int .i64 2)) = h.put i (rdO f b p 2) := by rw [Heap.set_at hm]; rfl
  have hm2 : (h.put i (rdO f b p 2)).objs[i]? = some (rdO f b p 2) := Heap.put_get hm
  have k3 : (h.put i (rdO f b p 2)).cell? i 2 = some (HCell.val (.int .i64 2)) := by rw [Heap.cell_at hm2]; rfl
  have z : ((0 : Int) == 0) = true := rfl
  have z2 : ((2 : Int) != 0) = true := rfl
  rw [P73_0_eq]
  simp (disch := (first | assumption | (simp only [Bool.and_eq_true, Bool.and_eq_false_iff, decide_eq_true_eq, decide_eq_false_iff_not, bne_iff_ne, beq_iff_eq, beq_eq_false_iff_ne, bne_eq_false_iff_eq, Bool.not_eq_true', Bool.not_eq_false', bys_length, List.length_append, List.length_cons, List.length_nil, List.length_map, List.length_drop, List.length_take, Int.natCast_add, wrap_i64_eq, wrap_u64, wrap_u8, ne_eq, not_true_eq_false, not_false_eq_true, Nat.zero_add, Nat.mul_one] <;> omega) | omega | (simp; done) | (simp; omega))) only [↓CR, MC, ↓PR, MR, k2, z, opright_run, hr, Bool.not_false, s2', P73_1_eq, k3, z2]
theorem oend_err {d i : Nat} {f : Bool} {b : List UInt8} {p e : Nat} {x1 x4 : Int} {s2 s3 s5 s6 : List UInt8} {h : Heap} (hm : h.objs[i]? = some (rdO f b p e)) (he : e ≠ 0) {Q : Res → Prop} {tg : Hid Q} :
    Run (P73_0 (d + 1) i x1 s2 s3 x4 s5 s6 h) Q tg = Q ([.agg [.int .i64 0, .str [], .str []], .int .i64 0, .int .i64 e], h) := by
  have k2 : h.cell? i 2 = some (HCell.val (.int .i64 e)) := by rw [Heap.cell_at hm]; rfl
  have z : ((e : Int) == 0) = false := by simp; omega
  have z2 : ((e : Int) != 0) = true := by simp; omega
  rw [P73_0_eq]
  simp (disch := (first | assumption | (simp only [Bool.and_eq_true, Bool.and_eq_false_iff, decide_eq_true_eq, decide_eq_false_iff_not, bne_iff_ne, beq_iff_eq, beq_eq_false_iff_ne, bne_eq_false_iff_eq, Bool.not_eq_true', Bool.not_eq_false', bys_length, List.length_append, List.length_cons, List.length_nil, List.length_map, List.length_drop, List.length_take, Int.natCast_add, wrap_i64_eq, wrap_u64, wrap_u8, ne_eq, not_true_eq_false, not_false_eq_true, Nat.zero_add, Nat.mul_one] <;> omega) | omega | (simp; done) | (simp; omega))) only [↓CR, MC, ↓PR, MR, k2, z, P73_1_eq, z2]

theorem opget_run (d : Nat) (f : Bool) (b : List UInt8) (hb : b.length ≤ 140737488351232) (h : Heap) : ∃ h', h.ext h' ∧ ∀ (Q : Res → Prop) (tg : Hid Q),
    Run (evFn Cw (d + 4) 73 [.sl f 0 (bys b)] h) Q tg = Q ([.agg [.int .i64 (oget b).1.kind, .str (oget b).1.key, .str (oget b).1.val], .int .i64 (oget b).2.1, .int .i64 (oget b).2.2], h') := by
  match b, hb with
  | [], _ =>
    refine ⟨h, Heap.ext.refl h, fun Q tg => ?_⟩
    rw [F73_eq]
    simp (disch := (first | assumption | (simp only [Bool.and_eq_true, Bool.and_eq_false_iff, decide_eq_true_eq, decide_eq_false_iff_not, bne_iff_ne, beq_iff_eq, beq_eq_false_iff_ne, bne_eq_false_iff_eq, Bool.not_eq_true', Bool.not_eq_false', bys_length, List.length_append, List.length_cons, List.length_nil, List.length_map, List.length_drop, List.length_take, Int.natCast_add, wrap_i64_eq, wrap_u64, wrap_u8, ne_eq, not_true_eq_false, not_false_eq_true, Nat.zero_add, Nat.mul_one] <;> omega) | omega | (simp; done) | (simp; omega))) only [↓CR, MC, ↓PR, MR, bys_length]
    rfl
  | x :: r, hb =>
    have g0 : (bys (x :: r)).getD 0 AVal.undef = .int .u8 (x.toNat : Int) := of_eq_true (eq_self _)
    have hx := x.toNat_lt
    have w1 : IntKind.i64.wrap 1 = 1 := by decide
    have w2 : IntKind.i64.wrap 2 = 2 := by decide
    have ew : IntKind.i64.wrap (x.toNat : Int) = (x.toNat : Int) := wrap_i64_id (by omega) (by omega)
    have eo : Weave.Obj.cells ([AVal.sl f 0 (bys (x :: r)), AVal.int .i64 1, AVal.int .i64 0].map HCell.val) = rdO f (x :: r) 1 0 := of_eq_true (eq_self _)
    have E := Heap.ext.push h (rdO f (x :: r) 1 0)
    have hm := Heap.push_new h (rdO f (x :: r) 1 0)
    have rt := fun (Q : Res → Prop) (tg : Hid Q) => otext_run (d := d) hm (by simp) hb (Q := Q) (tg := tg)
    have d1 : (x :: r).drop 1 = r := rfl
    rw [d1] at rt
    have hr := hb
    simp only [List.length_cons] at hr
    have lr := fgetle r
    simp only [oget]
    by_cases x1 : x = 1
    · have b1 : ((x.toNat : Int) != 1) = false := by rw [x1]; rfl
      have b1' : ((x.toNat : Int) == 1) = true := by rw [x1]; rfl
      have k1 : (x.toNat : Int) = 1 := by rw [x1]; rfl
      rw [if_pos (.inl x1)]
      unfold ogetR
      by_cases he : (fget r).2.2 = 0
      · rw [if_neg (by simp [he]), if_pos x1]
        rw [he] at rt
        have hm2 := Heap.put_get (o := rdO f (x :: r) (1 + (fget r).2.1) 0) hm
        have rt2 := fun (Q : Res → Prop) (tg : Hid Q) => otext_run (d := d) hm2 (by simp; omega) hb (Q := Q) (tg := tg)
        have d2 : (x :: r).drop (1 + (fget r).2.1) = r.drop (fget r).2.1 := by rw [Nat.add_comm]; rfl
        rw [d2, Heap.put_put] at rt2
        have hm3 := Heap.put_get (o := rdO f (x :: r) (1 + (fget r).2.1 + (fget (r.drop (fget r).2.1)).2.1) (fget (r.drop (fget r).2.1)).2.2) hm
        by_cases he2 : (fget (r.drop (fget r).2.1)).2.2 = 0
        · rw [if_neg (by simp [he2])]
          rw [he2] at rt2 hm3
          cases hro : rightO ⟨1, (fget r).1, (fget (r.drop (fget r).2.1)).1⟩
          · have re := fun (Q : Res → Prop) (tg : Hid Q) => oend_form (d := d + 2) (x1 := 0) (s2 := []) (s3 := []) hm3 (Q := Q) (tg := tg) hro
            rw [Heap.put_put] at re
            simp only [Bool.false_eq_true, if_false] at re ⊢
            refine ⟨_, E.put (o := rdO f (x :: r) (1 + (fget r).2.1 + (fget (r.drop (fget r).2.1)).2.1) 2) (Nat.le_refl _), fun Q tg => ?_⟩
            rw [F73_eq]
            simp (disch := (first | assumption | (simp only [Bool.and_eq_true, Bool.and_eq_false_iff, decide_eq_true_eq, decide_eq_false_iff_not, bne_iff_ne, beq_iff_eq, beq_eq_false_iff_ne, bne_eq_false_iff_eq, Bool.not_eq_true', Bool.not_eq_false', bys_length, List.length_append, List.length_cons, List.length_nil, List.length_map, List.length_drop, List.length_take, Int.natCast_add, wrap_i64_eq, wrap_u64, wrap_u8, ne_eq, not_true_eq_false, not_false_eq_true, Nat.zero_add, Nat.mul_one] <;> omega) | omega | (simp; done) | (simp; omega))) only [↓CR, MC, ↓PR, MR, bys_length, List.length_cons, g0, ew, b1, eo, rt, b1', rt2, k1, w1, re]
            rfl
          · have re := fun (Q : Res → Prop) (tg : Hid Q) => oend_ok (d := d + 2) (x1 := 0) (s2 := []) (s3 := []) hm3 (Q := Q) (tg := tg) hro
            simp only [if_true] at re ⊢
            refine ⟨_, E.put (o := rdO f (x :: r) (1 + (fget r).2.1 + (fget (r.drop (fget r).2.1)).2.1) 0) (Nat.le_refl _), fun Q tg => ?_⟩
            rw [F73_eq]
            simp (disch := (first | assumption | (simp only [Bool.and_eq_true, Bool.and_eq_false_iff, decide_eq_true_eq, decide_eq_false_iff_not, bne_iff_ne, beq_iff_eq, beq_eq_false_iff_ne, bne_eq_false_iff_eq, Bool.not_eq_true', Bool.not_eq_false', bys_length, List.length_append, List.length_cons, List.length_nil, List.length_map, List.length_drop, List.length_take, Int.natCast_add, wrap_i64_eq, wrap_u64, wrap_u8, ne_eq, not_true_eq_false, not_false_eq_true, Nat.zero_add, Nat.mul_one] <;> omega) | omega | (simp; done) | (simp; omega))) only [↓CR, MC, ↓PR, MR, bys_length, List.length_cons, g0, ew, b1, eo, rt, b1', rt2, k1, w1, re]
            rfl
        · rw [if_pos he2]
          have re := fun (x4 : Int) (s5 s6 : List UInt8) (Q : Res → Prop) (tg : Hid Q) => oend_err (d := d + 2) (x1 := 0) (x4 := x4) (s2 := []) (s3 := []) (s5 := s5) (s6 := s6) hm3 he2 (Q := Q) (tg := tg)
          refine ⟨_, E.put (o := rdO f (x :: r) (1 + (fget r).2.1 + (fget (r.drop (fget r).2.1)).2.1) (fget (r.drop (fget r).2.1)).2.2) (Nat.le_refl _), fun Q tg => ?_⟩
          rw [F73_eq]
          simp (disch := (first | assumption | (simp only [Bool.and_eq_true, Bool.and_eq_false_iff, decide_eq_true_eq, decide_eq_false_iff_not, bne_iff_ne, beq_iff_eq, beq_eq_false_iff_ne, bne_eq_false_iff_eq, Bool.not_eq_true', Bool.not_eq_false', bys_length, List.length_append, List.length_cons, List.length_nil, List.length_map, List.length_drop, List.length_take, Int.natCast_add, wrap_i64_eq, wrap_u64, wrap_u8, ne_eq, not_true_eq_false, not_false_eq_true, Nat.zero_add, Nat.mul_one] <;> omega) | omega | (simp; done) | (simp; omega))) only [↓CR, MC, ↓PR, MR, bys_length, List.length_cons, g0, ew, b1, eo, rt, b1', rt2, re]
          rfl
      · rw [if_pos he]
        have hm2 := Heap.put_get (o := rdO f (x :: r) (1 + (fget r).2.1) (fget r).2.2) hm
        have rt2 := fun (Q : Res → Prop) (tg : Hid Q) => otext_err (d := d + 2) hm2 he (Q := Q) (tg := tg)
        have re := fun (x4 : Int) (s5 s6 : List UInt8) (Q : Res → Prop) (tg : Hid Q) => oend_err (d := d + 2) (x1 := 0) (x4 := x4) (s2 := []) (s3 := []) (s5 := s5) (s6 := s6) hm2 he (Q := Q) (tg := tg)
        refine ⟨_, E.put (o := rdO f (x :: r) (1 + (fget r).2.1) (fget r).2.2) (Nat.le_refl _), fun Q tg => ?_⟩
        rw [F73_eq]
        simp (disch := (first | assumption | (simp only [Bool.and_eq_true, Bool.and_eq_false_iff, decide_eq_true_eq, decide_eq_false_iff_not, bne_iff_ne, beq_iff_eq, beq_eq_false_iff_ne, bne_eq_false_iff_eq, Bool.not_eq_true', Bool.not_eq_false', bys_length, List.length_append, List.length_cons, List.length_nil, List.length_map, List.length_drop, List.length_take, Int.natCast_add, wrap_i64_eq, wrap_u64, wrap_u8, ne_eq, not_true_eq_false, not_false_eq_true, Nat.zero_add, Nat.mul_one] <;> omega) | omega | (simp; done) | (simp; omega))) only [↓CR, MC, ↓PR, MR, bys_length, List.length_cons, g0, ew, b1, eo, rt, b1', rt2, re]
        rfl
    · have hx1 : x.toNat ≠ 1 := fun e => x1 (UInt8.toNat_inj.1 e)
      have b1 : ((x.toNat : Int) != 1) = true := by simp; omega
      have b1' : ((x.toNat : Int) == 1) = false := by simp; omega
      by_cases x2 : x = 2
      · have b2 : ((x.toNat : Int) != 2) = false := by rw [x2]; rfl
        have k2 : (x.toNat : Int) = 2 := by rw [x2]; rfl
        rw [if_pos (.inr x2)]
        unfold ogetR
        have hm3 := Heap.put_get (o := rdO f (x :: r) (1 + (fget r).2.1) (fget r).2.2) hm
        by_cases he : (fget r).2.2 = 0
        · rw [if_neg (by simp [he]), if_neg x1]
          rw [he] at rt hm3
          cases hro : rightO ⟨2, (fget r).1, []⟩
          · have re := fun (Q : Res → Prop) (tg : Hid Q) => oend_form (d := d + 2) (x1 := 0) (s2 := []) (s3 := []) hm3 (Q := Q) (tg := tg) hro
            rw [Heap.put_put] at re
            simp only [Bool.false_eq_true, if_false] at re ⊢
            refine ⟨_, E.put (o := rdO f (x :: r) (1 + (fget r).2.1) 2) (Nat.le_refl _), fun Q tg => ?_⟩
            rw [F73_eq]
            simp (disch := (first | assumption | (simp only [Bool.and_eq_true, Bool.and_eq_false_iff, decide_eq_true_eq, decide_eq_false_iff_not, bne_iff_ne, beq_iff_eq, beq_eq_false_iff_ne, bne_eq_false_iff_eq, Bool.not_eq_true', Bool.not_eq_false', bys_length, List.length_append, List.length_cons, List.length_nil, List.length_map, List.length_drop, List.length_take, Int.natCast_add, wrap_i64_eq, wrap_u64, wrap_u8, ne_eq, not_true_eq_false, not_false_eq_true, Nat.zero_add, Nat.mul_one] <;> omega) | omega | (simp; done) | (simp; omega))) only [↓CR, MC, ↓PR, MR, bys_length, List.length_cons, g0, ew, b1, b2, eo, rt, b1', k2, w2, re]
            rfl
          · have re := fun (Q : Res → Prop) (tg : Hid Q) => oend_ok (d := d + 2) (x1 := 0) (s2 := []) (s3 := []) hm3 (Q := Q) (tg := tg) hro
            simp only [if_true] at re ⊢
            refine ⟨_, E.put (o := rdO f (x :: r) (1 + (fget r).2.1) 0) (Nat.le_refl _), fun Q tg => ?_⟩
            rw [F73_eq]
            simp (disch := (first | assumption | (simp only [Bool.and_eq_true, Bool.and_eq_false_iff, decide_eq_true_eq, decide_eq_false_iff_not, bne_iff_ne, beq_iff_eq, beq_eq_false_iff_ne, bne_eq_false_iff_eq, Bool.not_eq_true', Bool.not_eq_false', bys_length, List.length_append, List.length_cons, List.length_nil, List.length_map, List.length_drop, List.length_take, Int.natCast_add, wrap_i64_eq, wrap_u64, wrap_u8, ne_eq, not_true_eq_false, not_false_eq_true, Nat.zero_add, Nat.mul_one] <;> omega) | omega | (simp; done) | (simp; omega))) only [↓CR, MC, ↓PR, MR, bys_length, List.length_cons, g0, ew, b1, b2, eo, rt, b1', k2, w2, re]
            rfl
        · rw [if_pos he]
          have re := fun (x4 : Int) (s5 s6 : List UInt8) (Q : Res → Prop) (tg : Hid Q) => oend_err (d := d + 2) (x1 := 0) (x4 := x4) (s2 := []) (s3 := []) (s5 := s5) (s6 := s6) hm3 he (Q := Q) (tg := tg)
          refine ⟨_, E.put (o := rdO f (x :: r) (1 + (fget r).2.1) (fget r).2.2) (Nat.le_refl _), fun Q tg => ?_⟩
          rw [F73_eq]
          simp (disch := (first | assumption | (simp only [Bool.and_eq_true, Bool.and_eq_false_iff, decide_eq_true_eq, decide_eq_false_iff_not, bne_iff_ne, beq_iff_eq, beq_eq_false_iff_ne, bne_eq_false_iff_eq, Bool.not_eq_true', Bool.not_eq_false', bys_length, List.length_append, List.length_cons, List.length_nil, List.length_map, List.length_drop, List.length_take, Int.natCast_add, wrap_i64_eq, wrap_u64, wrap_u8, ne_eq, not_true_eq_false, not_false_eq_true, Nat.zero_add, Nat.mul_one] <;> omega) | omega | (simp; done) | (simp; omega))) only [↓CR, MC, ↓PR, MR, bys_length, List.length_cons, g0, ew, b1, b2, eo, rt, b1', re]
          rfl
      · have hx2 : x.toNat ≠ 2 := fun e => x2 (UInt8.toNat_inj.1 e)
        have b2 : ((x.toNat : Int) != 2) = true := by simp; omega
        rw [if_neg (by simp [x1, x2])]
        refine ⟨h, Heap.ext.refl h, fun Q tg => ?_⟩
        rw [F73_eq]
        simp (disch := (first | assumption | (simp only [Bool.and_eq_true, Bool.and_eq_false_iff, decide_eq_true_eq, decide_eq_false_iff_not, bne_iff_ne, beq_iff_eq, beq_eq_false_iff_ne, bne_eq_false_iff_eq, Bool.not_eq_true', Bool.not_eq_false', bys_length, List.length_append, List.length_cons, List.length_nil, List.length_map, List.length_drop, List.length_take, Int.natCast_add, wrap_i64_eq, wrap_u64, wrap_u8, ne_eq, not_true_eq_false, not_false_eq_true, Nat.zero_add, Nat.mul_one] <;> omega) | omega | (simp; done) | (simp; omega))) only [↓CR, MC, ↓PR, MR, bys_length, List.length_cons, g0, ew, b1, b2]
        rfl
theorem r10get_run {d : Nat} {f : Bool} {b : List UInt8} (hb : b.length ≤ 140737488351232) {h : Heap} {Q : Res → Prop} {tg : Hid Q} :
    Run (evFn Cw (d + 3) 51 [.sl f 0 (bys b)] h) Q tg = Q ([.agg [.int .i64 (oget b).1.kind, .str (oget b).1.key, .str (oget b).1.val], .int .i64 (oget b).2.1, .int .i64 (oget b).2.2], h) := by
  match b, hb with
  | [], _ =>
    rw [F51_eq]
    simp (disch := (first | assumption | (simp only [Bool.and_eq_true, Bool.and_eq_false_iff, decide_eq_true_eq, decide_eq_false_iff_not, bne_iff_ne, beq_iff_eq, beq_eq_false_iff_ne, bne_eq_false_iff_eq, Bool.not_eq_true', Bool.not_eq_false', bys_length, List.length_append, List.length_cons, List.length_nil, List.length_map, List.length_drop, List.length_take, Int.natCast_add, wrap_i64_eq, wrap_u64, wrap_u8, ne_eq, not_true_eq_false, not_false_eq_true, Nat.zero_add, Nat.mul_one] <;> omega) | omega | (simp; done) | (simp; omega))) only [↓CR, MC, ↓PR, MR, bys_length]
    rfl
  | x :: r, hb =>
    have g0 : (bys (x :: r)).getD 0 AVal.undef = .int .u8 (x.toNat : Int) := of_eq_true (eq_self _)
    have hx := x.toNat_lt
    have w1 : IntKind.i64.wrap 1 = 1 := by decide
    have w2 : IntKind.i64.wrap 2 = 2 := by decide
    have ew : IntKind.i64.wrap (x.toNat : Int) = (x.toNat : Int) := wrap_i64_id (by omega) (by omega)
    have hr := hb
    simp only [List.length_cons] at hr
    have lr := fgetle r
    have p1 : Weave.part 1 ((r.length + 1 : Nat) : Int) (bys (x :: r)) = bys r := part_dropk (l := x :: r) (k := 1)
    have r1 := fun (f : Bool) (Q : Res → Prop) (tg : Hid Q) => rfget_run (d := d) (f := f) (l := r) (h := h) (Q := Q) (tg := tg) (by omega)
    have ek : IntKind.i64.wrap (((fget r).2.1 : Nat) + 1 : Int) = ((1 + (fget r).2.1 : Nat) : Int) := by rw [wrap_i64_id (by omega) (by omega)]; omega
    have p2 : Weave.part ((1 + (fget r).2.1 : Nat) : Int) ((r.length + 1 : Nat) : Int) (bys (x :: r)) = bys (r.drop (fget r).2.1) := by
      have := part_dropk (l := x :: r) (k := 1 + (fget r).2.1)
      rw [show (x :: r).drop (1 + (fget r).2.1) = r.drop (fget r).2.1 by rw [Nat.add_comm]; rfl] at this
      exact this
    have r2 := fun (f : Bool) (Q : Res → Prop) (tg : Hid Q) => rfget_run (d := d) (f := f) (l := r.drop (fget r).2.1) (h := h) (Q := Q) (tg := tg) (by simp; omega)
    have l2 := fgetle (r.drop (fget r).2.1)
    rw [List.length_drop] at l2
    have ek2 : IntKind.i64.wrap (((1 + (fget r).2.1 : Nat) : Int) + ((fget (r.drop (fget r).2.1)).2.1 : Nat)) = ((1 + (fget r).2.1 + (fget (r.drop (fget r).2.1)).2.1 : Nat) : Int) := by rw [wrap_i64_id (by omega) (by omega)]; omega
    simp only [oget]
    rw [F51_eq]
    by_cases x1 : x = 1
    · have b1 : ((x.toNat : Int) != 1) = false := by rw [x1]; rfl
      have b1' : ((x.toNat : Int) == 1) = true := by rw [x1]; rfl
      have k1 : (x.toNat : Int) = 1 := by rw [x1]; rfl
      rw [if_pos (.inl x1)]
      unfold ogetR
      by_cases he : (fget r).2.2 = 0
      · rw [if_neg (by simp [he]), if_pos x1]
        have be : ((((fget r).2.2 : Nat) : Int) != 0) = false := by simp [he]
        by_cases he2 : (fget (r.drop (fget r).2.1)).2.2 = 0
        · rw [if_neg (by simp [he2])]
          have be2 : ((((fget (r.drop (fget r).2.1)).2.2 : Nat) : Int) != 0) = false := by simp [he2]
          have rr := fun (Q : Res → Prop) (tg : Hid Q) => r10right_run (d := d + 1) (o := ⟨1, (fget r).1, (fget (r.drop (fget r).2.1)).1⟩) (h := h) (Q := Q) (tg := tg)
          simp only at rr
          cases hro : rightO ⟨1, (fget r).1, (fget (r.drop (fget r).2.1)).1⟩
          · rw [hro] at rr
            simp (disch := (first | assumption | (simp only [Bool.and_eq_true, Bool.and_eq_false_iff, decide_eq_true_eq, decide_eq_false_iff_not, bne_iff_ne, beq_iff_eq, beq_eq_false_iff_ne, bne_eq_false_iff_eq, Bool.not_eq_true', Bool.not_eq_false', bys_length, List.length_append, List.length_cons, List.length_nil, List.length_map, List.length_drop, List.length_take, Int.natCast_add, wrap_i64_eq, wrap_u64, wrap_u8, ne_eq, not_true_eq_false, not_false_eq_true, Nat.zero_add, Nat.mul_one] <;> omega) | omega | (simp; done) | (simp; omega))) only [↓CR, MC, ↓PR, MR, bys_length, List.length_cons, g0, ew, b1, p1, r1, be, P51_0_eq, b1', ek, p2, r2, be2, k1, w1, rr, Bool.not_false]
            rfl
          · rw [hro] at rr
            simp (disch := (first | assumption | (simp only [Bool.and_eq_true, Bool.and_eq_false_iff, decide_eq_true_eq, decide_eq_false_iff_not, bne_iff_ne, beq_iff_eq, beq_eq_false_iff_ne, bne_eq_false_iff_eq, Bool.not_eq_true', Bool.not_eq_false', bys_length, List.length_append, List.length_cons, List.length_nil, List.length_map, List.length_drop, List.length_take, Int.natCast_add, wrap_i64_eq, wrap_u64, wrap_u8, ne_eq, not_true_eq_false, not_false_eq_true, Nat.zero_add, Nat.mul_one] <;> omega) | omega | (simp; done) | (simp; omega))) only [↓CR, MC, ↓PR, MR, bys_length, List.length_cons, g0, ew, b1, p1, r1, be, P51_0_eq, b1', ek, p2, r2, be2, k1, w1, rr, Bool.not_true, ek2]
            rfl
        · rw [if_pos he2]
          have be2 : ((((fget (r.drop (fget r).2.1)).2.2 : Nat) : Int) != 0) = true := by simp; exact he2
          simp (disch := (first | assumption | (simp only [Bool.and_eq_true, Bool.and_eq_false_iff, decide_eq_true_eq, decide_eq_false_iff_not, bne_iff_ne, beq_iff_eq, beq_eq_false_iff_ne, bne_eq_false_iff_eq, Bool.not_eq_true', Bool.not_eq_false', bys_length, List.length_append, List.length_cons, List.length_nil, List.length_map, List.length_drop, List.length_take, Int.natCast_add, wrap_i64_eq, wrap_u64, wrap_u8, ne_eq, not_true_eq_false, not_false_eq_true, Nat.zero_add, Nat.mul_one] <;> omega) | omega | (simp; done) | (simp; omega))) only [↓CR, MC, ↓PR, MR, bys_length, List.length_cons, g0, ew, b1, p1, r1, be, P51_0_eq, b1', ek, p2, r2, be2]
          rfl
      · rw [if_pos he]
        have be : ((((fget r).2.2 : Nat) : Int) != 0) = true := by simp; exact he
        simp (disch := (first | assumption | (simp only [Bool.and_eq_true, Bool.and_eq_false_iff, decide_eq_true_eq, decide_eq_false_iff_not, bne_iff_ne, beq_iff_eq, beq_eq_false_iff_ne, bne_eq_false_iff_eq, Bool.not_eq_true', Bool.not_eq_false', bys_length, List.length_append, List.length_cons, List.length_nil, List.length_map, List.length_drop, List.length_take, Int.natCast_add, wrap_i64_eq, wrap_u64, wrap_u8, ne_eq, not_true_eq_false, not_false_eq_true, Nat.zero_add, Nat.mul_one] <;> omega) | omega | (simp; done) | (simp; omega))) only [↓CR, MC, ↓PR, MR, bys_length, List.length_cons, g0, ew, b1, p1, r1, be]
        rfl
    · have hx1 : x.toNat ≠ 1 := fun e => x1 (UInt8.toNat_inj.1 e)
      have b1 : ((x.toNat : Int) != 1) = true := by simp; omega
      have b1' : ((x.toNat : Int) == 1) = false := by simp; omega
      by_cases x2 : x = 2
      · have b2 : ((x.toNat : Int) != 2) = false := by rw [x2]; rfl
        have k2 : (x.toNat : Int) = 2 := by rw [x2]; rfl
        rw [if_pos (.inr x2)]
        unfold ogetR
        by_cases he : (fget r).2.2 = 0
        · rw [if_neg (by simp [he]), if_neg x1]
          have be : ((((fget r).2.2 : Nat) : Int) != 0) = false := by simp [he]
          have rr := fun (Q : Res → Prop) (tg : Hid Q) => r10right_run (d := d + 1) (o := ⟨2, (fget r).1, []⟩) (h := h) (Q := Q) (tg := tg)
          simp only at rr
          cases hro : rightO ⟨2, (fget r).1, []⟩
          · rw [hro] at rr
            simp (disch := (first | assumption | (simp only [Bool.and_eq_true, Bool.and_eq_false_iff, decide_eq_true_eq, decide_eq_false_iff_not, bne_iff_ne, beq_iff_eq, beq_eq_false_iff_ne, bne_eq_false_iff_eq, Bool.not_eq_true', Bool.not_eq_false', bys_length, List.length_append, List.length_cons, List.length_nil, List.length_map, List.length_drop, List.length_take, Int.natCast_add, wrap_i64_eq, wrap_u64, wrap_u8, ne_eq, not_true_eq_false, not_false_eq_true, Nat.zero_add, Nat.mul_one] <;> omega) | omega | (simp; done) | (simp; omega))) only [↓CR, MC, ↓PR, MR, bys_length, List.length_cons, g0, ew, b1, b2, p1, r1, be, P51_0_eq, b1', k2, w2, rr, Bool.not_false]
            rfl
          · rw [hro] at rr
            simp (disch := (first | assumption | (simp only [Bool.and_eq_true, Bool.and_eq_false_iff, decide_eq_true_eq, decide_eq_false_iff_not, bne_iff_ne, beq_iff_eq, beq_eq_false_iff_ne, bne_eq_false_iff_eq, Bool.not_eq_true', Bool.not_eq_false', bys_length, List.length_append, List.length_cons, List.length_nil, List.length_map, List.length_drop, List.length_take, Int.natCast_add, wrap_i64_eq, wrap_u64, wrap_u8, ne_eq, not_true_eq_false, not_false_eq_true, Nat.zero_add, Nat.mul_one] <;> omega) | omega | (simp; done) | (simp; omega))) only [↓CR, MC, ↓PR, MR, bys_length, List.length_cons, g0, ew, b1, b2, p1, r1, be, P51_0_eq, b1', k2, w2, rr, Bool.not_true, ek]
            rfl
        · rw [if_pos he]
          have be : ((((fget r).2.2 : Nat) : Int) != 0) = true := by simp; exact he
          simp (disch := (first | assumption | (simp only [Bool.and_eq_true, Bool.and_eq_false_iff, decide_eq_true_eq, decide_eq_false_iff_not, bne_iff_ne, beq_iff_eq, beq_eq_false_iff_ne, bne_eq_false_iff_eq, Bool.not_eq_true', Bool.not_eq_false', bys_length, List.length_append, List.length_cons, List.length_nil, List.length_map, List.length_drop, List.length_take, Int.natCast_add, wrap_i64_eq, wrap_u64, wrap_u8, ne_eq, not_true_eq_false, not_false_eq_true, Nat.zero_add, Nat.mul_one] <;> omega) | omega | (simp; done) | (simp; omega))) only [↓CR, MC, ↓PR, MR, bys_length, List.length_cons, g0, ew, b1, b2, p1, r1, be]
          rfl
      · have hx2 : x.toNat ≠ 2 := fun e => x2 (UInt8.toNat_inj.1 e)
        have b2 : ((x.toNat : Int) != 2) = true := by simp; omega
        rw [if_neg (by simp [x1, x2])]
        simp (disch := (first | assumption | (simp only [Bool.and_eq_true, Bool.and_eq_false_iff, decide_eq_true_eq, decide_eq_false_iff_not, bne_iff_ne, beq_iff_eq, beq_eq_false_iff_ne, bne_eq_false_iff_eq, Bool.not_eq_true', Bool.not_eq_false', bys_length, List.length_append, List.length_cons, List.length_nil, List.length_map, List.length_drop, List.length_take, Int.natCast_add, wrap_i64_eq, wrap_u64, wrap_u8, ne_eq, not_true_eq_false, not_false_eq_true, Nat.zero_add, Nat.mul_one] <;> omega) | omega | (simp; done) | (simp; omega))) only [↓CR, MC, ↓PR, MR, bys_length, List.length_cons, g0, b1, b2]
        rfl
end Go.Proofs.YtdlcjibefbnckaaDoor.Wa
end

section
/- Batches decoded. -/
namespace Go.Proofs.YtdlcjibefbnckaaDoor.Wa
open Go Go.Weave
set_option maxRecDepth 100000
set_option linter.unusedSimpArgs false
set_option linter.unusedVariables false
set_option linter.unusedSectionVars false

theorem kops_snoc (l : List KOp) (o : KOp) : kops l ++ [AVal.agg [.int .i64 o.kind, .str o.key, .str o.val]] = kops (l ++ [o]) := by simp [kops, KOp.A, KOp.C]
theorem kops_nil : kops [] = [] := of_eq_true (eq_self _)
def brightL (l : List KOp) : Bool := l.all rightO && (decide (1 ≤ l.length) && decide (l.length ≤ 8))
theorem bright_loop (d : Nat) (f : Bool) (l : List KOp) (hl : l.length ≤ 1000000) (h : Heap) (Q : Res → Prop) : ∀ (n j k : Nat) (tg : Hid Q), l.length = j + n → n < k →
    Run (P74_0 (d + 1) k f (kops l) f (kops l) (l.length : Nat) j h) Q tg = Q ([.bool ((l.drop j).all rightO && (decide (1 ≤ l.length) && decide (l.length ≤ 8)))], h) := by
  intro n
  induction n with
  | zero =>
    intro j k tg hj hk
    obtain ⟨k, rfl⟩ : ∃ m, k = m + 1 := ⟨k - 1, by omega⟩
    have e : l.drop j = [] := List.drop_eq_nil_of_le (by omega)
    rw [P74_0_eq, e]
    have c8 : decide ((l.length : Int) ≤ 8) = decide (l.length ≤ 8) := by rw [decide_eq_decide]; omega
    by_cases c : 1 ≤ l.length
    · simp (disch := (first | assumption | (simp only [Bool.and_eq_true, Bool.and_eq_false_iff, decide_eq_true_eq, decide_eq_false_iff_not, bne_iff_ne, beq_iff_eq, beq_eq_false_iff_ne, bne_eq_false_iff_eq, Bool.not_eq_true', Bool.not_eq_false', bys_length, List.length_append, List.length_cons, List.length_nil, List.length_map, List.length_drop, List.length_take, Int.natCast_add, wrap_i64_eq, wrap_u64, wrap_u8, ne_eq, not_true_eq_false, not_false_eq_true, Nat.zero_add, Nat.mul_one] <;> omega) | omega | (simp; done) | (simp; omega))) only [↓CR, MC, ↓PR, MR, kops_length, c8]
      simp [c]
    · simp (disch := (first | assumption | (simp only [Bool.and_eq_true, Bool.and_eq_false_iff, decide_eq_true_eq, decide_eq_false_iff_not, bne_iff_ne, beq_iff_eq, beq_eq_false_iff_ne, bne_eq_false_iff_eq, Bool.not_eq_true', Bool.not_eq_false', bys_length, List.length_append, List.length_cons, List.length_nil, List.length_map, List.length_drop, List.length_take, Int.natCast_add, wrap_i64_eq, wrap_u64, wrap_u8, ne_eq, not_true_eq_false, not_false_eq_true, Nat.zero_add, Nat.mul_one] <;> omega) | omega | (simp; done) | (simp; omega))) only [↓CR, MC, ↓PR, MR, kops_length]
      simp [c]
  | succ n ih =>
    intro j k tg hj hk
    obtain ⟨k, rfl⟩ : ∃ m, k = m + 1 := ⟨k - 1, by omega⟩
    have h1 : j < l.length := by omega
    have e1 := succ_wrap (i := j) (by omega)
    have ih' := fun tg => ih (j + 1) k tg (by omega) (by omega)
    have r := fun (Q : Res → Prop) (tg : Hid Q) => opright_run (d := d) (o := l[j]) (h := h) (Q := Q) (tg := tg)
    rw [P74_0_eq, List.drop_eq_getElem_cons h1, List.all_cons]
    cases hr : rightO l[j]
    · rw [hr] at r
      simp (disch := (first | assumption | (simp only [Bool.and_eq_true, Bool.and_eq_false_iff, decide_eq_true_eq, decide_eq_false_iff_not, bne_iff_ne, beq_iff_eq, beq_eq_false_iff_ne, bne_eq_false_iff_eq, Bool.not_eq_true', Bool.not_eq_false', bys_length, List.length_append, List.length_cons, List.length_nil, List.length_map, List.length_drop, List.length_take, Int.natCast_add, wrap_i64_eq, wrap_u64, wrap_u8, ne_eq, not_true_eq_false, not_false_eq_true, Nat.zero_add, Nat.mul_one] <;> omega) | omega | (simp; done) | (simp; omega))) only [↓CR, MC, ↓PR, MR, kops_length, kops_getD h1, r, Bool.not_false]
      simp
    · rw [hr] at r
      simp (disch := (first | assumption | (simp only [Bool.and_eq_true, Bool.and_eq_false_iff, decide_eq_true_eq, decide_eq_false_iff_not, bne_iff_ne, beq_iff_eq, beq_eq_false_iff_ne, bne_eq_false_iff_eq, Bool.not_eq_true', Bool.not_eq_false', bys_length, List.length_append, List.length_cons, List.length_nil, List.length_map, List.length_drop, List.length_take, Int.natCast_add, wrap_i64_eq, wrap_u64, wrap_u8, ne_eq, not_true_eq_false, not_false_eq_true, Nat.zero_add, Nat.mul_one] <;> omega) | omega | (simp; done) | (simp; omega))) only [↓CR, MC, ↓PR, MR, kops_length, kops_getD h1, r, Bool.not_true, e1, ih']
      simp
theorem bright_run {d : Nat} {f : Bool} {l : List KOp} (hl : l.length ≤ 1000000) {h : Heap} {Q : Res → Prop} {tg : Hid Q} : Run (evFn Cw (d + 2) 74 [.sl f 4 (kops l)] h) Q tg = Q ([.bool (brightL l)], h) := by
  have := bright_loop d f l hl h Q l.length 0 rounds ⟨⟩ (by omega) (Nat.lt_of_lt_of_le (by omega) rounds_ge)
  rw [e0, List.drop_zero] at this
  rw [F74_eq, kops_length]
  exact this
theorem r12right_loop (d : Nat) (f : Bool) (l : List KOp) (hl : l.length ≤ 1000000) (h : Heap) (Q : Res → Prop) : ∀ (n j k : Nat) (tg : Hid Q), l.length = j + n → n < k →
    Run (P52_0 (d + 1) k f (kops l) j h) Q tg = Q ([.bool ((l.drop j).all rightO && (decide (1 ≤ l.length) && decide (l.length ≤ 8)))], h) := by
  intro n
  induction n with
  | zero =>
    intro j k tg hj hk
    obtain ⟨k, rfl⟩ : ∃ m, k = m + 1 := ⟨k - 1, by omega⟩
    have e : l.drop j = [] := List.drop_eq_nil_of_le (by omega)
    rw [P52_0_eq, e]
    have c8 : decide ((l.length : Int) ≤ 8) = decide (l.length ≤ 8) := by rw [decide_eq_decide]; omega
    by_cases c : 1 ≤ l.length
    · simp (disch := (first | assumption | (simp only [Bool.and_eq_true, Bool.and_eq_false_iff, decide_eq_true_eq, decide_eq_false_iff_not, bne_iff_ne, beq_iff_eq, beq_eq_false_iff_ne, bne_eq_false_iff_eq, Bool.not_eq_true', Bool.not_eq_false', bys_length, List.length_append, List.length_cons, List.length_nil, List.length_map, List.length_drop, List.length_take, Int.natCast_add, wrap_i64_eq, wrap_u64, wrap_u8, ne_eq, not_true_eq_false, not_false_eq_true, Nat.zero_add, Nat.mul_one] <;> omega) | omega | (simp; done) | (simp; omega))) only [↓CR, MC, ↓PR, MR, kops_length, c8]
      simp [c]
    · simp (disch := (first | assumption | (simp only [Bool.and_eq_true, Bool.and_eq_false_iff, decide_eq_true_eq, decide_eq_false_iff_not, bne_iff_ne, beq_iff_eq, beq_eq_false_iff_ne, bne_eq_false_iff_eq, Bool.not_eq_true', Bool.not_eq_false', bys_length, List.length_append, List.length_cons, List.length_nil, List.length_map, List.length_drop, List.length_take, Int.natCast_add, wrap_i64_eq, wrap_u64, wrap_u8, ne_eq, not_true_eq_false, not_false_eq_true, Nat.zero_add, Nat.mul_one] <;> omega) | omega | (simp; done) | (simp; omega))) only [↓CR, MC, ↓PR, MR, kops_length]
      simp [c]
  | succ n ih =>
    intro j k tg hj hk
    obtain ⟨k, rfl⟩ : ∃ m, k = m + 1 := ⟨k - 1, by omega⟩
    have h1 : j < l.length := by omega
    have e1 := succ_wrap (i := j) (by omega)
    have ih' := fun tg => ih (j + 1) k tg (by omega) (by omega)
    have r := fun (Q : Res → Prop) (tg : Hid Q) => r10right_run (d := d) (o := l[j]) (h := h) (Q := Q) (tg := tg)
    rw [P52_0_eq, List.drop_eq_getElem_cons h1, List.all_cons]
    cases hr : rightO l[j]
    · rw [hr] at r
      simp (disch := (first | assumption | (simp only [Bool.and_eq_true, Bool.and_eq_false_iff, decide_eq_true_eq, decide_eq_false_iff_not, bne_iff_ne, beq_iff_eq, beq_eq_false_iff_ne, bne_eq_false_iff_eq, Bool.not_eq_true', Bool.not_eq_false', bys_length, List.length_append, List.length_cons, List.length_nil, List.length_map, List.length_drop, List.length_take, Int.natCast_add, wrap_i64_eq, wrap_u64, wrap_u8, ne_eq, not_true_eq_false, not_false_eq_true, Nat.zero_add, Nat.mul_one] <;> omega) | omega | (simp; done) | (simp; omega))) only [↓CR, MC, ↓PR, MR, kops_length, kops_getD h1, r, Bool.not_false]
      simp
    · rw [hr] at r
      simp (disch := (first | assumption | (simp only [Bool.and_eq_true, Bool.and_eq_false_iff, decide_eq_true_eq, decide_eq_false_iff_not, bne_iff_ne, beq_iff_eq, beq_eq_false_iff_ne, bne_eq_false_iff_eq, Bool.not_eq_true', Bool.not_eq_false', bys_length, List.length_append, List.length_cons, List.length_nil, List.length_map, List.length_drop, List.length_take, Int.natCast_add, wrap_i64_eq, wrap_u64, wrap_u8, ne_eq, not_true_eq_false, not_false_eq_true, Nat.zero_add, Nat.mul_one] <;> omega) | omega | (simp; done) | (simp; omega))) only [↓CR, MC, ↓PR, MR, kops_length, kops_getD h1, r, Bool.not_true, e1, ih']
      simp
theorem r12right_run {d : Nat} {f : Bool} {l : List KOp} (hl : l.length ≤ 1000000) {h : Heap} {Q : Res → Prop} {tg : Hid Q} : Run (evFn Cw (d + 2) 52 [.sl f 4 (kops l)] h) Q tg = Q ([.bool (brightL l)], h) := by
  have := r12right_loop d f l hl h Q l.length 0 rounds ⟨⟩ (by omega) (Nat.lt_of_lt_of_le (by omega) rounds_ge)
  rw [e0, List.drop_zero] at this
  rw [F52_eq]
  exact this

/-! ### Decoded -/
noncomputable def bdec : Nat → List UInt8 → List KOp → List KOp × Nat
  | 0, _, _ => ([], 2)
  | n + 1, b, acc =>
    if b.length = 0 then (if brightL acc then (acc, 0) else ([], 2))
    else if (oget b).2.2 ≠ 0 then ([], (oget b).2.2)
    else bdec n (b.drop (oget b).2.1) (acc ++ [(oget b).1])
def bV (x : List KOp × Nat) : AVal := if x.2 = 0 then .sl false 4 (kops x.1) else .sl true 0 []
theorem bdec_succ (n : Nat) (b : List UInt8) (acc : List KOp) : bdec (n + 1) b acc = if b.length = 0 then (if brightL acc then (acc, 0) else ([], 2))
    else if (oget b).2.2 ≠ 0 then ([], (oget b).2.2) else bdec n (b.drop (oget b).2.1) (acc ++ [(oget b).1]) := rfl
theorem bdecode_loop (d : Nat) : ∀ (n k : Nat) (f : Bool) (b : List UInt8) (acc : List KOp) (h : Heap), b.length < n → n ≤ k → b.length + acc.length ≤ 1000000 →
    ∃ h', h.ext h' ∧ ∀ (Q : Res → Prop) (tg : Hid Q), Run (P62_0 (d + 4) k f (bys b) (kops acc) h) Q tg = Q ([bV (bdec n b acc), .int .i64 (bdec n b acc).2], h') := by
  intro n
  induction n with
  | zero => intro k f b acc h hb; omega
  | succ n ih =>
    intro k f b acc h hb hk ha
    obtain ⟨k, rfl⟩ : ∃ m, k = m + 1 := ⟨k - 1, by omega⟩
    rw [bdec_succ]
    by_cases c0 : b.length = 0
    · rw [if_pos c0]
      have r := fun (Q : Res → Prop) (tg : Hid Q) => bright_run (d := d + 2) (f := false) (l := acc) (by omega) (h := h) (Q := Q) (tg := tg)
      refine ⟨h, Heap.ext.refl h, fun Q tg => ?_⟩
      rw [P62_0_eq]
      cases hr : brightL acc
      · rw [hr] at r
        simp (disch := (first | assumption | (simp only [Bool.and_eq_true, Bool.and_eq_false_iff, decide_eq_true_eq, decide_eq_false_iff_not, bne_iff_ne, beq_iff_eq, beq_eq_false_iff_ne, bne_eq_false_iff_eq, Bool.not_eq_true', Bool.not_eq_false', bys_length, List.length_append, List.length_cons, List.length_nil, List.length_map, List.length_drop, List.length_take, Int.natCast_add, wrap_i64_eq, wrap_u64, wrap_u8, ne_eq, not_true_eq_false, not_false_eq_true, Nat.zero_add, Nat.mul_one] <;> omega) | omega | (simp; done) | (simp; omega))) only [↓CR, MC, ↓PR, MR, bys_length, r, Bool.not_false]
        rfl
      · rw [hr] at r
        simp (disch := (first | assumption | (simp only [Bool.and_eq_true, Bool.and_eq_false_iff, decide_eq_true_eq, decide_eq_false_iff_not, bne_iff_ne, beq_iff_eq, beq_eq_false_iff_ne, bne_eq_false_iff_eq, Bool.not_eq_true', Bool.not_eq_false', bys_length, List.length_append, List.length_cons, List.length_nil, List.length_map, List.length_drop, List.length_take, Int.natCast_add, wrap_i64_eq, wrap_u64, wrap_u8, ne_eq, not_true_eq_false, not_false_eq_true, Nat.zero_add, Nat.mul_one] <;> omega) | omega | (simp; done) | (simp; omega))) only [↓CR, MC, ↓PR, MR, bys_length, r, Bool.not_true]
        rfl
    · rw [if_neg c0]
      obtain ⟨h1, E1, r1⟩ := opget_run d f b (by omega) h
      by_cases he : (oget b).2.2 = 0
      · rw [if_neg (by simp [he])]
        obtain ⟨s1, s2, s3⟩ := oget_spec he
        have be : ((((oget b).2.2 : Nat) : Int) != 0) = false := by simp [he]
        obtain ⟨h2, E2, r2⟩ := ih k f (b.drop (oget b).2.1) (acc ++ [(oget b).1]) h1 (by simp; omega) (by omega) (by simp; omega)
        refine ⟨h2, E1.trans E2, fun Q tg => ?_⟩
        rw [P62_0_eq]
        simp (disch := (first | assumption | (simp only [Bool.and_eq_true, Bool.and_eq_false_iff, decide_eq_true_eq, decide_eq_false_iff_not, bne_iff_ne, beq_iff_eq, beq_eq_false_iff_ne, bne_eq_false_iff_eq, Bool.not_eq_true', Bool.not_eq_false', bys_length, List.length_append, List.length_cons, List.length_nil, List.length_map, List.length_drop, List.length_take, Int.natCast_add, wrap_i64_eq, wrap_u64, wrap_u8, ne_eq, not_true_eq_false, not_false_eq_true, Nat.zero_add, Nat.mul_one] <;> omega) | omega | (simp; done) | (simp; omega))) only [↓CR, MC, ↓PR, MR, bys_length, r1, be, part_dropk, kops_length, kops_snoc, r2]
      · rw [if_pos he]
        have be : ((((oget b).2.2 : Nat) : Int) != 0) = true := by simp; exact he
        have bv : bV ([], (oget b).2.2) = .sl true 0 [] := by unfold bV; rw [if_neg he]
        refine ⟨h1, E1, fun Q tg => ?_⟩
        rw [P62_0_eq, bv]
        simp (disch := (first | assumption | (simp only [Bool.and_eq_true, Bool.and_eq_false_iff, decide_eq_true_eq, decide_eq_false_iff_not, bne_iff_ne, beq_iff_eq, beq_eq_false_iff_ne, bne_eq_false_iff_eq, Bool.not_eq_true', Bool.not_eq_false', bys_length, List.length_append, List.length_cons, List.length_nil, List.length_map, List.length_drop, List.length_take, Int.natCast_add, wrap_i64_eq, wrap_u64, wrap_u8, ne_eq, not_true_eq_false, not_false_eq_true, Nat.zero_add, Nat.mul_one] <;> omega) | omega | (simp; done) | (simp; omega))) only [↓CR, MC, ↓PR, MR, bys_length, r1, be]
theorem bdecode_run (d : Nat) (f : Bool) (b : List UInt8) (hb : b.length ≤ 1000000) (h : Heap) : ∃ h', h.ext h' ∧ ∀ (Q : Res → Prop) (tg : Hid Q),
    Run (evFn Cw (d + 5) 62 [.sl f 0 (bys b)] h) Q tg = Q ([bV (bdec (b.length + 1) b []), .int .i64 (bdec (b.length + 1) b []).2], h') := by
  obtain ⟨h', E, r⟩ := bdecode_loop d (b.length + 1) rounds f b [] h (by omega) (Nat.le_trans (by omega) rounds_ge) (by simp; omega)
  rw [kops_nil] at r
  refine ⟨h', E, fun Q tg => ?_⟩
  rw [F62_eq]
  exact r Q ⟨⟩
theorem r12decode_loop (d : Nat) (f : Bool) (b : List UInt8) (hb : b.length ≤ 1000000) (h : Heap) (Q : Res → Prop) : ∀ (n k p : Nat) (acc : List KOp) (tg : Hid Q), p ≤ b.length → b.length - p < n → n ≤ k → acc.length ≤ p →
    Run (P33_0 (d + 3) k f (bys b) (kops acc) p h) Q tg = Q ([bV (bdec n (b.drop p) acc), .int .i64 (bdec n (b.drop p) acc).2], h) := by
  intro n
  induction n with
  | zero => intro k p acc tg hp hb; omega
  | succ n ih =>
    intro k p acc tg hp hn hk ha
    obtain ⟨k, rfl⟩ : ∃ m, k = m + 1 := ⟨k - 1, by omega⟩
    rw [bdec_succ, List.length_drop]
    by_cases c0 : b.length - p = 0
    · rw [if_pos c0]
      have r := fun (Q : Res → Prop) (tg : Hid Q) => r12right_run (d := d + 1) (f := false) (l := acc) (by omega) (h := h) (Q := Q) (tg := tg)
      rw [P33_0_eq]
      cases hr : brightL acc
      · rw [hr] at r
        simp (disch := (first | assumption | (simp only [Bool.and_eq_true, Bool.and_eq_false_iff, decide_eq_true_eq, decide_eq_false_iff_not, bne_iff_ne, beq_iff_eq, beq_eq_false_iff_ne, bne_eq_false_iff_eq, Bool.not_eq_true', Bool.not_eq_false', bys_length, List.length_append, List.length_cons, List.length_nil, List.length_map, List.length_drop, List.length_take, Int.natCast_add, wrap_i64_eq, wrap_u64, wrap_u8, ne_eq, not_true_eq_false, not_false_eq_true, Nat.zero_add, Nat.mul_one] <;> omega) | omega | (simp; done) | (simp; omega))) only [↓CR, MC, ↓PR, MR, bys_length, r, Bool.not_false]
        rfl
      · rw [hr] at r
        simp (disch := (first | assumption | (simp only [Bool.and_eq_true, Bool.and_eq_false_iff, decide_eq_true_eq, decide_eq_false_iff_not, bne_iff_ne, beq_iff_eq, beq_eq_false_iff_ne, bne_eq_false_iff_eq, Bool.not_eq_true', Bool.not_eq_false', bys_length, List.length_append, List.length_cons, List.length_nil, List.length_map, List.length_drop, List.length_take, Int.natCast_add, wrap_i64_eq, wrap_u64, wrap_u8, ne_eq, not_true_eq_false, not_false_eq_true, Nat.zero_add, Nat.mul_one] <;> omega) | omega | (simp; done) | (simp; omega))) only [↓CR, MC, ↓PR, MR, bys_length, r, Bool.not_true]
        rfl
    · rw [if_neg c0]
      have r1 := fun (Q : Res → Prop) (tg : Hid Q) => r10get_run (d := d) (f := f) (b := b.drop p) (h := h) (Q := Q) (tg := tg) (by simp; omega)
      by_cases he : (oget (b.drop p)).2.2 = 0
      · rw [if_neg (by simp [he])]
        obtain ⟨s1, s2, s3⟩ := oget_spec he
        rw [List.length_drop] at s2
        have be : ((((oget (b.drop p)).2.2 : Nat) : Int) != 0) = false := by simp [he]
        have ek : IntKind.i64.wrap ((p : Int) + ((oget (b.drop p)).2.1 : Nat)) = ((p + (oget (b.drop p)).2.1 : Nat) : Int) := by rw [wrap_i64_id (by omega) (by omega)]; omega
        have ih' := fun tg => ih k (p + (oget (b.drop p)).2.1) (acc ++ [(oget (b.drop p)).1]) tg (by omega) (by omega) (by omega) (by simp; omega)
        rw [← List.drop_drop] at ih'
        rw [P33_0_eq]
        simp (disch := (first | assumption | (simp only [Bool.and_eq_true, Bool.and_eq_false_iff, decide_eq_true_eq, decide_eq_false_iff_not, bne_iff_ne, beq_iff_eq, beq_eq_false_iff_ne, bne_eq_false_iff_eq, Bool.not_eq_true', Bool.not_eq_false', bys_length, List.length_append, List.length_cons, List.length_nil, List.length_map, List.length_drop, List.length_take, Int.natCast_add, wrap_i64_eq, wrap_u64, wrap_u8, ne_eq, not_true_eq_false, not_false_eq_true, Nat.zero_add, Nat.mul_one] <;> omega) | omega | (simp; done) | (simp; omega))) only [↓CR, MC, ↓PR, MR, bys_length, part_dropk, r1, be, kops_length, kops_snoc, ek, ih']
      · rw [if_pos he]
        have be : ((((oget (b.drop p)).2.2 : Nat) : Int) != 0) = true := by simp; exact he
        have bv : bV ([], (oget (b.drop p)).2.2) = .sl true 0 [] := by unfold bV; rw [if_neg he]
        rw [P33_0_eq, bv]
        simp (disch := (first | assumption | (simp only [Bool.and_eq_true, Bool.and_eq_false_iff, decide_eq_true_eq, decide_eq_false_iff_not, bne_iff_ne, beq_iff_eq, beq_eq_false_iff_ne, bne_eq_false_iff_eq, Bool.not_eq_true', Bool.not_eq_false', bys_length, List.length_append, List.length_cons, List.length_nil, List.length_map, List.length_drop, List.length_take, Int.natCast_add, wrap_i64_eq, wrap_u64, wrap_u8, ne_eq, not_true_eq_false, not_false_eq_true, Nat.zero_add, Nat.mul_one] <;> omega) | omega | (simp; done) | (simp; omega))) only [↓CR, MC, ↓PR, MR, bys_length, part_dropk, r1, be]
theorem r12decode_run {d : Nat} {f : Bool} {b : List UInt8} (hb : b.length ≤ 1000000) {h : Heap} {Q : Res → Prop} {tg : Hid Q} :
    Run (evFn Cw (d + 4) 33 [.sl f 0 (bys b)] h) Q tg = Q ([bV (bdec (b.length + 1) b []), .int .i64 (bdec (b.length + 1) b []).2], h) := by
  have := r12decode_loop d f b hb h Q (b.length + 1) rounds 0 [] ⟨⟩ (by omega) (by omega) (Nat.le_trans (by omega) rounds_ge) (by simp)
  rw [kops_nil, e0, List.drop_zero] at this
  rw [F33_eq]
  exact this
theorem bdec_ok : ∀ (n : Nat) (b : List UInt8) (acc l : List KOp), bdec n b acc = (l, 0) → l.length ≤ 8
  | 0, _, _, _, h => by simp [bdec] at h
  | n + 1, b, acc, l, h => by
    rw [bdec_succ] at h
    split at h
    · split at h
      · rename_i hr
        simp only [Prod.mk.injEq, and_true] at h
        subst h
        unfold brightL at hr
        simp only [Bool.and_eq_true, decide_eq_true_eq] at hr
        omega
      · simp at h
    · split at h
      · rename_i he
        simp only [Prod.mk.injEq] at h
        exact absurd h.2 he
      · exact bdec_ok n _ _ _ h
end Go.Proofs.YtdlcjibefbnckaaDoor.Wa
end

section
/- What the evaluator comes to in these functions. -/
namespace Go.Proofs.YtdlcjibefbnckaaDoor.Wa
open Go Go.Weave
set_option maxRecDepth 100000
set_option linter.unusedVariables false
/- f18 strandline/point.number -/
theorem F18_eq (d : Nat) (f0 : Bool) (l1 : List AVal) (h : Heap) : evFn Cw (d + 1) 18 [(AVal.sl f0 0 l1)] h =
  (runK (evFn Cw d 36 [(AVal.sl f0 0 l1)] h) fun r1 h1 =>
    (consK r1 fun w2 ws3 =>
      (intK .u64 w2 fun y4 =>
        (consK ws3 fun w5 ws6 =>
          (intK .i64 w5 fun y7 =>
            (consK ws6 fun w8 ws9 =>
              (intK .i64 w8 fun y10 =>
                (nilK ws9
                  (bif ((y10 : Int) != 0) then
                    (Tr.ret ([(AVal.int .i64 0), (AVal.sl true 0 []), (AVal.int .i64 y10)], h1))
                  else
                    (bif (decide ((y4 : Int) > 2147483647)) then
                      (Tr.ret ([(AVal.int .i64 0), (AVal.sl true 0 []), (AVal.int .i64 4)], h1))
                    else
                      (bif ((decide ((0 : Int) ≤ y7) && decide ((y7 : Int) ≤ (l1.length : Int))) && decide (((l1.length : Int) : Int) ≤ (l1.length : Int))) then
                        (Tr.ret ([(AVal.int .i64 (IntKind.i64.wrap y4)), (AVal.sl f0 0 (Go.Weave.part y7 (l1.length : Int) l1)), (AVal.int .i64 0)], h1))
                      else
                        Tr.fail))))))))))) := by kernel_rfl
/- f19 strandline/word.Get -/
noncomputable def P19_0 (d k : Nat) (f0 : Bool) (l1 : List AVal) (x2 : Int) (x3 : Int) (x4 : Int) (h : Heap) : Tr Res :=
  loopPt Cw d 19 [true, true, false, true, true] [] k ⟨[(0, (EV.one (SV.val (AVal.sl f0 0 l1)))), (3, (EV.one (SV.val (AVal.int .u64 x2)))), (7, (EV.one (SV.val (AVal.int .i64 x3)))), (8, (EV.one (SV.val (AVal.int .i64 x4))))], []⟩ h
theorem P19_0_eq (d k : Nat) (f0 : Bool) (l1 : List AVal) (x2 : Int) (x3 : Int) (x4 : Int) (h : Heap) : P19_0 d (k + 1) f0 l1 x2 x3 x4 h =
  (bif (decide ((x4 : Int) < x3)) then
    (bif (decide ((0 : Int) ≤ x4) && decide ((x4 : Int) < (l1.length : Int))) then
      (intK .u8 (l1.getD (Int.toNat x4) AVal.undef) fun y1 =>
        (bif decide ((IntKind.i64.wrap (8 * x4)) < 0) then
          Tr.fail
        else
          (P19_0 d k f0 l1 (IntKind.u64.wrap (BitVec.ofInt 64 x2 ||| BitVec.ofInt 64 (IntKind.u64.wrap ((IntKind.u64.wrap y1) * 2 ^ (min (Int.toNat (IntKind.i64.wrap (8 * x4))) 64)))).toNat) x3 (IntKind.i64.wrap (x4 + 1)) h)))
    else
      Tr.fail)
  else
    (Tr.ret ([(AVal.int .u64 x2)], h))) := by kernel_rfl
theorem F19_eq (d : Nat) (f0 : Bool) (l1 : List AVal) (h : Heap) : evFn Cw (d + 1) 19 [(AVal.sl f0 0 l1)] h =
  (P19_0 d rounds f0 l1 0 (if (8 : Int) < (l1.length : Int) then 8 else (l1.length : Int)) 0 h) := by kernel_rfl
/- f6 strandline/point.Decode -/
theorem F6_eq (d : Nat) (f0 : Bool) (l1 : List AVal) (h : Heap) : evFn Cw (d + 1) 6 [(AVal.sl f0 0 l1)] h =
  (runK (evFn Cw d 18 [(AVal.sl f0 0 l1)] h) fun r1 h1 =>
    (consK r1 fun w2 ws3 =>
      (intK .i64 w2 fun y4 =>
        (consK ws3 fun w5 ws6 =>
          (slK 0 w5 fun fl7 es8 =>
            (consK ws6 fun w9 ws10 =>
              (intK .i64 w9 fun y11 =>
                (nilK ws10
                  (bif ((y11 : Int) != 0) then
                    (Tr.ret ([(AVal.agg [(AVal.int .i64 0), (AVal.int .i64 0), (AVal.int .u32 0)]), (AVal.int .i64 y11)], h1))
                  else
                    (runK (evFn Cw d 18 [(AVal.sl fl7 0 es8)] h1) fun r12 h12 =>
                      (consK r12 fun w13 ws14 =>
                        (intK .i64 w13 fun y15 =>
                          (consK ws14 fun w16 ws17 =>
                            (slK 0 w16 fun fl18 es19 =>
                              (consK ws17 fun w20 ws21 =>
                                (intK .i64 w20 fun y22 =>
                                  (nilK ws21
                                    (bif ((y22 : Int) != 0) then
                                      (Tr.ret ([(AVal.agg [(AVal.int .i64 0), (AVal.int .i64 0), (AVal.int .u32 0)]), (AVal.int .i64 y22)], h12))
                                    else
                                      (bif (decide (((es19.length : Int) : Int) < 4)) then
                                        (Tr.ret ([(AVal.agg [(AVal.int .i64 0), (AVal.int .i64 0), (AVal.int .u32 0)]), (AVal.int .i64 1)], h12))
                                      else
                                        (bif (decide (((es19.length : Int) : Int) > 4)) then
                                          (Tr.ret ([(AVal.agg [(AVal.int .i64 0), (AVal.int .i64 0), (AVal.int .u32 0)]), (AVal.int .i64 2)], h12))
                                        else
                                          (runK (evFn Cw d 19 [(AVal.sl fl18 0 es19)] h12) fun r23 h23 =>
                                            (consK r23 fun w24 ws25 =>
                                              (intK .u64 w24 fun y26 =>
                                                (nilK ws25
                                                  (Tr.ret ([(AVal.agg [(AVal.int .i64 y4), (AVal.int .i64 y15), (AVal.int .u32 (IntKind.u32.wrap y26))]), (AVal.int .i64 0)], h23)))))))))))))))))))))))))) := by kernel_rfl
/- f37 strandline/strandlineref01.Two -/
noncomputable def P37_0 (d k : Nat) (x0 : Int) (x1 : Int) (x2 : Int) (h : Heap) : Tr Res :=
  loopPt Cw d 37 [true, true, false, true, true] [] k ⟨[(0, (EV.one (SV.val (AVal.int .i64 x0)))), (3, (EV.one (SV.val (AVal.int .u64 x1)))), (4, (EV.one (SV.val (AVal.int .i64 x2))))], []⟩ h
theorem P37_0_eq (d k : Nat) (x0 : Int) (x1 : Int) (x2 : Int) (h : Heap) : P37_0 d (k + 1) x0 x1 x2 h =
  (bif (decide ((x2 : Int) < x0)) then (P37_0 d k x0 (IntKind.u64.wrap (x1 * 2)) (IntKind.i64.wrap (x2 + 1)) h) else (Tr.ret ([(AVal.int .u64 x1)], h))) := by kernel_rfl
theorem F37_eq (d : Nat) (x0 : Int) (h : Heap) : evFn Cw (d + 1) 37 [(AVal.int .i64 x0)] h =
  (P37_0 d rounds x0 1 0 h) := by kernel_rfl
/- f21 strandline/strandlineref01.Get -/
noncomputable def P21_0 (d k : Nat) (f0 : Bool) (l1 : List AVal) (x2 : Int) (x3 : Int) (h : Heap) : Tr Res :=
  loopPt Cw d 21 [true, true, false, true, true] [] k ⟨[(0, (EV.one (SV.val (AVal.sl f0 0 l1)))), (3, (EV.one (SV.val (AVal.int .u64 x2)))), (4, (EV.one (SV.val (AVal.int .i64 x3))))], []⟩ h
theorem P21_0_eq (d k : Nat) (f0 : Bool) (l1 : List AVal) (x2 : Int) (x3 : Int) (h : Heap) : P21_0 d (k + 1) f0 l1 x2 x3 h =
  (bif (decide ((x3 : Int) < (l1.length : Int))) then
    (bif (decide ((x3 : Int) < 8)) then
      (bif (decide ((0 : Int) ≤ x3) && decide ((x3 : Int) < (l1.length : Int))) then
        (intK .u8 (l1.getD (Int.toNat x3) AVal.undef) fun y1 =>
          (runK (evFn Cw d 37 [(AVal.int .i64 (IntKind.i64.wrap (8 * x3)))] h) fun r2 h2 =>
            (consK r2 fun w3 ws4 =>
              (intK .u64 w3 fun y5 =>
                (nilK ws4
                  (P21_0 d k f0 l1 (IntKind.u64.wrap (x2 + (IntKind.u64.wrap ((IntKind.u64.wrap y1) * y5)))) (IntKind.i64.wrap (x3 + 1)) h2))))))
      else
        Tr.fail)
    else
      (Tr.ret ([(AVal.int .u64 x2)], h)))
  else
    (Tr.ret ([(AVal.int .u64 x2)], h))) := by kernel_rfl
theorem F21_eq (d : Nat) (f0 : Bool) (l1 : List AVal) (h : Heap) : evFn Cw (d + 1) 21 [(AVal.sl f0 0 l1)] h =
  (P21_0 d rounds f0 l1 0 0 h) := by kernel_rfl
/- f7 strandline/strandlineref34.Decode -/
theorem F7_eq (d : Nat) (f0 : Bool) (l1 : List AVal) (h : Heap) : evFn Cw (d + 1) 7 [(AVal.sl f0 0 l1)] h =
  (runK (evFn Cw d 20 [(AVal.sl f0 0 l1)] h) fun r1 h1 =>
    (consK r1 fun w2 ws3 =>
      (intK .u64 w2 fun y4 =>
        (consK ws3 fun w5 ws6 =>
          (intK .i64 w5 fun y7 =>
            (consK ws6 fun w8 ws9 =>
              (intK .i64 w8 fun y10 =>
                (nilK ws9
                  (bif ((y10 : Int) != 0) then
                    (Tr.ret ([(AVal.agg [(AVal.int .i64 0), (AVal.int .i64 0), (AVal.int .u32 0)]), (AVal.int .i64 y10)], h1))
                  else
                    (bif (decide ((y4 : Int) > 2147483647)) then
                      (Tr.ret ([(AVal.agg [(AVal.int .i64 0), (AVal.int .i64 0), (AVal.int .u32 0)]), (AVal.int .i64 4)], h1))
                    else
                      (bif ((decide ((0 : Int) ≤ y7) && decide ((y7 : Int) ≤ (l1.length : Int))) && decide (((l1.length : Int) : Int) ≤ (l1.length : Int))) then
                        (runK (evFn Cw d 20 [(AVal.sl f0 0 (Go.Weave.part y7 (l1.length : Int) l1))] h1) fun r11 h11 =>
                          (consK r11 fun w12 ws13 =>
                            (intK .u64 w12 fun y14 =>
                              (consK ws13 fun w15 ws16 =>
                                (intK .i64 w15 fun y17 =>
                                  (consK ws16 fun w18 ws19 =>
                                    (intK .i64 w18 fun y20 =>
                                      (nilK ws19
                                        (bif ((y20 : Int) != 0) then
                                          (Tr.ret ([(AVal.agg [(AVal.int .i64 0), (AVal.int .i64 0), (AVal.int .u32 0)]), (AVal.int .i64 y20)], h11))
                                        else
                                          (bif (decide ((y14 : Int) > 2147483647)) then
                                            (Tr.ret ([(AVal.agg [(AVal.int .i64 0), (AVal.int .i64 0), (AVal.int .u32 0)]), (AVal.int .i64 4)], h11))
                                          else
                                            (bif ((decide ((0 : Int) ≤ (IntKind.i64.wrap (y7 + y17))) && decide (((IntKind.i64.wrap (y7 + y17)) : Int) ≤ (l1.length : Int))) && decide (((l1.length : Int) : Int) ≤ (l1.length : Int))) then
                                              (bif (decide ((((Go.Weave.part (IntKind.i64.wrap (y7 + y17)) (l1.length : Int) l1).length : Int) : Int) < 4)) then
                                                (Tr.ret ([(AVal.agg [(AVal.int .i64 0), (AVal.int .i64 0), (AVal.int .u32 0)]), (AVal.int .i64 1)], h11))
                                              else
                                                (bif (decide ((((Go.Weave.part (IntKind.i64.wrap (y7 + y17)) (l1.length : Int) l1).length : Int) : Int) > 4)) then
                                                  (Tr.ret ([(AVal.agg [(AVal.int .i64 0), (AVal.int .i64 0), (AVal.int .u32 0)]), (AVal.int .i64 2)], h11))
                                                else
                                                  (runK (evFn Cw d 21 [(AVal.sl f0 0 (Go.Weave.part (IntKind.i64.wrap (y7 + y17)) (l1.length : Int) l1))] h11) fun r21 h21 =>
                                                    (consK r21 fun w22 ws23 =>
                                                      (intK .u64 w22 fun y24 =>
                                                        (nilK ws23
                                                          (Tr.ret ([(AVal.agg [(AVal.int .i64 (IntKind.i64.wrap y4)), (AVal.int .i64 (IntKind.i64.wrap y14)), (AVal.int .u32 (IntKind.u32.wrap y24))]), (AVal.int .i64 0)], h21))))))))
                                            else
                                              Tr.fail)))))))))))
                      else
                        Tr.fail))))))))))) := by kernel_rfl
/- f38 strandline/word.near -/
noncomputable def P39_0 (d k : Nat) (f0 : Bool) (l1 : List AVal) (f2 : Bool) (l3 : List AVal) (x4 : Int) (x5 : Int) (h : Heap) : Tr Res :=
  loopPt Cw d 39 [true, false, true, true] [] k ⟨[(0, (EV.one (SV.val (AVal.sl f0 3 l1)))), (5, (EV.one (SV.val (AVal.sl f2 3 l3)))), (6, (EV.one (SV.val (AVal.int .i64 x4)))), (7, (EV.one (SV.val (AVal.int .i64 x5))))], []⟩ h
theorem P39_0_eq (d k : Nat) (f0 : Bool) (l1 : List AVal) (f2 : Bool) (l3 : List AVal) (x4 : Int) (x5 : Int) (h : Heap) : P39_0 d (k + 1) f0 l1 f2 l3 x4 x5 h =
  (bif (decide ((x5 : Int) < x4)) then
    (bif (decide ((0 : Int) ≤ x5) && decide ((x5 : Int) < (l3.length : Int))) then
      (aggK 2 (l3.getD (Int.toNat x5) AVal.undef) fun cc1 =>
        (bif ((cc1.length == 2) && true) then
          (optK (cc1[0]?) fun w2 =>
            (strK w2 fun ss3 =>
              (bif (decide (((ss3.length : Int) : Int) < 1)) then
                (Tr.ret ([(AVal.bool false)], h))
              else
                (optK (cc1[0]?) fun w4 =>
                  (strK w4 fun ss5 =>
                    (bif (decide (((ss5.length : Int) : Int) > 24)) then
                      (Tr.ret ([(AVal.bool false)], h))
                    else
                      (optK (cc1[1]?) fun w6 =>
                        (strK w6 fun ss7 =>
                          (bif (decide (((ss7.length : Int) : Int) > 128)) then
                            (Tr.ret ([(AVal.bool false)], h))
                          else
                            (bif (decide ((x5 : Int) > 0)) then
                              (optK (cc1[0]?) fun w8 =>
                                (strK w8 fun ss9 =>
                                  (bif (decide ((0 : Int) ≤ (IntKind.i64.wrap (x5 - 1))) && decide (((IntKind.i64.wrap (x5 - 1)) : Int) < (l1.length : Int))) then
                                    (optK ((AVal.cells (l1.getD (Int.toNat (IntKind.i64.wrap (x5 - 1))) AVal.undef))[0]?) fun w10 =>
                                      (strK w10 fun ss11 =>
                                        (bif ((Go.Op.bytesLess ss9 ss11) || (ss9 == ss11)) then (Tr.ret ([(AVal.bool false)], h)) else (P39_0 d k f0 l1 f2 l3 x4 (IntKind.i64.wrap (x5 + 1)) h))))
                                  else
                                    Tr.fail)))
                            else
                              (P39_0 d k f0 l1 f2 l3 x4 (IntKind.i64.wrap (x5 + 1)) h)))))))))))
        else
          Tr.fail))
    else
      Tr.fail)
  else
    (Tr.ret ([(AVal.bool true)], h))) := by kernel_rfl
theorem F39_eq (d : Nat) (f0 : Bool) (l1 : List AVal) (h : Heap) : evFn Cw (d + 1) 39 [(AVal.sl f0 3 l1)] h =
  (P39_0 d rounds f0 l1 f0 l1 (l1.length : Int) 0 h) := by kernel_rfl
/- f40 strandline/point.Split$1 -/
noncomputable def P58_0 (d k : Nat) (l0 : List AVal) (l1 : List AVal) (x2 : Int) (h : Heap) : Tr Res :=
  loopPt Cw d 58 [true, true, true, true, false, true, true] [] k ⟨[(4, (EV.one (SV.own (tokOf 4 0) 0 l0))), (6, (EV.one (SV.own (tokOf 6 0) 3 l1))), (7, (EV.one (SV.val (AVal.int .i64 x2))))], []⟩ h
theorem P58_0_eq (d k : Nat) (l0 : List AVal) (l1 : List AVal) (x2 : Int) (h : Heap) : P58_0 d (k + 1) l0 l1 x2 h =
  (bif (decide ((x2 : Int) < (l0.length : Int))) then
    (bif (decide ((0 : Int) ≤ x2) && decide ((x2 : Int) < (l0.length : Int))) then
      (slK 0 (l0.getD (Int.toNat x2) AVal.undef) fun fl1 es2 =>
        (optK (toBytes es2) fun ss3 =>
          (bif (decide ((0 : Int) ≤ (IntKind.i64.wrap (x2 + 1))) && decide (((IntKind.i64.wrap (x2 + 1)) : Int) < (l0.length : Int))) then
            (slK 0 (l0.getD (Int.toNat (IntKind.i64.wrap (x2 + 1))) AVal.undef) fun fl4 es5 =>
              (optK (toBytes es5) fun ss6 =>
                (bif decide ((l1.length + (1 : Nat)) * 32 ≤ 140737488355328) then
                  (P58_0 d k l0 (l1 ++ [(AVal.agg [(AVal.str ss3), (AVal.str ss6)])]) (IntKind.i64.wrap (x2 + 2)) h)
                else
                  Tr.fail)))
          else
            Tr.fail)))
    else
      Tr.fail)
  else
    (Tr.ret ([(AVal.sl false 3 l1), (AVal.bool true)], h))) := by kernel_rfl
theorem F58_eq (d : Nat) (f0 : Bool) (l1 : List AVal) (h : Heap) : evFn Cw (d + 1) 58 [(AVal.sl f0 0 l1)] h =
  (runK (evFn Cw d 70 [(AVal.sl f0 0 l1)] h) fun r1 h1 =>
    (consK r1 fun w2 ws3 =>
      (slOK 0 w2 fun es4 =>
        (consK ws3 fun w5 ws6 =>
          (intK .i64 w5 fun y7 =>
            (nilK ws6
              (bif ((y7 : Int) != 0) then
                (Tr.ret ([(AVal.sl true 0 []), (AVal.bool false)], h1))
              else
                (bif (((Int.tmod (es4.length : Int) 2) : Int) != 0) then
                  (Tr.ret ([(AVal.sl true 0 []), (AVal.bool false)], h1))
                else
                  (bif (decide (((l1.length : Int) : Int) > 400)) then (Tr.ret ([(AVal.sl true 0 []), (AVal.bool false)], h1)) else (P58_0 d rounds es4 [] 0 h1)))))))))) := by kernel_rfl
/- f71 strandline/crc.four -/
theorem F71_eq (d : Nat) (x0 : Int) (h : Heap) : evFn Cw (d + 1) 71 [(AVal.int .u32 x0)] h =
  (bif (decide ((0 : Int) ≤ (IntKind.u32.wrap (BitVec.ofInt 32 x0 &&& BitVec.ofInt 32 15).toNat)) && decide (((IntKind.u32.wrap (BitVec.ofInt 32 x0 &&& BitVec.ofInt 32 15).toNat) : Int) < 16)) then
    (optK ([(AVal.int .u32 0), (AVal.int .u32 274646895), (AVal.int .u32 549293790), (AVal.int .u32 820201905), (AVal.int .u32 1098587580), (AVal.int .u32 1361435347), (AVal.int .u32 1640403810), (AVal.int .u32 1905808397), (AVal.int .u32 2197175160), (AVal.int .u32 2460548119), (AVal.int .u32 2722870694), (AVal.int .u32 2987750089), (AVal.int .u32 3280807620), (AVal.int .u32 3553878443), (AVal.int .u32 3811616794), (AVal.int .u32 4084100981)][(0 + ((Int.toNat (IntKind.u32.wrap (BitVec.ofInt 32 x0 &&& BitVec.ofInt 32 15).toNat)) * 1))]?) fun w1 =>
      (intK .u32 w1 fun y2 =>
        (Tr.ret ([(AVal.int .u32 (IntKind.u32.wrap (BitVec.ofInt 32 y2 ^^^ BitVec.ofInt 32 (Int.fdiv x0 (2 ^ 4))).toNat))], h))))
  else
    Tr.fail) := by kernel_rfl
/- f59 strandline/crc.More -/
noncomputable def P59_0 (d k : Nat) (x0 : Int) (f1 : Bool) (l2 : List AVal) (x3 : Int) (x4 : Int) (h : Heap) : Tr Res :=
  loopPt Cw d 59 [true, true, false, true, true] [] k ⟨[(5, (EV.one (SV.val (AVal.int .u32 x0)))), (10, (EV.one (SV.val (AVal.sl f1 0 l2)))), (11, (EV.one (SV.val (AVal.int .i64 x3)))), (12, (EV.one (SV.val (AVal.int .i64 x4))))], []⟩ h
theorem P59_0_eq (d k : Nat) (x0 : Int) (f1 : Bool) (l2 : List AVal) (x3 : Int) (x4 : Int) (h : Heap) : P59_0 d (k + 1) x0 f1 l2 x3 x4 h =
  (bif (decide ((x4 : Int) < x3)) then
    (bif (decide ((0 : Int) ≤ x4) && decide ((x4 : Int) < (l2.length : Int))) then
      (intK .u8 (l2.getD (Int.toNat x4) AVal.undef) fun y1 =>
        (runK (evFn Cw d 71 [(AVal.int .u32 (IntKind.u32.wrap (BitVec.ofInt 32 x0 ^^^ BitVec.ofInt 32 (IntKind.u32.wrap y1)).toNat))] h) fun r2 h2 =>
          (consK r2 fun w3 ws4 =>
            (intK .u32 w3 fun y5 =>
              (nilK ws4
                (runK (evFn Cw d 71 [(AVal.int .u32 y5)] h2) fun r6 h6 =>
                  (consK r6 fun w7 ws8 =>
                    (intK .u32 w7 fun y9 =>
                      (nilK ws8
                        (P59_0 d k y9 f1 l2 x3 (IntKind.i64.wrap (x4 + 1)) h6))))))))))
    else
      Tr.fail)
  else
    (Tr.ret ([(AVal.int .u32 (IntKind.u32.wrap (BitVec.ofInt 32 (IntKind.u32.max) ^^^ BitVec.ofInt 32 x0).toNat))], h))) := by kernel_rfl
theorem F59_eq (d : Nat) (x0 : Int) (f1 : Bool) (l2 : List AVal) (h : Heap) : evFn Cw (d + 1) 59 [(AVal.int .u32 x0), (AVal.sl f1 0 l2)] h =
  (P59_0 d rounds (IntKind.u32.wrap (BitVec.ofInt 32 (IntKind.u32.max) ^^^ BitVec.ofInt 32 x0).toNat) f1 l2 (l2.length : Int) 0 h) := by kernel_rfl
/- f42 strandline/point.all -/
noncomputable def P42_0 (d k : Nat) (l0 : List AVal) (f1 : Bool) (l2 : List AVal) (x3 : Int) (x4 : Int) (x5 : Int) (x6 : Int) (x7 : Int) (x8 : Int) (x9 : Int) (x10 : Int) (h : Heap) : Tr Res :=
  loopPt Cw d 42 [true, true, true, false, true, true] [] k ⟨[(3, (EV.one (SV.loc 3 0))), (5, (EV.one (SV.own (tokOf 5 0) 3 l0))), (6, (EV.one (SV.loc 6 0))), (14, (EV.one (SV.val (AVal.sl f1 0 l2)))), (15, (EV.one (SV.val (AVal.int .i64 x3)))), (16, (EV.one (SV.val (AVal.int .i64 x4))))], [(3, (Box.plain [(AVal.int .i64 x5), (AVal.int .i64 x6), (AVal.int .u32 x7)])), (6, (Box.plain [(AVal.int .i64 x8), (AVal.int .i64 x9), (AVal.int .u32 x10)]))]⟩ h
theorem P42_0_eq (d k : Nat) (l0 : List AVal) (f1 : Bool) (l2 : List AVal) (x3 : Int) (x4 : Int) (x5 : Int) (x6 : Int) (x7 : Int) (x8 : Int) (x9 : Int) (x10 : Int) (h : Heap) : P42_0 d (k + 1) l0 f1 l2 x3 x4 x5 x6 x7 x8 x9 x10 h =
  (bif (decide ((x4 : Int) < x3)) then
    (bif (decide ((0 : Int) ≤ x4) && decide ((x4 : Int) < (l2.length : Int))) then
      (slK 0 (l2.getD (Int.toNat x4) AVal.undef) fun fl1 es2 =>
        (runK (evFn Cw d 58 [(AVal.sl fl1 0 es2)] h) fun r3 h3 =>
          (consK r3 fun w4 ws5 =>
            (slOK 3 w4 fun es6 =>
              (consK ws5 fun w7 ws8 =>
                (boolK w7 fun bb9 =>
                  (nilK ws8
                    (bif (!bb9) then
                      (Tr.ret ([(AVal.sl true 0 []), (AVal.agg [(AVal.int .i64 0), (AVal.int .i64 0), (AVal.int .u32 0)]), (AVal.bool false)], h3))
                    else
                      (bif decide ((l0.length + es6.length) * 32 ≤ 140737488355328) then
                        (runK (evFn Cw d 59 [(AVal.int .u32 x10), (AVal.sl fl1 0 es2)] h3) fun r10 h10 =>
                          (consK r10 fun w11 ws12 =>
                            (intK .u32 w11 fun y13 =>
                              (nilK ws12
                                (P42_0 d k (l0 ++ es6) f1 l2 x3 (IntKind.i64.wrap (x4 + 1)) x5 x6 x7 x8 x9 y13 h10)))))
                      else
                        Tr.fail)))))))))
    else
      Tr.fail)
  else
    (Tr.ret ([(AVal.sl false 3 l0), (AVal.agg [(AVal.int .i64 x8), (AVal.int .i64 (l0.length : Int)), (AVal.int .u32 x10)]), (AVal.bool true)], h))) := by kernel_rfl
theorem F42_eq (d : Nat) (f0 : Bool) (l1 : List AVal) (h : Heap) : evFn Cw (d + 1) 42 [(AVal.sl f0 0 l1)] h =
  (P42_0 d rounds [] f0 l1 (l1.length : Int) 0 0 0 0 (l1.length : Int) 0 0 h) := by kernel_rfl
/- f27 strandline/point.Of -/
theorem F27_eq (d : Nat) (f0 : Bool) (l1 : List AVal) (h : Heap) : evFn Cw (d + 1) 27 [(AVal.sl f0 0 l1)] h =
  (runK (evFn Cw d 42 [(AVal.sl f0 0 l1)] h) fun r1 h1 =>
    (consK r1 fun w2 ws3 =>
      (slOK 3 w2 fun es4 =>
        (consK ws3 fun w5 ws6 =>
          (aggK 3 w5 fun cc7 =>
            (consK ws6 fun w8 ws9 =>
              (boolK w8 fun bb10 =>
                (nilK ws9
                  (bif ((cc7.length == 3) && true) then
                    (bif (!bb10) then
                      (Tr.ret ([(AVal.agg [(AVal.int .i64 0), (AVal.int .i64 0), (AVal.int .u32 0)]), (AVal.int .i64 2)], h1))
                    else
                      (bif decide (0 + 3 ≤ cc7.length) then
                        (bif ((((cc7.drop 0).take 3).length == 3) && true) then
                          (bif decide (0 + 3 ≤ ((cc7.drop 0).take 3).length) then (Tr.ret ([(AVal.agg ((((cc7.drop 0).take 3).drop 0).take 3)), (AVal.int .i64 0)], h1)) else Tr.fail)
                        else
                          Tr.fail)
                      else
                        Tr.fail))
                  else
                    Tr.fail))))))))) := by kernel_rfl
/- f10 strandline/strandlinelaw34.awake -/
end Go.Proofs.YtdlcjibefbnckaaDoor.Wa
end

section
/- Points: their bytes. -/
namespace Go.Proofs.YtdlcjibefbnckaaDoor.Wa
open Go Go.Weave
set_option maxRecDepth 100000
set_option linter.unusedSimpArgs false
set_option linter.unusedVariables false
set_option linter.unusedSectionVars false

/-! ### Words of four bytes -/
def get4 : List UInt8 → Nat
  | [a, b, c, d] => a.toNat + b.toNat * 256 + c.toNat * 65536 + d.toNat * 16777216
  | _ => 0
theorem get4_lt : ∀ l : List UInt8, get4 l < 4294967296
  | [a, b, c, d] => by
    have h1 := a.toNat_lt
    have h2 := b.toNat_lt
    have h3 := c.toNat_lt
    have h4 := d.toNat_lt
    simp only [get4]
    omega
  | [] | [_] | [_, _] | [_, _, _] | _ :: _ :: _ :: _ :: _ :: _ => by simp [get4]
theorem fdiv_nat (x p : Nat) : Int.fdiv (x : Int) (p : Int) = ((x / p : Nat) : Int) := by
  rw [Int.fdiv_eq_ediv_of_nonneg _ (by omega)]; rfl
theorem or_step {acc y s : Nat} (h : acc < 2 ^ s) (hy : y < 256) (hs : s ≤ 24) (t : Int) (ht : min (Int.toNat t) 64 = s) :
    IntKind.u64.wrap (BitVec.ofInt 64 (acc : Int) ||| BitVec.ofInt 64 (IntKind.u64.wrap ((IntKind.u64.wrap (y : Int)) * 2 ^ (min (Int.toNat t) 64)))).toNat = ((acc + y * 2 ^ s : Nat) : Int) := by
  have h1 : (2 : Nat) ^ s ≤ 2 ^ 24 := Nat.pow_le_pow_right (by omega) hs
  have h2 : (2 : Nat) ^ 24 = 16777216 := by decide
  rw [h2] at h1
  have h3 : y * 2 ^ s ≤ 255 * 16777216 := Nat.mul_le_mul (by omega) h1
  rw [ht]
  have e5 : IntKind.u64.wrap (y : Int) = (y : Int) := wrap_u64_id (by omega) (by omega)
  have e6 : (y : Int) * 2 ^ s = ((y * 2 ^ s : Nat) : Int) := by rw [Int.natCast_mul, Int.natCast_pow]; rfl
  rw [e5, e6, wrap_u64_id (n := ((y * 2 ^ s : Nat) : Int)) (by omega) (by omega)]
  have e7 : (BitVec.ofInt 64 (acc : Int)).toNat = acc := by simp; omega
  have e8 : (BitVec.ofInt 64 ((y * 2 ^ s : Nat) : Int)).toNat = y * 2 ^ s := by
    rw [BitVec.toNat_ofInt]
    have : ((2 ^ 64 : Nat) : Int) = 18446744073709551616 := by decide
    rw [this]; omega
  have e9 : acc ||| y * 2 ^ s = acc + y * 2 ^ s := by
    rw [Nat.or_comm, Nat.mul_comm y, Nat.add_comm]
    exact (Nat.two_pow_add_eq_or_of_lt h y).symm
  rw [BitVec.toNat_or, e7, e8, e9]
  exact wrap_u64_id (by omega) (by omega)
theorem len4 {l : List UInt8} (h : l.length = 4) : ∃ a b c d, l = [a, b, c, d] := by
  match l, h with
  | [a, b, c, d], _ => exact ⟨a, b, c, d, rfl⟩
theorem wget_run {d : Nat} {f : Bool} {l : List UInt8} (hl : l.length = 4) {h : Heap} {Q : Res → Prop} {tg : Hid Q} : Run (evFn Cw (d + 1) 19 [.sl f 0 (bys l)] h) Q tg = Q ([.int .u64 (get4 l : Nat)], h) := by
  obtain ⟨b0, b1, b2, b3, rfl⟩ := len4 hl
  obtain ⟨k, hk⟩ : ∃ m, rounds = m + 5 := ⟨rounds - 5, by have := rounds_ge; omega⟩
  have a1 : IntKind.i64.wrap ((0 : Int) + 1) = 1 := by decide
  have a2 : IntKind.i64.wrap ((1 : Int) + 1) = 2 := by decide
  have a3 : IntKind.i64.wrap ((2 : Int) + 1) = 3 := by decide
  have a4 : IntKind.i64.wrap ((3 : Int) + 1) = 4 := by decide
  have m0 : IntKind.i64.wrap ((8 : Int) * 0) = 0 := by decide
  have m1 : IntKind.i64.wrap ((8 : Int) * 1) = 8 := by decide
  have m2 : IntKind.i64.wrap ((8 : Int) * 2) = 16 := by decide
  have m3 : IntKind.i64.wrap ((8 : Int) * 3) = 24 := by decide
  have h0 := b0.toNat_lt
  have h1 := b1.toNat_lt
  have h2 := b2.toNat_lt
  have h3 := b3.toNat_lt
  have o0 := or_step (acc := 0) (y := b0.toNat) (s := 0) (by omega) (by omega) (by omega) 0 (by decide)
  have o1 := or_step (acc := 0 + b0.toNat * 2 ^ 0) (y := b1.toNat) (s := 8) (by omega) (by omega) (by omega) 8 (by decide)
  have o2 := or_step (acc := 0 + b0.toNat * 2 ^ 0 + b1.toNat * 2 ^ 8) (y := b2.toNat) (s := 16) (by omega) (by omega) (by omega) 16 (by decide)
  have o3 := or_step (acc := 0 + b0.toNat * 2 ^ 0 + b1.toNat * 2 ^ 8 + b2.toNat * 2 ^ 16) (y := b3.toNat) (s := 24) (by omega) (by omega) (by omega) 24 (by decide)
  have z0 : ((0 : Nat) : Int) = 0 := rfl
  rw [z0] at o0
  have g0 : (bys [b0, b1, b2, b3]).getD (Int.toNat 0) AVal.undef = .int .u8 (b0.toNat : Int) := rfl
  have g1 : (bys [b0, b1, b2, b3]).getD (Int.toNat 1) AVal.undef = .int .u8 (b1.toNat : Int) := rfl
  have g2 : (bys [b0, b1, b2, b3]).getD (Int.toNat 2) AVal.undef = .int .u8 (b2.toNat : Int) := rfl
  have g3 : (bys [b0, b1, b2, b3]).getD (Int.toNat 3) AVal.undef = .int .u8 (b3.toNat : Int) := rfl
  have hL : (bys [b0, b1, b2, b3]).length = 4 := rfl
  have hm : (if (8 : Int) < ((4 : Nat) : Int) then (8 : Int) else ((4 : Nat) : Int)) = 4 := by decide
  rw [F19_eq, hL, hm, hk]
  rw [P19_0_eq]
  simp (disch := (first | assumption | (simp only [Bool.and_eq_true, Bool.and_eq_false_iff, decide_eq_true_eq, decide_eq_false_iff_not, bne_iff_ne, beq_iff_eq, beq_eq_false_iff_ne, bne_eq_false_iff_eq, Bool.not_eq_true', Bool.not_eq_false', bys_length, List.length_append, List.length_cons, List.length_nil, List.length_map, List.length_drop, List.length_take, Int.natCast_add, wrap_i64_eq, wrap_u64, wrap_u8, ne_eq, not_true_eq_false, not_false_eq_true, Nat.zero_add, Nat.mul_one] <;> omega) | omega | (simp; done) | (simp; omega))) only [↓CR, MC, ↓PR, MR, hL, g0, m0, o0, a1]
  rw [P19_0_eq]
  simp (disch := (first | assumption | (simp only [Bool.and_eq_true, Bool.and_eq_false_iff, decide_eq_true_eq, decide_eq_false_iff_not, bne_iff_ne, beq_iff_eq, beq_eq_false_iff_ne, bne_eq_false_iff_eq, Bool.not_eq_true', Bool.not_eq_false', bys_length, List.length_append, List.length_cons, List.length_nil, List.length_map, List.length_drop, List.length_take, Int.natCast_add, wrap_i64_eq, wrap_u64, wrap_u8, ne_eq, not_true_eq_false, not_false_eq_true, Nat.zero_add, Nat.mul_one] <;> omega) | omega | (simp; done) | (simp; omega))) only [↓CR, MC, ↓PR, MR, hL, g1, m1, o1, a2]
  rw [P19_0_eq]
  simp (disch := (first | assumption | (simp only [Bool.and_eq_true, Bool.and_eq_false_iff, decide_eq_true_eq, decide_eq_false_iff_not, bne_iff_ne, beq_iff_eq, beq_eq_false_iff_ne, bne_eq_false_iff_eq, Bool.not_eq_true', Bool.not_eq_false', bys_length, List.length_append, List.length_cons, List.length_nil, List.length_map, List.length_drop, List.length_take, Int.natCast_add, wrap_i64_eq, wrap_u64, wrap_u8, ne_eq, not_true_eq_false, not_false_eq_true, Nat.zero_add, Nat.mul_one] <;> omega) | omega | (simp; done) | (simp; omega))) only [↓CR, MC, ↓PR, MR, hL, g2, m2, o2, a3]
  rw [P19_0_eq]
  simp (disch := (first | assumption | (simp only [Bool.and_eq_true, Bool.and_eq_false_iff, decide_eq_true_eq, decide_eq_false_iff_not, bne_iff_ne, beq_iff_eq, beq_eq_false_iff_ne, bne_eq_false_iff_eq, Bool.not_eq_true', Bool.not_eq_false', bys_length, List.length_append, List.length_cons, List.length_nil, List.length_map, List.length_drop, List.length_take, Int.natCast_add, wrap_i64_eq, wrap_u64, wrap_u8, ne_eq, not_true_eq_false, not_false_eq_true, Nat.zero_add, Nat.mul_one] <;> omega) | omega | (simp; done) | (simp; omega))) only [↓CR, MC, ↓PR, MR, hL, g3, m3, o3, a4]
  rw [P19_0_eq]
  simp (disch := (first | assumption | (simp only [Bool.and_eq_true, Bool.and_eq_false_iff, decide_eq_true_eq, decide_eq_false_iff_not, bne_iff_ne, beq_iff_eq, beq_eq_false_iff_ne, bne_eq_false_iff_eq, Bool.not_eq_true', Bool.not_eq_false', bys_length, List.length_append, List.length_cons, List.length_nil, List.length_map, List.length_drop, List.length_take, Int.natCast_add, wrap_i64_eq, wrap_u64, wrap_u8, ne_eq, not_true_eq_false, not_false_eq_true, Nat.zero_add, Nat.mul_one] <;> omega) | omega | (simp; done) | (simp; omega))) only [↓CR, MC, ↓PR, MR]
  have e : 0 + b0.toNat * 2 ^ 0 + b1.toNat * 2 ^ 8 + b2.toNat * 2 ^ 16 + b3.toNat * 2 ^ 24 = get4 [b0, b1, b2, b3] := by simp only [get4]; omega
  rw [e]
theorem two_loop (d : Nat) (n : Nat) (hn : n ≤ 24) (h : Heap) (Q : Res → Prop) : ∀ (m j k : Nat) (tg : Hid Q), n = j + m → m < k → Run (P37_0 d k n (2 ^ j : Nat) j h) Q tg = Q ([.int .u64 (2 ^ n : Nat)], h) := by
  intro m
  induction m with
  | zero =>
    intro j k tg hj hk
    obtain ⟨k, rfl⟩ : ∃ m, k = m + 1 := ⟨k - 1, by omega⟩
    obtain rfl : j = n := by omega
    rw [P37_0_eq]
    simp (disch := (first | assumption | (simp only [Bool.and_eq_true, Bool.and_eq_false_iff, decide_eq_true_eq, decide_eq_false_iff_not, bne_iff_ne, beq_iff_eq, beq_eq_false_iff_ne, bne_eq_false_iff_eq, Bool.not_eq_true', Bool.not_eq_false', bys_length, List.length_append, List.length_cons, List.length_nil, List.length_map, List.length_drop, List.length_take, Int.natCast_add, wrap_i64_eq, wrap_u64, wrap_u8, ne_eq, not_true_eq_false, not_false_eq_true, Nat.zero_add, Nat.mul_one] <;> omega) | omega | (simp; done) | (simp; omega))) only [↓CR, MC, ↓PR, MR]
  | succ m ih =>
    intro j k tg hj hk
    obtain ⟨k, rfl⟩ : ∃ m, k = m + 1 := ⟨k - 1, by omega⟩
    have e1 := succ_wrap (i := j) (by omega)
    have h1 : (2 : Nat) ^ (j + 1) ≤ 2 ^ 24 := Nat.pow_le_pow_right (by omega) (by omega)
    have h2 : (2 : Nat) ^ 24 = 16777216 := by decide
    have w : IntKind.u64.wrap (((2 ^ j : Nat) : Int) * 2) = ((2 ^ (j + 1) : Nat) : Int) := by
      rw [Nat.pow_succ] at h1 ⊢
      rw [wrap_u64_id (by omega) (by omega)]; omega
    have ih' := fun tg => ih (j + 1) k tg (by omega) (by omega)
    rw [P37_0_eq]
    simp (disch := (first | assumption | (simp only [Bool.and_eq_true, Bool.and_eq_false_iff, decide_eq_true_eq, decide_eq_false_iff_not, bne_iff_ne, beq_iff_eq, beq_eq_false_iff_ne, bne_eq_false_iff_eq, Bool.not_eq_true', Bool.not_eq_false', bys_length, List.length_append, List.length_cons, List.length_nil, List.length_map, List.length_drop, List.length_take, Int.natCast_add, wrap_i64_eq, wrap_u64, wrap_u8, ne_eq, not_true_eq_false, not_false_eq_true, Nat.zero_add, Nat.mul_one] <;> omega) | omega | (simp; done) | (simp; omega))) only [↓CR, MC, ↓PR, MR, w, e1, ih']
theorem two_run {d n : Nat} (hn : n ≤ 24) {h : Heap} {Q : Res → Prop} {tg : Hid Q} : Run (evFn Cw (d + 1) 37 [.int .i64 n] h) Q tg = Q ([.int .u64 (2 ^ n : Nat)], h) := by
  have := two_loop d n hn h Q n 0 rounds ⟨⟩ (by omega) (Nat.lt_of_lt_of_le (by omega) rounds_ge)
  have z : ((2 ^ 0 : Nat) : Int) = 1 := rfl
  rw [z, e0] at this
  rw [F37_eq]
  exact this
theorem r1get_run {d : Nat} {f : Bool} {l : List UInt8} (hl : l.length = 4) {h : Heap} {Q : Res → Prop} {tg : Hid Q} : Run (evFn Cw (d + 2) 21 [.sl f 0 (bys l)] h) Q tg = Q ([.int .u64 (get4 l : Nat)], h) := by
  obtain ⟨b0, b1, b2, b3, rfl⟩ := len4 hl
  obtain ⟨k, hk⟩ : ∃ m, rounds = m + 5 := ⟨rounds - 5, by have := rounds_ge; omega⟩
  have a1 : IntKind.i64.wrap ((0 : Int) + 1) = 1 := by decide
  have a2 : IntKind.i64.wrap ((1 : Int) + 1) = 2 := by decide
  have a3 : IntKind.i64.wrap ((2 : Int) + 1) = 3 := by decide
  have a4 : IntKind.i64.wrap ((3 : Int) + 1) = 4 := by decide
  have m0 : IntKind.i64.wrap ((8 : Int) * 0) = ((0 : Nat) : Int) := by decide
  have m1 : IntKind.i64.wrap ((8 : Int) * 1) = ((8 : Nat) : Int) := by decide
  have m2 : IntKind.i64.wrap ((8 : Int) * 2) = ((16 : Nat) : Int) := by decide
  have m3 : IntKind.i64.wrap ((8 : Int) * 3) = ((24 : Nat) : Int) := by decide
  have h0 := b0.toNat_lt
  have h1 := b1.toNat_lt
  have h2 := b2.toNat_lt
  have h3 := b3.toNat_lt
  have st : ∀ (acc y p : Nat), acc < 4294967296 → y < 256 → p ≤ 16777216 → IntKind.u64.wrap ((acc : Int) + IntKind.u64.wrap ((IntKind.u64.wrap (y : Int)) * (p : Int))) = ((acc + y * p : Nat) : Int) := fun acc y p ha hy hp => by
    have h3 : y * p ≤ 255 * 16777216 := Nat.mul_le_mul (by omega) hp
    have e5 : IntKind.u64.wrap (y : Int) = (y : Int) := wrap_u64_id (by omega) (by omega)
    have e6 : (y : Int) * (p : Int) = ((y * p : Nat) : Int) := (Int.natCast_mul _ _).symm
    rw [e5, e6, wrap_u64_id (n := ((y * p : Nat) : Int)) (by omega) (by omega), wrap_u64_id (by omega) (by omega)]
    omega
  have o0 := st 0 b0.toNat (2 ^ 0) (by omega) (by omega) (by omega)
  have o1 := st (0 + b0.toNat * 2 ^ 0) b1.toNat (2 ^ 8) (by omega) (by omega) (by omega)
  have o2 := st (0 + b0.toNat * 2 ^ 0 + b1.toNat * 2 ^ 8) b2.toNat (2 ^ 16) (by omega) (by omega) (by omega)
  have o3 := st (0 + b0.toNat * 2 ^ 0 + b1.toNat * 2 ^ 8 + b2.toNat * 2 ^ 16) b3.toNat (2 ^ 24) (by omega) (by omega) (by omega)
  have z0 : ((0 : Nat) : Int) = 0 := rfl
  rw [z0] at o0
  have g0 : (bys [b0, b1, b2, b3]).getD (Int.toNat 0) AVal.undef = .int .u8 (b0.toNat : Int) := rfl
  have g1 : (bys [b0, b1, b2, b3]).getD (Int.toNat 1) AVal.undef = .int .u8 (b1.toNat : Int) := rfl
  have g2 : (bys [b0, b1, b2, b3]).getD (Int.toNat 2) AVal.undef = .int .u8 (b2.toNat : Int) := rfl
  have g3 : (bys [b0, b1, b2, b3]).getD (Int.toNat 3) AVal.undef = .int .u8 (b3.toNat : Int) := rfl
  have hL : (bys [b0, b1, b2, b3]).length = 4 := rfl
  have t0 := fun (Q : Res → Prop) (tg : Hid Q) => two_run (d := d) (n := 0) (by omega) (h := h) (Q := Q) (tg := tg)
  have t1 := fun (Q : Res → Prop) (tg : Hid Q) => two_run (d := d) (n := 8) (by omega) (h := h) (Q := Q) (tg := tg)
  have t2 := fun (Q : Res → Prop) (tg : Hid Q) => two_run (d := d) (n := 16) (by omega) (h := h) (Q := Q) (tg := tg)
  have t3 := fun (Q : Res → Prop) (tg : Hid Q) => two_run (d := d) (n := 24) (by omega) (h := h) (Q := Q) (tg := tg)
  rw [F21_eq, hk]
  rw [P21_0_eq]
  simp (disch := (first | assumption | (simp only [Bool.and_eq_true, Bool.and_eq_false_iff, decide_eq_true_eq, decide_eq_false_iff_not, bne_iff_ne, beq_iff_eq, beq_eq_false_iff_ne, bne_eq_false_iff_eq, Bool.not_eq_true', Bool.not_eq_false', bys_length, List.length_append, List.length_cons, List.length_nil, List.length_map, List.length_drop, List.length_take, Int.natCast_add, wrap_i64_eq, wrap_u64, wrap_u8, ne_eq, not_true_eq_false, not_false_eq_true, Nat.zero_add, Nat.mul_one] <;> omega) | omega | (simp; done) | (simp; omega))) only [↓CR, MC, ↓PR, MR, hL, g0, m0, t0, o0, a1]
  rw [P21_0_eq]
  simp (disch := (first | assumption | (simp only [Bool.and_eq_true, Bool.and_eq_false_iff, decide_eq_true_eq, decide_eq_false_iff_not, bne_iff_ne, beq_iff_eq, beq_eq_false_iff_ne, bne_eq_false_iff_eq, Bool.not_eq_true', Bool.not_eq_false', bys_length, List.length_append, List.length_cons, List.length_nil, List.length_map, List.length_drop, List.length_take, Int.natCast_add, wrap_i64_eq, wrap_u64, wrap_u8, ne_eq, not_true_eq_false, not_false_eq_true, Nat.zero_add, Nat.mul_one] <;> omega) | omega | (simp; done) | (simp; omega))) only [↓CR, MC, ↓PR, MR, hL, g1, m1, t1, o1, a2]
  rw [P21_0_eq]
  simp (disch := (first | assumption | (simp only [Bool.and_eq_true, Bool.and_eq_false_iff, decide_eq_true_eq, decide_eq_false_iff_not, bne_iff_ne, beq_iff_eq, beq_eq_false_iff_ne, bne_eq_false_iff_eq, Bool.not_eq_true', Bool.not_eq_false', bys_length, List.length_append, List.length_cons, List.length_nil, List.length_map, List.length_drop, List.length_take, Int.natCast_add, wrap_i64_eq, wrap_u64, wrap_u8, ne_eq, not_true_eq_false, not_false_eq_true, Nat.zero_add, Nat.mul_one] <;> omega) | omega | (simp; done) | (simp; omega))) only [↓CR, MC, ↓PR, MR, hL, g2, m2, t2, o2, a3]
  rw [P21_0_eq]
  simp (disch := (first | assumption | (simp only [Bool.and_eq_true, Bool.and_eq_false_iff, decide_eq_true_eq, decide_eq_false_iff_not, bne_iff_ne, beq_iff_eq, beq_eq_false_iff_ne, bne_eq_false_iff_eq, Bool.not_eq_true', Bool.not_eq_false', bys_length, List.length_append, List.length_cons, List.length_nil, List.length_map, List.length_drop, List.length_take, Int.natCast_add, wrap_i64_eq, wrap_u64, wrap_u8, ne_eq, not_true_eq_false, not_false_eq_true, Nat.zero_add, Nat.mul_one] <;> omega) | omega | (simp; done) | (simp; omega))) only [↓CR, MC, ↓PR, MR, hL, g3, m3, t3, o3, a4]
  rw [P21_0_eq]
  simp (disch := (first | assumption | (simp only [Bool.and_eq_true, Bool.and_eq_false_iff, decide_eq_true_eq, decide_eq_false_iff_not, bne_iff_ne, beq_iff_eq, beq_eq_false_iff_ne, bne_eq_false_iff_eq, Bool.not_eq_true', Bool.not_eq_false', bys_length, List.length_append, List.length_cons, List.length_nil, List.length_map, List.length_drop, List.length_take, Int.natCast_add, wrap_i64_eq, wrap_u64, wrap_u8, ne_eq, not_true_eq_false, not_false_eq_true, Nat.zero_add, Nat.mul_one] <;> omega) | omega | (simp; done) | (simp; omega))) only [↓CR, MC, ↓PR, MR, hL]
  have e : 0 + b0.toNat * 2 ^ 0 + b1.toNat * 2 ^ 8 + b2.toNat * 2 ^ 16 + b3.toNat * 2 ^ 24 = get4 [b0, b1, b2, b3] := by simp only [get4]; omega
  rw [e]
end Go.Proofs.YtdlcjibefbnckaaDoor.Wa
end

section
/- Points: coded. -/
namespace Go.Proofs.YtdlcjibefbnckaaDoor.Wa
open Go Go.Weave
set_option maxRecDepth 100000
set_option linter.unusedSimpArgs false
set_option linter.unusedVariables false
set_option linter.unusedSectionVars false

def numF (b : List UInt8) : Nat × List UInt8 × Nat :=
  if (getF b 0 0).2.2 ≠ 0 then (0, [], (getF b 0 0).2.2) else if 2147483647 < (getF b 0 0).1 then (0, [], 4) else ((getF b 0 0).1, b.drop (getF b 0 0).2.1, 0)
def decP (b : List UInt8) : (Nat × Nat × Nat) × Nat :=
  if (numF b).2.2 ≠ 0 then ((0, 0, 0), (numF b).2.2) else if (numF (numF b).2.1).2.2 ≠ 0 then ((0, 0, 0), (numF (numF b).2.1).2.2)
  else if (numF (numF b).2.1).2.1.length < 4 then ((0, 0, 0), 1) else if 4 < (numF (numF b).2.1).2.1.length then ((0, 0, 0), 2)
  else (((numF b).1, (numF (numF b).2.1).1, get4 (numF (numF b).2.1).2.1), 0)
theorem getF_err (b : List UInt8) : (getF b 0 0).2.2 ≤ 4 ∧ ((getF b 0 0).2.2 ≠ 0 → getF b 0 0 = (0, 0, (getF b 0 0).2.2)) ∧ ((getF b 0 0).2.2 = 0 → (getF b 0 0).2.1 ≤ b.length ∧ (getF b 0 0).1 < 18446744073709551616) := by
  rcases getF_spec0 b with ⟨m, h1, h2, h3, h4⟩ | ⟨e, h1, he⟩
  · rw [h1]; exact ⟨by simp, fun h => absurd rfl h, fun _ => ⟨h3, h4⟩⟩
  · rw [h1]
    refine ⟨?_, fun _ => rfl, fun h => ?_⟩
    · simp only; omega
    · simp only at h; omega
theorem numF_len (b : List UInt8) : (numF b).2.1.length ≤ b.length ∧ (numF b).1 ≤ 2147483647 := by
  unfold numF
  split
  · simp
  · split
    · simp
    · simp; omega
theorem number_run {d : Nat} {f : Bool} {b : List UInt8} {h : Heap} (hb : b.length ≤ 140737488351232) : ∃ fl, ∀ (Q : Res → Prop) (tg : Hid Q),
    Run (evFn Cw (d + 2) 18 [.sl f 0 (bys b)] h) Q tg = Q ([.int .i64 (numF b).1, .sl fl 0 (bys (numF b).2.1), .int .i64 (numF b).2.2], h) := by
  obtain ⟨g1, g2, g3⟩ := getF_err b
  have r := fun (Q : Res → Prop) (tg : Hid Q) => get_run (d := d) (f := f) (l := b) (h := h) (Q := Q) (tg := tg) (by omega)
  by_cases c : (getF b 0 0).2.2 = 0
  · obtain ⟨g4, g5⟩ := g3 c
    have c' : ((((getF b 0 0).2.2 : Nat) : Int) != 0) = false := by simp [c]
    by_cases c2 : 2147483647 < (getF b 0 0).1
    · refine ⟨true, fun Q tg => ?_⟩
      have e : numF b = (0, [], 4) := by unfold numF; rw [if_neg (by simp [c]), if_pos c2]
      rw [F18_eq, e]
      simp (disch := (first | assumption | (simp only [Bool.and_eq_true, Bool.and_eq_false_iff, decide_eq_true_eq, decide_eq_false_iff_not, bne_iff_ne, beq_iff_eq, beq_eq_false_iff_ne, bne_eq_false_iff_eq, Bool.not_eq_true', Bool.not_eq_false', bys_length, List.length_append, List.length_cons, List.length_nil, List.length_map, List.length_drop, List.length_take, Int.natCast_add, wrap_i64_eq, wrap_u64, wrap_u8, ne_eq, not_true_eq_false, not_false_eq_true, Nat.zero_add, Nat.mul_one] <;> omega) | omega | (simp; done) | (simp; omega))) only [↓CR, MC, ↓PR, MR, r, c', bys_nil]
      rfl
    · refine ⟨f, fun Q tg => ?_⟩
      have e : numF b = ((getF b 0 0).1, b.drop (getF b 0 0).2.1, 0) := by unfold numF; rw [if_neg (by simp [c]), if_neg c2]
      have w : IntKind.i64.wrap ((getF b 0 0).1 : Int) = ((getF b 0 0).1 : Int) := wrap_i64_id (by omega) (by omega)
      rw [F18_eq, e]
      simp (disch := (first | assumption | (simp only [Bool.and_eq_true, Bool.and_eq_false_iff, decide_eq_true_eq, decide_eq_false_iff_not, bne_iff_ne, beq_iff_eq, beq_eq_false_iff_ne, bne_eq_false_iff_eq, Bool.not_eq_true', Bool.not_eq_false', bys_length, List.length_append, List.length_cons, List.length_nil, List.length_map, List.length_drop, List.length_take, Int.natCast_add, wrap_i64_eq, wrap_u64, wrap_u8, ne_eq, not_true_eq_false, not_false_eq_true, Nat.zero_add, Nat.mul_one] <;> omega) | omega | (simp; done) | (simp; omega))) only [↓CR, MC, ↓PR, MR, r, c', bys_length, w]
      have hp := part_drop (l := b) (k := (getF b 0 0).2.1)
      rw [bys_length] at hp
      rw [hp]; rfl
  · refine ⟨true, fun Q tg => ?_⟩
    have c' : ((((getF b 0 0).2.2 : Nat) : Int) != 0) = true := by simp; exact c
    have e : numF b = (0, [], (getF b 0 0).2.2) := by unfold numF; rw [if_pos c]
    rw [F18_eq, e]
    simp (disch := (first | assumption | (simp only [Bool.and_eq_true, Bool.and_eq_false_iff, decide_eq_true_eq, decide_eq_false_iff_not, bne_iff_ne, beq_iff_eq, beq_eq_false_iff_ne, bne_eq_false_iff_eq, Bool.not_eq_true', Bool.not_eq_false', bys_length, List.length_append, List.length_cons, List.length_nil, List.length_map, List.length_drop, List.length_take, Int.natCast_add, wrap_i64_eq, wrap_u64, wrap_u8, ne_eq, not_true_eq_false, not_false_eq_true, Nat.zero_add, Nat.mul_one] <;> omega) | omega | (simp; done) | (simp; omega))) only [↓CR, MC, ↓PR, MR, r, c', bys_nil]
    rfl
def ptA (x : (Nat × Nat × Nat)) : AVal := .agg [.int .i64 x.1, .int .i64 x.2.1, .int .u32 x.2.2]
theorem u32_id {n : Nat} (h : n < 4294967296) : IntKind.u32.wrap (n : Int) = (n : Int) := by
  simp [IntKind.wrap, IntKind.bits, IntKind.signed]; omega
theorem pdec_run {d : Nat} {f : Bool} {b : List UInt8} {h : Heap} (hb : b.length ≤ 140737488351232) (Q : Res → Prop) (tg : Hid Q) :
    Run (evFn Cw (d + 3) 6 [.sl f 0 (bys b)] h) Q tg = Q ([ptA (decP b).1, .int .i64 (decP b).2], h) := by
  obtain ⟨fl, r⟩ := number_run (d := d) (f := f) (h := h) hb
  have hl := numF_len b
  obtain ⟨fl2, r2⟩ := number_run (d := d) (f := fl) (h := h) (b := (numF b).2.1) (by omega)
  rw [F6_eq]
  by_cases c : (numF b).2.2 = 0
  · have c' : ((((numF b).2.2 : Nat) : Int) != 0) = false := by simp [c]
    by_cases c2 : (numF (numF b).2.1).2.2 = 0
    · have c2' : ((((numF (numF b).2.1).2.2 : Nat) : Int) != 0) = false := by simp [c2]
      by_cases c3 : (numF (numF b).2.1).2.1.length < 4
      · have e : decP b = ((0, 0, 0), 1) := by unfold decP; rw [if_neg (by simp [c]), if_neg (by simp [c2]), if_pos c3]
        rw [e]
        simp (disch := (first | assumption | (simp only [Bool.and_eq_true, Bool.and_eq_false_iff, decide_eq_true_eq, decide_eq_false_iff_not, bne_iff_ne, beq_iff_eq, beq_eq_false_iff_ne, bne_eq_false_iff_eq, Bool.not_eq_true', Bool.not_eq_false', bys_length, List.length_append, List.length_cons, List.length_nil, List.length_map, List.length_drop, List.length_take, Int.natCast_add, wrap_i64_eq, wrap_u64, wrap_u8, ne_eq, not_true_eq_false, not_false_eq_true, Nat.zero_add, Nat.mul_one] <;> omega) | omega | (simp; done) | (simp; omega))) only [↓CR, MC, ↓PR, MR, r, c', r2, c2', bys_length]
        rfl
      · by_cases c4 : 4 < (numF (numF b).2.1).2.1.length
        · have e : decP b = ((0, 0, 0), 2) := by unfold decP; rw [if_neg (by simp [c]), if_neg (by simp [c2]), if_neg c3, if_pos c4]
          rw [e]
          simp (disch := (first | assumption | (simp only [Bool.and_eq_true, Bool.and_eq_false_iff, decide_eq_true_eq, decide_eq_false_iff_not, bne_iff_ne, beq_iff_eq, beq_eq_false_iff_ne, bne_eq_false_iff_eq, Bool.not_eq_true', Bool.not_eq_false', bys_length, List.length_append, List.length_cons, List.length_nil, List.length_map, List.length_drop, List.length_take, Int.natCast_add, wrap_i64_eq, wrap_u64, wrap_u8, ne_eq, not_true_eq_false, not_false_eq_true, Nat.zero_add, Nat.mul_one] <;> omega) | omega | (simp; done) | (simp; omega))) only [↓CR, MC, ↓PR, MR, r, c', r2, c2', bys_length]
          rfl
        · have e : decP b = (((numF b).1, (numF (numF b).2.1).1, get4 (numF (numF b).2.1).2.1), 0) := by unfold decP; rw [if_neg (by simp [c]), if_neg (by simp [c2]), if_neg c3, if_neg c4]
          have w := u32_id (get4_lt (numF (numF b).2.1).2.1)
          have rg := fun (Q : Res → Prop) (tg : Hid Q) => wget_run (d := d + 1) (f := fl2) (l := (numF (numF b).2.1).2.1) (by omega) (h := h) (Q := Q) (tg := tg)
          rw [e]
          simp (disch := (first | assumption | (simp only [Bool.and_eq_true, Bool.and_eq_false_iff, decide_eq_true_eq, decide_eq_false_iff_not, bne_iff_ne, beq_iff_eq, beq_eq_false_iff_ne, bne_eq_false_iff_eq, Bool.not_eq_true', Bool.not_eq_false', bys_length, List.length_append, List.length_cons, List.length_nil, List.length_map, List.length_drop, List.length_take, Int.natCast_add, wrap_i64_eq, wrap_u64, wrap_u8, ne_eq, not_true_eq_false, not_false_eq_true, Nat.zero_add, Nat.mul_one] <;> omega) | omega | (simp; done) | (simp; omega))) only [↓CR, MC, ↓PR, MR, r, c', r2, c2', bys_length, rg, w]
          rfl
    · have c2' : ((((numF (numF b).2.1).2.2 : Nat) : Int) != 0) = true := by simp; exact c2
      have e : decP b = ((0, 0, 0), (numF (numF b).2.1).2.2) := by unfold decP; rw [if_neg (by simp [c]), if_pos c2]
      rw [e]
      simp (disch := (first | assumption | (simp only [Bool.and_eq_true, Bool.and_eq_false_iff, decide_eq_true_eq, decide_eq_false_iff_not, bne_iff_ne, beq_iff_eq, beq_eq_false_iff_ne, bne_eq_false_iff_eq, Bool.not_eq_true', Bool.not_eq_false', bys_length, List.length_append, List.length_cons, List.length_nil, List.length_map, List.length_drop, List.length_take, Int.natCast_add, wrap_i64_eq, wrap_u64, wrap_u8, ne_eq, not_true_eq_false, not_false_eq_true, Nat.zero_add, Nat.mul_one] <;> omega) | omega | (simp; done) | (simp; omega))) only [↓CR, MC, ↓PR, MR, r, c', r2, c2']
      rfl
  · have c' : ((((numF b).2.2 : Nat) : Int) != 0) = true := by simp; exact c
    have e : decP b = ((0, 0, 0), (numF b).2.2) := by unfold decP; rw [if_pos c]
    rw [e]
    simp (disch := (first | assumption | (simp only [Bool.and_eq_true, Bool.and_eq_false_iff, decide_eq_true_eq, decide_eq_false_iff_not, bne_iff_ne, beq_iff_eq, beq_eq_false_iff_ne, bne_eq_false_iff_eq, Bool.not_eq_true', Bool.not_eq_false', bys_length, List.length_append, List.length_cons, List.length_nil, List.length_map, List.length_drop, List.length_take, Int.natCast_add, wrap_i64_eq, wrap_u64, wrap_u8, ne_eq, not_true_eq_false, not_false_eq_true, Nat.zero_add, Nat.mul_one] <;> omega) | omega | (simp; done) | (simp; omega))) only [↓CR, MC, ↓PR, MR, r, c']
    rfl
theorem rpdec_run {d : Nat} {f : Bool} {b : List UInt8} {h : Heap} (hb : b.length ≤ 140737488351232) (Q : Res → Prop) (tg : Hid Q) :
    Run (evFn Cw (d + 3) 7 [.sl f 0 (bys b)] h) Q tg = Q ([ptA (decP b).1, .int .i64 (decP b).2], h) := by
  obtain ⟨g1, g2, g3⟩ := getF_err b
  have r := fun (Q : Res → Prop) (tg : Hid Q) => rget_run (d := d + 1) (f := f) (l := b) (h := h) (Q := Q) (tg := tg) (by omega)
  rw [F7_eq]
  by_cases c : (getF b 0 0).2.2 = 0
  · obtain ⟨g4, g5⟩ := g3 c
    have c' : ((((getF b 0 0).2.2 : Nat) : Int) != 0) = false := by simp [c]
    by_cases c1 : 2147483647 < (getF b 0 0).1
    · have n1 : numF b = (0, [], 4) := by unfold numF; rw [if_neg (by simp [c]), if_pos c1]
      have e : decP b = ((0, 0, 0), 4) := by unfold decP; rw [n1, if_pos (by decide)]
      rw [e]
      simp (disch := (first | assumption | (simp only [Bool.and_eq_true, Bool.and_eq_false_iff, decide_eq_true_eq, decide_eq_false_iff_not, bne_iff_ne, beq_iff_eq, beq_eq_false_iff_ne, bne_eq_false_iff_eq, Bool.not_eq_true', Bool.not_eq_false', bys_length, List.length_append, List.length_cons, List.length_nil, List.length_map, List.length_drop, List.length_take, Int.natCast_add, wrap_i64_eq, wrap_u64, wrap_u8, ne_eq, not_true_eq_false, not_false_eq_true, Nat.zero_add, Nat.mul_one] <;> omega) | omega | (simp; done) | (simp; omega))) only [↓CR, MC, ↓PR, MR, r, c']
      rfl
    · have n1 : numF b = ((getF b 0 0).1, b.drop (getF b 0 0).2.1, 0) := by unfold numF; rw [if_neg (by simp [c]), if_neg c1]
      have hp := part_drop (l := b) (k := (getF b 0 0).2.1)
      rw [bys_length] at hp
      generalize hr1 : b.drop (getF b 0 0).2.1 = r1 at *
      have hr1l : r1.length + (getF b 0 0).2.1 = b.length := by rw [← hr1, List.length_drop]; omega
      obtain ⟨k1, k2, k3⟩ := getF_err r1
      have rr := fun (Q : Res → Prop) (tg : Hid Q) => rget_run (d := d + 1) (f := f) (l := r1) (h := h) (Q := Q) (tg := tg) (by omega)
      by_cases c2 : (getF r1 0 0).2.2 = 0
      · obtain ⟨k4, k5⟩ := k3 c2
        have c2' : ((((getF r1 0 0).2.2 : Nat) : Int) != 0) = false := by simp [c2]
        by_cases c3 : 2147483647 < (getF r1 0 0).1
        · have n2 : numF r1 = (0, [], 4) := by unfold numF; rw [if_neg (by simp [c2]), if_pos c3]
          have e : decP b = ((0, 0, 0), 4) := by unfold decP; rw [n1, if_neg (by simp)]; simp only; rw [n2, if_pos (by decide)]
          rw [e]
          simp (disch := (first | assumption | (simp only [Bool.and_eq_true, Bool.and_eq_false_iff, decide_eq_true_eq, decide_eq_false_iff_not, bne_iff_ne, beq_iff_eq, beq_eq_false_iff_ne, bne_eq_false_iff_eq, Bool.not_eq_true', Bool.not_eq_false', bys_length, List.length_append, List.length_cons, List.length_nil, List.length_map, List.length_drop, List.length_take, Int.natCast_add, wrap_i64_eq, wrap_u64, wrap_u8, ne_eq, not_true_eq_false, not_false_eq_true, Nat.zero_add, Nat.mul_one] <;> omega) | omega | (simp; done) | (simp; omega))) only [↓CR, MC, ↓PR, MR, r, c', bys_length, hp, rr, c2']
          rfl
        · have n2 : numF r1 = ((getF r1 0 0).1, r1.drop (getF r1 0 0).2.1, 0) := by unfold numF; rw [if_neg (by simp [c2]), if_neg c3]
          have ws : IntKind.i64.wrap (((getF b 0 0).2.1 : Int) + ((getF r1 0 0).2.1 : Int)) = (((getF b 0 0).2.1 + (getF r1 0 0).2.1 : Nat) : Int) := by rw [wrap_i64_id (by omega) (by omega)]; omega
          have hp2 := part_drop (l := b) (k := (getF b 0 0).2.1 + (getF r1 0 0).2.1)
          rw [bys_length, ← List.drop_drop, hr1] at hp2
          generalize hr2 : r1.drop (getF r1 0 0).2.1 = r2 at *
          by_cases c4 : r2.length < 4
          · have e : decP b = ((0, 0, 0), 1) := by unfold decP; rw [n1, if_neg (by simp)]; simp only; rw [n2, if_neg (by simp)]; simp only; rw [if_pos c4]
            rw [e]
            simp (disch := (first | assumption | (simp only [Bool.and_eq_true, Bool.and_eq_false_iff, decide_eq_true_eq, decide_eq_false_iff_not, bne_iff_ne, beq_iff_eq, beq_eq_false_iff_ne, bne_eq_false_iff_eq, Bool.not_eq_true', Bool.not_eq_false', bys_length, List.length_append, List.length_cons, List.length_nil, List.length_map, List.length_drop, List.length_take, Int.natCast_add, wrap_i64_eq, wrap_u64, wrap_u8, ne_eq, not_true_eq_false, not_false_eq_true, Nat.zero_add, Nat.mul_one] <;> omega) | omega | (simp; done) | (simp; omega))) only [↓CR, MC, ↓PR, MR, r, c', bys_length, hp, rr, c2', ws, hp2]
            rfl
          · by_cases c5 : 4 < r2.length
            · have e : decP b = ((0, 0, 0), 2) := by unfold decP; rw [n1, if_neg (by simp)]; simp only; rw [n2, if_neg (by simp)]; simp only; rw [if_neg c4, if_pos c5]
              rw [e]
              simp (disch := (first | assumption | (simp only [Bool.and_eq_true, Bool.and_eq_false_iff, decide_eq_true_eq, decide_eq_false_iff_not, bne_iff_ne, beq_iff_eq, beq_eq_false_iff_ne, bne_eq_false_iff_eq, Bool.not_eq_true', Bool.not_eq_false', bys_length, List.length_append, List.length_cons, List.length_nil, List.length_map, List.length_drop, List.length_take, Int.natCast_add, wrap_i64_eq, wrap_u64, wrap_u8, ne_eq, not_true_eq_false, not_false_eq_true, Nat.zero_add, Nat.mul_one] <;> omega) | omega | (simp; done) | (simp; omega))) only [↓CR, MC, ↓PR, MR, r, c', bys_length, hp, rr, c2', ws, hp2]
              rfl
            · have e : decP b = (((getF b 0 0).1, (getF r1 0 0).1, get4 r2), 0) := by unfold decP; rw [n1, if_neg (by simp)]; simp only; rw [n2, if_neg (by simp)]; simp only; rw [if_neg c4, if_neg c5]
              have w := u32_id (get4_lt r2)
              have w1 : IntKind.i64.wrap ((getF b 0 0).1 : Int) = ((getF b 0 0).1 : Int) := wrap_i64_id (by omega) (by omega)
              have w2 : IntKind.i64.wrap ((getF r1 0 0).1 : Int) = ((getF r1 0 0).1 : Int) := wrap_i64_id (by omega) (by omega)
              have rg := fun (Q : Res → Prop) (tg : Hid Q) => r1get_run (d := d) (f := f) (l := r2) (by omega) (h := h) (Q := Q) (tg := tg)
              rw [e]
              simp (disch := (first | assumption | (simp only [Bool.and_eq_true, Bool.and_eq_false_iff, decide_eq_true_eq, decide_eq_false_iff_not, bne_iff_ne, beq_iff_eq, beq_eq_false_iff_ne, bne_eq_false_iff_eq, Bool.not_eq_true', Bool.not_eq_false', bys_length, List.length_append, List.length_cons, List.length_nil, List.length_map, List.length_drop, List.length_take, Int.natCast_add, wrap_i64_eq, wrap_u64, wrap_u8, ne_eq, not_true_eq_false, not_false_eq_true, Nat.zero_add, Nat.mul_one] <;> omega) | omega | (simp; done) | (simp; omega))) only [↓CR, MC, ↓PR, MR, r, c', bys_length, hp, rr, c2', ws, hp2, rg, w, w1, w2]
              rfl
      · have c2' : ((((getF r1 0 0).2.2 : Nat) : Int) != 0) = true := by simp; exact c2
        have n2 : numF r1 = (0, [], (getF r1 0 0).2.2) := by unfold numF; rw [if_pos c2]
        have e : decP b = ((0, 0, 0), (getF r1 0 0).2.2) := by unfold decP; rw [n1, if_neg (by simp)]; simp only; rw [n2, if_pos c2]
        rw [e]
        simp (disch := (first | assumption | (simp only [Bool.and_eq_true, Bool.and_eq_false_iff, decide_eq_true_eq, decide_eq_false_iff_not, bne_iff_ne, beq_iff_eq, beq_eq_false_iff_ne, bne_eq_false_iff_eq, Bool.not_eq_true', Bool.not_eq_false', bys_length, List.length_append, List.length_cons, List.length_nil, List.length_map, List.length_drop, List.length_take, Int.natCast_add, wrap_i64_eq, wrap_u64, wrap_u8, ne_eq, not_true_eq_false, not_false_eq_true, Nat.zero_add, Nat.mul_one] <;> omega) | omega | (simp; done) | (simp; omega))) only [↓CR, MC, ↓PR, MR, r, c', bys_length, hp, rr, c2']
        rfl
  · have c' : ((((getF b 0 0).2.2 : Nat) : Int) != 0) = true := by simp; exact c
    have n1 : numF b = (0, [], (getF b 0 0).2.2) := by unfold numF; rw [if_pos c]
    have e : decP b = ((0, 0, 0), (getF b 0 0).2.2) := by unfold decP; rw [n1, if_pos c]
    rw [e]
    simp (disch := (first | assumption | (simp only [Bool.and_eq_true, Bool.and_eq_false_iff, decide_eq_true_eq, decide_eq_false_iff_not, bne_iff_ne, beq_iff_eq, beq_eq_false_iff_ne, bne_eq_false_iff_eq, Bool.not_eq_true', Bool.not_eq_false', bys_length, List.length_append, List.length_cons, List.length_nil, List.length_map, List.length_drop, List.length_take, Int.natCast_add, wrap_i64_eq, wrap_u64, wrap_u8, ne_eq, not_true_eq_false, not_false_eq_true, Nat.zero_add, Nat.mul_one] <;> omega) | omega | (simp; done) | (simp; omega))) only [↓CR, MC, ↓PR, MR, r, c']
    rfl
end Go.Proofs.YtdlcjibefbnckaaDoor.Wa
end

section
/- Sums; points, awake; PointCodes. -/
namespace Go.Proofs.YtdlcjibefbnckaaDoor.Wa
open Go Go.Weave
set_option maxRecDepth 100000
set_option linter.unusedSimpArgs false
set_option linter.unusedVariables false
set_option linter.unusedSectionVars false

/-! ### The sum -/
def t16 : List Nat := [0, 274646895, 549293790, 820201905, 1098587580, 1361435347, 1640403810, 1905808397, 2197175160, 2460548119, 2722870694, 2987750089, 3280807620, 3553878443, 3811616794, 4084100981]
def tabL : List AVal := t16.map fun (n : Nat) => AVal.int .u32 (n : Int)
theorem tabL_eq : [(AVal.int .u32 0), (AVal.int .u32 274646895), (AVal.int .u32 549293790), (AVal.int .u32 820201905), (AVal.int .u32 1098587580), (AVal.int .u32 1361435347), (AVal.int .u32 1640403810), (AVal.int .u32 1905808397), (AVal.int .u32 2197175160), (AVal.int .u32 2460548119), (AVal.int .u32 2722870694), (AVal.int .u32 2987750089), (AVal.int .u32 3280807620), (AVal.int .u32 3553878443), (AVal.int .u32 3811616794), (AVal.int .u32 4084100981)] = tabL := rfl
theorem t16_lt : ∀ r, r < 16 → t16.getD r 0 < 4294967296 := by decide
theorem tabL_get {r : Nat} (h : r < 16) : tabL[0 + r * 1]? = some (AVal.int .u32 (t16.getD r 0 : Nat)) := by
  have hl : t16.length = 16 := rfl
  rw [Nat.zero_add, Nat.mul_one]
  unfold tabL
  rw [List.getElem?_map, List.getElem?_eq_getElem (by omega)]
  simp [List.getD_eq_getElem?_getD, List.getElem?_eq_getElem (show r < t16.length by omega)]
def fourN (x : Nat) : Nat := t16.getD (x % 16) 0 ^^^ (x / 16)
theorem bv32 {n : Nat} (h : n < 4294967296) : (BitVec.ofInt 32 (n : Int)).toNat = n := by simp; omega
theorem xor_lt {a b : Nat} (ha : a < 4294967296) (hb : b < 4294967296) : a ^^^ b < 4294967296 := Nat.xor_lt_two_pow (n := 32) ha hb
theorem xor_wrap {a b : Nat} (ha : a < 4294967296) (hb : b < 4294967296) : IntKind.u32.wrap (BitVec.ofInt 32 (a : Int) ^^^ BitVec.ofInt 32 (b : Int)).toNat = ((a ^^^ b : Nat) : Int) := by
  rw [BitVec.toNat_xor, bv32 ha, bv32 hb]; exact u32_id (xor_lt ha hb)
theorem fourN_lt {x : Nat} (h : x < 4294967296) : fourN x < 4294967296 := xor_lt (t16_lt _ (by omega)) (by omega)
theorem four_run {d x : Nat} (hx : x < 4294967296) {h : Heap} {Q : Res → Prop} {tg : Hid Q} : Run (evFn Cw (d + 1) 71 [.int .u32 x] h) Q tg = Q ([.int .u32 (fourN x : Nat)], h) := by
  have e1 : IntKind.u32.wrap (BitVec.ofInt 32 (x : Int) &&& BitVec.ofInt 32 15).toNat = ((x % 16 : Nat) : Int) := by
    have h15 : (BitVec.ofInt 32 15).toNat = 15 := by decide
    have h2 : x &&& 15 = x % 16 := Nat.and_two_pow_sub_one_eq_mod x 4
    rw [BitVec.toNat_and, bv32 hx, h15, h2]; exact u32_id (by omega)
  have e2 : Int.fdiv (x : Int) (2 ^ 4) = ((x / 16 : Nat) : Int) := fdiv_nat x 16
  have e3 := xor_wrap (t16_lt (x % 16) (by omega)) (show x / 16 < 4294967296 by omega)
  have e4 := tabL_get (r := x % 16) (by omega)
  rw [F71_eq, tabL_eq]
  simp (disch := (first | assumption | (simp only [Bool.and_eq_true, Bool.and_eq_false_iff, decide_eq_true_eq, decide_eq_false_iff_not, bne_iff_ne, beq_iff_eq, beq_eq_false_iff_ne, bne_eq_false_iff_eq, Bool.not_eq_true', Bool.not_eq_false', bys_length, List.length_append, List.length_cons, List.length_nil, List.length_map, List.length_drop, List.length_take, Int.natCast_add, wrap_i64_eq, wrap_u64, wrap_u8, ne_eq, not_true_eq_false, not_false_eq_true, Nat.zero_add, Nat.mul_one] <;> omega) | omega | (simp; done) | (simp; omega))) only [↓CR, MC, ↓PR, MR, e1, e4, e2, e3]
  rfl
def moreN (s : Nat) (l : List UInt8) : Nat := 4294967295 ^^^ (l.foldl (fun x c => fourN (fourN (x ^^^ c.toNat))) (4294967295 ^^^ s))
theorem more_lt : ∀ (l : List UInt8) (x : Nat), x < 4294967296 → l.foldl (fun x c => fourN (fourN (x ^^^ c.toNat))) x < 4294967296
  | [], _, h => h
  | c :: l, x, h => more_lt l _ (fourN_lt (fourN_lt (xor_lt h (by have := c.toNat_lt; omega))))
theorem moreN_lt {s : Nat} (hs : s < 4294967296) (l : List UInt8) : moreN s l < 4294967296 := xor_lt (by omega) (more_lt l _ (xor_lt (by omega) hs))
theorem more_loop (d : Nat) (f : Bool) (l : List UInt8) (hl : l.length ≤ 140737488351232) (h : Heap) (Q : Res → Prop) : ∀ (n j k x : Nat) (tg : Hid Q), l.length = j + n → n < k → x < 4294967296 →
    Run (P59_0 (d + 1) k x f (bys l) (l.length : Nat) j h) Q tg = Q ([.int .u32 (4294967295 ^^^ ((l.drop j).foldl (fun x c => fourN (fourN (x ^^^ c.toNat))) x) : Nat)], h) := by
  intro n
  induction n with
  | zero =>
    intro j k x tg hj hk hx
    obtain ⟨k, rfl⟩ : ∃ m, k = m + 1 := ⟨k - 1, by omega⟩
    have hd : l.drop j = [] := List.drop_eq_nil_of_le (by omega)
    have e : IntKind.u32.wrap (BitVec.ofInt 32 (IntKind.u32.max) ^^^ BitVec.ofInt 32 (x : Int)).toNat = ((4294967295 ^^^ x : Nat) : Int) := xor_wrap (a := 4294967295) (by omega) hx
    rw [P59_0_eq, hd]
    simp (disch := (first | assumption | (simp only [Bool.and_eq_true, Bool.and_eq_false_iff, decide_eq_true_eq, decide_eq_false_iff_not, bne_iff_ne, beq_iff_eq, beq_eq_false_iff_ne, bne_eq_false_iff_eq, Bool.not_eq_true', Bool.not_eq_false', bys_length, List.length_append, List.length_cons, List.length_nil, List.length_map, List.length_drop, List.length_take, Int.natCast_add, wrap_i64_eq, wrap_u64, wrap_u8, ne_eq, not_true_eq_false, not_false_eq_true, Nat.zero_add, Nat.mul_one] <;> omega) | omega | (simp; done) | (simp; omega))) only [↓CR, MC, ↓PR, MR, e]
    rfl
  | succ n ih =>
    intro j k x tg hj hk hx
    obtain ⟨k, rfl⟩ : ∃ m, k = m + 1 := ⟨k - 1, by omega⟩
    have h1 : j < l.length := by omega
    have hc := (l[j]).toNat_lt
    have e1 := succ_wrap (i := j) (by omega)
    have w := u32_id (n := (l[j]).toNat) (by omega)
    have e2 := xor_wrap hx (show (l[j]).toNat < 4294967296 by omega)
    have hx1 := xor_lt hx (show (l[j]).toNat < 4294967296 by omega)
    have r1 := fun (Q : Res → Prop) (tg : Hid Q) => four_run (d := d) hx1 (h := h) (Q := Q) (tg := tg)
    have r2 := fun (Q : Res → Prop) (tg : Hid Q) => four_run (d := d) (fourN_lt hx1) (h := h) (Q := Q) (tg := tg)
    have ih' := fun tg => ih (j + 1) k _ tg (by omega) (by omega) (fourN_lt (fourN_lt hx1))
    have g : (bys l).getD j AVal.undef = .int .u8 ((l[j]).toNat : Int) := by rw [bys_getD h1]; rfl
    rw [P59_0_eq, List.drop_eq_getElem_cons h1, List.foldl_cons]
    simp (disch := (first | assumption | (simp only [Bool.and_eq_true, Bool.and_eq_false_iff, decide_eq_true_eq, decide_eq_false_iff_not, bne_iff_ne, beq_iff_eq, beq_eq_false_iff_ne, bne_eq_false_iff_eq, Bool.not_eq_true', Bool.not_eq_false', bys_length, List.length_append, List.length_cons, List.length_nil, List.length_map, List.length_drop, List.length_take, Int.natCast_add, wrap_i64_eq, wrap_u64, wrap_u8, ne_eq, not_true_eq_false, not_false_eq_true, Nat.zero_add, Nat.mul_one] <;> omega) | omega | (simp; done) | (simp; omega))) only [↓CR, MC, ↓PR, MR, bys_length, g, w, e2, r1, r2, e1, ih']
theorem more_run {d s : Nat} {f : Bool} {l : List UInt8} (hs : s < 4294967296) (hl : l.length ≤ 140737488351232) {h : Heap} {Q : Res → Prop} {tg : Hid Q} :
    Run (evFn Cw (d + 2) 59 [.int .u32 s, .sl f 0 (bys l)] h) Q tg = Q ([.int .u32 (moreN s l : Nat)], h) := by
  have e : IntKind.u32.wrap (BitVec.ofInt 32 (IntKind.u32.max) ^^^ BitVec.ofInt 32 (s : Int)).toNat = ((4294967295 ^^^ s : Nat) : Int) := xor_wrap (a := 4294967295) (by omega) hs
  have r := more_loop d f l hl h Q l.length 0 rounds (4294967295 ^^^ s) ⟨⟩ (by omega) (Nat.lt_of_lt_of_le (by omega) rounds_ge) (xor_lt (by omega) hs)
  rw [e0, List.drop_zero] at r
  rw [F59_eq, e, bys_length]
  exact r

/-! ### Awake -/
theorem fget_short {l r : List UInt8} (h : l.length < 128) : fget (UInt8.ofNat l.length :: l ++ r) = (l, l.length + 1, 0) := by
  have e : UInt8.ofNat l.length :: l ++ r = enc l.length ++ (l ++ r) := by rw [enc_lt h]; rfl
  have e1 : (enc l.length).length = 1 := by rw [enc_lt h]; rfl
  rw [e, fget_eq]
  unfold fgetW
  rw [get_enc0 _ _ (by omega)]
  simp only [e1]
  rw [if_neg (by simp), if_neg (by omega), if_neg (by simp [e1])]
  have e2 : (enc l.length ++ (l ++ r)).drop 1 = l ++ r := by rw [enc_lt h]; rfl
  rw [e2]
  simp [Nat.add_comm]
end Go.Proofs.YtdlcjibefbnckaaDoor.Wa
end

section
/- What the evaluator comes to in these functions. -/
namespace Go.Proofs.YtdlcjibefbnckaaDoor.Wa
open Go Go.Weave
set_option maxRecDepth 100000
set_option linter.unusedVariables false
/- f60 strandline/point.Join -/
theorem F60_eq (d : Nat) (x0 : Int) (x1 : Int) (x2 : Int) (f3 : Bool) (l4 : List AVal) (h : Heap) : evFn Cw (d + 1) 60 [(AVal.agg [(AVal.int .i64 x0), (AVal.int .i64 x1), (AVal.int .u32 x2)]), (AVal.sl f3 0 l4)] h =
  (bif (decide (((l4.length : Int) : Int) < x0)) then
    (Tr.ret ([(AVal.sl true 0 []), (AVal.int .i64 1)], h))
  else
    (runK (evFn Cw d 42 [(AVal.sl f3 0 l4)] h) fun r1 h1 =>
      (consK r1 fun w2 ws3 =>
        (slOK 3 w2 fun es4 =>
          (consK ws3 fun w5 ws6 =>
            (aggK 3 w5 fun cc7 =>
              (consK ws6 fun w8 ws9 =>
                (boolK w8 fun bb10 =>
                  (nilK ws9
                    (bif ((cc7.length == 3) && true) then
                      (bif (!bb10) then
                        (Tr.ret ([(AVal.sl true 0 []), (AVal.int .i64 2)], h1))
                      else
                        (optK (cc7[0]?) fun w11 =>
                          (intK .i64 w11 fun y12 =>
                            (bif ((y12 : Int) != x0) then
                              (Tr.ret ([(AVal.sl true 0 []), (AVal.int .i64 2)], h1))
                            else
                              (optK (cc7[1]?) fun w13 =>
                                (intK .i64 w13 fun y14 =>
                                  (bif ((y14 : Int) != x1) then
                                    (Tr.ret ([(AVal.sl true 0 []), (AVal.int .i64 2)], h1))
                                  else
                                    (runK (evFn Cw d 39 [(AVal.sl false 3 es4)] h1) fun r15 h15 =>
                                      (consK r15 fun w16 ws17 =>
                                        (boolK w16 fun bb18 =>
                                          (nilK ws17
                                            (bif (!bb18) then
                                              (Tr.ret ([(AVal.sl true 0 []), (AVal.int .i64 2)], h15))
                                            else
                                              (optK (cc7[2]?) fun w19 =>
                                                (intK .u32 w19 fun y20 =>
                                                  (bif ((y20 : Int) != x2) then (Tr.ret ([(AVal.sl true 0 []), (AVal.int .i64 3)], h15)) else (Tr.ret ([(AVal.sl false 3 es4), (AVal.int .i64 0)], h15)))))))))))))))))
                    else
                      Tr.fail)))))))))) := by kernel_rfl
/- f31 strandline/strandlineref34.Pairs -/
noncomputable def P31_0 (d k : Nat) (f0 : Bool) (l1 : List AVal) (l2 : List AVal) (x3 : Int) (h : Heap) : Tr Res :=
  loopPt Cw d 31 [true, true, false, true, true] [] k ⟨[(0, (EV.one (SV.val (AVal.sl f0 0 l1)))), (4, (EV.one (SV.own (tokOf 4 0) 3 l2))), (5, (EV.one (SV.val (AVal.int .i64 x3))))], []⟩ h
noncomputable def P31_1 (d n0 k : Nat) (f0 : Bool) (l1 : List AVal) (l2 : List AVal) (x3 : Int) (l4 : List AVal) (x5 : Int) (h : Heap) : Tr Res :=
  loopPt Cw d 31 [true, true, false, true, true, true, true, false, true, true, true, true, true] [n0] k ⟨[(0, (EV.one (SV.val (AVal.sl f0 0 l1)))), (4, (EV.one (SV.own (tokOf 4 0) 3 l2))), (5, (EV.one (SV.val (AVal.int .i64 x3)))), (6, (EV.one (SV.own (tokOf 6 0) 0 l4))), (8, (EV.one (SV.val (AVal.int .i64 x5))))], []⟩ h
theorem P31_0_eq (d k : Nat) (f0 : Bool) (l1 : List AVal) (l2 : List AVal) (x3 : Int) (h : Heap) : P31_0 d (k + 1) f0 l1 l2 x3 h =
  (bif (decide ((x3 : Int) < (l1.length : Int))) then
    (bif (decide ((0 : Int) ≤ x3) && decide ((x3 : Int) < (l1.length : Int))) then
      (slK 0 (l1.getD (Int.toNat x3) AVal.undef) fun fl1 es2 =>
        (runK (evFn Cw d 48 [(AVal.sl fl1 0 es2)] h) fun r3 h3 =>
          (consK r3 fun w4 ws5 =>
            (slOK 0 w4 fun es6 =>
              (consK ws5 fun w7 ws8 =>
                (intK .i64 w7 fun y9 =>
                  (nilK ws8
                    (bif ((y9 : Int) != 0) then
                      (Tr.ret ([(AVal.sl true 0 []), (AVal.bool false)], h3))
                    else
                      (bif (((Int.tmod (es6.length : Int) 2) : Int) == 1) then
                        (Tr.ret ([(AVal.sl true 0 []), (AVal.bool false)], h3))
                      else
                        (bif (decide ((0 : Int) ≤ x3) && decide ((x3 : Int) < (l1.length : Int))) then
                          (slK 0 (l1.getD (Int.toNat x3) AVal.undef) fun fl10 es11 =>
                            (bif (decide (((es11.length : Int) : Int) > 400)) then (Tr.ret ([(AVal.sl true 0 []), (AVal.bool false)], h3)) else (P31_1 d k rounds f0 l1 l2 x3 es6 0 h3)))
                        else
                          Tr.fail))))))))))
    else
      Tr.fail)
  else
    (Tr.ret ([(AVal.sl false 3 l2), (AVal.bool true)], h))) := by kernel_rfl
theorem P31_1_eq (d n0 k : Nat) (f0 : Bool) (l1 : List AVal) (l2 : List AVal) (x3 : Int) (l4 : List AVal) (x5 : Int) (h : Heap) : P31_1 d n0 (k + 1) f0 l1 l2 x3 l4 x5 h =
  (bif (decide (((IntKind.i64.wrap (x5 + 1)) : Int) < (l4.length : Int))) then
    (bif (decide ((0 : Int) ≤ x5) && decide ((x5 : Int) < (l4.length : Int))) then
      (slK 0 (l4.getD (Int.toNat x5) AVal.undef) fun fl1 es2 =>
        (optK (toBytes es2) fun ss3 =>
          (bif (decide ((0 : Int) ≤ (IntKind.i64.wrap (x5 + 1))) && decide (((IntKind.i64.wrap (x5 + 1)) : Int) < (l4.length : Int))) then
            (slK 0 (l4.getD (Int.toNat (IntKind.i64.wrap (x5 + 1))) AVal.undef) fun fl4 es5 =>
              (optK (toBytes es5) fun ss6 =>
                (bif decide ((l2.length + (1 : Nat)) * 32 ≤ 140737488355328) then
                  (P31_1 d n0 k f0 l1 (l2 ++ [(AVal.agg [(AVal.str ss3), (AVal.str ss6)])]) x3 l4 (IntKind.i64.wrap (x5 + 2)) h)
                else
                  Tr.fail)))
          else
            Tr.fail)))
    else
      Tr.fail)
  else
    (P31_0 d n0 f0 l1 l2 (IntKind.i64.wrap (x3 + 1)) h)) := by kernel_rfl
theorem F31_eq (d : Nat) (f0 : Bool) (l1 : List AVal) (h : Heap) : evFn Cw (d + 1) 31 [(AVal.sl f0 0 l1)] h =
  (P31_0 d rounds f0 l1 [] 0 h) := by kernel_rfl
/- f49 strandline/strandlineref34.Right -/
noncomputable def P49_0 (d k : Nat) (f0 : Bool) (l1 : List AVal) (x2 : Int) (h : Heap) : Tr Res :=
  loopPt Cw d 49 [true, false, true, true] [] k ⟨[(0, (EV.one (SV.val (AVal.sl f0 3 l1)))), (3, (EV.one (SV.val (AVal.int .i64 x2))))], []⟩ h
theorem P49_0_eq (d k : Nat) (f0 : Bool) (l1 : List AVal) (x2 : Int) (h : Heap) : P49_0 d (k + 1) f0 l1 x2 h =
  (bif (decide ((x2 : Int) < (l1.length : Int))) then
    (bif (decide ((0 : Int) ≤ x2) && decide ((x2 : Int) < (l1.length : Int))) then
      (optK ((AVal.cells (l1.getD (Int.toNat x2) AVal.undef))[0]?) fun w1 =>
        (strK w1 fun ss2 =>
          (bif (ss2 == []) then
            (Tr.ret ([(AVal.bool false)], h))
          else
            (bif (decide ((0 : Int) ≤ x2) && decide ((x2 : Int) < (l1.length : Int))) then
              (optK ((AVal.cells (l1.getD (Int.toNat x2) AVal.undef))[0]?) fun w3 =>
                (strK w3 fun ss4 =>
                  (bif (decide (((ss4.length : Int) : Int) > 24)) then
                    (Tr.ret ([(AVal.bool false)], h))
                  else
                    (bif (decide ((0 : Int) ≤ x2) && decide ((x2 : Int) < (l1.length : Int))) then
                      (optK ((AVal.cells (l1.getD (Int.toNat x2) AVal.undef))[1]?) fun w5 =>
                        (strK w5 fun ss6 =>
                          (bif (decide (((ss6.length : Int) : Int) > 128)) then
                            (Tr.ret ([(AVal.bool false)], h))
                          else
                            (bif (decide ((x2 : Int) > 0)) then
                              (bif (decide ((0 : Int) ≤ x2) && decide ((x2 : Int) < (l1.length : Int))) then
                                (optK ((AVal.cells (l1.getD (Int.toNat x2) AVal.undef))[0]?) fun w7 =>
                                  (strK w7 fun ss8 =>
                                    (bif (decide ((0 : Int) ≤ (IntKind.i64.wrap (x2 - 1))) && decide (((IntKind.i64.wrap (x2 - 1)) : Int) < (l1.length : Int))) then
                                      (optK ((AVal.cells (l1.getD (Int.toNat (IntKind.i64.wrap (x2 - 1))) AVal.undef))[0]?) fun w9 =>
                                        (strK w9 fun ss10 =>
                                          (bif ((Go.Op.bytesLess ss8 ss10) || (ss8 == ss10)) then (Tr.ret ([(AVal.bool false)], h)) else (P49_0 d k f0 l1 (IntKind.i64.wrap (x2 + 1)) h))))
                                    else
                                      Tr.fail)))
                              else
                                Tr.fail)
                            else
                              (P49_0 d k f0 l1 (IntKind.i64.wrap (x2 + 1)) h)))))
                    else
                      Tr.fail))))
            else
              Tr.fail))))
    else
      Tr.fail)
  else
    (Tr.ret ([(AVal.bool true)], h))) := by kernel_rfl
theorem F49_eq (d : Nat) (f0 : Bool) (l1 : List AVal) (h : Heap) : evFn Cw (d + 1) 49 [(AVal.sl f0 3 l1)] h =
  (P49_0 d rounds f0 l1 0 h) := by kernel_rfl
/- f86 strandline/strandlineref03.Step -/
theorem F86_eq (d : Nat) (x0 : Int) (h : Heap) : evFn Cw (d + 1) 86 [(AVal.int .u32 x0)] h =
  (bif (((Int.tmod x0 2) : Int) == 1) then
    (Tr.ret ([(AVal.int .u32 (IntKind.u32.wrap (BitVec.ofInt 32 (IntKind.u32.wrap (Int.tdiv x0 2)) ^^^ BitVec.ofInt 32 2197175160).toNat))], h))
  else
    (Tr.ret ([(AVal.int .u32 (IntKind.u32.wrap (Int.tdiv x0 2)))], h))) := by kernel_rfl
/- f77 strandline/strandlineref03.More -/
noncomputable def P77_0 (d k : Nat) (f0 : Bool) (l1 : List AVal) (x2 : Int) (x3 : Int) (h : Heap) : Tr Res :=
  loopPt Cw d 77 [true, true, false, true, true] [] k ⟨[(1, (EV.one (SV.val (AVal.sl f0 0 l1)))), (5, (EV.one (SV.val (AVal.int .u32 x2)))), (6, (EV.one (SV.val (AVal.int .i64 x3))))], []⟩ h
noncomputable def P77_1 (d n0 k : Nat) (f0 : Bool) (l1 : List AVal) (x2 : Int) (x3 : Int) (x4 : Int) (h : Heap) : Tr Res :=
  loopPt Cw d 77 [true, true, false, true, true, true, true, false, true, true, true, true] [n0] k ⟨[(1, (EV.one (SV.val (AVal.sl f0 0 l1)))), (5, (EV.one (SV.val (AVal.int .u32 x2)))), (6, (EV.one (SV.val (AVal.int .i64 x3)))), (7, (EV.one (SV.val (AVal.int .i64 x4))))], []⟩ h
theorem P77_0_eq (d k : Nat) (f0 : Bool) (l1 : List AVal) (x2 : Int) (x3 : Int) (h : Heap) : P77_0 d (k + 1) f0 l1 x2 x3 h =
  (bif (decide ((x3 : Int) < (l1.length : Int))) then
    (bif (decide ((0 : Int) ≤ x3) && decide ((x3 : Int) < (l1.length : Int))) then
      (intK .u8 (l1.getD (Int.toNat x3) AVal.undef) fun y1 =>
        (P77_1 d k rounds f0 l1 (IntKind.u32.wrap (BitVec.ofInt 32 x2 ^^^ BitVec.ofInt 32 (IntKind.u32.wrap y1)).toNat) x3 0 h))
    else
      Tr.fail)
  else
    (Tr.ret ([(AVal.int .u32 (IntKind.u32.wrap (4294967295 - x2)))], h))) := by kernel_rfl
theorem P77_1_eq (d n0 k : Nat) (f0 : Bool) (l1 : List AVal) (x2 : Int) (x3 : Int) (x4 : Int) (h : Heap) : P77_1 d n0 (k + 1) f0 l1 x2 x3 x4 h =
  (bif (decide ((x4 : Int) < 8)) then
    (runK (evFn Cw d 86 [(AVal.int .u32 x2)] h) fun r1 h1 =>
      (consK r1 fun w2 ws3 =>
        (intK .u32 w2 fun y4 =>
          (nilK ws3
            (P77_1 d n0 k f0 l1 y4 x3 (IntKind.i64.wrap (x4 + 1)) h1)))))
  else
    (P77_0 d n0 f0 l1 x2 (IntKind.i64.wrap (x3 + 1)) h)) := by kernel_rfl
theorem F77_eq (d : Nat) (x0 : Int) (f1 : Bool) (l2 : List AVal) (h : Heap) : evFn Cw (d + 1) 77 [(AVal.int .u32 x0), (AVal.sl f1 0 l2)] h =
  (P77_0 d rounds f1 l2 (IntKind.u32.wrap (4294967295 - x0)) 0 h) := by kernel_rfl
/- f65 strandline/strandlineref03.Of -/
theorem F65_eq (d : Nat) (f0 : Bool) (l1 : List AVal) (h : Heap) : evFn Cw (d + 1) 65 [(AVal.sl f0 0 l1)] h =
  (runK (evFn Cw d 77 [(AVal.int .u32 0), (AVal.sl f0 0 l1)] h) fun r1 h1 =>
    (consK r1 fun w2 ws3 =>
      (intK .u32 w2 fun y4 =>
        (nilK ws3
          (Tr.ret ([(AVal.int .u32 y4)], h1)))))) := by kernel_rfl
/- f50 strandline/strandlineref34.Of -/
noncomputable def P50_0 (d k : Nat) (f0 : Bool) (l1 : List AVal) (l2 : List AVal) (l3 : List AVal) (x4 : Int) (x5 : Int) (x6 : Int) (x7 : Int) (h : Heap) : Tr Res :=
  loopPt Cw d 50 [true, true, true, false, true, true] [] k ⟨[(0, (EV.one (SV.val (AVal.sl f0 0 l1)))), (2, (EV.one (SV.loc 2 0))), (3, (EV.one (SV.own (tokOf 3 0) 3 l2))), (5, (EV.one (SV.own (tokOf 5 0) 0 l3))), (6, (EV.one (SV.val (AVal.int .i64 x4))))], [(2, (Box.plain [(AVal.int .i64 x5), (AVal.int .i64 x6), (AVal.int .u32 x7)]))]⟩ h
theorem P50_0_eq (d k : Nat) (f0 : Bool) (l1 : List AVal) (l2 : List AVal) (l3 : List AVal) (x4 : Int) (x5 : Int) (x6 : Int) (x7 : Int) (h : Heap) : P50_0 d (k + 1) f0 l1 l2 l3 x4 x5 x6 x7 h =
  (bif (decide ((x4 : Int) < (l1.length : Int))) then
    (bif (decide ((0 : Int) ≤ x4) && decide ((x4 : Int) < (l1.length : Int))) then
      (slK 0 (l1.getD (Int.toNat x4) AVal.undef) fun fl1 es2 =>
        (bif decide ((l3.length + es2.length) * 1 ≤ 140737488355328) then (P50_0 d k f0 l1 l2 (l3 ++ es2) (IntKind.i64.wrap (x4 + 1)) x5 x6 x7 h) else Tr.fail))
    else
      Tr.fail)
  else
    (runK (evFn Cw d 65 [(AVal.sl false 0 l3)] h) fun r3 h3 =>
      (consK r3 fun w4 ws5 =>
        (intK .u32 w4 fun y6 =>
          (nilK ws5
            (Tr.ret ([(AVal.agg [(AVal.int .i64 (l1.length : Int)), (AVal.int .i64 (l2.length : Int)), (AVal.int .u32 y6)])], h3))))))) := by kernel_rfl
theorem F50_eq (d : Nat) (f0 : Bool) (l1 : List AVal) (h : Heap) : evFn Cw (d + 1) 50 [(AVal.sl f0 0 l1)] h =
  (runK (evFn Cw d 31 [(AVal.sl f0 0 l1)] h) fun r1 h1 =>
    (consK r1 fun w2 ws3 =>
      (slOK 3 w2 fun es4 =>
        (consK ws3 fun w5 ws6 =>
          (boolK w5 fun bb7 =>
            (nilK ws6
              (P50_0 d rounds f0 l1 es4 [] 0 0 0 0 h1))))))) := by kernel_rfl
/- f32 strandline/strandlineref34.Join -/
theorem F32_eq (d : Nat) (x0 : Int) (x1 : Int) (x2 : Int) (f3 : Bool) (l4 : List AVal) (h : Heap) : evFn Cw (d + 1) 32 [(AVal.agg [(AVal.int .i64 x0), (AVal.int .i64 x1), (AVal.int .u32 x2)]), (AVal.sl f3 0 l4)] h =
  (bif (decide (((l4.length : Int) : Int) < x0)) then
    (Tr.ret ([(AVal.sl true 0 []), (AVal.int .i64 1)], h))
  else
    (runK (evFn Cw d 31 [(AVal.sl f3 0 l4)] h) fun r1 h1 =>
      (consK r1 fun w2 ws3 =>
        (slOK 3 w2 fun es4 =>
          (consK ws3 fun w5 ws6 =>
            (boolK w5 fun bb7 =>
              (nilK ws6
                (bif (!bb7) then
                  (Tr.ret ([(AVal.sl true 0 []), (AVal.int .i64 2)], h1))
                else
                  (bif (decide (((l4.length : Int) : Int) > x0)) then
                    (Tr.ret ([(AVal.sl true 0 []), (AVal.int .i64 2)], h1))
                  else
                    (bif (((es4.length : Int) : Int) != x1) then
                      (Tr.ret ([(AVal.sl true 0 []), (AVal.int .i64 2)], h1))
                    else
                      (runK (evFn Cw d 49 [(AVal.sl false 3 es4)] h1) fun r8 h8 =>
                        (consK r8 fun w9 ws10 =>
                          (boolK w9 fun bb11 =>
                            (nilK ws10
                              (bif (!bb11) then
                                (Tr.ret ([(AVal.sl true 0 []), (AVal.int .i64 2)], h8))
                              else
                                (runK (evFn Cw d 50 [(AVal.sl f3 0 l4)] h8) fun r12 h12 =>
                                  (consK r12 fun w13 ws14 =>
                                    (aggK 3 w13 fun cc15 =>
                                      (nilK ws14
                                        (optK (cc15[2]?) fun w16 =>
                                          (intK .u32 w16 fun y17 =>
                                            (bif ((y17 : Int) != x2) then (Tr.ret ([(AVal.sl true 0 []), (AVal.int .i64 3)], h12)) else (Tr.ret ([(AVal.sl false 3 es4), (AVal.int .i64 0)], h12)))))))))))))))))))))))) := by kernel_rfl
end Go.Proofs.YtdlcjibefbnckaaDoor.Wa
end
