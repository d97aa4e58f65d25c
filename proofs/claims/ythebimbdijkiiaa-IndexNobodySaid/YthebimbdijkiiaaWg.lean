/- What the evaluator comes to in these functions. -/
import Derived.Test.YthebimbdijkiiaaW0
import Derived.Test.YthebimbdijkiiaaWvLb
import Derived.KernelRfl
namespace Go.Proofs.Ythebimbdijkiiaa.Wa
open Go Go.Weave
set_option maxRecDepth 100000
set_option linter.unusedVariables false
/- f40 strandline/index.New -/
theorem F40_eq (d : Nat) (x0 : Int) (x1 : Int) (x2 : Int) (x3 : Int) (x4 : Int) (h : Heap) : evFn Cw (d + 1) 40 [(AVal.int .i64 x0), (AVal.agg [(AVal.int .i64 x1), (AVal.int .i64 x2), (AVal.int .i64 x3), (AVal.int .i64 x4)])] h =
  (Tr.ret ([(AVal.obj (Heap.push h (Go.Weave.Obj.map 67 [] 0)).objs.length 0)], (Heap.push (Heap.push h (Go.Weave.Obj.map 67 [] 0)) (Go.Weave.Obj.cells ([(AVal.int .i64 (if ((if (2147483647 : Int) < x0 then 2147483647 else x0) : Int) > 1 then (if (2147483647 : Int) < x0 then 2147483647 else x0) else 1)), (AVal.sl true 4 []), (AVal.map h.objs.length), (AVal.int .i64 x1), (AVal.int .i64 x2), (AVal.int .i64 x3), (AVal.int .i64 x4)].map HCell.val))))) := by kernel_rfl
/- f53 (*strandline/index.Index).Next -/
theorem F53nil_eq (d : Nat) (h : Heap) : evFn Cw (d + 1) 53 [AVal.nilp] h =
  (Tr.ret ([(AVal.int .i64 0)], h)) := by kernel_rfl
theorem F53_eq (d : Nat) (i0 : Nat) (h : Heap) : evFn Cw (d + 1) 53 [(AVal.obj i0 0)] h =
  (Tr.anyL [
    (optK (Heap.cell? h i0 0) fun z1 =>
      (intK .i64 (HCell.toA z1) fun y2 =>
        (optK (Heap.cell? h i0 1) fun z3 =>
          (slK 4 (HCell.toA z3) fun _ es4 =>
            (Tr.ret ([(AVal.int .i64 (IntKind.i64.wrap (y2 + (es4.length : Int))))], h)))))),
    (optK (Heap.cell? h i0 1) fun z1 =>
      (slK 4 (HCell.toA z1) fun _ es2 =>
        (optK (Heap.cell? h i0 0) fun z3 =>
          (intK .i64 (HCell.toA z3) fun y4 =>
            (Tr.ret ([(AVal.int .i64 (IntKind.i64.wrap (y4 + (es2.length : Int))))], h))))))]) := by kernel_rfl
/- f45 (*strandline/index.Index).Add -/
theorem F45nil_eq (d : Nat) (x0 : Int) (x1 : Int) (x2 : Int) (h : Heap) : evFn Cw (d + 1) 45 [AVal.nilp, (AVal.int .i64 x0), (AVal.agg [(AVal.int .i64 x1), (AVal.int .i64 x2)])] h =
  (Tr.ret ([(AVal.int .i64 0), (AVal.bool false)], h)) := by kernel_rfl
noncomputable def P45_0 (d : Nat) (i0 : Nat) (x1 : Int) (x2 : Int) (x3 : Int) (x4 : Int) (h : Heap) : Tr Res :=
  heldPt Cw d 45 [true, true, true, true, true] [] ⟨[(0, (EV.one (SV.val (AVal.obj i0 0)))), (1, (EV.one (SV.val (AVal.int .i64 x1)))), (5, (EV.one (SV.loc 5 0))), (10, (EV.one (SV.val (AVal.int .i64 x2))))], [(5, (Box.plain [(AVal.int .i64 x3), (AVal.int .i64 x4)]))]⟩ h
theorem P45_0_eq (d : Nat) (i0 : Nat) (x1 : Int) (x2 : Int) (x3 : Int) (x4 : Int) (h : Heap) : P45_0 d i0 x1 x2 x3 x4 h =
  (optK (Heap.cell? h i0 2) fun z1 =>
    (entryK 67 (AVal.int .i64 0) (HCell.toA z1) (AVal.agg [(AVal.int .i64 x3), (AVal.int .i64 x4)]) h fun w2 cc3 h4 =>
      (intK .i64 w2 fun y5 =>
        (entryStW (HCell.toA z1) (cc3 : Int) (AVal.int .i64 x2) h4 fun h6 =>
          (bif (decide ((0 : Int) ≤ x1) && decide ((x1 : Int) < 4)) then
            (optK (Heap.cell? h6 i0 (3 + ((Int.toNat x1) * 1))) fun _ =>
              (Tr.ret ([(AVal.int .i64 x2), (AVal.bool true)], (Heap.setCell h6 i0 (3 + ((Int.toNat x1) * 1)) (HCell.val (AVal.int .i64 x2))))))
          else
            Tr.fail))))) := (heldPt_eq _ _ _ _ _ _ _).trans (by kernel_rfl)
theorem F45_eq (d : Nat) (i0 : Nat) (x1 : Int) (x2 : Int) (x3 : Int) (h : Heap) : evFn Cw (d + 1) 45 [(AVal.obj i0 0), (AVal.int .i64 x1), (AVal.agg [(AVal.int .i64 x2), (AVal.int .i64 x3)])] h =
  (bif (decide ((x1 : Int) < 0)) then
    (Tr.ret ([(AVal.int .i64 0), (AVal.bool false)], h))
  else
    (bif (decide ((x1 : Int) ≥ 4)) then
      (Tr.ret ([(AVal.int .i64 0), (AVal.bool false)], h))
    else
      (runK (evFn Cw d 53 [(AVal.obj i0 0)] h) fun r1 h1 =>
        (consK r1 fun w2 ws3 =>
          (intK .i64 w2 fun y4 =>
            (nilK ws3
              (bif (decide ((y4 : Int) > 2147483647)) then
                (Tr.ret ([(AVal.int .i64 0), (AVal.bool false)], h1))
              else
                (optK (Heap.cell? h1 i0 2) fun z5 =>
                  (lookK 67 (AVal.int .i64 0) (HCell.toA z5) (AVal.agg [(AVal.int .i64 x2), (AVal.int .i64 x3)]) h1 fun w6 bb7 =>
                    (intK .i64 w6 fun y8 =>
                      (bif bb7 then
                        (Tr.ret ([(AVal.int .i64 0), (AVal.bool false)], h1))
                      else
                        (runK (evFn Cw d 53 [(AVal.obj i0 0)] h1) fun r9 h9 =>
                          (consK r9 fun w10 ws11 =>
                            (intK .i64 w10 fun y12 =>
                              (nilK ws11
                                (bif (decide ((0 : Int) ≤ x1) && decide ((x1 : Int) < 4)) then
                                  (Tr.anyL [
                                    (optK (Heap.cell? h9 i0 1) fun z13 =>
                                      (slK 4 (HCell.toA z13) fun _ es14 =>
                                        (sameL 2
                                          (optK (Heap.cell? h9 i0 (3 + ((Int.toNat x1) * 1))) fun z15 =>
                                            (intK .i64 (HCell.toA z15) fun y16 =>
                                              (bif decide ((es14.length + (1 : Nat)) * 24 ≤ 140737488355328) then
                                                (lentK h9 i0 1 4 es14 fun h17 =>
                                                  (optK (Heap.cell? h17 i0 1) fun _ =>
                                                    (P45_0 d i0 x1 y12 x2 x3 (Heap.setCell h17 i0 1 (HCell.own 4 (es14 ++ [(AVal.agg [(AVal.int .i64 x2), (AVal.int .i64 x3), (AVal.int .i64 y16)])]))))))
                                              else
                                                Tr.fail)))))),
                                    (Tr.anyL [
                                      (optK (Heap.cell? h9 i0 1) fun z13 =>
                                        (slK 4 (HCell.toA z13) fun _ es14 =>
                                          (optK (Heap.cell? h9 i0 (3 + ((Int.toNat x1) * 1))) fun z15 =>
                                            (intK .i64 (HCell.toA z15) fun y16 =>
                                              (bif decide ((es14.length + (1 : Nat)) * 24 ≤ 140737488355328) then
                                                (lentK h9 i0 1 4 es14 fun h17 =>
                                                  (optK (Heap.cell? h17 i0 1) fun _ =>
                                                    (P45_0 d i0 x1 y12 x2 x3 (Heap.setCell h17 i0 1 (HCell.own 4 (es14 ++ [(AVal.agg [(AVal.int .i64 x2), (AVal.int .i64 x3), (AVal.int .i64 y16)])]))))))
                                              else
                                                Tr.fail))))),
                                      (optK (Heap.cell? h9 i0 (3 + ((Int.toNat x1) * 1))) fun z13 =>
                                        (intK .i64 (HCell.toA z13) fun y14 =>
                                          (sameL 2
                                            (optK (Heap.cell? h9 i0 1) fun z15 =>
                                              (slK 4 (HCell.toA z15) fun _ es16 =>
                                                (bif decide ((es16.length + (1 : Nat)) * 24 ≤ 140737488355328) then
                                                  (lentK h9 i0 1 4 es16 fun h17 =>
                                                    (optK (Heap.cell? h17 i0 1) fun _ =>
                                                      (P45_0 d i0 x1 y12 x2 x3 (Heap.setCell h17 i0 1 (HCell.own 4 (es16 ++ [(AVal.agg [(AVal.int .i64 x2), (AVal.int .i64 x3), (AVal.int .i64 y14)])]))))))
                                                else
                                                  Tr.fail))))))]),
                                    (optK (Heap.cell? h9 i0 (3 + ((Int.toNat x1) * 1))) fun z13 =>
                                      (intK .i64 (HCell.toA z13) fun y14 =>
                                        (Tr.anyL [
                                          (optK (Heap.cell? h9 i0 1) fun z15 =>
                                            (slK 4 (HCell.toA z15) fun _ es16 =>
                                              (bif decide ((es16.length + (1 : Nat)) * 24 ≤ 140737488355328) then
                                                (lentK h9 i0 1 4 es16 fun h17 =>
                                                  (optK (Heap.cell? h17 i0 1) fun _ =>
                                                    (P45_0 d i0 x1 y12 x2 x3 (Heap.setCell h17 i0 1 (HCell.own 4 (es16 ++ [(AVal.agg [(AVal.int .i64 x2), (AVal.int .i64 x3), (AVal.int .i64 y14)])]))))))
                                              else
                                                Tr.fail))),
                                          (sameL 2
                                            (optK (Heap.cell? h9 i0 1) fun z15 =>
                                              (slK 4 (HCell.toA z15) fun _ es16 =>
                                                (bif decide ((es16.length + (1 : Nat)) * 24 ≤ 140737488355328) then
                                                  (lentK h9 i0 1 4 es16 fun h17 =>
                                                    (optK (Heap.cell? h17 i0 1) fun _ =>
                                                      (P45_0 d i0 x1 y12 x2 x3 (Heap.setCell h17 i0 1 (HCell.own 4 (es16 ++ [(AVal.agg [(AVal.int .i64 x2), (AVal.int .i64 x3), (AVal.int .i64 y14)])]))))))
                                                else
                                                  Tr.fail))))])))])
                                else
                                  Tr.fail)))))))))))))))) := by kernel_rfl
/- f70 (*strandline/index.Index).find -/
theorem F70nil_eq (d : Nat) (x0 : Int) (h : Heap) : evFn Cw (d + 1) 70 [AVal.nilp, (AVal.int .i64 x0)] h =
  (Tr.ret ([(AVal.agg [(AVal.int .i64 0), (AVal.int .i64 0), (AVal.int .i64 0)]), (AVal.bool false)], h)) := by kernel_rfl
theorem F70_eq (d : Nat) (i0 : Nat) (x1 : Int) (h : Heap) : evFn Cw (d + 1) 70 [(AVal.obj i0 0), (AVal.int .i64 x1)] h =
  (optK (Heap.cell? h i0 0) fun z1 =>
    (intK .i64 (HCell.toA z1) fun y2 =>
      (bif (decide ((x1 : Int) < y2)) then
        (Tr.ret ([(AVal.agg [(AVal.int .i64 0), (AVal.int .i64 0), (AVal.int .i64 0)]), (AVal.bool false)], h))
      else
        (runK (evFn Cw d 53 [(AVal.obj i0 0)] h) fun r3 h3 =>
          (consK r3 fun w4 ws5 =>
            (intK .i64 w4 fun y6 =>
              (nilK ws5
                (bif (decide ((x1 : Int) ≥ y6)) then
                  (Tr.ret ([(AVal.agg [(AVal.int .i64 0), (AVal.int .i64 0), (AVal.int .i64 0)]), (AVal.bool false)], h3))
                else
                  (Tr.anyL [
                    (optK (Heap.cell? h3 i0 1) fun z7 =>
                      (slK 4 (HCell.toA z7) fun _ es8 =>
                        (optK (Heap.cell? h3 i0 0) fun z9 =>
                          (intK .i64 (HCell.toA z9) fun y10 =>
                            (bif (decide ((0 : Int) ≤ (IntKind.i64.wrap (x1 - y10))) && decide (((IntKind.i64.wrap (x1 - y10)) : Int) < (es8.length : Int))) then
                              (aggK 3 (es8.getD (Int.toNat (IntKind.i64.wrap (x1 - y10))) AVal.undef) fun cc11 =>
                                (bif ((cc11.length == 3) && true) then
                                  (bif decide (0 + 3 ≤ cc11.length) then (Tr.ret ([(AVal.agg ((cc11.drop 0).take 3)), (AVal.bool true)], h3)) else Tr.fail)
                                else
                                  Tr.fail))
                            else
                              Tr.fail))))),
                    (optK (Heap.cell? h3 i0 0) fun z7 =>
                      (intK .i64 (HCell.toA z7) fun y8 =>
                        (optK (Heap.cell? h3 i0 1) fun z9 =>
                          (slK 4 (HCell.toA z9) fun _ es10 =>
                            (bif (decide ((0 : Int) ≤ (IntKind.i64.wrap (x1 - y8))) && decide (((IntKind.i64.wrap (x1 - y8)) : Int) < (es10.length : Int))) then
                              (aggK 3 (es10.getD (Int.toNat (IntKind.i64.wrap (x1 - y8))) AVal.undef) fun cc11 =>
                                (bif ((cc11.length == 3) && true) then
                                  (bif decide (0 + 3 ≤ cc11.length) then (Tr.ret ([(AVal.agg ((cc11.drop 0).take 3)), (AVal.bool true)], h3)) else Tr.fail)
                                else
                                  Tr.fail))
                            else
                              Tr.fail)))))]))))))))) := by kernel_rfl
/- f50 (*strandline/index.Index).Prev -/
theorem F50nil_eq (d : Nat) (x0 : Int) (h : Heap) : evFn Cw (d + 1) 50 [AVal.nilp, (AVal.int .i64 x0)] h =
  (runK (evFn Cw d 70 [AVal.nilp, (AVal.int .i64 x0)] h) fun r1 h1 =>
    (consK r1 fun w2 ws3 =>
      (aggK 3 w2 fun cc4 =>
        (consK ws3 fun w5 ws6 =>
          (boolK w5 fun bb7 =>
            (nilK ws6
              (bif ((cc4.length == 3) && true) then
                (optK (cc4[2]?) fun w8 =>
                  (intK .i64 w8 fun y9 =>
                    (Tr.ret ([(AVal.int .i64 y9), (AVal.bool bb7)], h1))))
              else
                Tr.fail))))))) := by kernel_rfl
theorem F50_eq (d : Nat) (i0 : Nat) (x1 : Int) (h : Heap) : evFn Cw (d + 1) 50 [(AVal.obj i0 0), (AVal.int .i64 x1)] h =
  (runK (evFn Cw d 70 [(AVal.obj i0 0), (AVal.int .i64 x1)] h) fun r1 h1 =>
    (consK r1 fun w2 ws3 =>
      (aggK 3 w2 fun cc4 =>
        (consK ws3 fun w5 ws6 =>
          (boolK w5 fun bb7 =>
            (nilK ws6
              (bif ((cc4.length == 3) && true) then
                (optK (cc4[2]?) fun w8 =>
                  (intK .i64 w8 fun y9 =>
                    (Tr.ret ([(AVal.int .i64 y9), (AVal.bool bb7)], h1))))
              else
                Tr.fail))))))) := by kernel_rfl
/- f51 (*strandline/index.Index).Chain -/
noncomputable def P51nil_0 (d k : Nat) (x0 : Int) (l1 : List AVal) (x2 : Int) (b3 : Bool) (h : Heap) : Tr Res :=
  loopPt Cw d 51 [true, true, false, true, true] [] k ⟨[(0, (EV.one (SV.val AVal.nilp))), (1, (EV.one (SV.val (AVal.int .i64 x0)))), (5, (EV.one (SV.own (tokOf 5 0) 0 l1))), (6, (EV.one (SV.val (AVal.int .i64 x2)))), (7, (EV.one (SV.val (AVal.bool b3))))], []⟩ h
theorem P51nil_0_eq (d k : Nat) (x0 : Int) (l1 : List AVal) (x2 : Int) (b3 : Bool) (h : Heap) : P51nil_0 d (k + 1) x0 l1 x2 b3 h =
  (bif b3 then
    (bif decide ((l1.length + (1 : Nat)) * 8 ≤ 140737488355328) then
      (bif (decide ((x2 : Int) ≥ x0)) then
        (Tr.ret ([(AVal.sl false 0 (l1 ++ [(AVal.int .i64 x0)]))], h))
      else
        (runK (evFn Cw d 50 [AVal.nilp, (AVal.int .i64 x2)] h) fun r1 h1 =>
          (consK r1 fun w2 ws3 =>
            (intK .i64 w2 fun y4 =>
              (consK ws3 fun w5 ws6 =>
                (boolK w5 fun bb7 =>
                  (nilK ws6
                    (P51nil_0 d k x2 (l1 ++ [(AVal.int .i64 x0)]) y4 bb7 h1))))))))
    else
      Tr.fail)
  else
    (Tr.ret ([(AVal.sl false 0 l1)], h))) := by kernel_rfl
theorem F51nil_eq (d : Nat) (x0 : Int) (h : Heap) : evFn Cw (d + 1) 51 [AVal.nilp, (AVal.int .i64 x0)] h =
  (runK (evFn Cw d 50 [AVal.nilp, (AVal.int .i64 x0)] h) fun r1 h1 =>
    (consK r1 fun w2 ws3 =>
      (intK .i64 w2 fun y4 =>
        (consK ws3 fun w5 ws6 =>
          (boolK w5 fun bb7 =>
            (nilK ws6
              (P51nil_0 d rounds x0 [] y4 bb7 h1))))))) := by kernel_rfl
noncomputable def P51_0 (d k : Nat) (i0 : Nat) (x1 : Int) (l2 : List AVal) (x3 : Int) (b4 : Bool) (h : Heap) : Tr Res :=
  loopPt Cw d 51 [true, true, false, true, true] [] k ⟨[(0, (EV.one (SV.val (AVal.obj i0 0)))), (1, (EV.one (SV.val (AVal.int .i64 x1)))), (5, (EV.one (SV.own (tokOf 5 0) 0 l2))), (6, (EV.one (SV.val (AVal.int .i64 x3)))), (7, (EV.one (SV.val (AVal.bool b4))))], []⟩ h
theorem P51_0_eq (d k : Nat) (i0 : Nat) (x1 : Int) (l2 : List AVal) (x3 : Int) (b4 : Bool) (h : Heap) : P51_0 d (k + 1) i0 x1 l2 x3 b4 h =
  (bif b4 then
    (bif decide ((l2.length + (1 : Nat)) * 8 ≤ 140737488355328) then
      (bif (decide ((x3 : Int) ≥ x1)) then
        (Tr.ret ([(AVal.sl false 0 (l2 ++ [(AVal.int .i64 x1)]))], h))
      else
        (runK (evFn Cw d 50 [(AVal.obj i0 0), (AVal.int .i64 x3)] h) fun r1 h1 =>
          (consK r1 fun w2 ws3 =>
            (intK .i64 w2 fun y4 =>
              (consK ws3 fun w5 ws6 =>
                (boolK w5 fun bb7 =>
                  (nilK ws6
                    (P51_0 d k i0 x3 (l2 ++ [(AVal.int .i64 x1)]) y4 bb7 h1))))))))
    else
      Tr.fail)
  else
    (Tr.ret ([(AVal.sl false 0 l2)], h))) := by kernel_rfl
theorem F51_eq (d : Nat) (i0 : Nat) (x1 : Int) (h : Heap) : evFn Cw (d + 1) 51 [(AVal.obj i0 0), (AVal.int .i64 x1)] h =
  (runK (evFn Cw d 50 [(AVal.obj i0 0), (AVal.int .i64 x1)] h) fun r1 h1 =>
    (consK r1 fun w2 ws3 =>
      (intK .i64 w2 fun y4 =>
        (consK ws3 fun w5 ws6 =>
          (boolK w5 fun bb7 =>
            (nilK ws6
              (P51_0 d rounds i0 x1 [] y4 bb7 h1))))))) := by kernel_rfl
/- f39 strandline/strandlinelaw26.awake -/
theorem F39_eq (d : Nat) (h : Heap) : evFn Cw (d + 1) 39 [] h =
  (runK (evFn Cw d 40 [(AVal.int .i64 5), (AVal.agg [(AVal.int .i64 0), (AVal.int .i64 3), (AVal.int .i64 0), (AVal.int .i64 0)])] h) fun r1 h1 =>
    (consK r1 fun w2 ws3 =>
      (nilK ws3
        (runK (evFn Cw d 45 [w2, (AVal.int .i64 1), (AVal.agg [(AVal.int .i64 1), (AVal.int .i64 0)])] h1) fun r4 h4 =>
          (consK r4 fun w5 ws6 =>
            (intK .i64 w5 fun y7 =>
              (consK ws6 fun w8 ws9 =>
                (boolK w8 fun bb10 =>
                  (nilK ws9
                    (runK (evFn Cw d 45 [w2, (AVal.int .i64 1), (AVal.agg [(AVal.int .i64 1), (AVal.int .i64 20)])] h4) fun r11 h11 =>
                      (consK r11 fun w12 ws13 =>
                        (intK .i64 w12 fun y14 =>
                          (consK ws13 fun w15 ws16 =>
                            (boolK w15 fun bb17 =>
                              (nilK ws16
                                (bif bb10 then
                                  (bif bb17 then
                                    (bif ((y7 : Int) == 5) then
                                      (bif ((y14 : Int) == 6) then
                                        (runK (evFn Cw d 51 [w2, (AVal.int .i64 6)] h11) fun r18 h18 =>
                                          (consK r18 fun w19 ws20 =>
                                            (slOK 0 w19 fun es21 =>
                                              (nilK ws20
                                                (Tr.ret ([(AVal.bool (((es21.length : Int) : Int) == 2))], h18))))))
                                      else
                                        (Tr.ret ([(AVal.bool false)], h11)))
                                    else
                                      (Tr.ret ([(AVal.bool false)], h11)))
                                  else
                                    (Tr.ret ([(AVal.bool false)], h11)))
                                else
                                  (Tr.ret ([(AVal.bool false)], h11)))))))))))))))))) := by kernel_rfl
/- f41 strandline/strandlineref26.New -/
theorem F41_eq (d : Nat) (x0 : Int) (x1 : Int) (x2 : Int) (x3 : Int) (x4 : Int) (h : Heap) : evFn Cw (d + 1) 41 [(AVal.int .i64 x0), (AVal.agg [(AVal.int .i64 x1), (AVal.int .i64 x2), (AVal.int .i64 x3), (AVal.int .i64 x4)])] h =
  (bif (decide ((x0 : Int) < 1)) then
    (Tr.ret ([(AVal.agg [(AVal.int .i64 1), (AVal.int .i64 1), (AVal.sl true 5 []), (AVal.int .i64 x1), (AVal.int .i64 x2), (AVal.int .i64 x3), (AVal.int .i64 x4)])], h))
  else
    (bif (decide ((x0 : Int) > 2147483647)) then
      (Tr.ret ([(AVal.agg [(AVal.int .i64 2147483647), (AVal.int .i64 2147483647), (AVal.sl true 5 []), (AVal.int .i64 x1), (AVal.int .i64 x2), (AVal.int .i64 x3), (AVal.int .i64 x4)])], h))
    else
      (Tr.ret ([(AVal.agg [(AVal.int .i64 x0), (AVal.int .i64 x0), (AVal.sl true 5 []), (AVal.int .i64 x1), (AVal.int .i64 x2), (AVal.int .i64 x3), (AVal.int .i64 x4)])], h)))) := by kernel_rfl
/- f42 (strandline/strandlineref26.Index).Drop -/
noncomputable def P42_0 (d k : Nat) (x0 : Int) (x1 : Int) (l2 : List AVal) (x3 : Int) (x4 : Int) (x5 : Int) (f6 : Bool) (l7 : List AVal) (x8 : Int) (x9 : Int) (x10 : Int) (x11 : Int) (x12 : Int) (x13 : Int) (l14 : List AVal) (x15 : Int) (x16 : Int) (x17 : Int) (x18 : Int) (h : Heap) : Tr Res :=
  loopPt Cw d 42 [true, true, true, false, true, true] [] k ⟨[(1, (EV.one (SV.val (AVal.int .i64 x0)))), (2, (EV.one (SV.loc 2 0))), (4, (EV.one (SV.loc 4 0))), (6, (EV.one (SV.val (AVal.int .i64 x1)))), (7, (EV.one (SV.own (tokOf 7 0) 5 l2))), (8, (EV.one (SV.val (AVal.int .i64 x3))))], [(2, (Box.plain [(AVal.int .i64 x4), (AVal.int .i64 x5), (AVal.sl f6 5 l7), (AVal.int .i64 x8), (AVal.int .i64 x9), (AVal.int .i64 x10), (AVal.int .i64 x11)])), (4, (Box.plain [(AVal.int .i64 x12), (AVal.int .i64 x13), (AVal.sl true 5 l14), (AVal.int .i64 x15), (AVal.int .i64 x16), (AVal.int .i64 x17), (AVal.int .i64 x18)]))]⟩ h
theorem P42_0_eq (d k : Nat) (x0 : Int) (x1 : Int) (l2 : List AVal) (x3 : Int) (x4 : Int) (x5 : Int) (f6 : Bool) (l7 : List AVal) (x8 : Int) (x9 : Int) (x10 : Int) (x11 : Int) (x12 : Int) (x13 : Int) (l14 : List AVal) (x15 : Int) (x16 : Int) (x17 : Int) (x18 : Int) (h : Heap) : P42_0 d (k + 1) x0 x1 l2 x3 x4 x5 f6 l7 x8 x9 x10 x11 x12 x13 l14 x15 x16 x17 x18 h =
  (bif (decide ((x3 : Int) < (l7.length : Int))) then
    (bif (decide ((0 : Int) ≤ x3) && decide ((x3 : Int) < (l7.length : Int))) then
      (optK ((AVal.cells (l7.getD (Int.toNat x3) AVal.undef))[0]?) fun w1 =>
        (intK .i64 w1 fun y2 =>
          (bif (decide ((y2 : Int) < x0)) then
            (P42_0 d k x0 (IntKind.i64.wrap (x1 + 1)) l2 (IntKind.i64.wrap (x3 + 1)) x4 x5 f6 l7 x8 x9 x10 x11 x12 x13 l14 x15 x16 x17 x18 h)
          else
            (bif (decide ((0 : Int) ≤ x3) && decide ((x3 : Int) < (l7.length : Int))) then
              (aggK 4 (l7.getD (Int.toNat x3) AVal.undef) fun cc3 =>
                (bif ((cc3.length == 4) && true) then
                  (bif decide ((l2.length + (1 : Nat)) * 32 ≤ 140737488355328) then
                    (P42_0 d k x0 x1 (l2 ++ [(AVal.agg cc3)]) (IntKind.i64.wrap (x3 + 1)) x4 x5 f6 l7 x8 x9 x10 x11 x12 x13 l14 x15 x16 x17 x18 h)
                  else
                    Tr.fail)
                else
                  Tr.fail))
            else
              Tr.fail))))
    else
      Tr.fail)
  else
    (Tr.ret ([(AVal.agg [(AVal.int .i64 (IntKind.i64.wrap (x4 + x1))), (AVal.int .i64 x5), (AVal.sl false 5 l2), (AVal.int .i64 x8), (AVal.int .i64 x9), (AVal.int .i64 x10), (AVal.int .i64 x11)]), (AVal.int .i64 x1)], h))) := by kernel_rfl
theorem F42_eq (d : Nat) (x0 : Int) (x1 : Int) (f2 : Bool) (l3 : List AVal) (x4 : Int) (x5 : Int) (x6 : Int) (x7 : Int) (x8 : Int) (h : Heap) : evFn Cw (d + 1) 42 [(AVal.agg [(AVal.int .i64 x0), (AVal.int .i64 x1), (AVal.sl f2 5 l3), (AVal.int .i64 x4), (AVal.int .i64 x5), (AVal.int .i64 x6), (AVal.int .i64 x7)]), (AVal.int .i64 x8)] h =
  (P42_0 d rounds x8 0 [] 0 x0 x1 f2 l3 x4 x5 x6 x7 0 0 [] 0 0 0 0 h) := by kernel_rfl
/- f43 (*strandline/index.Index).Drop -/
theorem F43nil_eq (d : Nat) (x0 : Int) (h : Heap) : evFn Cw (d + 1) 43 [AVal.nilp, (AVal.int .i64 x0)] h =
  (Tr.ret ([(AVal.int .i64 0)], h)) := by kernel_rfl
noncomputable def P43_0 (d k : Nat) (i0 : Nat) (x1 : Int) (l2 : List AVal) (x3 : Int) (x4 : Int) (h : Heap) : Tr Res :=
  loopPt Cw d 43 [true, true, true, false, true, true] [] k ⟨[(0, (EV.one (SV.val (AVal.obj i0 0)))), (5, (EV.one (SV.val (AVal.int .i64 x1)))), (29, (EV.one (SV.val (AVal.sl false 4 l2)))), (30, (EV.one (SV.val (AVal.int .i64 x3)))), (31, (EV.one (SV.val (AVal.int .i64 x4))))], []⟩ h
theorem P43_0_eq (d k : Nat) (i0 : Nat) (x1 : Int) (l2 : List AVal) (x3 : Int) (x4 : Int) (h : Heap) : P43_0 d (k + 1) i0 x1 l2 x3 x4 h =
  (bif (decide ((x4 : Int) < x3)) then
    (bif (decide ((0 : Int) ≤ x4) && decide ((x4 : Int) < (l2.length : Int))) then
      (aggK 3 (l2.getD (Int.toNat x4) AVal.undef) fun cc1 =>
        (bif ((cc1.length == 3) && true) then
          (bif decide (0 + 2 ≤ cc1.length) then
            (optK (Heap.cell? h i0 2) fun z2 =>
              (bif (plainOk Cw.P 67 (AVal.agg ((cc1.drop 0).take 2))) then
                (delW 67 (HCell.toA z2) (AVal.agg ((cc1.drop 0).take 2)) h fun h3 =>
                  (P43_0 d k i0 x1 l2 x3 (IntKind.i64.wrap (x4 + 1)) h3))
              else
                Tr.fail))
          else
            Tr.fail)
        else
          Tr.fail))
    else
      Tr.fail)
  else
    (optK (Heap.cell? h i0 0) fun z4 =>
      (intK .i64 (HCell.toA z4) fun y5 =>
        (optK (Heap.cell? h i0 0) fun _ =>
          (optK (Heap.cell? (Heap.setCell h i0 0 (HCell.val (AVal.int .i64 (IntKind.i64.wrap (y5 + x1))))) i0 1) fun z6 =>
            (slK 4 (HCell.toA z6) fun _ es7 =>
              (bif ((decide ((0 : Int) ≤ x1) && decide ((x1 : Int) ≤ (es7.length : Int))) && decide (((es7.length : Int) : Int) ≤ (es7.length : Int))) then
                (bif decide (((0 : Nat) + (Go.Weave.part x1 (es7.length : Int) es7).length) * 24 ≤ 140737488355328) then
                  (optK (Heap.cell? (Heap.setCell h i0 0 (HCell.val (AVal.int .i64 (IntKind.i64.wrap (y5 + x1))))) i0 1) fun _ =>
                    (Tr.ret ([(AVal.int .i64 x1)], (Heap.setCell (Heap.setCell h i0 0 (HCell.val (AVal.int .i64 (IntKind.i64.wrap (y5 + x1))))) i0 1 (HCell.own 4 ([] ++ (Go.Weave.part x1 (es7.length : Int) es7)))))))
                else
                  Tr.fail)
              else
                Tr.fail))))))) := by kernel_rfl
theorem F43_eq (d : Nat) (i0 : Nat) (x1 : Int) (h : Heap) : evFn Cw (d + 1) 43 [(AVal.obj i0 0), (AVal.int .i64 x1)] h =
  (Tr.anyL [
    (optK (Heap.cell? h i0 0) fun z1 =>
      (intK .i64 (HCell.toA z1) fun y2 =>
        (Tr.anyL [
          (runK (evFn Cw d 53 [(AVal.obj i0 0)] h) fun r3 h3 =>
            (consK r3 fun w4 ws5 =>
              (intK .i64 w4 fun y6 =>
                (nilK ws5
                  (optK (Heap.cell? h3 i0 0) fun z7 =>
                    (intK .i64 (HCell.toA z7) fun y8 =>
                      (optK (Heap.cell? h3 i0 1) fun z9 =>
                        (slK 4 (HCell.toA z9) fun _ es10 =>
                          (bif (decide ((0 : Int) ≤ (IntKind.i64.wrap ((if ((if (y6 : Int) < x1 then y6 else x1) : Int) > y2 then (if (y6 : Int) < x1 then y6 else x1) else y2) - y8))) && decide (((IntKind.i64.wrap ((if ((if (y6 : Int) < x1 then y6 else x1) : Int) > y2 then (if (y6 : Int) < x1 then y6 else x1) else y2) - y8)) : Int) ≤ (es10.length : Int))) then
                            (P43_0 d rounds i0 (IntKind.i64.wrap ((if ((if (y6 : Int) < x1 then y6 else x1) : Int) > y2 then (if (y6 : Int) < x1 then y6 else x1) else y2) - y8)) (Go.Weave.part 0 (IntKind.i64.wrap ((if ((if (y6 : Int) < x1 then y6 else x1) : Int) > y2 then (if (y6 : Int) < x1 then y6 else x1) else y2) - y8)) es10) ((Go.Weave.part 0 (IntKind.i64.wrap ((if ((if (y6 : Int) < x1 then y6 else x1) : Int) > y2 then (if (y6 : Int) < x1 then y6 else x1) else y2) - y8)) es10).length : Int) 0 h3)
                          else
                            Tr.fail))))))))),
          (optK (Heap.cell? h i0 0) fun z3 =>
            (intK .i64 (HCell.toA z3) fun y4 =>
              (runK (evFn Cw d 53 [(AVal.obj i0 0)] h) fun r5 h5 =>
                (consK r5 fun w6 ws7 =>
                  (intK .i64 w6 fun y8 =>
                    (nilK ws7
                      (optK (Heap.cell? h5 i0 1) fun z9 =>
                        (slK 4 (HCell.toA z9) fun _ es10 =>
                          (bif (decide ((0 : Int) ≤ (IntKind.i64.wrap ((if ((if (y8 : Int) < x1 then y8 else x1) : Int) > y2 then (if (y8 : Int) < x1 then y8 else x1) else y2) - y4))) && decide (((IntKind.i64.wrap ((if ((if (y8 : Int) < x1 then y8 else x1) : Int) > y2 then (if (y8 : Int) < x1 then y8 else x1) else y2) - y4)) : Int) ≤ (es10.length : Int))) then
                            (P43_0 d rounds i0 (IntKind.i64.wrap ((if ((if (y8 : Int) < x1 then y8 else x1) : Int) > y2 then (if (y8 : Int) < x1 then y8 else x1) else y2) - y4)) (Go.Weave.part 0 (IntKind.i64.wrap ((if ((if (y8 : Int) < x1 then y8 else x1) : Int) > y2 then (if (y8 : Int) < x1 then y8 else x1) else y2) - y4)) es10) ((Go.Weave.part 0 (IntKind.i64.wrap ((if ((if (y8 : Int) < x1 then y8 else x1) : Int) > y2 then (if (y8 : Int) < x1 then y8 else x1) else y2) - y4)) es10).length : Int) 0 h5)
                          else
                            Tr.fail)))))))))]))),
    (runK (evFn Cw d 53 [(AVal.obj i0 0)] h) fun r1 h1 =>
      (consK r1 fun w2 ws3 =>
        (intK .i64 w2 fun y4 =>
          (nilK ws3
            (Tr.anyL [
              (optK (Heap.cell? h1 i0 0) fun z5 =>
                (intK .i64 (HCell.toA z5) fun y6 =>
                  (optK (Heap.cell? h1 i0 0) fun z7 =>
                    (intK .i64 (HCell.toA z7) fun y8 =>
                      (optK (Heap.cell? h1 i0 1) fun z9 =>
                        (slK 4 (HCell.toA z9) fun _ es10 =>
                          (bif (decide ((0 : Int) ≤ (IntKind.i64.wrap ((if ((if (y4 : Int) < x1 then y4 else x1) : Int) > y6 then (if (y4 : Int) < x1 then y4 else x1) else y6) - y8))) && decide (((IntKind.i64.wrap ((if ((if (y4 : Int) < x1 then y4 else x1) : Int) > y6 then (if (y4 : Int) < x1 then y4 else x1) else y6) - y8)) : Int) ≤ (es10.length : Int))) then
                            (P43_0 d rounds i0 (IntKind.i64.wrap ((if ((if (y4 : Int) < x1 then y4 else x1) : Int) > y6 then (if (y4 : Int) < x1 then y4 else x1) else y6) - y8)) (Go.Weave.part 0 (IntKind.i64.wrap ((if ((if (y4 : Int) < x1 then y4 else x1) : Int) > y6 then (if (y4 : Int) < x1 then y4 else x1) else y6) - y8)) es10) ((Go.Weave.part 0 (IntKind.i64.wrap ((if ((if (y4 : Int) < x1 then y4 else x1) : Int) > y6 then (if (y4 : Int) < x1 then y4 else x1) else y6) - y8)) es10).length : Int) 0 h1)
                          else
                            Tr.fail))))))),
              (optK (Heap.cell? h1 i0 0) fun z5 =>
                (intK .i64 (HCell.toA z5) fun y6 =>
                  (optK (Heap.cell? h1 i0 0) fun z7 =>
                    (intK .i64 (HCell.toA z7) fun y8 =>
                      (optK (Heap.cell? h1 i0 1) fun z9 =>
                        (slK 4 (HCell.toA z9) fun _ es10 =>
                          (bif (decide ((0 : Int) ≤ (IntKind.i64.wrap ((if ((if (y4 : Int) < x1 then y4 else x1) : Int) > y8 then (if (y4 : Int) < x1 then y4 else x1) else y8) - y6))) && decide (((IntKind.i64.wrap ((if ((if (y4 : Int) < x1 then y4 else x1) : Int) > y8 then (if (y4 : Int) < x1 then y4 else x1) else y8) - y6)) : Int) ≤ (es10.length : Int))) then
                            (P43_0 d rounds i0 (IntKind.i64.wrap ((if ((if (y4 : Int) < x1 then y4 else x1) : Int) > y8 then (if (y4 : Int) < x1 then y4 else x1) else y8) - y6)) (Go.Weave.part 0 (IntKind.i64.wrap ((if ((if (y4 : Int) < x1 then y4 else x1) : Int) > y8 then (if (y4 : Int) < x1 then y4 else x1) else y8) - y6)) es10) ((Go.Weave.part 0 (IntKind.i64.wrap ((if ((if (y4 : Int) < x1 then y4 else x1) : Int) > y8 then (if (y4 : Int) < x1 then y4 else x1) else y8) - y6)) es10).length : Int) 0 h1)
                          else
                            Tr.fail)))))))]))))),
    (optK (Heap.cell? h i0 0) fun z1 =>
      (intK .i64 (HCell.toA z1) fun y2 =>
        (Tr.anyL [
          (optK (Heap.cell? h i0 0) fun z3 =>
            (intK .i64 (HCell.toA z3) fun y4 =>
              (runK (evFn Cw d 53 [(AVal.obj i0 0)] h) fun r5 h5 =>
                (consK r5 fun w6 ws7 =>
                  (intK .i64 w6 fun y8 =>
                    (nilK ws7
                      (optK (Heap.cell? h5 i0 1) fun z9 =>
                        (slK 4 (HCell.toA z9) fun _ es10 =>
                          (bif (decide ((0 : Int) ≤ (IntKind.i64.wrap ((if ((if (y8 : Int) < x1 then y8 else x1) : Int) > y4 then (if (y8 : Int) < x1 then y8 else x1) else y4) - y2))) && decide (((IntKind.i64.wrap ((if ((if (y8 : Int) < x1 then y8 else x1) : Int) > y4 then (if (y8 : Int) < x1 then y8 else x1) else y4) - y2)) : Int) ≤ (es10.length : Int))) then
                            (P43_0 d rounds i0 (IntKind.i64.wrap ((if ((if (y8 : Int) < x1 then y8 else x1) : Int) > y4 then (if (y8 : Int) < x1 then y8 else x1) else y4) - y2)) (Go.Weave.part 0 (IntKind.i64.wrap ((if ((if (y8 : Int) < x1 then y8 else x1) : Int) > y4 then (if (y8 : Int) < x1 then y8 else x1) else y4) - y2)) es10) ((Go.Weave.part 0 (IntKind.i64.wrap ((if ((if (y8 : Int) < x1 then y8 else x1) : Int) > y4 then (if (y8 : Int) < x1 then y8 else x1) else y4) - y2)) es10).length : Int) 0 h5)
                          else
                            Tr.fail))))))))),
          (runK (evFn Cw d 53 [(AVal.obj i0 0)] h) fun r3 h3 =>
            (consK r3 fun w4 ws5 =>
              (intK .i64 w4 fun y6 =>
                (nilK ws5
                  (optK (Heap.cell? h3 i0 0) fun z7 =>
                    (intK .i64 (HCell.toA z7) fun y8 =>
                      (optK (Heap.cell? h3 i0 1) fun z9 =>
                        (slK 4 (HCell.toA z9) fun _ es10 =>
                          (bif (decide ((0 : Int) ≤ (IntKind.i64.wrap ((if ((if (y6 : Int) < x1 then y6 else x1) : Int) > y8 then (if (y6 : Int) < x1 then y6 else x1) else y8) - y2))) && decide (((IntKind.i64.wrap ((if ((if (y6 : Int) < x1 then y6 else x1) : Int) > y8 then (if (y6 : Int) < x1 then y6 else x1) else y8) - y2)) : Int) ≤ (es10.length : Int))) then
                            (P43_0 d rounds i0 (IntKind.i64.wrap ((if ((if (y6 : Int) < x1 then y6 else x1) : Int) > y8 then (if (y6 : Int) < x1 then y6 else x1) else y8) - y2)) (Go.Weave.part 0 (IntKind.i64.wrap ((if ((if (y6 : Int) < x1 then y6 else x1) : Int) > y8 then (if (y6 : Int) < x1 then y6 else x1) else y8) - y2)) es10) ((Go.Weave.part 0 (IntKind.i64.wrap ((if ((if (y6 : Int) < x1 then y6 else x1) : Int) > y8 then (if (y6 : Int) < x1 then y6 else x1) else y8) - y2)) es10).length : Int) 0 h3)
                          else
                            Tr.fail)))))))))])))]) := by kernel_rfl
/- f48 (strandline/strandlineref26.Index).At -/
noncomputable def P48_0 (d k : Nat) (x0 : Int) (x1 : Int) (x2 : Int) (f3 : Bool) (l4 : List AVal) (x5 : Int) (x6 : Int) (x7 : Int) (x8 : Int) (x9 : Int) (x10 : Int) (h : Heap) : Tr Res :=
  loopPt Cw d 48 [true, false, true, true] [] k ⟨[(2, (EV.one (SV.loc 2 0))), (3, (EV.one (SV.loc 3 0))), (5, (EV.one (SV.val (AVal.int .i64 x0))))], [(2, (Box.plain [(AVal.int .i64 x1), (AVal.int .i64 x2), (AVal.sl f3 5 l4), (AVal.int .i64 x5), (AVal.int .i64 x6), (AVal.int .i64 x7), (AVal.int .i64 x8)])), (3, (Box.plain [(AVal.int .i64 x9), (AVal.int .i64 x10)]))]⟩ h
theorem P48_0_eq (d k : Nat) (x0 : Int) (x1 : Int) (x2 : Int) (f3 : Bool) (l4 : List AVal) (x5 : Int) (x6 : Int) (x7 : Int) (x8 : Int) (x9 : Int) (x10 : Int) (h : Heap) : P48_0 d (k + 1) x0 x1 x2 f3 l4 x5 x6 x7 x8 x9 x10 h =
  (bif (decide ((x0 : Int) < (l4.length : Int))) then
    (bif (decide ((0 : Int) ≤ x0) && decide ((x0 : Int) < (l4.length : Int))) then
      (bif decide (1 + 2 ≤ (AVal.cells (l4.getD (Int.toNat x0) AVal.undef)).length) then
        (bif ((((AVal.cells (l4.getD (Int.toNat x0) AVal.undef)).drop 1).take 2).length == 2) then
          (bif ((plainOk Cw.P 67 (AVal.agg (((AVal.cells (l4.getD (Int.toNat x0) AVal.undef)).drop 1).take 2))) && true) then
            (bif (eqCells (((AVal.cells (l4.getD (Int.toNat x0) AVal.undef)).drop 1).take 2) [(AVal.int .i64 x9), (AVal.int .i64 x10)]) then
              (bif (decide ((0 : Int) ≤ x0) && decide ((x0 : Int) < (l4.length : Int))) then
                (optK ((AVal.cells (l4.getD (Int.toNat x0) AVal.undef))[0]?) fun w1 =>
                  (intK .i64 w1 fun y2 =>
                    (Tr.ret ([(AVal.int .i64 y2)], h))))
              else
                Tr.fail)
            else
              (P48_0 d k (IntKind.i64.wrap (x0 + 1)) x1 x2 f3 l4 x5 x6 x7 x8 x9 x10 h))
          else
            Tr.fail)
        else
          Tr.fail)
      else
        Tr.fail)
    else
      Tr.fail)
  else
    (Tr.ret ([(AVal.int .i64 0)], h))) := by kernel_rfl
theorem F48_eq (d : Nat) (x0 : Int) (x1 : Int) (f2 : Bool) (l3 : List AVal) (x4 : Int) (x5 : Int) (x6 : Int) (x7 : Int) (x8 : Int) (x9 : Int) (h : Heap) : evFn Cw (d + 1) 48 [(AVal.agg [(AVal.int .i64 x0), (AVal.int .i64 x1), (AVal.sl f2 5 l3), (AVal.int .i64 x4), (AVal.int .i64 x5), (AVal.int .i64 x6), (AVal.int .i64 x7)]), (AVal.agg [(AVal.int .i64 x8), (AVal.int .i64 x9)])] h =
  (P48_0 d rounds 0 x0 x1 f2 l3 x4 x5 x6 x7 x8 x9 h) := by kernel_rfl
/- f44 (strandline/strandlineref26.Index).Add -/
noncomputable def P44_0 (d : Nat) (x0 : Int) (x1 : Int) (x2 : Int) (l3 : List AVal) (x4 : Int) (x5 : Int) (x6 : Int) (x7 : Int) (x8 : Int) (x9 : Int) (l10 : List AVal) (x11 : Int) (x12 : Int) (x13 : Int) (x14 : Int) (h : Heap) : Tr Res :=
  heldPt Cw d 44 [true, true, true, true] [] ⟨[(1, (EV.one (SV.val (AVal.int .i64 x0)))), (3, (EV.one (SV.loc 3 0))), (6, (EV.one (SV.loc 6 0)))], [(3, (Box.plain [(AVal.int .i64 x1), (AVal.int .i64 x2), (AVal.sl false 5 l3), (AVal.int .i64 x4), (AVal.int .i64 x5), (AVal.int .i64 x6), (AVal.int .i64 x7)])), (6, (Box.plain [(AVal.int .i64 x8), (AVal.int .i64 x9), (AVal.sl true 5 l10), (AVal.int .i64 x11), (AVal.int .i64 x12), (AVal.int .i64 x13), (AVal.int .i64 x14)]))]⟩ h
theorem P44_0_eq (d : Nat) (x0 : Int) (x1 : Int) (x2 : Int) (l3 : List AVal) (x4 : Int) (x5 : Int) (x6 : Int) (x7 : Int) (x8 : Int) (x9 : Int) (l10 : List AVal) (x11 : Int) (x12 : Int) (x13 : Int) (x14 : Int) (h : Heap) : P44_0 d x0 x1 x2 l3 x4 x5 x6 x7 x8 x9 l10 x11 x12 x13 x14 h =
  (bif (decide ((0 : Int) ≤ x0) && decide ((x0 : Int) < 4)) then
    (bif decide ((3 + ((Int.toNat x0) * 1)) + 1 ≤ (7 : Nat)) then
      (optK (([(AVal.int .i64 x1), (AVal.int .i64 x2), (AVal.sl false 5 l3), (AVal.int .i64 x4), (AVal.int .i64 x5), (AVal.int .i64 x6), (AVal.int .i64 x7)].set (3 + ((Int.toNat x0) * 1)) (AVal.int .i64 x2))[1]?) fun w1 =>
        (intK .i64 w1 fun y2 =>
          (bif decide (1 + 1 ≤ ([(AVal.int .i64 x1), (AVal.int .i64 x2), (AVal.sl false 5 l3), (AVal.int .i64 x4), (AVal.int .i64 x5), (AVal.int .i64 x6), (AVal.int .i64 x7)].set (3 + ((Int.toNat x0) * 1)) (AVal.int .i64 x2)).length) then
            (bif decide (0 + 7 ≤ (([(AVal.int .i64 x1), (AVal.int .i64 x2), (AVal.sl false 5 l3), (AVal.int .i64 x4), (AVal.int .i64 x5), (AVal.int .i64 x6), (AVal.int .i64 x7)].set (3 + ((Int.toNat x0) * 1)) (AVal.int .i64 x2)).set 1 (AVal.int .i64 (IntKind.i64.wrap (y2 + 1)))).length) then
              (Tr.anyL [
                (optK ((([(AVal.int .i64 x1), (AVal.int .i64 x2), (AVal.sl false 5 l3), (AVal.int .i64 x4), (AVal.int .i64 x5), (AVal.int .i64 x6), (AVal.int .i64 x7)].set (3 + ((Int.toNat x0) * 1)) (AVal.int .i64 x2)).set 1 (AVal.int .i64 (IntKind.i64.wrap (y2 + 1))))[1]?) fun w3 =>
                  (intK .i64 w3 fun y4 =>
                    (bif (((((([(AVal.int .i64 x1), (AVal.int .i64 x2), (AVal.sl false 5 l3), (AVal.int .i64 x4), (AVal.int .i64 x5), (AVal.int .i64 x6), (AVal.int .i64 x7)].set (3 + ((Int.toNat x0) * 1)) (AVal.int .i64 x2)).set 1 (AVal.int .i64 (IntKind.i64.wrap (y2 + 1)))).drop 0).take 7).length == 7) && true) then
                      (bif decide (0 + 7 ≤ (((([(AVal.int .i64 x1), (AVal.int .i64 x2), (AVal.sl false 5 l3), (AVal.int .i64 x4), (AVal.int .i64 x5), (AVal.int .i64 x6), (AVal.int .i64 x7)].set (3 + ((Int.toNat x0) * 1)) (AVal.int .i64 x2)).set 1 (AVal.int .i64 (IntKind.i64.wrap (y2 + 1)))).drop 0).take 7).length) then
                        (Tr.ret ([(AVal.agg (((((([(AVal.int .i64 x1), (AVal.int .i64 x2), (AVal.sl false 5 l3), (AVal.int .i64 x4), (AVal.int .i64 x5), (AVal.int .i64 x6), (AVal.int .i64 x7)].set (3 + ((Int.toNat x0) * 1)) (AVal.int .i64 x2)).set 1 (AVal.int .i64 (IntKind.i64.wrap (y2 + 1)))).drop 0).take 7).drop 0).take 7)), (AVal.int .i64 (IntKind.i64.wrap (y4 - 1)))], h))
                      else
                        Tr.fail)
                    else
                      Tr.fail))),
                (bif (((((([(AVal.int .i64 x1), (AVal.int .i64 x2), (AVal.sl false 5 l3), (AVal.int .i64 x4), (AVal.int .i64 x5), (AVal.int .i64 x6), (AVal.int .i64 x7)].set (3 + ((Int.toNat x0) * 1)) (AVal.int .i64 x2)).set 1 (AVal.int .i64 (IntKind.i64.wrap (y2 + 1)))).drop 0).take 7).length == 7) && true) then
                  (optK ((([(AVal.int .i64 x1), (AVal.int .i64 x2), (AVal.sl false 5 l3), (AVal.int .i64 x4), (AVal.int .i64 x5), (AVal.int .i64 x6), (AVal.int .i64 x7)].set (3 + ((Int.toNat x0) * 1)) (AVal.int .i64 x2)).set 1 (AVal.int .i64 (IntKind.i64.wrap (y2 + 1))))[1]?) fun w3 =>
                    (intK .i64 w3 fun y4 =>
                      (bif decide (0 + 7 ≤ (((([(AVal.int .i64 x1), (AVal.int .i64 x2), (AVal.sl false 5 l3), (AVal.int .i64 x4), (AVal.int .i64 x5), (AVal.int .i64 x6), (AVal.int .i64 x7)].set (3 + ((Int.toNat x0) * 1)) (AVal.int .i64 x2)).set 1 (AVal.int .i64 (IntKind.i64.wrap (y2 + 1)))).drop 0).take 7).length) then
                        (Tr.ret ([(AVal.agg (((((([(AVal.int .i64 x1), (AVal.int .i64 x2), (AVal.sl false 5 l3), (AVal.int .i64 x4), (AVal.int .i64 x5), (AVal.int .i64 x6), (AVal.int .i64 x7)].set (3 + ((Int.toNat x0) * 1)) (AVal.int .i64 x2)).set 1 (AVal.int .i64 (IntKind.i64.wrap (y2 + 1)))).drop 0).take 7).drop 0).take 7)), (AVal.int .i64 (IntKind.i64.wrap (y4 - 1)))], h))
                      else
                        Tr.fail)))
                else
                  Tr.fail)])
            else
              Tr.fail)
          else
            Tr.fail)))
    else
      Tr.fail)
  else
    Tr.fail) := (heldPt_eq _ _ _ _ _ _ _).trans (by kernel_rfl)
theorem F44_eq (d : Nat) (x0 : Int) (x1 : Int) (f2 : Bool) (l3 : List AVal) (x4 : Int) (x5 : Int) (x6 : Int) (x7 : Int) (x8 : Int) (x9 : Int) (x10 : Int) (h : Heap) : evFn Cw (d + 1) 44 [(AVal.agg [(AVal.int .i64 x0), (AVal.int .i64 x1), (AVal.sl f2 5 l3), (AVal.int .i64 x4), (AVal.int .i64 x5), (AVal.int .i64 x6), (AVal.int .i64 x7)]), (AVal.int .i64 x8), (AVal.agg [(AVal.int .i64 x9), (AVal.int .i64 x10)])] h =
  (bif (decide ((x8 : Int) < 0)) then
    (Tr.ret ([(AVal.agg [(AVal.int .i64 x0), (AVal.int .i64 x1), (AVal.sl f2 5 l3), (AVal.int .i64 x4), (AVal.int .i64 x5), (AVal.int .i64 x6), (AVal.int .i64 x7)]), (AVal.int .i64 0)], h))
  else
    (bif (decide ((x8 : Int) > 3)) then
      (Tr.ret ([(AVal.agg [(AVal.int .i64 x0), (AVal.int .i64 x1), (AVal.sl f2 5 l3), (AVal.int .i64 x4), (AVal.int .i64 x5), (AVal.int .i64 x6), (AVal.int .i64 x7)]), (AVal.int .i64 0)], h))
    else
      (bif (decide ((x1 : Int) > 2147483647)) then
        (Tr.ret ([(AVal.agg [(AVal.int .i64 x0), (AVal.int .i64 x1), (AVal.sl f2 5 l3), (AVal.int .i64 x4), (AVal.int .i64 x5), (AVal.int .i64 x6), (AVal.int .i64 x7)]), (AVal.int .i64 0)], h))
      else
        (runK (evFn Cw d 48 [(AVal.agg [(AVal.int .i64 x0), (AVal.int .i64 x1), (AVal.sl f2 5 l3), (AVal.int .i64 x4), (AVal.int .i64 x5), (AVal.int .i64 x6), (AVal.int .i64 x7)]), (AVal.agg [(AVal.int .i64 x9), (AVal.int .i64 x10)])] h) fun r1 h1 =>
          (consK r1 fun w2 ws3 =>
            (intK .i64 w2 fun y4 =>
              (nilK ws3
                (bif (decide ((y4 : Int) > 0)) then
                  (Tr.ret ([(AVal.agg [(AVal.int .i64 x0), (AVal.int .i64 x1), (AVal.sl f2 5 l3), (AVal.int .i64 x4), (AVal.int .i64 x5), (AVal.int .i64 x6), (AVal.int .i64 x7)]), (AVal.int .i64 0)], h1))
                else
                  (bif decide (((0 : Nat) + l3.length) * 32 ≤ 140737488355328) then
                    (bif (decide ((0 : Int) ≤ x8) && decide ((x8 : Int) < 4)) then
                      (Tr.anyL [
                        (sameL 2
                          (optK ([(AVal.int .i64 x0), (AVal.int .i64 x1), (AVal.sl f2 5 l3), (AVal.int .i64 x4), (AVal.int .i64 x5), (AVal.int .i64 x6), (AVal.int .i64 x7)][(3 + ((Int.toNat x8) * 1))]?) fun w5 =>
                            (intK .i64 w5 fun y6 =>
                              (bif decide ((([] ++ l3).length + (1 : Nat)) * 32 ≤ 140737488355328) then
                                (P44_0 d x8 x0 x1 (([] ++ l3) ++ [(AVal.agg [(AVal.int .i64 x1), (AVal.int .i64 x9), (AVal.int .i64 x10), (AVal.int .i64 y6)])]) x4 x5 x6 x7 0 0 [] 0 0 0 0 h1)
                              else
                                Tr.fail)))),
                        (sameL 2
                          (optK ([(AVal.int .i64 x0), (AVal.int .i64 x1), (AVal.sl f2 5 l3), (AVal.int .i64 x4), (AVal.int .i64 x5), (AVal.int .i64 x6), (AVal.int .i64 x7)][(3 + ((Int.toNat x8) * 1))]?) fun w5 =>
                            (intK .i64 w5 fun y6 =>
                              (bif decide ((([] ++ l3).length + (1 : Nat)) * 32 ≤ 140737488355328) then
                                (P44_0 d x8 x0 x1 (([] ++ l3) ++ [(AVal.agg [(AVal.int .i64 x1), (AVal.int .i64 x9), (AVal.int .i64 x10), (AVal.int .i64 y6)])]) x4 x5 x6 x7 0 0 [] 0 0 0 0 h1)
                              else
                                Tr.fail)))),
                        (optK ([(AVal.int .i64 x0), (AVal.int .i64 x1), (AVal.sl f2 5 l3), (AVal.int .i64 x4), (AVal.int .i64 x5), (AVal.int .i64 x6), (AVal.int .i64 x7)][(3 + ((Int.toNat x8) * 1))]?) fun w5 =>
                          (intK .i64 w5 fun y6 =>
                            (sameL 2
                              (bif decide ((([] ++ l3).length + (1 : Nat)) * 32 ≤ 140737488355328) then
                                (P44_0 d x8 x0 x1 (([] ++ l3) ++ [(AVal.agg [(AVal.int .i64 x1), (AVal.int .i64 x9), (AVal.int .i64 x10), (AVal.int .i64 y6)])]) x4 x5 x6 x7 0 0 [] 0 0 0 0 h1)
                              else
                                Tr.fail))))])
                    else
                      Tr.fail)
                  else
                    Tr.fail))))))))) := by kernel_rfl
/- f52 (*strandline/index.Index).First -/
theorem F52nil_eq (d : Nat) (h : Heap) : evFn Cw (d + 1) 52 [AVal.nilp] h =
  (Tr.ret ([(AVal.int .i64 0)], h)) := by kernel_rfl
theorem F52_eq (d : Nat) (i0 : Nat) (h : Heap) : evFn Cw (d + 1) 52 [(AVal.obj i0 0)] h =
  (optK (Heap.cell? h i0 0) fun z1 =>
    (intK .i64 (HCell.toA z1) fun y2 =>
      (Tr.ret ([(AVal.int .i64 y2)], h)))) := by kernel_rfl
/- f54 (*strandline/index.Index).Heads -/
theorem F54nil_eq (d : Nat) (h : Heap) : evFn Cw (d + 1) 54 [AVal.nilp] h =
  (Tr.ret ([(AVal.agg [(AVal.int .i64 0), (AVal.int .i64 0), (AVal.int .i64 0), (AVal.int .i64 0)])], h)) := by kernel_rfl
theorem F54_eq (d : Nat) (i0 : Nat) (h : Heap) : evFn Cw (d + 1) 54 [(AVal.obj i0 0)] h =
  (optK (Heap.cells? h i0 3 4) fun cc1 =>
    (bif (cc1.length == 4) then
      (bif ((cc1.length == 4) && true) then (bif decide (0 + 4 ≤ cc1.length) then (Tr.ret ([(AVal.agg ((cc1.drop 0).take 4))], h)) else Tr.fail) else Tr.fail)
    else
      Tr.fail)) := by kernel_rfl
/- f68 (strandline/strandlineref26.Index).Find -/
noncomputable def P68_0 (d k : Nat) (x0 : Int) (x1 : Int) (x2 : Int) (x3 : Int) (f4 : Bool) (l5 : List AVal) (x6 : Int) (x7 : Int) (x8 : Int) (x9 : Int) (h : Heap) : Tr Res :=
  loopPt Cw d 68 [true, false, true, true] [] k ⟨[(1, (EV.one (SV.val (AVal.int .i64 x0)))), (2, (EV.one (SV.loc 2 0))), (5, (EV.one (SV.val (AVal.int .i64 x1))))], [(2, (Box.plain [(AVal.int .i64 x2), (AVal.int .i64 x3), (AVal.sl f4 5 l5), (AVal.int .i64 x6), (AVal.int .i64 x7), (AVal.int .i64 x8), (AVal.int .i64 x9)]))]⟩ h
theorem P68_0_eq (d k : Nat) (x0 : Int) (x1 : Int) (x2 : Int) (x3 : Int) (f4 : Bool) (l5 : List AVal) (x6 : Int) (x7 : Int) (x8 : Int) (x9 : Int) (h : Heap) : P68_0 d (k + 1) x0 x1 x2 x3 f4 l5 x6 x7 x8 x9 h =
  (bif (decide ((x1 : Int) < (l5.length : Int))) then
    (bif (decide ((0 : Int) ≤ x1) && decide ((x1 : Int) < (l5.length : Int))) then
      (optK ((AVal.cells (l5.getD (Int.toNat x1) AVal.undef))[0]?) fun w1 =>
        (intK .i64 w1 fun y2 =>
          (bif ((y2 : Int) == x0) then (Tr.ret ([(AVal.int .i64 x1)], h)) else (P68_0 d k x0 (IntKind.i64.wrap (x1 + 1)) x2 x3 f4 l5 x6 x7 x8 x9 h))))
    else
      Tr.fail)
  else
    (Tr.ret ([(AVal.int .i64 (-1))], h))) := by kernel_rfl
theorem F68_eq (d : Nat) (x0 : Int) (x1 : Int) (f2 : Bool) (l3 : List AVal) (x4 : Int) (x5 : Int) (x6 : Int) (x7 : Int) (x8 : Int) (h : Heap) : evFn Cw (d + 1) 68 [(AVal.agg [(AVal.int .i64 x0), (AVal.int .i64 x1), (AVal.sl f2 5 l3), (AVal.int .i64 x4), (AVal.int .i64 x5), (AVal.int .i64 x6), (AVal.int .i64 x7)]), (AVal.int .i64 x8)] h =
  (P68_0 d rounds x8 0 x0 x1 f2 l3 x4 x5 x6 x7 h) := by kernel_rfl
/- f49 (*strandline/index.Index).Place -/
theorem F49nil_eq (d : Nat) (x0 : Int) (h : Heap) : evFn Cw (d + 1) 49 [AVal.nilp, (AVal.int .i64 x0)] h =
  (runK (evFn Cw d 70 [AVal.nilp, (AVal.int .i64 x0)] h) fun r1 h1 =>
    (consK r1 fun w2 ws3 =>
      (aggK 3 w2 fun cc4 =>
        (consK ws3 fun w5 ws6 =>
          (boolK w5 fun bb7 =>
            (nilK ws6
              (bif ((cc4.length == 3) && true) then
                (bif decide (0 + 2 ≤ cc4.length) then
                  (bif ((((cc4.drop 0).take 2).length == 2) && true) then
                    (bif decide (0 + 2 ≤ ((cc4.drop 0).take 2).length) then (Tr.ret ([(AVal.agg ((((cc4.drop 0).take 2).drop 0).take 2)), (AVal.bool bb7)], h1)) else Tr.fail)
                  else
                    Tr.fail)
                else
                  Tr.fail)
              else
                Tr.fail))))))) := by kernel_rfl
theorem F49_eq (d : Nat) (i0 : Nat) (x1 : Int) (h : Heap) : evFn Cw (d + 1) 49 [(AVal.obj i0 0), (AVal.int .i64 x1)] h =
  (runK (evFn Cw d 70 [(AVal.obj i0 0), (AVal.int .i64 x1)] h) fun r1 h1 =>
    (consK r1 fun w2 ws3 =>
      (aggK 3 w2 fun cc4 =>
        (consK ws3 fun w5 ws6 =>
          (boolK w5 fun bb7 =>
            (nilK ws6
              (bif ((cc4.length == 3) && true) then
                (bif decide (0 + 2 ≤ cc4.length) then
                  (bif ((((cc4.drop 0).take 2).length == 2) && true) then
                    (bif decide (0 + 2 ≤ ((cc4.drop 0).take 2).length) then (Tr.ret ([(AVal.agg ((((cc4.drop 0).take 2).drop 0).take 2)), (AVal.bool bb7)], h1)) else Tr.fail)
                  else
                    Tr.fail)
                else
                  Tr.fail)
              else
                Tr.fail))))))) := by kernel_rfl
/- f69 (strandline/strandlineref26.Index).Chain -/
noncomputable def P69_0 (d k : Nat) (x0 : Int) (l1 : List AVal) (x2 : Int) (x3 : Int) (x4 : Int) (f5 : Bool) (l6 : List AVal) (x7 : Int) (x8 : Int) (x9 : Int) (x10 : Int) (h : Heap) : Tr Res :=
  loopPt Cw d 69 [true, true, false, true, true] [] k ⟨[(1, (EV.one (SV.val (AVal.int .i64 x0)))), (2, (EV.one (SV.loc 2 0))), (5, (EV.one (SV.own (tokOf 5 0) 0 l1))), (6, (EV.one (SV.val (AVal.int .i64 x2))))], [(2, (Box.plain [(AVal.int .i64 x3), (AVal.int .i64 x4), (AVal.sl f5 5 l6), (AVal.int .i64 x7), (AVal.int .i64 x8), (AVal.int .i64 x9), (AVal.int .i64 x10)]))]⟩ h
theorem P69_0_eq (d k : Nat) (x0 : Int) (l1 : List AVal) (x2 : Int) (x3 : Int) (x4 : Int) (f5 : Bool) (l6 : List AVal) (x7 : Int) (x8 : Int) (x9 : Int) (x10 : Int) (h : Heap) : P69_0 d (k + 1) x0 l1 x2 x3 x4 f5 l6 x7 x8 x9 x10 h =
  (bif (decide ((x2 : Int) ≥ 0)) then
    (bif decide ((l1.length + (1 : Nat)) * 8 ≤ 140737488355328) then
      (bif (decide ((0 : Int) ≤ x2) && decide ((x2 : Int) < (l6.length : Int))) then
        (optK ((AVal.cells (l6.getD (Int.toNat x2) AVal.undef))[3]?) fun w1 =>
          (intK .i64 w1 fun y2 =>
            (bif (decide ((y2 : Int) ≥ x0)) then
              (Tr.ret ([(AVal.sl false 0 (l1 ++ [(AVal.int .i64 x0)]))], h))
            else
              (bif (decide ((0 : Int) ≤ x2) && decide ((x2 : Int) < (l6.length : Int))) then
                (optK ((AVal.cells (l6.getD (Int.toNat x2) AVal.undef))[3]?) fun w3 =>
                  (intK .i64 w3 fun y4 =>
                    (runK (evFn Cw d 68 [(AVal.agg [(AVal.int .i64 x3), (AVal.int .i64 x4), (AVal.sl f5 5 l6), (AVal.int .i64 x7), (AVal.int .i64 x8), (AVal.int .i64 x9), (AVal.int .i64 x10)]), (AVal.int .i64 y4)] h) fun r5 h5 =>
                      (consK r5 fun w6 ws7 =>
                        (intK .i64 w6 fun y8 =>
                          (nilK ws7
                            (P69_0 d k y4 (l1 ++ [(AVal.int .i64 x0)]) y8 x3 x4 f5 l6 x7 x8 x9 x10 h5)))))))
              else
                Tr.fail))))
      else
        Tr.fail)
    else
      Tr.fail)
  else
    (Tr.ret ([(AVal.sl false 0 l1)], h))) := by kernel_rfl
theorem F69_eq (d : Nat) (x0 : Int) (x1 : Int) (f2 : Bool) (l3 : List AVal) (x4 : Int) (x5 : Int) (x6 : Int) (x7 : Int) (x8 : Int) (h : Heap) : evFn Cw (d + 1) 69 [(AVal.agg [(AVal.int .i64 x0), (AVal.int .i64 x1), (AVal.sl f2 5 l3), (AVal.int .i64 x4), (AVal.int .i64 x5), (AVal.int .i64 x6), (AVal.int .i64 x7)]), (AVal.int .i64 x8)] h =
  (runK (evFn Cw d 68 [(AVal.agg [(AVal.int .i64 x0), (AVal.int .i64 x1), (AVal.sl f2 5 l3), (AVal.int .i64 x4), (AVal.int .i64 x5), (AVal.int .i64 x6), (AVal.int .i64 x7)]), (AVal.int .i64 x8)] h) fun r1 h1 =>
    (consK r1 fun w2 ws3 =>
      (intK .i64 w2 fun y4 =>
        (nilK ws3
          (P69_0 d rounds x8 [] y4 x0 x1 f2 l3 x4 x5 x6 x7 h1))))) := by kernel_rfl
/- f47 (*strandline/index.Index).At -/
theorem F47nil_eq (d : Nat) (x0 : Int) (x1 : Int) (h : Heap) : evFn Cw (d + 1) 47 [AVal.nilp, (AVal.agg [(AVal.int .i64 x0), (AVal.int .i64 x1)])] h =
  (Tr.ret ([(AVal.int .i64 0), (AVal.bool false)], h)) := by kernel_rfl
theorem F47_eq (d : Nat) (i0 : Nat) (x1 : Int) (x2 : Int) (h : Heap) : evFn Cw (d + 1) 47 [(AVal.obj i0 0), (AVal.agg [(AVal.int .i64 x1), (AVal.int .i64 x2)])] h =
  (optK (Heap.cell? h i0 2) fun z1 =>
    (lookK 67 (AVal.int .i64 0) (HCell.toA z1) (AVal.agg [(AVal.int .i64 x1), (AVal.int .i64 x2)]) h fun w2 bb3 =>
      (intK .i64 w2 fun y4 =>
        (Tr.ret ([(AVal.int .i64 y4), (AVal.bool bb3)], h))))) := by kernel_rfl
/- f46 strandline/strandlinelaw26.same -/
noncomputable def P46_0 (d k : Nat) (i0 : Nat) (x1 : Int) (x2 : Int) (x3 : Int) (f4 : Bool) (l5 : List AVal) (x6 : Int) (x7 : Int) (x8 : Int) (x9 : Int) (h : Heap) : Tr Res :=
  loopPt Cw d 46 [true, true, false, true, true] [] k ⟨[(0, (EV.one (SV.val (AVal.obj i0 0)))), (3, (EV.one (SV.loc 3 0))), (5, (EV.one (SV.val (AVal.int .i64 x1))))], [(3, (Box.plain [(AVal.int .i64 x2), (AVal.int .i64 x3), (AVal.sl f4 5 l5), (AVal.int .i64 x6), (AVal.int .i64 x7), (AVal.int .i64 x8), (AVal.int .i64 x9)]))]⟩ h
noncomputable def P46_1 (d n0 k : Nat) (i0 : Nat) (x1 : Int) (x2 : Int) (x3 : Int) (l4 : List AVal) (l5 : List AVal) (x6 : Int) (x7 : Int) (x8 : Int) (f9 : Bool) (l10 : List AVal) (x11 : Int) (x12 : Int) (x13 : Int) (x14 : Int) (c15 : List AVal) (h : Heap) : Tr Res :=
  loopPt Cw d 46 [true, true, false, true, true, true, true, false, true, true, true, true, true, true, false, true, true] [n0] k ⟨[(0, (EV.one (SV.val (AVal.obj i0 0)))), (3, (EV.one (SV.loc 3 0))), (5, (EV.one (SV.val (AVal.int .i64 x1)))), (6, (EV.one (SV.val (AVal.int .i64 x2)))), (7, (EV.one (SV.loc 7 0))), (9, (EV.one (SV.val (AVal.int .i64 x3)))), (11, (EV.one (SV.own (tokOf 11 0) 0 l4))), (12, (EV.one (SV.own (tokOf 12 0) 0 l5))), (13, (EV.one (SV.val (AVal.int .i64 x6))))], [(3, (Box.plain [(AVal.int .i64 x7), (AVal.int .i64 x8), (AVal.sl f9 5 l10), (AVal.int .i64 x11), (AVal.int .i64 x12), (AVal.int .i64 x13), (AVal.int .i64 x14)])), (7, (Box.plain c15))]⟩ h
theorem P46_0_eq (d k : Nat) (i0 : Nat) (x1 : Int) (x2 : Int) (x3 : Int) (f4 : Bool) (l5 : List AVal) (x6 : Int) (x7 : Int) (x8 : Int) (x9 : Int) (h : Heap) : P46_0 d (k + 1) i0 x1 x2 x3 f4 l5 x6 x7 x8 x9 h =
  (bif (decide ((x1 : Int) ≤ x3)) then
    (runK (evFn Cw d 68 [(AVal.agg [(AVal.int .i64 x2), (AVal.int .i64 x3), (AVal.sl f4 5 l5), (AVal.int .i64 x6), (AVal.int .i64 x7), (AVal.int .i64 x8), (AVal.int .i64 x9)]), (AVal.int .i64 x1)] h) fun r1 h1 =>
      (consK r1 fun w2 ws3 =>
        (intK .i64 w2 fun y4 =>
          (nilK ws3
            (runK (evFn Cw d 49 [(AVal.obj i0 0), (AVal.int .i64 x1)] h1) fun r5 h5 =>
              (consK r5 fun w6 ws7 =>
                (aggK 2 w6 fun cc8 =>
                  (consK ws7 fun w9 ws10 =>
                    (boolK w9 fun bb11 =>
                      (nilK ws10
                        (bif ((cc8.length == 2) && true) then
                          (runK (evFn Cw d 50 [(AVal.obj i0 0), (AVal.int .i64 x1)] h5) fun r12 h12 =>
                            (consK r12 fun w13 ws14 =>
                              (intK .i64 w13 fun y15 =>
                                (consK ws14 fun w16 ws17 =>
                                  (boolK w16 fun bb18 =>
                                    (nilK ws17
                                      (runK (evFn Cw d 51 [(AVal.obj i0 0), (AVal.int .i64 x1)] h12) fun r19 h19 =>
                                        (consK r19 fun w20 ws21 =>
                                          (slOK 0 w20 fun es22 =>
                                            (nilK ws21
                                              (runK (evFn Cw d 69 [(AVal.agg [(AVal.int .i64 x2), (AVal.int .i64 x3), (AVal.sl f4 5 l5), (AVal.int .i64 x6), (AVal.int .i64 x7), (AVal.int .i64 x8), (AVal.int .i64 x9)]), (AVal.int .i64 x1)] h19) fun r23 h23 =>
                                                (consK r23 fun w24 ws25 =>
                                                  (slOK 0 w24 fun es26 =>
                                                    (nilK ws25
                                                      (bif (!(bb11 == (decide ((y4 : Int) ≥ 0)))) then
                                                        (Tr.ret ([(AVal.bool false)], h23))
                                                      else
                                                        (bif (!(bb18 == bb11)) then
                                                          (Tr.ret ([(AVal.bool false)], h23))
                                                        else
                                                          (bif (((es22.length : Int) : Int) != (es26.length : Int)) then
                                                            (Tr.ret ([(AVal.bool false)], h23))
                                                          else
                                                            (bif (decide (((es22.length : Int) : Int) > (l5.length : Int))) then
                                                              (Tr.ret ([(AVal.bool false)], h23))
                                                            else
                                                              (P46_1 d k rounds i0 x1 y4 y15 es22 es26 0 x2 x3 f4 l5 x6 x7 x8 x9 cc8 h23)))))))))))))))))))
                        else
                          Tr.fail)))))))))))
  else
    (Tr.ret ([(AVal.bool true)], h))) := by kernel_rfl
theorem P46_1_eq (d n0 k : Nat) (i0 : Nat) (x1 : Int) (x2 : Int) (x3 : Int) (l4 : List AVal) (l5 : List AVal) (x6 : Int) (x7 : Int) (x8 : Int) (f9 : Bool) (l10 : List AVal) (x11 : Int) (x12 : Int) (x13 : Int) (x14 : Int) (c15 : List AVal) (h : Heap) : P46_1 d n0 (k + 1) i0 x1 x2 x3 l4 l5 x6 x7 x8 f9 l10 x11 x12 x13 x14 c15 h =
  (bif (decide ((x6 : Int) < (l4.length : Int))) then
    (bif (decide ((0 : Int) ≤ x6) && decide ((x6 : Int) < (l4.length : Int))) then
      (intK .i64 (l4.getD (Int.toNat x6) AVal.undef) fun y1 =>
        (bif (decide ((0 : Int) ≤ x6) && decide ((x6 : Int) < (l5.length : Int))) then
          (intK .i64 (l5.getD (Int.toNat x6) AVal.undef) fun y2 =>
            (bif ((y1 : Int) != y2) then
              (Tr.ret ([(AVal.bool false)], h))
            else
              (bif (decide ((x6 : Int) > 0)) then
                (bif (decide ((0 : Int) ≤ x6) && decide ((x6 : Int) < (l4.length : Int))) then
                  (intK .i64 (l4.getD (Int.toNat x6) AVal.undef) fun y3 =>
                    (bif (decide ((0 : Int) ≤ (IntKind.i64.wrap (x6 - 1))) && decide (((IntKind.i64.wrap (x6 - 1)) : Int) < (l4.length : Int))) then
                      (intK .i64 (l4.getD (Int.toNat (IntKind.i64.wrap (x6 - 1))) AVal.undef) fun y4 =>
                        (bif (decide ((y3 : Int) ≥ y4)) then
                          (Tr.ret ([(AVal.bool false)], h))
                        else
                          (P46_1 d n0 k i0 x1 x2 x3 l4 l5 (IntKind.i64.wrap (x6 + 1)) x7 x8 f9 l10 x11 x12 x13 x14 c15 h)))
                    else
                      Tr.fail))
                else
                  Tr.fail)
              else
                (P46_1 d n0 k i0 x1 x2 x3 l4 l5 (IntKind.i64.wrap (x6 + 1)) x7 x8 f9 l10 x11 x12 x13 x14 c15 h))))
        else
          Tr.fail))
    else
      Tr.fail)
  else
    (bif (decide ((x2 : Int) < 0)) then
      (P46_0 d n0 i0 (IntKind.i64.wrap (x1 + 1)) x7 x8 f9 l10 x11 x12 x13 x14 h)
    else
      (bif decide (0 + 2 ≤ c15.length) then
        (runK (evFn Cw d 47 [(AVal.obj i0 0), (AVal.agg ((c15.drop 0).take 2))] h) fun r5 h5 =>
          (consK r5 fun w6 ws7 =>
            (intK .i64 w6 fun y8 =>
              (consK ws7 fun w9 ws10 =>
                (boolK w9 fun bb11 =>
                  (nilK ws10
                    (bif decide (0 + 2 ≤ c15.length) then
                      (bif (decide ((0 : Int) ≤ x2) && decide ((x2 : Int) < (l10.length : Int))) then
                        (bif decide (1 + 2 ≤ (AVal.cells (l10.getD (Int.toNat x2) AVal.undef)).length) then
                          (bif ((((AVal.cells (l10.getD (Int.toNat x2) AVal.undef)).drop 1).take 2).length == 2) then
                            (bif ((plainOk Cw.P 67 (AVal.agg ((c15.drop 0).take 2))) && (plainOk Cw.P 67 (AVal.agg (((AVal.cells (l10.getD (Int.toNat x2) AVal.undef)).drop 1).take 2)))) then
                              (bif (!(eqCells ((c15.drop 0).take 2) (((AVal.cells (l10.getD (Int.toNat x2) AVal.undef)).drop 1).take 2))) then
                                (Tr.ret ([(AVal.bool false)], h5))
                              else
                                (bif (decide ((0 : Int) ≤ x2) && decide ((x2 : Int) < (l10.length : Int))) then
                                  (optK ((AVal.cells (l10.getD (Int.toNat x2) AVal.undef))[3]?) fun w12 =>
                                    (intK .i64 w12 fun y13 =>
                                      (bif ((x3 : Int) != y13) then
                                        (Tr.ret ([(AVal.bool false)], h5))
                                      else
                                        (bif (!bb11) then
                                          (Tr.ret ([(AVal.bool false)], h5))
                                        else
                                          (bif ((y8 : Int) != x1) then (Tr.ret ([(AVal.bool false)], h5)) else (P46_0 d n0 i0 (IntKind.i64.wrap (x1 + 1)) x7 x8 f9 l10 x11 x12 x13 x14 h5))))))
                                else
                                  Tr.fail))
                            else
                              Tr.fail)
                          else
                            Tr.fail)
                        else
                          Tr.fail)
                      else
                        Tr.fail)
                    else
                      Tr.fail)))))))
      else
        Tr.fail))) := by kernel_rfl
theorem F46_eq (d : Nat) (i0 : Nat) (x1 : Int) (x2 : Int) (f3 : Bool) (l4 : List AVal) (x5 : Int) (x6 : Int) (x7 : Int) (x8 : Int) (h : Heap) : evFn Cw (d + 1) 46 [(AVal.obj i0 0), (AVal.agg [(AVal.int .i64 x1), (AVal.int .i64 x2), (AVal.sl f3 5 l4), (AVal.int .i64 x5), (AVal.int .i64 x6), (AVal.int .i64 x7), (AVal.int .i64 x8)])] h =
  (runK (evFn Cw d 52 [(AVal.obj i0 0)] h) fun r1 h1 =>
    (consK r1 fun w2 ws3 =>
      (intK .i64 w2 fun y4 =>
        (nilK ws3
          (bif ((y4 : Int) != x1) then
            (Tr.ret ([(AVal.bool false)], h1))
          else
            (runK (evFn Cw d 53 [(AVal.obj i0 0)] h1) fun r5 h5 =>
              (consK r5 fun w6 ws7 =>
                (intK .i64 w6 fun y8 =>
                  (nilK ws7
                    (bif ((y8 : Int) != x2) then
                      (Tr.ret ([(AVal.bool false)], h5))
                    else
                      (runK (evFn Cw d 54 [(AVal.obj i0 0)] h5) fun r9 h9 =>
                        (consK r9 fun w10 ws11 =>
                          (aggK 4 w10 fun cc12 =>
                            (nilK ws11
                              (bif ((arrOk Cw.P 4 3 (AVal.agg cc12)) && true) then
                                (bif (!(eqCells cc12 [(AVal.int .i64 x5), (AVal.int .i64 x6), (AVal.int .i64 x7), (AVal.int .i64 x8)])) then
                                  (Tr.ret ([(AVal.bool false)], h9))
                                else
                                  (P46_0 d rounds i0 (IntKind.i64.wrap (x1 - 1)) x1 x2 f3 l4 x5 x6 x7 x8 h9))
                              else
                                Tr.fail))))))))))))))) := by kernel_rfl
/- f11 strandline/strandlinelaw26.IndexPlays -/
noncomputable def P11_0 (d : Nat) (f0 : Bool) (l1 : List AVal) (v2 : AVal) (c3 : List AVal) (h : Heap) : Tr Res :=
  heldPt Cw d 11 [true, true, true] [] ⟨[(2, (EV.one (SV.val (AVal.sl f0 6 l1)))), (7, (EV.one (SV.val v2))), (8, (EV.one (SV.loc 8 0)))], [(8, (Box.plain c3))]⟩ h
noncomputable def P11_1 (d k : Nat) (f0 : Bool) (l1 : List AVal) (v2 : AVal) (x3 : Int) (c4 : List AVal) (h : Heap) : Tr Res :=
  loopPt Cw d 11 [true, true, true, false, true, true] [] k ⟨[(2, (EV.one (SV.val (AVal.sl f0 6 l1)))), (7, (EV.one (SV.val v2))), (8, (EV.one (SV.loc 8 0))), (9, (EV.one (SV.val (AVal.int .i64 x3))))], [(8, (Box.plain c4))]⟩ h
noncomputable def P11_2 (d n0 : Nat) (f0 : Bool) (l1 : List AVal) (v2 : AVal) (x3 : Int) (c4 : List AVal) (h : Heap) : Tr Res :=
  heldPt Cw d 11 [true, true, true, false, true, true, true, true, false, true, true] [n0] ⟨[(2, (EV.one (SV.val (AVal.sl f0 6 l1)))), (7, (EV.one (SV.val v2))), (8, (EV.one (SV.loc 8 0))), (9, (EV.one (SV.val (AVal.int .i64 x3))))], [(8, (Box.plain c4))]⟩ h
noncomputable def P11_3 (d n0 : Nat) (f0 : Bool) (l1 : List AVal) (v2 : AVal) (x3 : Int) (x4 : Int) (c5 : List AVal) (c6 : List AVal) (h : Heap) : Tr Res :=
  heldPt Cw d 11 [true, true, true, false, true, true, true, true, false, true, false, true, false, true] [n0] ⟨[(2, (EV.one (SV.val (AVal.sl f0 6 l1)))), (7, (EV.one (SV.val v2))), (8, (EV.one (SV.loc 8 0))), (9, (EV.one (SV.val (AVal.int .i64 x3)))), (12, (EV.one (SV.loc 12 0))), (13, (EV.one (SV.val (AVal.int .i64 x4))))], [(8, (Box.plain c5)), (12, (Box.plain c6))]⟩ h
theorem P11_0_eq (d : Nat) (f0 : Bool) (l1 : List AVal) (v2 : AVal) (c3 : List AVal) (h : Heap) : P11_0 d f0 l1 v2 c3 h =
  (P11_1 d rounds f0 l1 v2 0 c3 h) := (heldPt_eq _ _ _ _ _ _ _).trans (by kernel_rfl)
theorem P11_1_eq (d k : Nat) (f0 : Bool) (l1 : List AVal) (v2 : AVal) (x3 : Int) (c4 : List AVal) (h : Heap) : P11_1 d (k + 1) f0 l1 v2 x3 c4 h =
  (bif (decide ((x3 : Int) < (l1.length : Int))) then
    (bif (decide ((0 : Int) ≤ x3) && decide ((x3 : Int) < (l1.length : Int))) then
      (optK ((AVal.cells (l1.getD (Int.toNat x3) AVal.undef))[0]?) fun w1 =>
        (intK .u64 w1 fun y2 =>
          (bif (((Int.tmod y2 4) : Int) == 3) then
            (bif (decide ((0 : Int) ≤ x3) && decide ((x3 : Int) < (l1.length : Int))) then
              (Tr.anyL [
                (bif decide (0 + 7 ≤ c4.length) then
                  (Tr.anyL [
                    (optK ((AVal.cells (l1.getD (Int.toNat x3) AVal.undef))[4]?) fun w3 =>
                      (intK .i64 w3 fun y4 =>
                        (sameL 2
                          (runK (evFn Cw d 42 [(AVal.agg ((c4.drop 0).take 7)), (AVal.int .i64 y4)] h) fun r5 h5 =>
                            (consK r5 fun w6 ws7 =>
                              (aggK 7 w6 fun cc8 =>
                                (consK ws7 fun w9 ws10 =>
                                  (intK .i64 w9 fun y11 =>
                                    (nilK ws10
                                      (bif ((cc8.length == 7) && true) then
                                        (bif decide (0 + 7 ≤ cc8.length) then
                                          (bif ((((cc8.drop 0).take 7).length == 7) && decide (0 + 7 ≤ c4.length)) then
                                            (bif (decide ((0 : Int) ≤ x3) && decide ((x3 : Int) < (l1.length : Int))) then
                                              (optK ((AVal.cells (l1.getD (Int.toNat x3) AVal.undef))[4]?) fun w12 =>
                                                (intK .i64 w12 fun y13 =>
                                                  (runK (evFn Cw d 43 [v2, (AVal.int .i64 y13)] h5) fun r14 h14 =>
                                                    (consK r14 fun w15 ws16 =>
                                                      (intK .i64 w15 fun y17 =>
                                                        (nilK ws16
                                                          (bif ((y17 : Int) != y11) then
                                                            (Tr.ret ([(AVal.bool false)], h14))
                                                          else
                                                            (P11_2 d k f0 l1 v2 x3 (bif (c4.length == 7) then ((cc8.drop 0).take 7) else (spliceAt 0 ((cc8.drop 0).take 7) c4)) h14))))))))
                                            else
                                              Tr.fail)
                                          else
                                            Tr.fail)
                                        else
                                          Tr.fail)
                                      else
                                        Tr.fail)))))))))),
                    (optK ((AVal.cells (l1.getD (Int.toNat x3) AVal.undef))[4]?) fun w3 =>
                      (intK .i64 w3 fun y4 =>
                        (runK (evFn Cw d 42 [(AVal.agg ((c4.drop 0).take 7)), (AVal.int .i64 y4)] h) fun r5 h5 =>
                          (consK r5 fun w6 ws7 =>
                            (aggK 7 w6 fun cc8 =>
                              (consK ws7 fun w9 ws10 =>
                                (intK .i64 w9 fun y11 =>
                                  (nilK ws10
                                    (bif ((cc8.length == 7) && true) then
                                      (bif decide (0 + 7 ≤ cc8.length) then
                                        (bif ((((cc8.drop 0).take 7).length == 7) && decide (0 + 7 ≤ c4.length)) then
                                          (bif (decide ((0 : Int) ≤ x3) && decide ((x3 : Int) < (l1.length : Int))) then
                                            (optK ((AVal.cells (l1.getD (Int.toNat x3) AVal.undef))[4]?) fun w12 =>
                                              (intK .i64 w12 fun y13 =>
                                                (runK (evFn Cw d 43 [v2, (AVal.int .i64 y13)] h5) fun r14 h14 =>
                                                  (consK r14 fun w15 ws16 =>
                                                    (intK .i64 w15 fun y17 =>
                                                      (nilK ws16
                                                        (bif ((y17 : Int) != y11) then
                                                          (Tr.ret ([(AVal.bool false)], h14))
                                                        else
                                                          (P11_2 d k f0 l1 v2 x3 (bif (c4.length == 7) then ((cc8.drop 0).take 7) else (spliceAt 0 ((cc8.drop 0).take 7) c4)) h14))))))))
                                          else
                                            Tr.fail)
                                        else
                                          Tr.fail)
                                      else
                                        Tr.fail)
                                    else
                                      Tr.fail)))))))))])
                else
                  Tr.fail),
                (optK ((AVal.cells (l1.getD (Int.toNat x3) AVal.undef))[4]?) fun w3 =>
                  (intK .i64 w3 fun y4 =>
                    (Tr.anyL [
                      (bif decide (0 + 7 ≤ c4.length) then
                        (sameL 2
                          (runK (evFn Cw d 42 [(AVal.agg ((c4.drop 0).take 7)), (AVal.int .i64 y4)] h) fun r5 h5 =>
                            (consK r5 fun w6 ws7 =>
                              (aggK 7 w6 fun cc8 =>
                                (consK ws7 fun w9 ws10 =>
                                  (intK .i64 w9 fun y11 =>
                                    (nilK ws10
                                      (bif ((cc8.length == 7) && true) then
                                        (bif decide (0 + 7 ≤ cc8.length) then
                                          (bif ((((cc8.drop 0).take 7).length == 7) && decide (0 + 7 ≤ c4.length)) then
                                            (bif (decide ((0 : Int) ≤ x3) && decide ((x3 : Int) < (l1.length : Int))) then
                                              (optK ((AVal.cells (l1.getD (Int.toNat x3) AVal.undef))[4]?) fun w12 =>
                                                (intK .i64 w12 fun y13 =>
                                                  (runK (evFn Cw d 43 [v2, (AVal.int .i64 y13)] h5) fun r14 h14 =>
                                                    (consK r14 fun w15 ws16 =>
                                                      (intK .i64 w15 fun y17 =>
                                                        (nilK ws16
                                                          (bif ((y17 : Int) != y11) then
                                                            (Tr.ret ([(AVal.bool false)], h14))
                                                          else
                                                            (P11_2 d k f0 l1 v2 x3 (bif (c4.length == 7) then ((cc8.drop 0).take 7) else (spliceAt 0 ((cc8.drop 0).take 7) c4)) h14))))))))
                                            else
                                              Tr.fail)
                                          else
                                            Tr.fail)
                                        else
                                          Tr.fail)
                                      else
                                        Tr.fail))))))))
                      else
                        Tr.fail),
                      (bif decide (0 + 7 ≤ c4.length) then
                        (runK (evFn Cw d 42 [(AVal.agg ((c4.drop 0).take 7)), (AVal.int .i64 y4)] h) fun r5 h5 =>
                          (consK r5 fun w6 ws7 =>
                            (aggK 7 w6 fun cc8 =>
                              (consK ws7 fun w9 ws10 =>
                                (intK .i64 w9 fun y11 =>
                                  (nilK ws10
                                    (bif ((cc8.length == 7) && true) then
                                      (bif decide (0 + 7 ≤ cc8.length) then
                                        (bif ((((cc8.drop 0).take 7).length == 7) && decide (0 + 7 ≤ c4.length)) then
                                          (bif (decide ((0 : Int) ≤ x3) && decide ((x3 : Int) < (l1.length : Int))) then
                                            (optK ((AVal.cells (l1.getD (Int.toNat x3) AVal.undef))[4]?) fun w12 =>
                                              (intK .i64 w12 fun y13 =>
                                                (runK (evFn Cw d 43 [v2, (AVal.int .i64 y13)] h5) fun r14 h14 =>
                                                  (consK r14 fun w15 ws16 =>
                                                    (intK .i64 w15 fun y17 =>
                                                      (nilK ws16
                                                        (bif ((y17 : Int) != y11) then
                                                          (Tr.ret ([(AVal.bool false)], h14))
                                                        else
                                                          (P11_2 d k f0 l1 v2 x3 (bif (c4.length == 7) then ((cc8.drop 0).take 7) else (spliceAt 0 ((cc8.drop 0).take 7) c4)) h14))))))))
                                          else
                                            Tr.fail)
                                        else
                                          Tr.fail)
                                      else
                                        Tr.fail)
                                    else
                                      Tr.fail)))))))
                      else
                        Tr.fail)]))),
                (bif decide (0 + 7 ≤ c4.length) then
                  (optK ((AVal.cells (l1.getD (Int.toNat x3) AVal.undef))[4]?) fun w3 =>
                    (intK .i64 w3 fun y4 =>
                      (runK (evFn Cw d 42 [(AVal.agg ((c4.drop 0).take 7)), (AVal.int .i64 y4)] h) fun r5 h5 =>
                        (consK r5 fun w6 ws7 =>
                          (aggK 7 w6 fun cc8 =>
                            (consK ws7 fun w9 ws10 =>
                              (intK .i64 w9 fun y11 =>
                                (nilK ws10
                                  (bif ((cc8.length == 7) && true) then
                                    (bif decide (0 + 7 ≤ cc8.length) then
                                      (bif ((((cc8.drop 0).take 7).length == 7) && decide (0 + 7 ≤ c4.length)) then
                                        (bif (decide ((0 : Int) ≤ x3) && decide ((x3 : Int) < (l1.length : Int))) then
                                          (optK ((AVal.cells (l1.getD (Int.toNat x3) AVal.undef))[4]?) fun w12 =>
                                            (intK .i64 w12 fun y13 =>
                                              (runK (evFn Cw d 43 [v2, (AVal.int .i64 y13)] h5) fun r14 h14 =>
                                                (consK r14 fun w15 ws16 =>
                                                  (intK .i64 w15 fun y17 =>
                                                    (nilK ws16
                                                      (bif ((y17 : Int) != y11) then
                                                        (Tr.ret ([(AVal.bool false)], h14))
                                                      else
                                                        (P11_2 d k f0 l1 v2 x3 (bif (c4.length == 7) then ((cc8.drop 0).take 7) else (spliceAt 0 ((cc8.drop 0).take 7) c4)) h14))))))))
                                        else
                                          Tr.fail)
                                      else
                                        Tr.fail)
                                    else
                                      Tr.fail)
                                  else
                                    Tr.fail)))))))))
                else
                  Tr.fail)])
            else
              Tr.fail)
          else
            (bif (decide ((0 : Int) ≤ x3) && decide ((x3 : Int) < (l1.length : Int))) then
              (bif (decide ((0 : Int) ≤ x3) && decide ((x3 : Int) < (l1.length : Int))) then
                (Tr.anyL [
                  (bif decide (0 + 7 ≤ c4.length) then
                    (Tr.anyL [
                      (optK ((AVal.cells (l1.getD (Int.toNat x3) AVal.undef))[1]?) fun w18 =>
                        (intK .i64 w18 fun y19 =>
                          (Tr.anyL [
                            (bif decide (2 + 2 ≤ (AVal.cells (l1.getD (Int.toNat x3) AVal.undef)).length) then
                              (bif ((((AVal.cells (l1.getD (Int.toNat x3) AVal.undef)).drop 2).take 2).length == 2) then
                                (sameL 2
                                  (runK (evFn Cw d 44 [(AVal.agg ((c4.drop 0).take 7)), (AVal.int .i64 y19), (AVal.agg (((AVal.cells (l1.getD (Int.toNat x3) AVal.undef)).drop 2).take 2))] h) fun r20 h20 =>
                                    (consK r20 fun w21 ws22 =>
                                      (aggK 7 w21 fun cc23 =>
                                        (consK ws22 fun w24 ws25 =>
                                          (intK .i64 w24 fun y26 =>
                                            (nilK ws25
                                              (bif ((cc23.length == 7) && true) then (P11_3 d k f0 l1 v2 x3 y26 c4 cc23 h20) else Tr.fail))))))))
                              else
                                Tr.fail)
                            else
                              Tr.fail),
                            (bif decide (2 + 2 ≤ (AVal.cells (l1.getD (Int.toNat x3) AVal.undef)).length) then
                              (bif ((((AVal.cells (l1.getD (Int.toNat x3) AVal.undef)).drop 2).take 2).length == 2) then
                                (runK (evFn Cw d 44 [(AVal.agg ((c4.drop 0).take 7)), (AVal.int .i64 y19), (AVal.agg (((AVal.cells (l1.getD (Int.toNat x3) AVal.undef)).drop 2).take 2))] h) fun r20 h20 =>
                                  (consK r20 fun w21 ws22 =>
                                    (aggK 7 w21 fun cc23 =>
                                      (consK ws22 fun w24 ws25 =>
                                        (intK .i64 w24 fun y26 =>
                                          (nilK ws25
                                            (bif ((cc23.length == 7) && true) then (P11_3 d k f0 l1 v2 x3 y26 c4 cc23 h20) else Tr.fail)))))))
                              else
                                Tr.fail)
                            else
                              Tr.fail)]))),
                      (bif decide (2 + 2 ≤ (AVal.cells (l1.getD (Int.toNat x3) AVal.undef)).length) then
                        (bif ((((AVal.cells (l1.getD (Int.toNat x3) AVal.undef)).drop 2).take 2).length == 2) then
                          (Tr.anyL [
                            (optK ((AVal.cells (l1.getD (Int.toNat x3) AVal.undef))[1]?) fun w18 =>
                              (intK .i64 w18 fun y19 =>
                                (sameL 2
                                  (runK (evFn Cw d 44 [(AVal.agg ((c4.drop 0).take 7)), (AVal.int .i64 y19), (AVal.agg (((AVal.cells (l1.getD (Int.toNat x3) AVal.undef)).drop 2).take 2))] h) fun r20 h20 =>
                                    (consK r20 fun w21 ws22 =>
                                      (aggK 7 w21 fun cc23 =>
                                        (consK ws22 fun w24 ws25 =>
                                          (intK .i64 w24 fun y26 =>
                                            (nilK ws25
                                              (bif ((cc23.length == 7) && true) then (P11_3 d k f0 l1 v2 x3 y26 c4 cc23 h20) else Tr.fail)))))))))),
                            (optK ((AVal.cells (l1.getD (Int.toNat x3) AVal.undef))[1]?) fun w18 =>
                              (intK .i64 w18 fun y19 =>
                                (runK (evFn Cw d 44 [(AVal.agg ((c4.drop 0).take 7)), (AVal.int .i64 y19), (AVal.agg (((AVal.cells (l1.getD (Int.toNat x3) AVal.undef)).drop 2).take 2))] h) fun r20 h20 =>
                                  (consK r20 fun w21 ws22 =>
                                    (aggK 7 w21 fun cc23 =>
                                      (consK ws22 fun w24 ws25 =>
                                        (intK .i64 w24 fun y26 =>
                                          (nilK ws25
                                            (bif ((cc23.length == 7) && true) then (P11_3 d k f0 l1 v2 x3 y26 c4 cc23 h20) else Tr.fail)))))))))])
                        else
                          Tr.fail)
                      else
                        Tr.fail),
                      (optK ((AVal.cells (l1.getD (Int.toNat x3) AVal.undef))[1]?) fun w18 =>
                        (intK .i64 w18 fun y19 =>
                          (bif decide (2 + 2 ≤ (AVal.cells (l1.getD (Int.toNat x3) AVal.undef)).length) then
                            (bif ((((AVal.cells (l1.getD (Int.toNat x3) AVal.undef)).drop 2).take 2).length == 2) then
                              (runK (evFn Cw d 44 [(AVal.agg ((c4.drop 0).take 7)), (AVal.int .i64 y19), (AVal.agg (((AVal.cells (l1.getD (Int.toNat x3) AVal.undef)).drop 2).take 2))] h) fun r20 h20 =>
                                (consK r20 fun w21 ws22 =>
                                  (aggK 7 w21 fun cc23 =>
                                    (consK ws22 fun w24 ws25 =>
                                      (intK .i64 w24 fun y26 =>
                                        (nilK ws25
                                          (bif ((cc23.length == 7) && true) then (P11_3 d k f0 l1 v2 x3 y26 c4 cc23 h20) else Tr.fail)))))))
                            else
                              Tr.fail)
                          else
                            Tr.fail)))])
                  else
                    Tr.fail),
                  (optK ((AVal.cells (l1.getD (Int.toNat x3) AVal.undef))[1]?) fun w18 =>
                    (intK .i64 w18 fun y19 =>
                      (Tr.anyL [
                        (bif decide (0 + 7 ≤ c4.length) then
                          (Tr.anyL [
                            (bif decide (2 + 2 ≤ (AVal.cells (l1.getD (Int.toNat x3) AVal.undef)).length) then
                              (bif ((((AVal.cells (l1.getD (Int.toNat x3) AVal.undef)).drop 2).take 2).length == 2) then
                                (sameL 2
                                  (runK (evFn Cw d 44 [(AVal.agg ((c4.drop 0).take 7)), (AVal.int .i64 y19), (AVal.agg (((AVal.cells (l1.getD (Int.toNat x3) AVal.undef)).drop 2).take 2))] h) fun r20 h20 =>
                                    (consK r20 fun w21 ws22 =>
                                      (aggK 7 w21 fun cc23 =>
                                        (consK ws22 fun w24 ws25 =>
                                          (intK .i64 w24 fun y26 =>
                                            (nilK ws25
                                              (bif ((cc23.length == 7) && true) then (P11_3 d k f0 l1 v2 x3 y26 c4 cc23 h20) else Tr.fail))))))))
                              else
                                Tr.fail)
                            else
                              Tr.fail),
                            (bif decide (2 + 2 ≤ (AVal.cells (l1.getD (Int.toNat x3) AVal.undef)).length) then
                              (bif ((((AVal.cells (l1.getD (Int.toNat x3) AVal.undef)).drop 2).take 2).length == 2) then
                                (runK (evFn Cw d 44 [(AVal.agg ((c4.drop 0).take 7)), (AVal.int .i64 y19), (AVal.agg (((AVal.cells (l1.getD (Int.toNat x3) AVal.undef)).drop 2).take 2))] h) fun r20 h20 =>
                                  (consK r20 fun w21 ws22 =>
                                    (aggK 7 w21 fun cc23 =>
                                      (consK ws22 fun w24 ws25 =>
                                        (intK .i64 w24 fun y26 =>
                                          (nilK ws25
                                            (bif ((cc23.length == 7) && true) then (P11_3 d k f0 l1 v2 x3 y26 c4 cc23 h20) else Tr.fail)))))))
                              else
                                Tr.fail)
                            else
                              Tr.fail)])
                        else
                          Tr.fail),
                        (bif decide (2 + 2 ≤ (AVal.cells (l1.getD (Int.toNat x3) AVal.undef)).length) then
                          (bif ((((AVal.cells (l1.getD (Int.toNat x3) AVal.undef)).drop 2).take 2).length == 2) then
                            (Tr.anyL [
                              (bif decide (0 + 7 ≤ c4.length) then
                                (sameL 2
                                  (runK (evFn Cw d 44 [(AVal.agg ((c4.drop 0).take 7)), (AVal.int .i64 y19), (AVal.agg (((AVal.cells (l1.getD (Int.toNat x3) AVal.undef)).drop 2).take 2))] h) fun r20 h20 =>
                                    (consK r20 fun w21 ws22 =>
                                      (aggK 7 w21 fun cc23 =>
                                        (consK ws22 fun w24 ws25 =>
                                          (intK .i64 w24 fun y26 =>
                                            (nilK ws25
                                              (bif ((cc23.length == 7) && true) then (P11_3 d k f0 l1 v2 x3 y26 c4 cc23 h20) else Tr.fail))))))))
                              else
                                Tr.fail),
                              (bif decide (0 + 7 ≤ c4.length) then
                                (runK (evFn Cw d 44 [(AVal.agg ((c4.drop 0).take 7)), (AVal.int .i64 y19), (AVal.agg (((AVal.cells (l1.getD (Int.toNat x3) AVal.undef)).drop 2).take 2))] h) fun r20 h20 =>
                                  (consK r20 fun w21 ws22 =>
                                    (aggK 7 w21 fun cc23 =>
                                      (consK ws22 fun w24 ws25 =>
                                        (intK .i64 w24 fun y26 =>
                                          (nilK ws25
                                            (bif ((cc23.length == 7) && true) then (P11_3 d k f0 l1 v2 x3 y26 c4 cc23 h20) else Tr.fail)))))))
                              else
                                Tr.fail)])
                          else
                            Tr.fail)
                        else
                          Tr.fail),
                        (bif decide (0 + 7 ≤ c4.length) then
                          (bif decide (2 + 2 ≤ (AVal.cells (l1.getD (Int.toNat x3) AVal.undef)).length) then
                            (bif ((((AVal.cells (l1.getD (Int.toNat x3) AVal.undef)).drop 2).take 2).length == 2) then
                              (runK (evFn Cw d 44 [(AVal.agg ((c4.drop 0).take 7)), (AVal.int .i64 y19), (AVal.agg (((AVal.cells (l1.getD (Int.toNat x3) AVal.undef)).drop 2).take 2))] h) fun r20 h20 =>
                                (consK r20 fun w21 ws22 =>
                                  (aggK 7 w21 fun cc23 =>
                                    (consK ws22 fun w24 ws25 =>
                                      (intK .i64 w24 fun y26 =>
                                        (nilK ws25
                                          (bif ((cc23.length == 7) && true) then (P11_3 d k f0 l1 v2 x3 y26 c4 cc23 h20) else Tr.fail)))))))
                            else
                              Tr.fail)
                          else
                            Tr.fail)
                        else
                          Tr.fail)]))),
                  (bif decide (2 + 2 ≤ (AVal.cells (l1.getD (Int.toNat x3) AVal.undef)).length) then
                    (bif ((((AVal.cells (l1.getD (Int.toNat x3) AVal.undef)).drop 2).take 2).length == 2) then
                      (Tr.anyL [
                        (bif decide (0 + 7 ≤ c4.length) then
                          (Tr.anyL [
                            (optK ((AVal.cells (l1.getD (Int.toNat x3) AVal.undef))[1]?) fun w18 =>
                              (intK .i64 w18 fun y19 =>
                                (sameL 2
                                  (runK (evFn Cw d 44 [(AVal.agg ((c4.drop 0).take 7)), (AVal.int .i64 y19), (AVal.agg (((AVal.cells (l1.getD (Int.toNat x3) AVal.undef)).drop 2).take 2))] h) fun r20 h20 =>
                                    (consK r20 fun w21 ws22 =>
                                      (aggK 7 w21 fun cc23 =>
                                        (consK ws22 fun w24 ws25 =>
                                          (intK .i64 w24 fun y26 =>
                                            (nilK ws25
                                              (bif ((cc23.length == 7) && true) then (P11_3 d k f0 l1 v2 x3 y26 c4 cc23 h20) else Tr.fail)))))))))),
                            (optK ((AVal.cells (l1.getD (Int.toNat x3) AVal.undef))[1]?) fun w18 =>
                              (intK .i64 w18 fun y19 =>
                                (runK (evFn Cw d 44 [(AVal.agg ((c4.drop 0).take 7)), (AVal.int .i64 y19), (AVal.agg (((AVal.cells (l1.getD (Int.toNat x3) AVal.undef)).drop 2).take 2))] h) fun r20 h20 =>
                                  (consK r20 fun w21 ws22 =>
                                    (aggK 7 w21 fun cc23 =>
                                      (consK ws22 fun w24 ws25 =>
                                        (intK .i64 w24 fun y26 =>
                                          (nilK ws25
                                            (bif ((cc23.length == 7) && true) then (P11_3 d k f0 l1 v2 x3 y26 c4 cc23 h20) else Tr.fail)))))))))])
                        else
                          Tr.fail),
                        (optK ((AVal.cells (l1.getD (Int.toNat x3) AVal.undef))[1]?) fun w18 =>
                          (intK .i64 w18 fun y19 =>
                            (Tr.anyL [
                              (bif decide (0 + 7 ≤ c4.length) then
                                (sameL 2
                                  (runK (evFn Cw d 44 [(AVal.agg ((c4.drop 0).take 7)), (AVal.int .i64 y19), (AVal.agg (((AVal.cells (l1.getD (Int.toNat x3) AVal.undef)).drop 2).take 2))] h) fun r20 h20 =>
                                    (consK r20 fun w21 ws22 =>
                                      (aggK 7 w21 fun cc23 =>
                                        (consK ws22 fun w24 ws25 =>
                                          (intK .i64 w24 fun y26 =>
                                            (nilK ws25
                                              (bif ((cc23.length == 7) && true) then (P11_3 d k f0 l1 v2 x3 y26 c4 cc23 h20) else Tr.fail))))))))
                              else
                                Tr.fail),
                              (bif decide (0 + 7 ≤ c4.length) then
                                (runK (evFn Cw d 44 [(AVal.agg ((c4.drop 0).take 7)), (AVal.int .i64 y19), (AVal.agg (((AVal.cells (l1.getD (Int.toNat x3) AVal.undef)).drop 2).take 2))] h) fun r20 h20 =>
                                  (consK r20 fun w21 ws22 =>
                                    (aggK 7 w21 fun cc23 =>
                                      (consK ws22 fun w24 ws25 =>
                                        (intK .i64 w24 fun y26 =>
                                          (nilK ws25
                                            (bif ((cc23.length == 7) && true) then (P11_3 d k f0 l1 v2 x3 y26 c4 cc23 h20) else Tr.fail)))))))
                              else
                                Tr.fail)]))),
                        (bif decide (0 + 7 ≤ c4.length) then
                          (optK ((AVal.cells (l1.getD (Int.toNat x3) AVal.undef))[1]?) fun w18 =>
                            (intK .i64 w18 fun y19 =>
                              (runK (evFn Cw d 44 [(AVal.agg ((c4.drop 0).take 7)), (AVal.int .i64 y19), (AVal.agg (((AVal.cells (l1.getD (Int.toNat x3) AVal.undef)).drop 2).take 2))] h) fun r20 h20 =>
                                (consK r20 fun w21 ws22 =>
                                  (aggK 7 w21 fun cc23 =>
                                    (consK ws22 fun w24 ws25 =>
                                      (intK .i64 w24 fun y26 =>
                                        (nilK ws25
                                          (bif ((cc23.length == 7) && true) then (P11_3 d k f0 l1 v2 x3 y26 c4 cc23 h20) else Tr.fail)))))))))
                        else
                          Tr.fail)])
                    else
                      Tr.fail)
                  else
                    Tr.fail),
                  (bif decide (0 + 7 ≤ c4.length) then
                    (optK ((AVal.cells (l1.getD (Int.toNat x3) AVal.undef))[1]?) fun w18 =>
                      (intK .i64 w18 fun y19 =>
                        (bif decide (2 + 2 ≤ (AVal.cells (l1.getD (Int.toNat x3) AVal.undef)).length) then
                          (bif ((((AVal.cells (l1.getD (Int.toNat x3) AVal.undef)).drop 2).take 2).length == 2) then
                            (runK (evFn Cw d 44 [(AVal.agg ((c4.drop 0).take 7)), (AVal.int .i64 y19), (AVal.agg (((AVal.cells (l1.getD (Int.toNat x3) AVal.undef)).drop 2).take 2))] h) fun r20 h20 =>
                              (consK r20 fun w21 ws22 =>
                                (aggK 7 w21 fun cc23 =>
                                  (consK ws22 fun w24 ws25 =>
                                    (intK .i64 w24 fun y26 =>
                                      (nilK ws25
                                        (bif ((cc23.length == 7) && true) then (P11_3 d k f0 l1 v2 x3 y26 c4 cc23 h20) else Tr.fail)))))))
                          else
                            Tr.fail)
                        else
                          Tr.fail)))
                  else
                    Tr.fail)])
              else
                Tr.fail)
            else
              Tr.fail))))
    else
      Tr.fail)
  else
    (runK (evFn Cw d 39 [] h) fun r27 h27 =>
      (consK r27 fun w28 ws29 =>
        (boolK w28 fun bb30 =>
          (nilK ws29
            (Tr.ret ([(AVal.bool bb30)], h27))))))) := by kernel_rfl
theorem P11_2_eq (d n0 : Nat) (f0 : Bool) (l1 : List AVal) (v2 : AVal) (x3 : Int) (c4 : List AVal) (h : Heap) : P11_2 d n0 f0 l1 v2 x3 c4 h =
  (bif decide (0 + 7 ≤ c4.length) then
    (runK (evFn Cw d 46 [v2, (AVal.agg ((c4.drop 0).take 7))] h) fun r1 h1 =>
      (consK r1 fun w2 ws3 =>
        (boolK w2 fun bb4 =>
          (nilK ws3
            (bif (!bb4) then
              (Tr.ret ([(AVal.bool false)], h1))
            else
              (bif (decide ((0 : Int) ≤ x3) && decide ((x3 : Int) < (l1.length : Int))) then
                (bif decide (2 + 2 ≤ (AVal.cells (l1.getD (Int.toNat x3) AVal.undef)).length) then
                  (bif ((((AVal.cells (l1.getD (Int.toNat x3) AVal.undef)).drop 2).take 2).length == 2) then
                    (runK (evFn Cw d 47 [v2, (AVal.agg (((AVal.cells (l1.getD (Int.toNat x3) AVal.undef)).drop 2).take 2))] h1) fun r5 h5 =>
                      (consK r5 fun w6 ws7 =>
                        (intK .i64 w6 fun y8 =>
                          (consK ws7 fun w9 ws10 =>
                            (boolK w9 fun bb11 =>
                              (nilK ws10
                                (bif decide (0 + 7 ≤ c4.length) then
                                  (bif (decide ((0 : Int) ≤ x3) && decide ((x3 : Int) < (l1.length : Int))) then
                                    (bif decide (2 + 2 ≤ (AVal.cells (l1.getD (Int.toNat x3) AVal.undef)).length) then
                                      (bif ((((AVal.cells (l1.getD (Int.toNat x3) AVal.undef)).drop 2).take 2).length == 2) then
                                        (runK (evFn Cw d 48 [(AVal.agg ((c4.drop 0).take 7)), (AVal.agg (((AVal.cells (l1.getD (Int.toNat x3) AVal.undef)).drop 2).take 2))] h5) fun r12 h12 =>
                                          (consK r12 fun w13 ws14 =>
                                            (intK .i64 w13 fun y15 =>
                                              (nilK ws14
                                                (bif ((y8 : Int) != y15) then
                                                  (Tr.ret ([(AVal.bool false)], h12))
                                                else
                                                  (bif (!(bb11 == (decide ((y8 : Int) > 0)))) then (Tr.ret ([(AVal.bool false)], h12)) else (P11_1 d n0 f0 l1 v2 (IntKind.i64.wrap (x3 + 1)) c4 h12)))))))
                                      else
                                        Tr.fail)
                                    else
                                      Tr.fail)
                                  else
                                    Tr.fail)
                                else
                                  Tr.fail)))))))
                  else
                    Tr.fail)
                else
                  Tr.fail)
              else
                Tr.fail))))))
  else
    Tr.fail) := (heldPt_eq _ _ _ _ _ _ _).trans (by kernel_rfl)
theorem P11_3_eq (d n0 : Nat) (f0 : Bool) (l1 : List AVal) (v2 : AVal) (x3 : Int) (x4 : Int) (c5 : List AVal) (c6 : List AVal) (h : Heap) : P11_3 d n0 f0 l1 v2 x3 x4 c5 c6 h =
  (bif decide (0 + 7 ≤ c6.length) then
    (bif ((((c6.drop 0).take 7).length == 7) && decide (0 + 7 ≤ c5.length)) then
      (bif (decide ((0 : Int) ≤ x3) && decide ((x3 : Int) < (l1.length : Int))) then
        (optK ((AVal.cells (l1.getD (Int.toNat x3) AVal.undef))[1]?) fun w1 =>
          (intK .i64 w1 fun y2 =>
            (bif (decide ((0 : Int) ≤ x3) && decide ((x3 : Int) < (l1.length : Int))) then
              (bif decide (2 + 2 ≤ (AVal.cells (l1.getD (Int.toNat x3) AVal.undef)).length) then
                (bif ((((AVal.cells (l1.getD (Int.toNat x3) AVal.undef)).drop 2).take 2).length == 2) then
                  (runK (evFn Cw d 45 [v2, (AVal.int .i64 y2), (AVal.agg (((AVal.cells (l1.getD (Int.toNat x3) AVal.undef)).drop 2).take 2))] h) fun r3 h3 =>
                    (consK r3 fun w4 ws5 =>
                      (intK .i64 w4 fun y6 =>
                        (consK ws5 fun w7 ws8 =>
                          (boolK w7 fun bb9 =>
                            (nilK ws8
                              (bif ((y6 : Int) != x4) then
                                (Tr.ret ([(AVal.bool false)], h3))
                              else
                                (bif (!(bb9 == (decide ((x4 : Int) > 0)))) then
                                  (Tr.ret ([(AVal.bool false)], h3))
                                else
                                  (P11_2 d n0 f0 l1 v2 x3 (bif (c5.length == 7) then ((c6.drop 0).take 7) else (spliceAt 0 ((c6.drop 0).take 7) c5)) h3)))))))))
                else
                  Tr.fail)
              else
                Tr.fail)
            else
              Tr.fail)))
      else
        Tr.fail)
    else
      Tr.fail)
  else
    Tr.fail) := (heldPt_eq _ _ _ _ _ _ _).trans (by kernel_rfl)
theorem F11_eq (d : Nat) (x0 : Int) (x1 : Int) (x2 : Int) (x3 : Int) (x4 : Int) (f5 : Bool) (l6 : List AVal) (h : Heap) : evFn Cw (d + 1) 11 [(AVal.int .i64 x0), (AVal.agg [(AVal.int .i64 x1), (AVal.int .i64 x2), (AVal.int .i64 x3), (AVal.int .i64 x4)]), (AVal.sl f5 6 l6)] h =
  (bif (decide (((l6.length : Int) : Int) > 60)) then
    (runK (evFn Cw d 39 [] h) fun r1 h1 =>
      (consK r1 fun w2 ws3 =>
        (boolK w2 fun bb4 =>
          (nilK ws3
            (Tr.ret ([(AVal.bool bb4)], h1))))))
  else
    (Tr.anyL [
      (Tr.anyL [
        (runK (evFn Cw d 40 [(AVal.int .i64 x0), (AVal.agg [(AVal.int .i64 x1), (AVal.int .i64 x2), (AVal.int .i64 x3), (AVal.int .i64 x4)])] h) fun r5 h5 =>
          (consK r5 fun w6 ws7 =>
            (nilK ws7
              (Tr.anyL [
                (sameL 2
                  (runK (evFn Cw d 41 [(AVal.int .i64 x0), (AVal.agg [(AVal.int .i64 x1), (AVal.int .i64 x2), (AVal.int .i64 x3), (AVal.int .i64 x4)])] h5) fun r8 h8 =>
                    (consK r8 fun w9 ws10 =>
                      (aggK 7 w9 fun cc11 =>
                        (nilK ws10
                          (bif ((cc11.length == 7) && true) then (P11_0 d f5 l6 w6 cc11 h8) else Tr.fail)))))),
                (runK (evFn Cw d 41 [(AVal.int .i64 x0), (AVal.agg [(AVal.int .i64 x1), (AVal.int .i64 x2), (AVal.int .i64 x3), (AVal.int .i64 x4)])] h5) fun r8 h8 =>
                  (consK r8 fun w9 ws10 =>
                    (aggK 7 w9 fun cc11 =>
                      (nilK ws10
                        (bif ((cc11.length == 7) && true) then (P11_0 d f5 l6 w6 cc11 h8) else Tr.fail)))))])))),
        (Tr.anyL [
          (runK (evFn Cw d 40 [(AVal.int .i64 x0), (AVal.agg [(AVal.int .i64 x1), (AVal.int .i64 x2), (AVal.int .i64 x3), (AVal.int .i64 x4)])] h) fun r5 h5 =>
            (consK r5 fun w6 ws7 =>
              (nilK ws7
                (sameL 2
                  (runK (evFn Cw d 41 [(AVal.int .i64 x0), (AVal.agg [(AVal.int .i64 x1), (AVal.int .i64 x2), (AVal.int .i64 x3), (AVal.int .i64 x4)])] h5) fun r8 h8 =>
                    (consK r8 fun w9 ws10 =>
                      (aggK 7 w9 fun cc11 =>
                        (nilK ws10
                          (bif ((cc11.length == 7) && true) then (P11_0 d f5 l6 w6 cc11 h8) else Tr.fail))))))))),
          (runK (evFn Cw d 40 [(AVal.int .i64 x0), (AVal.agg [(AVal.int .i64 x1), (AVal.int .i64 x2), (AVal.int .i64 x3), (AVal.int .i64 x4)])] h) fun r5 h5 =>
            (consK r5 fun w6 ws7 =>
              (nilK ws7
                (runK (evFn Cw d 41 [(AVal.int .i64 x0), (AVal.agg [(AVal.int .i64 x1), (AVal.int .i64 x2), (AVal.int .i64 x3), (AVal.int .i64 x4)])] h5) fun r8 h8 =>
                  (consK r8 fun w9 ws10 =>
                    (aggK 7 w9 fun cc11 =>
                      (nilK ws10
                        (bif ((cc11.length == 7) && true) then (P11_0 d f5 l6 w6 cc11 h8) else Tr.fail))))))))]),
        (runK (evFn Cw d 40 [(AVal.int .i64 x0), (AVal.agg [(AVal.int .i64 x1), (AVal.int .i64 x2), (AVal.int .i64 x3), (AVal.int .i64 x4)])] h) fun r5 h5 =>
          (consK r5 fun w6 ws7 =>
            (nilK ws7
              (runK (evFn Cw d 41 [(AVal.int .i64 x0), (AVal.agg [(AVal.int .i64 x1), (AVal.int .i64 x2), (AVal.int .i64 x3), (AVal.int .i64 x4)])] h5) fun r8 h8 =>
                (consK r8 fun w9 ws10 =>
                  (aggK 7 w9 fun cc11 =>
                    (nilK ws10
                      (bif ((cc11.length == 7) && true) then (P11_0 d f5 l6 w6 cc11 h8) else Tr.fail))))))))]),
      (Tr.anyL [
        (Tr.anyL [
          (runK (evFn Cw d 40 [(AVal.int .i64 x0), (AVal.agg [(AVal.int .i64 x1), (AVal.int .i64 x2), (AVal.int .i64 x3), (AVal.int .i64 x4)])] h) fun r5 h5 =>
            (consK r5 fun w6 ws7 =>
              (nilK ws7
                (sameL 2
                  (runK (evFn Cw d 41 [(AVal.int .i64 x0), (AVal.agg [(AVal.int .i64 x1), (AVal.int .i64 x2), (AVal.int .i64 x3), (AVal.int .i64 x4)])] h5) fun r8 h8 =>
                    (consK r8 fun w9 ws10 =>
                      (aggK 7 w9 fun cc11 =>
                        (nilK ws10
                          (bif ((cc11.length == 7) && true) then (P11_0 d f5 l6 w6 cc11 h8) else Tr.fail))))))))),
          (runK (evFn Cw d 40 [(AVal.int .i64 x0), (AVal.agg [(AVal.int .i64 x1), (AVal.int .i64 x2), (AVal.int .i64 x3), (AVal.int .i64 x4)])] h) fun r5 h5 =>
            (consK r5 fun w6 ws7 =>
              (nilK ws7
                (runK (evFn Cw d 41 [(AVal.int .i64 x0), (AVal.agg [(AVal.int .i64 x1), (AVal.int .i64 x2), (AVal.int .i64 x3), (AVal.int .i64 x4)])] h5) fun r8 h8 =>
                  (consK r8 fun w9 ws10 =>
                    (aggK 7 w9 fun cc11 =>
                      (nilK ws10
                        (bif ((cc11.length == 7) && true) then (P11_0 d f5 l6 w6 cc11 h8) else Tr.fail))))))))]),
        (runK (evFn Cw d 40 [(AVal.int .i64 x0), (AVal.agg [(AVal.int .i64 x1), (AVal.int .i64 x2), (AVal.int .i64 x3), (AVal.int .i64 x4)])] h) fun r5 h5 =>
          (consK r5 fun w6 ws7 =>
            (nilK ws7
              (runK (evFn Cw d 41 [(AVal.int .i64 x0), (AVal.agg [(AVal.int .i64 x1), (AVal.int .i64 x2), (AVal.int .i64 x3), (AVal.int .i64 x4)])] h5) fun r8 h8 =>
                (consK r8 fun w9 ws10 =>
                  (aggK 7 w9 fun cc11 =>
                    (nilK ws10
                      (bif ((cc11.length == 7) && true) then (P11_0 d f5 l6 w6 cc11 h8) else Tr.fail))))))))]),
      (runK (evFn Cw d 40 [(AVal.int .i64 x0), (AVal.agg [(AVal.int .i64 x1), (AVal.int .i64 x2), (AVal.int .i64 x3), (AVal.int .i64 x4)])] h) fun r5 h5 =>
        (consK r5 fun w6 ws7 =>
          (nilK ws7
            (runK (evFn Cw d 41 [(AVal.int .i64 x0), (AVal.agg [(AVal.int .i64 x1), (AVal.int .i64 x2), (AVal.int .i64 x3), (AVal.int .i64 x4)])] h5) fun r8 h8 =>
              (consK r8 fun w9 ws10 =>
                (aggK 7 w9 fun cc11 =>
                  (nilK ws10
                    (bif ((cc11.length == 7) && true) then (P11_0 d f5 l6 w6 cc11 h8) else Tr.fail))))))))])) := by kernel_rfl
/- f12 strandline/strandlinelaw26.IndexNobody -/
theorem F12_eq (d : Nat) (x0 : Int) (x1 : Int) (x2 : Int) (x3 : Int) (h : Heap) : evFn Cw (d + 1) 12 [(AVal.int .i64 x0), (AVal.int .i64 x1), (AVal.agg [(AVal.int .i64 x2), (AVal.int .i64 x3)])] h =
  (runK (evFn Cw d 45 [AVal.nilp, (AVal.int .i64 x0), (AVal.agg [(AVal.int .i64 x2), (AVal.int .i64 x3)])] h) fun r1 h1 =>
    (consK r1 fun w2 ws3 =>
      (intK .i64 w2 fun y4 =>
        (consK ws3 fun w5 ws6 =>
          (boolK w5 fun bb7 =>
            (nilK ws6
              (runK (evFn Cw d 49 [AVal.nilp, (AVal.int .i64 x1)] h1) fun r8 h8 =>
                (consK r8 fun w9 ws10 =>
                  (aggK 2 w9 fun cc11 =>
                    (consK ws10 fun w12 ws13 =>
                      (boolK w12 fun bb14 =>
                        (nilK ws13
                          (bif ((cc11.length == 2) && true) then
                            (runK (evFn Cw d 50 [AVal.nilp, (AVal.int .i64 x1)] h8) fun r15 h15 =>
                              (consK r15 fun w16 ws17 =>
                                (intK .i64 w16 fun y18 =>
                                  (consK ws17 fun w19 ws20 =>
                                    (boolK w19 fun bb21 =>
                                      (nilK ws20
                                        (runK (evFn Cw d 47 [AVal.nilp, (AVal.agg [(AVal.int .i64 x2), (AVal.int .i64 x3)])] h15) fun r22 h22 =>
                                          (consK r22 fun w23 ws24 =>
                                            (intK .i64 w23 fun y25 =>
                                              (consK ws24 fun w26 ws27 =>
                                                (boolK w26 fun bb28 =>
                                                  (nilK ws27
                                                    (bif (!bb7) then
                                                      (bif (!bb14) then
                                                        (bif (!bb21) then
                                                          (bif (!bb28) then
                                                            (runK (evFn Cw d 51 [AVal.nilp, (AVal.int .i64 x1)] h22) fun r29 h29 =>
                                                              (consK r29 fun w30 ws31 =>
                                                                (slOK 0 w30 fun es32 =>
                                                                  (nilK ws31
                                                                    (bif (((es32.length : Int) : Int) == 0) then
                                                                      (runK (evFn Cw d 43 [AVal.nilp, (AVal.int .i64 x1)] h29) fun r33 h33 =>
                                                                        (consK r33 fun w34 ws35 =>
                                                                          (intK .i64 w34 fun y36 =>
                                                                            (nilK ws35
                                                                              (bif ((y36 : Int) == 0) then
                                                                                (runK (evFn Cw d 52 [AVal.nilp] h33) fun r37 h37 =>
                                                                                  (consK r37 fun w38 ws39 =>
                                                                                    (intK .i64 w38 fun y40 =>
                                                                                      (nilK ws39
                                                                                        (bif ((y40 : Int) == 0) then
                                                                                          (runK (evFn Cw d 53 [AVal.nilp] h37) fun r41 h41 =>
                                                                                            (consK r41 fun w42 ws43 =>
                                                                                              (intK .i64 w42 fun y44 =>
                                                                                                (nilK ws43
                                                                                                  (bif ((y44 : Int) == 0) then
                                                                                                    (runK (evFn Cw d 54 [AVal.nilp] h41) fun r45 h45 =>
                                                                                                      (consK r45 fun w46 ws47 =>
                                                                                                        (aggK 4 w46 fun cc48 =>
                                                                                                          (nilK ws47
                                                                                                            (bif ((arrOk Cw.P 4 3 (AVal.agg cc48)) && true) then
                                                                                                              (bif (eqCells cc48 [(AVal.int .i64 0), (AVal.int .i64 0), (AVal.int .i64 0), (AVal.int .i64 0)]) then
                                                                                                                (runK (evFn Cw d 39 [] h45) fun r49 h49 =>
                                                                                                                  (consK r49 fun w50 ws51 =>
                                                                                                                    (boolK w50 fun bb52 =>
                                                                                                                      (nilK ws51
                                                                                                                        (Tr.ret ([(AVal.bool bb52)], h49))))))
                                                                                                              else
                                                                                                                (Tr.ret ([(AVal.bool false)], h45)))
                                                                                                            else
                                                                                                              Tr.fail)))))
                                                                                                  else
                                                                                                    (Tr.ret ([(AVal.bool false)], h41)))))))
                                                                                        else
                                                                                          (Tr.ret ([(AVal.bool false)], h37)))))))
                                                                              else
                                                                                (Tr.ret ([(AVal.bool false)], h33)))))))
                                                                    else
                                                                      (Tr.ret ([(AVal.bool false)], h29)))))))
                                                          else
                                                            (Tr.ret ([(AVal.bool false)], h22)))
                                                        else
                                                          (Tr.ret ([(AVal.bool false)], h22)))
                                                      else
                                                        (Tr.ret ([(AVal.bool false)], h22)))
                                                    else
                                                      (Tr.ret ([(AVal.bool false)], h22)))))))))))))))
                          else
                            Tr.fail))))))))))))) := by kernel_rfl
end Go.Proofs.Ythebimbdijkiiaa.Wa
