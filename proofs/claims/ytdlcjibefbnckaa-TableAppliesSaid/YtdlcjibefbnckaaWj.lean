/- What the evaluator comes to in these functions. -/
import Derived.Test.YtdlcjibefbnckaaW0
import Derived.Test.YtdlcjibefbnckaaWvLb
import Derived.KernelRfl
namespace Go.Proofs.Ytdlcjibefbnckaa.Wa
open Go Go.Weave
set_option maxRecDepth 100000
set_option linter.unusedVariables false
/- f14 strandline/cursor.New -/
theorem F14nil_eq (d : Nat) (h : Heap) : evFn Cw (d + 1) 14 [AVal.nilp] h =
  (Tr.ret ([(AVal.obj h.objs.length 0)], (Heap.push h (Go.Weave.Obj.cells ([AVal.nilp, (AVal.int .i64 0), (AVal.str [])].map HCell.val))))) := by kernel_rfl
theorem F14_eq (d : Nat) (i0 : Nat) (h : Heap) : evFn Cw (d + 1) 14 [(AVal.obj i0 0)] h =
  (Tr.ret ([(AVal.obj h.objs.length 0)], (Heap.push h (Go.Weave.Obj.cells ([(AVal.obj i0 0), (AVal.int .i64 0), (AVal.str [])].map HCell.val))))) := by kernel_rfl
/- f76 (*strandline/cursor.Cursor).to -/
theorem F76_eq (d : Nat) (i0 : Nat) (s1 : List UInt8) (b2 : Bool) (x3 : Int) (h : Heap) : evFn Cw (d + 1) 76 [(AVal.obj i0 0), (AVal.str s1), (AVal.bool b2), (AVal.int .i64 x3)] h =
  (optK (Heap.cell? h i0 1) fun _ =>
    (optK (Heap.cell? (Heap.setCell h i0 1 (HCell.val (AVal.int .i64 x3))) i0 2) fun _ =>
      (bif b2 then
        (optK (Heap.cell? (Heap.setCell (Heap.setCell h i0 1 (HCell.val (AVal.int .i64 x3))) i0 2 (HCell.val (AVal.str []))) i0 1) fun _ =>
          (optK (Heap.cell? (Heap.setCell (Heap.setCell (Heap.setCell h i0 1 (HCell.val (AVal.int .i64 x3))) i0 2 (HCell.val (AVal.str []))) i0 1 (HCell.val (AVal.int .i64 1))) i0 2) fun _ =>
            (Tr.ret ([(AVal.bool b2)], (Heap.setCell (Heap.setCell (Heap.setCell (Heap.setCell h i0 1 (HCell.val (AVal.int .i64 x3))) i0 2 (HCell.val (AVal.str []))) i0 1 (HCell.val (AVal.int .i64 1))) i0 2 (HCell.val (AVal.str s1)))))))
      else
        (Tr.ret ([(AVal.bool b2)], (Heap.setCell (Heap.setCell h i0 1 (HCell.val (AVal.int .i64 x3))) i0 2 (HCell.val (AVal.str [])))))))) := by kernel_rfl
/- f19 (*strandline/cursor.Cursor).Seek -/
theorem F19nil_eq (d : Nat) (s0 : List UInt8) (h : Heap) : evFn Cw (d + 1) 19 [AVal.nilp, (AVal.str s0)] h =
  (Tr.ret ([(AVal.bool false)], h)) := by kernel_rfl
theorem F19_eq (d : Nat) (i0 : Nat) (s1 : List UInt8) (h : Heap) : evFn Cw (d + 1) 19 [(AVal.obj i0 0), (AVal.str s1)] h =
  (optK (Heap.cell? h i0 0) fun z1 =>
    (runK (evFn Cw d 75 [(HCell.toA z1), (AVal.str s1)] h) fun r2 h2 =>
      (consK r2 fun w3 ws4 =>
        (strK w3 fun ss5 =>
          (consK ws4 fun w6 ws7 =>
            (strK w6 fun ss8 =>
              (consK ws7 fun w9 ws10 =>
                (boolK w9 fun bb11 =>
                  (nilK ws10
                    (runK (evFn Cw d 76 [(AVal.obj i0 0), (AVal.str ss5), (AVal.bool bb11), (AVal.int .i64 2)] h2) fun r12 h12 =>
                      (consK r12 fun w13 ws14 =>
                        (boolK w13 fun bb15 =>
                          (nilK ws14
                            (Tr.ret ([(AVal.bool bb15)], h12))))))))))))))) := by kernel_rfl
/- f15 (*strandline/cursor.Cursor).Next -/
theorem F15nil_eq (d : Nat) (h : Heap) : evFn Cw (d + 1) 15 [AVal.nilp] h =
  (Tr.ret ([(AVal.bool false)], h)) := by kernel_rfl
noncomputable def P15_0 (d : Nat) (i0 : Nat) (s1 : List UInt8) (h : Heap) : Tr Res :=
  heldPt Cw d 15 [true, true, true, true] [] ⟨[(0, (EV.one (SV.val (AVal.obj i0 0)))), (3, (EV.one (SV.val (AVal.str s1))))], []⟩ h
theorem P15_0_eq (d : Nat) (i0 : Nat) (s1 : List UInt8) (h : Heap) : P15_0 d i0 s1 h =
  (optK (Heap.cell? h i0 0) fun z1 =>
    (runK (evFn Cw d 75 [(HCell.toA z1), (AVal.str s1)] h) fun r2 h2 =>
      (consK r2 fun w3 ws4 =>
        (strK w3 fun ss5 =>
          (consK ws4 fun w6 ws7 =>
            (strK w6 fun ss8 =>
              (consK ws7 fun w9 ws10 =>
                (boolK w9 fun bb11 =>
                  (nilK ws10
                    (runK (evFn Cw d 76 [(AVal.obj i0 0), (AVal.str ss5), (AVal.bool bb11), (AVal.int .i64 2)] h2) fun r12 h12 =>
                      (consK r12 fun w13 ws14 =>
                        (boolK w13 fun bb15 =>
                          (nilK ws14
                            (Tr.ret ([(AVal.bool bb15)], h12))))))))))))))) := (heldPt_eq _ _ _ _ _ _ _).trans (by kernel_rfl)
theorem F15_eq (d : Nat) (i0 : Nat) (h : Heap) : evFn Cw (d + 1) 15 [(AVal.obj i0 0)] h =
  (optK (Heap.cell? h i0 1) fun z1 =>
    (intK .i64 (HCell.toA z1) fun y2 =>
      (bif ((y2 : Int) == 2) then
        (Tr.ret ([(AVal.bool false)], h))
      else
        (optK (Heap.cell? h i0 1) fun z3 =>
          (intK .i64 (HCell.toA z3) fun y4 =>
            (bif ((y4 : Int) == 1) then
              (optK (Heap.cell? h i0 2) fun z5 =>
                (strK (HCell.toA z5) fun ss6 =>
                  (bif decide (ss6.length + [0].length ≤ 140737488355328) then (P15_0 d i0 (ss6 ++ [0]) h) else Tr.fail)))
            else
              (P15_0 d i0 [] h))))))) := by kernel_rfl
/- f27 (*strandline/cursor.Cursor).On -/
theorem F27nil_eq (d : Nat) (h : Heap) : evFn Cw (d + 1) 27 [AVal.nilp] h =
  (Tr.ret ([(AVal.bool false)], h)) := by kernel_rfl
theorem F27_eq (d : Nat) (i0 : Nat) (h : Heap) : evFn Cw (d + 1) 27 [(AVal.obj i0 0)] h =
  (optK (Heap.cell? h i0 1) fun z1 =>
    (intK .i64 (HCell.toA z1) fun y2 =>
      (Tr.ret ([(AVal.bool ((y2 : Int) == 1))], h)))) := by kernel_rfl
/- f25 (*strandline/cursor.Cursor).Pair -/
theorem F25nil_eq (d : Nat) (h : Heap) : evFn Cw (d + 1) 25 [AVal.nilp] h =
  (runK (evFn Cw d 27 [AVal.nilp] h) fun r1 h1 =>
    (consK r1 fun w2 ws3 =>
      (boolK w2 fun bb4 =>
        (nilK ws3
          (bif (!bb4) then (Tr.ret ([(AVal.agg [(AVal.str []), (AVal.str [])]), (AVal.bool false)], h1)) else Tr.fail))))) := by kernel_rfl
theorem F25_eq (d : Nat) (i0 : Nat) (h : Heap) : evFn Cw (d + 1) 25 [(AVal.obj i0 0)] h =
  (runK (evFn Cw d 27 [(AVal.obj i0 0)] h) fun r1 h1 =>
    (consK r1 fun w2 ws3 =>
      (boolK w2 fun bb4 =>
        (nilK ws3
          (bif (!bb4) then
            (Tr.ret ([(AVal.agg [(AVal.str []), (AVal.str [])]), (AVal.bool false)], h1))
          else
            (optK (Heap.cell? h1 i0 0) fun z5 =>
              (optK (Heap.cell? h1 i0 2) fun z6 =>
                (strK (HCell.toA z6) fun ss7 =>
                  (runK (evFn Cw d 81 [(HCell.toA z5), (AVal.str ss7)] h1) fun r8 h8 =>
                    (consK r8 fun w9 ws10 =>
                      (strK w9 fun ss11 =>
                        (consK ws10 fun w12 ws13 =>
                          (boolK w12 fun bb14 =>
                            (nilK ws13
                              (bif (!bb14) then
                                (Tr.ret ([(AVal.agg [(AVal.str []), (AVal.str [])]), (AVal.bool false)], h8))
                              else
                                (optK (Heap.cell? h8 i0 2) fun z15 =>
                                  (strK (HCell.toA z15) fun ss16 =>
                                    (Tr.ret ([(AVal.agg [(AVal.str ss16), (AVal.str ss11)]), (AVal.bool true)], h8))))))))))))))))))) := by kernel_rfl
/- f79 (*strandline/cursor.Cursor).Prev$1 -/
theorem F79_eq (d : Nat) (s0 : List UInt8) (s1 : List UInt8) (i2 : Nat) (i3 : Nat) (h : Heap) : evFn Cw (d + 1) 79 [(AVal.str s0), (AVal.str s1), (AVal.obj i2 0), (AVal.obj i3 0)] h =
  (optK (Heap.cell? h i2 0) fun _ =>
    (optK (Heap.cell? (Heap.setCell h i2 0 (HCell.val (AVal.str s0))) i3 0) fun _ =>
      (Tr.ret ([(AVal.bool true)], (Heap.setCell (Heap.setCell h i2 0 (HCell.val (AVal.str s0))) i3 0 (HCell.val (AVal.bool true))))))) := by kernel_rfl
/- f17 (*strandline/cursor.Cursor).Prev -/
theorem F17nil_eq (d : Nat) (h : Heap) : evFn Cw (d + 1) 17 [AVal.nilp] h =
  (Tr.ret ([(AVal.bool false)], h)) := by kernel_rfl
theorem F17_eq (d : Nat) (i0 : Nat) (h : Heap) : evFn Cw (d + 1) 17 [(AVal.obj i0 0)] h =
  (optK (Heap.cell? h i0 1) fun z1 =>
    (intK .i64 (HCell.toA z1) fun y2 =>
      (bif ((y2 : Int) == 0) then
        (Tr.ret ([(AVal.bool false)], h))
      else
        (optK (Heap.cell? h i0 1) fun z3 =>
          (intK .i64 (HCell.toA z3) fun y4 =>
            (bif ((y4 : Int) == 1) then
              (optK (Heap.cell? h i0 0) fun z5 =>
                (optK (Heap.cell? h i0 2) fun z6 =>
                  (strK (HCell.toA z6) fun ss7 =>
                    (runK (evFn Cw d 77 [(HCell.toA z5), (AVal.str ss7)] h) fun r8 h8 =>
                      (consK r8 fun w9 ws10 =>
                        (strK w9 fun ss11 =>
                          (consK ws10 fun w12 ws13 =>
                            (strK w12 fun ss14 =>
                              (consK ws13 fun w15 ws16 =>
                                (boolK w15 fun bb17 =>
                                  (nilK ws16
                                    (runK (evFn Cw d 76 [(AVal.obj i0 0), (AVal.str ss11), (AVal.bool bb17), (AVal.int .i64 0)] h8) fun r18 h18 =>
                                      (consK r18 fun w19 ws20 =>
                                        (boolK w19 fun bb21 =>
                                          (nilK ws20
                                            (Tr.ret ([(AVal.bool bb21)], h18)))))))))))))))))
            else
              (optK (Heap.cell? (Heap.push (Heap.push h (Go.Weave.Obj.cells [(HCell.val (AVal.str []))])) (Go.Weave.Obj.cells [(HCell.val (AVal.bool false))])) h.objs.length 0) fun _ =>
                (optK (Heap.cell? (Heap.setCell (Heap.push (Heap.push h (Go.Weave.Obj.cells [(HCell.val (AVal.str []))])) (Go.Weave.Obj.cells [(HCell.val (AVal.bool false))])) h.objs.length 0 (HCell.val (AVal.str []))) (Heap.push h (Go.Weave.Obj.cells [(HCell.val (AVal.str []))])).objs.length 0) fun _ =>
                  (optK (Heap.cell? (Heap.setCell (Heap.setCell (Heap.push (Heap.push h (Go.Weave.Obj.cells [(HCell.val (AVal.str []))])) (Go.Weave.Obj.cells [(HCell.val (AVal.bool false))])) h.objs.length 0 (HCell.val (AVal.str []))) (Heap.push h (Go.Weave.Obj.cells [(HCell.val (AVal.str []))])).objs.length 0 (HCell.val (AVal.bool false))) i0 0) fun z22 =>
                    (runK (evFn Cw d 78 [(HCell.toA z22), (AVal.fn 79 [] [(AVal.obj h.objs.length 0), (AVal.obj (Heap.push h (Go.Weave.Obj.cells [(HCell.val (AVal.str []))])).objs.length 0)])] (Heap.setCell (Heap.setCell (Heap.push (Heap.push h (Go.Weave.Obj.cells [(HCell.val (AVal.str []))])) (Go.Weave.Obj.cells [(HCell.val (AVal.bool false))])) h.objs.length 0 (HCell.val (AVal.str []))) (Heap.push h (Go.Weave.Obj.cells [(HCell.val (AVal.str []))])).objs.length 0 (HCell.val (AVal.bool false)))) fun r23 h23 =>
                      (nilK r23
                        (optK (Heap.cell? h23 h.objs.length 0) fun z24 =>
                          (strK (HCell.toA z24) fun ss25 =>
                            (optK (Heap.cell? h23 (Heap.push h (Go.Weave.Obj.cells [(HCell.val (AVal.str []))])).objs.length 0) fun z26 =>
                              (boolK (HCell.toA z26) fun bb27 =>
                                (runK (evFn Cw d 76 [(AVal.obj i0 0), (AVal.str ss25), (AVal.bool bb27), (AVal.int .i64 0)] h23) fun r28 h28 =>
                                  (consK r28 fun w29 ws30 =>
                                    (boolK w29 fun bb31 =>
                                      (nilK ws30
                                        (Tr.ret ([(AVal.bool bb31)], h28))))))))))))))))))))) := by kernel_rfl
/- f88 strandline/cursor.Range -/
noncomputable def P88nil_0 (d k : Nat) (s0 : List UInt8) (x1 : Int) (l2 : List AVal) (v3 : AVal) (b4 : Bool) (h : Heap) : Tr Res :=
  loopPt Cw d 88 [true, true, true, false, true, true] [] k ⟨[(2, (EV.one (SV.val (AVal.str s0)))), (3, (EV.one (SV.val (AVal.int .i64 x1)))), (9, (EV.one (SV.own (tokOf 9 0) 3 l2))), (10, (EV.one (SV.val v3))), (11, (EV.one (SV.val (AVal.bool b4))))], []⟩ h
theorem P88nil_0_eq (d k : Nat) (s0 : List UInt8) (x1 : Int) (l2 : List AVal) (v3 : AVal) (b4 : Bool) (h : Heap) : P88nil_0 d (k + 1) s0 x1 l2 v3 b4 h =
  (bif b4 then
    (bif (decide (((l2.length : Int) : Int) < x1)) then
      (runK (evFn Cw d 25 [v3] h) fun r1 h1 =>
        (consK r1 fun w2 ws3 =>
          (aggK 2 w2 fun cc4 =>
            (consK ws3 fun w5 ws6 =>
              (boolK w5 fun bb7 =>
                (nilK ws6
                  (bif ((cc4.length == 2) && true) then
                    (bif (!(s0 == [])) then
                      (optK (cc4[0]?) fun w8 =>
                        (strK w8 fun ss9 =>
                          (bif (!(Go.Op.bytesLess ss9 s0)) then
                            (Tr.ret ([(AVal.sl false 3 l2)], h1))
                          else
                            (bif decide (0 + 2 ≤ cc4.length) then
                              (bif ((((cc4.drop 0).take 2).length == 2) && true) then
                                (bif decide ((l2.length + (1 : Nat)) * 32 ≤ 140737488355328) then
                                  (runK (evFn Cw d 15 [v3] h1) fun r10 h10 =>
                                    (consK r10 fun w11 ws12 =>
                                      (boolK w11 fun bb13 =>
                                        (nilK ws12
                                          (P88nil_0 d k s0 x1 (l2 ++ [(AVal.agg ((cc4.drop 0).take 2))]) v3 bb13 h10)))))
                                else
                                  Tr.fail)
                              else
                                Tr.fail)
                            else
                              Tr.fail))))
                    else
                      (bif decide (0 + 2 ≤ cc4.length) then
                        (bif ((((cc4.drop 0).take 2).length == 2) && true) then
                          (bif decide ((l2.length + (1 : Nat)) * 32 ≤ 140737488355328) then
                            (runK (evFn Cw d 15 [v3] h1) fun r14 h14 =>
                              (consK r14 fun w15 ws16 =>
                                (boolK w15 fun bb17 =>
                                  (nilK ws16
                                    (P88nil_0 d k s0 x1 (l2 ++ [(AVal.agg ((cc4.drop 0).take 2))]) v3 bb17 h14)))))
                          else
                            Tr.fail)
                        else
                          Tr.fail)
                      else
                        Tr.fail))
                  else
                    Tr.fail)))))))
    else
      (Tr.ret ([(AVal.sl false 3 l2)], h)))
  else
    (Tr.ret ([(AVal.sl false 3 l2)], h))) := by kernel_rfl
theorem F88nil_eq (d : Nat) (s0 : List UInt8) (s1 : List UInt8) (x2 : Int) (h : Heap) : evFn Cw (d + 1) 88 [AVal.nilp, (AVal.str s0), (AVal.str s1), (AVal.int .i64 x2)] h =
  (runK (evFn Cw d 14 [AVal.nilp] h) fun r1 h1 =>
    (consK r1 fun w2 ws3 =>
      (nilK ws3
        (runK (evFn Cw d 19 [w2, (AVal.str s0)] h1) fun r4 h4 =>
          (consK r4 fun w5 ws6 =>
            (boolK w5 fun bb7 =>
              (nilK ws6
                (P88nil_0 d rounds s1 x2 [] w2 bb7 h4)))))))) := by kernel_rfl
noncomputable def P88_0 (d k : Nat) (s0 : List UInt8) (x1 : Int) (l2 : List AVal) (v3 : AVal) (b4 : Bool) (h : Heap) : Tr Res :=
  loopPt Cw d 88 [true, true, true, false, true, true] [] k ⟨[(2, (EV.one (SV.val (AVal.str s0)))), (3, (EV.one (SV.val (AVal.int .i64 x1)))), (9, (EV.one (SV.own (tokOf 9 0) 3 l2))), (10, (EV.one (SV.val v3))), (11, (EV.one (SV.val (AVal.bool b4))))], []⟩ h
theorem P88_0_eq (d k : Nat) (s0 : List UInt8) (x1 : Int) (l2 : List AVal) (v3 : AVal) (b4 : Bool) (h : Heap) : P88_0 d (k + 1) s0 x1 l2 v3 b4 h =
  (bif b4 then
    (bif (decide (((l2.length : Int) : Int) < x1)) then
      (runK (evFn Cw d 25 [v3] h) fun r1 h1 =>
        (consK r1 fun w2 ws3 =>
          (aggK 2 w2 fun cc4 =>
            (consK ws3 fun w5 ws6 =>
              (boolK w5 fun bb7 =>
                (nilK ws6
                  (bif ((cc4.length == 2) && true) then
                    (bif (!(s0 == [])) then
                      (optK (cc4[0]?) fun w8 =>
                        (strK w8 fun ss9 =>
                          (bif (!(Go.Op.bytesLess ss9 s0)) then
                            (Tr.ret ([(AVal.sl false 3 l2)], h1))
                          else
                            (bif decide (0 + 2 ≤ cc4.length) then
                              (bif ((((cc4.drop 0).take 2).length == 2) && true) then
                                (bif decide ((l2.length + (1 : Nat)) * 32 ≤ 140737488355328) then
                                  (runK (evFn Cw d 15 [v3] h1) fun r10 h10 =>
                                    (consK r10 fun w11 ws12 =>
                                      (boolK w11 fun bb13 =>
                                        (nilK ws12
                                          (P88_0 d k s0 x1 (l2 ++ [(AVal.agg ((cc4.drop 0).take 2))]) v3 bb13 h10)))))
                                else
                                  Tr.fail)
                              else
                                Tr.fail)
                            else
                              Tr.fail))))
                    else
                      (bif decide (0 + 2 ≤ cc4.length) then
                        (bif ((((cc4.drop 0).take 2).length == 2) && true) then
                          (bif decide ((l2.length + (1 : Nat)) * 32 ≤ 140737488355328) then
                            (runK (evFn Cw d 15 [v3] h1) fun r14 h14 =>
                              (consK r14 fun w15 ws16 =>
                                (boolK w15 fun bb17 =>
                                  (nilK ws16
                                    (P88_0 d k s0 x1 (l2 ++ [(AVal.agg ((cc4.drop 0).take 2))]) v3 bb17 h14)))))
                          else
                            Tr.fail)
                        else
                          Tr.fail)
                      else
                        Tr.fail))
                  else
                    Tr.fail)))))))
    else
      (Tr.ret ([(AVal.sl false 3 l2)], h)))
  else
    (Tr.ret ([(AVal.sl false 3 l2)], h))) := by kernel_rfl
theorem F88_eq (d : Nat) (i0 : Nat) (s1 : List UInt8) (s2 : List UInt8) (x3 : Int) (h : Heap) : evFn Cw (d + 1) 88 [(AVal.obj i0 0), (AVal.str s1), (AVal.str s2), (AVal.int .i64 x3)] h =
  (runK (evFn Cw d 14 [(AVal.obj i0 0)] h) fun r1 h1 =>
    (consK r1 fun w2 ws3 =>
      (nilK ws3
        (runK (evFn Cw d 19 [w2, (AVal.str s1)] h1) fun r4 h4 =>
          (consK r4 fun w5 ws6 =>
            (boolK w5 fun bb7 =>
              (nilK ws6
                (P88_0 d rounds s2 x3 [] w2 bb7 h4)))))))) := by kernel_rfl
/- f39 strandline/strandlineref32.Range -/
noncomputable def P39_0 (d k : Nat) (f0 : Bool) (l1 : List AVal) (s2 : List UInt8) (s3 : List UInt8) (x4 : Int) (l5 : List AVal) (x6 : Int) (h : Heap) : Tr Res :=
  loopPt Cw d 39 [true, true, false, true, true] [] k ⟨[(0, (EV.one (SV.val (AVal.sl f0 3 l1)))), (1, (EV.one (SV.val (AVal.str s2)))), (2, (EV.one (SV.val (AVal.str s3)))), (3, (EV.one (SV.val (AVal.int .i64 x4)))), (9, (EV.one (SV.own (tokOf 9 0) 3 l5))), (10, (EV.one (SV.val (AVal.int .i64 x6))))], []⟩ h
theorem P39_0_eq (d k : Nat) (f0 : Bool) (l1 : List AVal) (s2 : List UInt8) (s3 : List UInt8) (x4 : Int) (l5 : List AVal) (x6 : Int) (h : Heap) : P39_0 d (k + 1) f0 l1 s2 s3 x4 l5 x6 h =
  (bif (decide ((x6 : Int) < (l1.length : Int))) then
    (bif (decide (((l5.length : Int) : Int) < x4)) then
      (bif (decide ((0 : Int) ≤ x6) && decide ((x6 : Int) < (l1.length : Int))) then
        (optK ((AVal.cells (l1.getD (Int.toNat x6) AVal.undef))[0]?) fun w1 =>
          (strK w1 fun ss2 =>
            (bif (!(Go.Op.bytesLess ss2 s2)) then
              (bif (s3 == []) then
                (bif (decide ((0 : Int) ≤ x6) && decide ((x6 : Int) < (l1.length : Int))) then
                  (aggK 2 (l1.getD (Int.toNat x6) AVal.undef) fun cc3 =>
                    (bif ((cc3.length == 2) && true) then
                      (bif decide ((l5.length + (1 : Nat)) * 32 ≤ 140737488355328) then (P39_0 d k f0 l1 s2 s3 x4 (l5 ++ [(AVal.agg cc3)]) (IntKind.i64.wrap (x6 + 1)) h) else Tr.fail)
                    else
                      Tr.fail))
                else
                  Tr.fail)
              else
                (bif (decide ((0 : Int) ≤ x6) && decide ((x6 : Int) < (l1.length : Int))) then
                  (optK ((AVal.cells (l1.getD (Int.toNat x6) AVal.undef))[0]?) fun w4 =>
                    (strK w4 fun ss5 =>
                      (bif (Go.Op.bytesLess ss5 s3) then
                        (bif (decide ((0 : Int) ≤ x6) && decide ((x6 : Int) < (l1.length : Int))) then
                          (aggK 2 (l1.getD (Int.toNat x6) AVal.undef) fun cc6 =>
                            (bif ((cc6.length == 2) && true) then
                              (bif decide ((l5.length + (1 : Nat)) * 32 ≤ 140737488355328) then (P39_0 d k f0 l1 s2 s3 x4 (l5 ++ [(AVal.agg cc6)]) (IntKind.i64.wrap (x6 + 1)) h) else Tr.fail)
                            else
                              Tr.fail))
                        else
                          Tr.fail)
                      else
                        (P39_0 d k f0 l1 s2 s3 x4 l5 (IntKind.i64.wrap (x6 + 1)) h))))
                else
                  Tr.fail))
            else
              (P39_0 d k f0 l1 s2 s3 x4 l5 (IntKind.i64.wrap (x6 + 1)) h))))
      else
        Tr.fail)
    else
      (Tr.ret ([(AVal.sl false 3 l5)], h)))
  else
    (Tr.ret ([(AVal.sl false 3 l5)], h))) := by kernel_rfl
theorem F39_eq (d : Nat) (f0 : Bool) (l1 : List AVal) (s2 : List UInt8) (s3 : List UInt8) (x4 : Int) (h : Heap) : evFn Cw (d + 1) 39 [(AVal.sl f0 3 l1), (AVal.str s2), (AVal.str s3), (AVal.int .i64 x4)] h =
  (P39_0 d rounds f0 l1 s2 s3 x4 [] 0 h) := by kernel_rfl
/- f12 strandline/strandlinelaw32.awake -/
noncomputable def P12_0 (d : Nat) (v0 : AVal) (b1 : Bool) (c2 : List AVal) (h : Heap) : Tr Res :=
  heldPt Cw d 12 [true, true, true, true, true, true] [] ⟨[(2, (EV.one (SV.val v0))), (3, (EV.one (SV.loc 3 0))), (4, (EV.one (SV.val (AVal.bool b1))))], [(3, (Box.plain c2))]⟩ h
theorem P12_0_eq (d : Nat) (v0 : AVal) (b1 : Bool) (c2 : List AVal) (h : Heap) : P12_0 d v0 b1 c2 h =
  (bif b1 then
    (optK (c2[0]?) fun w1 =>
      (strK w1 fun ss2 =>
        (bif (ss2 == [97]) then
          (optK (c2[1]?) fun w3 =>
            (strK w3 fun ss4 =>
              (bif (ss4 == [120]) then
                (runK (evFn Cw d 15 [v0] h) fun r5 h5 =>
                  (consK r5 fun w6 ws7 =>
                    (boolK w6 fun bb8 =>
                      (nilK ws7
                        (Tr.ret ([(AVal.bool (!bb8))], h5))))))
              else
                (Tr.ret ([(AVal.bool false)], h)))))
        else
          (Tr.ret ([(AVal.bool false)], h)))))
  else
    (Tr.ret ([(AVal.bool false)], h))) := (heldPt_eq _ _ _ _ _ _ _).trans (by kernel_rfl)
theorem F12_eq (d : Nat) (h : Heap) : evFn Cw (d + 1) 12 [] h =
  (runK (evFn Cw d 13 [] h) fun r1 h1 =>
    (consK r1 fun w2 ws3 =>
      (nilK ws3
        (runK (evFn Cw d 21 [w2, (AVal.str [97]), (AVal.str [120])] h1) fun r4 h4 =>
          (consK r4 fun w5 ws6 =>
            (strK w5 fun ss7 =>
              (consK ws6 fun w8 ws9 =>
                (boolK w8 fun bb10 =>
                  (nilK ws9
                    (runK (evFn Cw d 14 [w2] h4) fun r11 h11 =>
                      (consK r11 fun w12 ws13 =>
                        (nilK ws13
                          (runK (evFn Cw d 15 [w12] h11) fun r14 h14 =>
                            (consK r14 fun w15 ws16 =>
                              (boolK w15 fun bb17 =>
                                (nilK ws16
                                  (bif bb17 then
                                    (runK (evFn Cw d 25 [w12] h14) fun r18 h18 =>
                                      (consK r18 fun w19 ws20 =>
                                        (aggK 2 w19 fun cc21 =>
                                          (consK ws20 fun w22 ws23 =>
                                            (boolK w22 fun bb24 =>
                                              (nilK ws23
                                                (bif ((cc21.length == 2) && true) then (P12_0 d w12 bb24 cc21 h18) else Tr.fail)))))))
                                  else
                                    (P12_0 d w12 bb17 [(AVal.str []), (AVal.str [])] h14)))))))))))))))))) := by kernel_rfl
/- f16 (strandline/strandlineref32.Cursor).Next -/
noncomputable def P16_0 (d k : Nat) (f0 : Bool) (l1 : List AVal) (x2 : Int) (x3 : Int) (s4 : List UInt8) (x5 : Int) (s6 : List UInt8) (h : Heap) : Tr Res :=
  loopPt Cw d 16 [true, false, true, true] [] k ⟨[(1, (EV.one (SV.val (AVal.sl f0 3 l1)))), (2, (EV.one (SV.loc 2 0))), (4, (EV.one (SV.loc 4 0))), (5, (EV.one (SV.val (AVal.int .i64 x2))))], [(2, (Box.plain [(AVal.int .i64 x3), (AVal.str s4)])), (4, (Box.plain [(AVal.int .i64 x5), (AVal.str s6)]))]⟩ h
theorem P16_0_eq (d k : Nat) (f0 : Bool) (l1 : List AVal) (x2 : Int) (x3 : Int) (s4 : List UInt8) (x5 : Int) (s6 : List UInt8) (h : Heap) : P16_0 d (k + 1) f0 l1 x2 x3 s4 x5 s6 h =
  (bif (decide ((x2 : Int) < (l1.length : Int))) then
    (bif (decide ((x3 : Int) < 2)) then
      (bif ((x3 : Int) == 0) then
        (bif (decide ((0 : Int) ≤ x2) && decide ((x2 : Int) < (l1.length : Int))) then
          (optK ((AVal.cells (l1.getD (Int.toNat x2) AVal.undef))[0]?) fun w1 =>
            (strK w1 fun ss2 =>
              (Tr.ret ([(AVal.agg [(AVal.int .i64 1), (AVal.str ss2)])], h))))
        else
          Tr.fail)
      else
        (bif (decide ((0 : Int) ≤ x2) && decide ((x2 : Int) < (l1.length : Int))) then
          (optK ((AVal.cells (l1.getD (Int.toNat x2) AVal.undef))[0]?) fun w3 =>
            (strK w3 fun ss4 =>
              (bif (!((Go.Op.bytesLess ss4 s4) || (ss4 == s4))) then
                (bif (decide ((0 : Int) ≤ x2) && decide ((x2 : Int) < (l1.length : Int))) then
                  (optK ((AVal.cells (l1.getD (Int.toNat x2) AVal.undef))[0]?) fun w5 =>
                    (strK w5 fun ss6 =>
                      (Tr.ret ([(AVal.agg [(AVal.int .i64 1), (AVal.str ss6)])], h))))
                else
                  Tr.fail)
              else
                (P16_0 d k f0 l1 (IntKind.i64.wrap (x2 + 1)) x3 s4 x5 s6 h))))
        else
          Tr.fail))
    else
      (Tr.ret ([(AVal.agg [(AVal.int .i64 2), (AVal.str [])])], h)))
  else
    (Tr.ret ([(AVal.agg [(AVal.int .i64 2), (AVal.str [])])], h))) := by kernel_rfl
theorem F16_eq (d : Nat) (x0 : Int) (s1 : List UInt8) (f2 : Bool) (l3 : List AVal) (h : Heap) : evFn Cw (d + 1) 16 [(AVal.agg [(AVal.int .i64 x0), (AVal.str s1)]), (AVal.sl f2 3 l3)] h =
  (P16_0 d rounds f2 l3 0 x0 s1 0 [] h) := by kernel_rfl
/- f18 (strandline/strandlineref32.Cursor).Prev -/
noncomputable def P18_0 (d k : Nat) (f0 : Bool) (l1 : List AVal) (x2 : Int) (x3 : Int) (s4 : List UInt8) (x5 : Int) (s6 : List UInt8) (h : Heap) : Tr Res :=
  loopPt Cw d 18 [true, false, true, true] [] k ⟨[(1, (EV.one (SV.val (AVal.sl f0 3 l1)))), (2, (EV.one (SV.loc 2 0))), (4, (EV.one (SV.loc 4 0))), (5, (EV.one (SV.val (AVal.int .i64 x2))))], [(2, (Box.plain [(AVal.int .i64 x3), (AVal.str s4)])), (4, (Box.plain [(AVal.int .i64 x5), (AVal.str s6)]))]⟩ h
theorem P18_0_eq (d k : Nat) (f0 : Bool) (l1 : List AVal) (x2 : Int) (x3 : Int) (s4 : List UInt8) (x5 : Int) (s6 : List UInt8) (h : Heap) : P18_0 d (k + 1) f0 l1 x2 x3 s4 x5 s6 h =
  (bif (decide ((x2 : Int) ≥ 0)) then
    (bif (decide ((x3 : Int) > 0)) then
      (bif ((x3 : Int) == 2) then
        (bif (decide ((0 : Int) ≤ x2) && decide ((x2 : Int) < (l1.length : Int))) then
          (optK ((AVal.cells (l1.getD (Int.toNat x2) AVal.undef))[0]?) fun w1 =>
            (strK w1 fun ss2 =>
              (Tr.ret ([(AVal.agg [(AVal.int .i64 1), (AVal.str ss2)])], h))))
        else
          Tr.fail)
      else
        (bif (decide ((0 : Int) ≤ x2) && decide ((x2 : Int) < (l1.length : Int))) then
          (optK ((AVal.cells (l1.getD (Int.toNat x2) AVal.undef))[0]?) fun w3 =>
            (strK w3 fun ss4 =>
              (bif (Go.Op.bytesLess ss4 s4) then
                (bif (decide ((0 : Int) ≤ x2) && decide ((x2 : Int) < (l1.length : Int))) then
                  (optK ((AVal.cells (l1.getD (Int.toNat x2) AVal.undef))[0]?) fun w5 =>
                    (strK w5 fun ss6 =>
                      (Tr.ret ([(AVal.agg [(AVal.int .i64 1), (AVal.str ss6)])], h))))
                else
                  Tr.fail)
              else
                (P18_0 d k f0 l1 (IntKind.i64.wrap (x2 - 1)) x3 s4 x5 s6 h))))
        else
          Tr.fail))
    else
      (Tr.ret ([(AVal.agg [(AVal.int .i64 0), (AVal.str [])])], h)))
  else
    (Tr.ret ([(AVal.agg [(AVal.int .i64 0), (AVal.str [])])], h))) := by kernel_rfl
theorem F18_eq (d : Nat) (x0 : Int) (s1 : List UInt8) (f2 : Bool) (l3 : List AVal) (h : Heap) : evFn Cw (d + 1) 18 [(AVal.agg [(AVal.int .i64 x0), (AVal.str s1)]), (AVal.sl f2 3 l3)] h =
  (P18_0 d rounds f2 l3 (IntKind.i64.wrap ((l3.length : Int) - 1)) x0 s1 0 [] h) := by kernel_rfl
/- f20 (strandline/strandlineref32.Cursor).Seek -/
theorem F20_eq (d : Nat) (x0 : Int) (s1 : List UInt8) (f2 : Bool) (l3 : List AVal) (s4 : List UInt8) (h : Heap) : evFn Cw (d + 1) 20 [(AVal.agg [(AVal.int .i64 x0), (AVal.str s1)]), (AVal.sl f2 3 l3), (AVal.str s4)] h =
  (runK (evFn Cw d 80 [(AVal.sl f2 3 l3), (AVal.str s4)] h) fun r1 h1 =>
    (consK r1 fun w2 ws3 =>
      (aggK 2 w2 fun cc4 =>
        (consK ws3 fun w5 ws6 =>
          (boolK w5 fun bb7 =>
            (nilK ws6
              (bif ((cc4.length == 2) && true) then
                (bif (!bb7) then
                  (Tr.ret ([(AVal.agg [(AVal.int .i64 2), (AVal.str [])])], h1))
                else
                  (optK (cc4[0]?) fun w8 =>
                    (strK w8 fun ss9 =>
                      (Tr.ret ([(AVal.agg [(AVal.int .i64 1), (AVal.str ss9)])], h1)))))
              else
                Tr.fail))))))) := by kernel_rfl
/- f3 strandline/strandlinelaw32.CursorPlays -/
noncomputable def P3_0 (d k : Nat) (f0 : Bool) (l1 : List AVal) (v2 : AVal) (v3 : AVal) (l4 : List AVal) (x5 : Int) (c6 : List AVal) (h : Heap) : Tr Res :=
  loopPt Cw d 3 [true, true, true, true, true, false, true, true] [] k ⟨[(0, (EV.one (SV.val (AVal.sl f0 3 l1)))), (3, (EV.one (SV.val v2))), (4, (EV.one (SV.val v3))), (5, (EV.one (SV.loc 5 0))), (6, (EV.one (SV.own (tokOf 6 0) 3 l4))), (7, (EV.one (SV.val (AVal.int .i64 x5))))], [(5, (Box.plain c6))]⟩ h
noncomputable def P3_1 (d n0 : Nat) (f0 : Bool) (l1 : List AVal) (v2 : AVal) (v3 : AVal) (l4 : List AVal) (x5 : Int) (b6 : Bool) (x7 : Int) (c8 : List AVal) (h : Heap) : Tr Res :=
  heldPt Cw d 3 [true, true, true, true, true, false, true, true, true, true, false, true, true, true, true] [n0] ⟨[(0, (EV.one (SV.val (AVal.sl f0 3 l1)))), (3, (EV.one (SV.val v2))), (4, (EV.one (SV.val v3))), (5, (EV.one (SV.loc 5 0))), (6, (EV.one (SV.own (tokOf 6 0) 3 l4))), (7, (EV.one (SV.val (AVal.int .i64 x5)))), (8, (EV.one (SV.val (AVal.bool b6)))), (9, (EV.one (SV.val (AVal.int .u64 x7))))], [(5, (Box.plain c8))]⟩ h
theorem P3_0_eq (d k : Nat) (f0 : Bool) (l1 : List AVal) (v2 : AVal) (v3 : AVal) (l4 : List AVal) (x5 : Int) (c6 : List AVal) (h : Heap) : P3_0 d (k + 1) f0 l1 v2 v3 l4 x5 c6 h =
  (bif (decide ((x5 : Int) < (l1.length : Int))) then
    (bif (decide ((0 : Int) ≤ x5) && decide ((x5 : Int) < (l1.length : Int))) then
      (optK ((AVal.cells (l1.getD (Int.toNat x5) AVal.undef))[0]?) fun w1 =>
        (intK .u64 w1 fun y2 =>
          (bif (((Int.tmod y2 6) : Int) == 0) then
            (bif (((Int.tmod y2 6) : Int) == 0) then
              (runK (evFn Cw d 15 [v3] h) fun r3 h3 =>
                (consK r3 fun w4 ws5 =>
                  (boolK w4 fun bb6 =>
                    (nilK ws5
                      (bif decide (0 + 2 ≤ c6.length) then
                        (runK (evFn Cw d 16 [(AVal.agg ((c6.drop 0).take 2)), (AVal.sl false 3 l4)] h3) fun r7 h7 =>
                          (consK r7 fun w8 ws9 =>
                            (aggK 2 w8 fun cc10 =>
                              (nilK ws9
                                (bif ((cc10.length == 2) && decide (0 + 2 ≤ c6.length)) then
                                  (P3_1 d k f0 l1 v2 v3 l4 x5 bb6 (Int.tmod y2 6) (bif (c6.length == 2) then cc10 else (spliceAt 0 cc10 c6)) h7)
                                else
                                  Tr.fail)))))
                      else
                        Tr.fail)))))
            else
              (bif (((Int.tmod y2 6) : Int) == 2) then
                (runK (evFn Cw d 17 [v3] h) fun r11 h11 =>
                  (consK r11 fun w12 ws13 =>
                    (boolK w12 fun bb14 =>
                      (nilK ws13
                        (bif decide (0 + 2 ≤ c6.length) then
                          (runK (evFn Cw d 18 [(AVal.agg ((c6.drop 0).take 2)), (AVal.sl false 3 l4)] h11) fun r15 h15 =>
                            (consK r15 fun w16 ws17 =>
                              (aggK 2 w16 fun cc18 =>
                                (nilK ws17
                                  (bif ((cc18.length == 2) && decide (0 + 2 ≤ c6.length)) then
                                    (P3_1 d k f0 l1 v2 v3 l4 x5 bb14 (Int.tmod y2 6) (bif (c6.length == 2) then cc18 else (spliceAt 0 cc18 c6)) h15)
                                  else
                                    Tr.fail)))))
                        else
                          Tr.fail)))))
              else
                (bif (((Int.tmod y2 6) : Int) == 3) then
                  (bif (decide ((0 : Int) ≤ x5) && decide ((x5 : Int) < (l1.length : Int))) then
                    (optK ((AVal.cells (l1.getD (Int.toNat x5) AVal.undef))[1]?) fun w19 =>
                      (strK w19 fun ss20 =>
                        (runK (evFn Cw d 19 [v3, (AVal.str ss20)] h) fun r21 h21 =>
                          (consK r21 fun w22 ws23 =>
                            (boolK w22 fun bb24 =>
                              (nilK ws23
                                (bif decide (0 + 2 ≤ c6.length) then
                                  (bif (decide ((0 : Int) ≤ x5) && decide ((x5 : Int) < (l1.length : Int))) then
                                    (optK ((AVal.cells (l1.getD (Int.toNat x5) AVal.undef))[1]?) fun w25 =>
                                      (strK w25 fun ss26 =>
                                        (runK (evFn Cw d 20 [(AVal.agg ((c6.drop 0).take 2)), (AVal.sl false 3 l4), (AVal.str ss26)] h21) fun r27 h27 =>
                                          (consK r27 fun w28 ws29 =>
                                            (aggK 2 w28 fun cc30 =>
                                              (nilK ws29
                                                (bif ((cc30.length == 2) && decide (0 + 2 ≤ c6.length)) then
                                                  (P3_1 d k f0 l1 v2 v3 l4 x5 bb24 (Int.tmod y2 6) (bif (c6.length == 2) then cc30 else (spliceAt 0 cc30 c6)) h27)
                                                else
                                                  Tr.fail)))))))
                                  else
                                    Tr.fail)
                                else
                                  Tr.fail)))))))
                  else
                    Tr.fail)
                else
                  (bif (((Int.tmod y2 6) : Int) == 4) then
                    (bif (decide ((0 : Int) ≤ x5) && decide ((x5 : Int) < (l1.length : Int))) then
                      (optK ((AVal.cells (l1.getD (Int.toNat x5) AVal.undef))[1]?) fun w31 =>
                        (strK w31 fun ss32 =>
                          (bif (decide ((0 : Int) ≤ x5) && decide ((x5 : Int) < (l1.length : Int))) then
                            (optK ((AVal.cells (l1.getD (Int.toNat x5) AVal.undef))[1]?) fun w33 =>
                              (strK w33 fun ss34 =>
                                (bif decide (ss34.length + [33].length ≤ 140737488355328) then
                                  (runK (evFn Cw d 21 [v2, (AVal.str ss32), (AVal.str (ss34 ++ [33]))] h) fun r35 h35 =>
                                    (consK r35 fun w36 ws37 =>
                                      (strK w36 fun ss38 =>
                                        (consK ws37 fun w39 ws40 =>
                                          (boolK w39 fun bb41 =>
                                            (nilK ws40
                                              (bif (decide ((0 : Int) ≤ x5) && decide ((x5 : Int) < (l1.length : Int))) then
                                                (optK ((AVal.cells (l1.getD (Int.toNat x5) AVal.undef))[1]?) fun w42 =>
                                                  (strK w42 fun ss43 =>
                                                    (bif (decide ((0 : Int) ≤ x5) && decide ((x5 : Int) < (l1.length : Int))) then
                                                      (optK ((AVal.cells (l1.getD (Int.toNat x5) AVal.undef))[1]?) fun w44 =>
                                                        (strK w44 fun ss45 =>
                                                          (bif decide (ss45.length + [33].length ≤ 140737488355328) then
                                                            (runK (evFn Cw d 22 [(AVal.sl false 3 l4), (AVal.str ss43), (AVal.str (ss45 ++ [33]))] h35) fun r46 h46 =>
                                                              (consK r46 fun w47 ws48 =>
                                                                (slOK 3 w47 fun es49 =>
                                                                  (nilK ws48
                                                                    (P3_1 d k f0 l1 v2 v3 es49 x5 false (Int.tmod y2 6) c6 h46)))))
                                                          else
                                                            Tr.fail)))
                                                    else
                                                      Tr.fail)))
                                              else
                                                Tr.fail)))))))
                                else
                                  Tr.fail)))
                          else
                            Tr.fail)))
                    else
                      Tr.fail)
                  else
                    (bif (decide ((0 : Int) ≤ x5) && decide ((x5 : Int) < (l1.length : Int))) then
                      (optK ((AVal.cells (l1.getD (Int.toNat x5) AVal.undef))[1]?) fun w50 =>
                        (strK w50 fun ss51 =>
                          (runK (evFn Cw d 23 [v2, (AVal.str ss51)] h) fun r52 h52 =>
                            (consK r52 fun w53 ws54 =>
                              (strK w53 fun ss55 =>
                                (consK ws54 fun w56 ws57 =>
                                  (boolK w56 fun bb58 =>
                                    (nilK ws57
                                      (bif (decide ((0 : Int) ≤ x5) && decide ((x5 : Int) < (l1.length : Int))) then
                                        (optK ((AVal.cells (l1.getD (Int.toNat x5) AVal.undef))[1]?) fun w59 =>
                                          (strK w59 fun ss60 =>
                                            (runK (evFn Cw d 24 [(AVal.sl false 3 l4), (AVal.str ss60)] h52) fun r61 h61 =>
                                              (consK r61 fun w62 ws63 =>
                                                (slOK 3 w62 fun es64 =>
                                                  (nilK ws63
                                                    (P3_1 d k f0 l1 v2 v3 es64 x5 false (Int.tmod y2 6) c6 h61)))))))
                                      else
                                        Tr.fail)))))))))
                    else
                      Tr.fail)))))
          else
            (bif (((Int.tmod y2 6) : Int) == 1) then
              (runK (evFn Cw d 15 [v3] h) fun r65 h65 =>
                (consK r65 fun w66 ws67 =>
                  (boolK w66 fun bb68 =>
                    (nilK ws67
                      (bif decide (0 + 2 ≤ c6.length) then
                        (runK (evFn Cw d 16 [(AVal.agg ((c6.drop 0).take 2)), (AVal.sl false 3 l4)] h65) fun r69 h69 =>
                          (consK r69 fun w70 ws71 =>
                            (aggK 2 w70 fun cc72 =>
                              (nilK ws71
                                (bif ((cc72.length == 2) && decide (0 + 2 ≤ c6.length)) then
                                  (P3_1 d k f0 l1 v2 v3 l4 x5 bb68 (Int.tmod y2 6) (bif (c6.length == 2) then cc72 else (spliceAt 0 cc72 c6)) h69)
                                else
                                  Tr.fail)))))
                      else
                        Tr.fail)))))
            else
              (bif (((Int.tmod y2 6) : Int) == 2) then
                (runK (evFn Cw d 17 [v3] h) fun r73 h73 =>
                  (consK r73 fun w74 ws75 =>
                    (boolK w74 fun bb76 =>
                      (nilK ws75
                        (bif decide (0 + 2 ≤ c6.length) then
                          (runK (evFn Cw d 18 [(AVal.agg ((c6.drop 0).take 2)), (AVal.sl false 3 l4)] h73) fun r77 h77 =>
                            (consK r77 fun w78 ws79 =>
                              (aggK 2 w78 fun cc80 =>
                                (nilK ws79
                                  (bif ((cc80.length == 2) && decide (0 + 2 ≤ c6.length)) then
                                    (P3_1 d k f0 l1 v2 v3 l4 x5 bb76 (Int.tmod y2 6) (bif (c6.length == 2) then cc80 else (spliceAt 0 cc80 c6)) h77)
                                  else
                                    Tr.fail)))))
                        else
                          Tr.fail)))))
              else
                (bif (((Int.tmod y2 6) : Int) == 3) then
                  (bif (decide ((0 : Int) ≤ x5) && decide ((x5 : Int) < (l1.length : Int))) then
                    (optK ((AVal.cells (l1.getD (Int.toNat x5) AVal.undef))[1]?) fun w81 =>
                      (strK w81 fun ss82 =>
                        (runK (evFn Cw d 19 [v3, (AVal.str ss82)] h) fun r83 h83 =>
                          (consK r83 fun w84 ws85 =>
                            (boolK w84 fun bb86 =>
                              (nilK ws85
                                (bif decide (0 + 2 ≤ c6.length) then
                                  (bif (decide ((0 : Int) ≤ x5) && decide ((x5 : Int) < (l1.length : Int))) then
                                    (optK ((AVal.cells (l1.getD (Int.toNat x5) AVal.undef))[1]?) fun w87 =>
                                      (strK w87 fun ss88 =>
                                        (runK (evFn Cw d 20 [(AVal.agg ((c6.drop 0).take 2)), (AVal.sl false 3 l4), (AVal.str ss88)] h83) fun r89 h89 =>
                                          (consK r89 fun w90 ws91 =>
                                            (aggK 2 w90 fun cc92 =>
                                              (nilK ws91
                                                (bif ((cc92.length == 2) && decide (0 + 2 ≤ c6.length)) then
                                                  (P3_1 d k f0 l1 v2 v3 l4 x5 bb86 (Int.tmod y2 6) (bif (c6.length == 2) then cc92 else (spliceAt 0 cc92 c6)) h89)
                                                else
                                                  Tr.fail)))))))
                                  else
                                    Tr.fail)
                                else
                                  Tr.fail)))))))
                  else
                    Tr.fail)
                else
                  (bif (((Int.tmod y2 6) : Int) == 4) then
                    (bif (decide ((0 : Int) ≤ x5) && decide ((x5 : Int) < (l1.length : Int))) then
                      (optK ((AVal.cells (l1.getD (Int.toNat x5) AVal.undef))[1]?) fun w93 =>
                        (strK w93 fun ss94 =>
                          (bif (decide ((0 : Int) ≤ x5) && decide ((x5 : Int) < (l1.length : Int))) then
                            (optK ((AVal.cells (l1.getD (Int.toNat x5) AVal.undef))[1]?) fun w95 =>
                              (strK w95 fun ss96 =>
                                (bif decide (ss96.length + [33].length ≤ 140737488355328) then
                                  (runK (evFn Cw d 21 [v2, (AVal.str ss94), (AVal.str (ss96 ++ [33]))] h) fun r97 h97 =>
                                    (consK r97 fun w98 ws99 =>
                                      (strK w98 fun ss100 =>
                                        (consK ws99 fun w101 ws102 =>
                                          (boolK w101 fun bb103 =>
                                            (nilK ws102
                                              (bif (decide ((0 : Int) ≤ x5) && decide ((x5 : Int) < (l1.length : Int))) then
                                                (optK ((AVal.cells (l1.getD (Int.toNat x5) AVal.undef))[1]?) fun w104 =>
                                                  (strK w104 fun ss105 =>
                                                    (bif (decide ((0 : Int) ≤ x5) && decide ((x5 : Int) < (l1.length : Int))) then
                                                      (optK ((AVal.cells (l1.getD (Int.toNat x5) AVal.undef))[1]?) fun w106 =>
                                                        (strK w106 fun ss107 =>
                                                          (bif decide (ss107.length + [33].length ≤ 140737488355328) then
                                                            (runK (evFn Cw d 22 [(AVal.sl false 3 l4), (AVal.str ss105), (AVal.str (ss107 ++ [33]))] h97) fun r108 h108 =>
                                                              (consK r108 fun w109 ws110 =>
                                                                (slOK 3 w109 fun es111 =>
                                                                  (nilK ws110
                                                                    (P3_1 d k f0 l1 v2 v3 es111 x5 false (Int.tmod y2 6) c6 h108)))))
                                                          else
                                                            Tr.fail)))
                                                    else
                                                      Tr.fail)))
                                              else
                                                Tr.fail)))))))
                                else
                                  Tr.fail)))
                          else
                            Tr.fail)))
                    else
                      Tr.fail)
                  else
                    (bif (decide ((0 : Int) ≤ x5) && decide ((x5 : Int) < (l1.length : Int))) then
                      (optK ((AVal.cells (l1.getD (Int.toNat x5) AVal.undef))[1]?) fun w112 =>
                        (strK w112 fun ss113 =>
                          (runK (evFn Cw d 23 [v2, (AVal.str ss113)] h) fun r114 h114 =>
                            (consK r114 fun w115 ws116 =>
                              (strK w115 fun ss117 =>
                                (consK ws116 fun w118 ws119 =>
                                  (boolK w118 fun bb120 =>
                                    (nilK ws119
                                      (bif (decide ((0 : Int) ≤ x5) && decide ((x5 : Int) < (l1.length : Int))) then
                                        (optK ((AVal.cells (l1.getD (Int.toNat x5) AVal.undef))[1]?) fun w121 =>
                                          (strK w121 fun ss122 =>
                                            (runK (evFn Cw d 24 [(AVal.sl false 3 l4), (AVal.str ss122)] h114) fun r123 h123 =>
                                              (consK r123 fun w124 ws125 =>
                                                (slOK 3 w124 fun es126 =>
                                                  (nilK ws125
                                                    (P3_1 d k f0 l1 v2 v3 es126 x5 false (Int.tmod y2 6) c6 h123)))))))
                                      else
                                        Tr.fail)))))))))
                    else
                      Tr.fail))))))))
    else
      Tr.fail)
  else
    (runK (evFn Cw d 12 [] h) fun r127 h127 =>
      (consK r127 fun w128 ws129 =>
        (boolK w128 fun bb130 =>
          (nilK ws129
            (Tr.ret ([(AVal.bool bb130)], h127))))))) := by kernel_rfl
theorem P3_1_eq (d n0 : Nat) (f0 : Bool) (l1 : List AVal) (v2 : AVal) (v3 : AVal) (l4 : List AVal) (x5 : Int) (b6 : Bool) (x7 : Int) (c8 : List AVal) (h : Heap) : P3_1 d n0 f0 l1 v2 v3 l4 x5 b6 x7 c8 h =
  (runK (evFn Cw d 25 [v3] h) fun r1 h1 =>
    (consK r1 fun w2 ws3 =>
      (aggK 2 w2 fun cc4 =>
        (consK ws3 fun w5 ws6 =>
          (boolK w5 fun bb7 =>
            (nilK ws6
              (bif ((cc4.length == 2) && true) then
                (optK (c8[1]?) fun w8 =>
                  (strK w8 fun ss9 =>
                    (runK (evFn Cw d 26 [(AVal.sl false 3 l4), (AVal.str ss9)] h1) fun r10 h10 =>
                      (consK r10 fun w11 ws12 =>
                        (strK w11 fun ss13 =>
                          (consK ws12 fun w14 ws15 =>
                            (boolK w14 fun bb16 =>
                              (nilK ws15
                                (bif bb16 then
                                  (optK (c8[0]?) fun w17 =>
                                    (intK .i64 w17 fun y18 =>
                                      (bif (decide ((x7 : Int) < 4)) then
                                        (optK (c8[0]?) fun w19 =>
                                          (intK .i64 w19 fun y20 =>
                                            (bif (!(b6 == ((y20 : Int) == 1))) then
                                              (Tr.ret ([(AVal.bool false)], h10))
                                            else
                                              (optK (c8[0]?) fun w21 =>
                                                (intK .i64 w21 fun y22 =>
                                                  (runK (evFn Cw d 27 [v3] h10) fun r23 h23 =>
                                                    (consK r23 fun w24 ws25 =>
                                                      (boolK w24 fun bb26 =>
                                                        (nilK ws25
                                                          (bif (!(bb26 == ((y22 : Int) == 1))) then
                                                            (Tr.ret ([(AVal.bool false)], h23))
                                                          else
                                                            (bif (!(bb7 == ((y18 : Int) == 1))) then
                                                              (Tr.ret ([(AVal.bool false)], h23))
                                                            else
                                                              (bif bb7 then
                                                                (bif decide (0 + 2 ≤ cc4.length) then
                                                                  (optK (c8[1]?) fun w27 =>
                                                                    (strK w27 fun ss28 =>
                                                                      (bif ((plainOk Cw.P 43 (AVal.agg ((cc4.drop 0).take 2))) && true) then
                                                                        (bif (!(eqCells ((cc4.drop 0).take 2) [(AVal.str ss28), (AVal.str ss13)])) then
                                                                          (Tr.ret ([(AVal.bool false)], h23))
                                                                        else
                                                                          (bif (!bb7) then
                                                                            (bif decide (0 + 2 ≤ cc4.length) then
                                                                              (bif ((plainOk Cw.P 43 (AVal.agg ((cc4.drop 0).take 2))) && true) then
                                                                                (bif (!(eqCells ((cc4.drop 0).take 2) [(AVal.str []), (AVal.str [])])) then
                                                                                  (Tr.ret ([(AVal.bool false)], h23))
                                                                                else
                                                                                  (P3_0 d n0 f0 l1 v2 v3 l4 (IntKind.i64.wrap (x5 + 1)) c8 h23))
                                                                              else
                                                                                Tr.fail)
                                                                            else
                                                                              Tr.fail)
                                                                          else
                                                                            (P3_0 d n0 f0 l1 v2 v3 l4 (IntKind.i64.wrap (x5 + 1)) c8 h23)))
                                                                      else
                                                                        Tr.fail)))
                                                                else
                                                                  Tr.fail)
                                                              else
                                                                (bif (!bb7) then
                                                                  (bif decide (0 + 2 ≤ cc4.length) then
                                                                    (bif ((plainOk Cw.P 43 (AVal.agg ((cc4.drop 0).take 2))) && true) then
                                                                      (bif (!(eqCells ((cc4.drop 0).take 2) [(AVal.str []), (AVal.str [])])) then
                                                                        (Tr.ret ([(AVal.bool false)], h23))
                                                                      else
                                                                        (P3_0 d n0 f0 l1 v2 v3 l4 (IntKind.i64.wrap (x5 + 1)) c8 h23))
                                                                    else
                                                                      Tr.fail)
                                                                  else
                                                                    Tr.fail)
                                                                else
                                                                  (P3_0 d n0 f0 l1 v2 v3 l4 (IntKind.i64.wrap (x5 + 1)) c8 h23))))))))))))))
                                      else
                                        (optK (c8[0]?) fun w29 =>
                                          (intK .i64 w29 fun y30 =>
                                            (runK (evFn Cw d 27 [v3] h10) fun r31 h31 =>
                                              (consK r31 fun w32 ws33 =>
                                                (boolK w32 fun bb34 =>
                                                  (nilK ws33
                                                    (bif (!(bb34 == ((y30 : Int) == 1))) then
                                                      (Tr.ret ([(AVal.bool false)], h31))
                                                    else
                                                      (bif (!(bb7 == ((y18 : Int) == 1))) then
                                                        (Tr.ret ([(AVal.bool false)], h31))
                                                      else
                                                        (bif bb7 then
                                                          (bif decide (0 + 2 ≤ cc4.length) then
                                                            (optK (c8[1]?) fun w35 =>
                                                              (strK w35 fun ss36 =>
                                                                (bif ((plainOk Cw.P 43 (AVal.agg ((cc4.drop 0).take 2))) && true) then
                                                                  (bif (!(eqCells ((cc4.drop 0).take 2) [(AVal.str ss36), (AVal.str ss13)])) then
                                                                    (Tr.ret ([(AVal.bool false)], h31))
                                                                  else
                                                                    (bif (!bb7) then
                                                                      (bif decide (0 + 2 ≤ cc4.length) then
                                                                        (bif ((plainOk Cw.P 43 (AVal.agg ((cc4.drop 0).take 2))) && true) then
                                                                          (bif (!(eqCells ((cc4.drop 0).take 2) [(AVal.str []), (AVal.str [])])) then
                                                                            (Tr.ret ([(AVal.bool false)], h31))
                                                                          else
                                                                            (P3_0 d n0 f0 l1 v2 v3 l4 (IntKind.i64.wrap (x5 + 1)) c8 h31))
                                                                        else
                                                                          Tr.fail)
                                                                      else
                                                                        Tr.fail)
                                                                    else
                                                                      (P3_0 d n0 f0 l1 v2 v3 l4 (IntKind.i64.wrap (x5 + 1)) c8 h31)))
                                                                else
                                                                  Tr.fail)))
                                                          else
                                                            Tr.fail)
                                                        else
                                                          (bif (!bb7) then
                                                            (bif decide (0 + 2 ≤ cc4.length) then
                                                              (bif ((plainOk Cw.P 43 (AVal.agg ((cc4.drop 0).take 2))) && true) then
                                                                (bif (!(eqCells ((cc4.drop 0).take 2) [(AVal.str []), (AVal.str [])])) then
                                                                  (Tr.ret ([(AVal.bool false)], h31))
                                                                else
                                                                  (P3_0 d n0 f0 l1 v2 v3 l4 (IntKind.i64.wrap (x5 + 1)) c8 h31))
                                                              else
                                                                Tr.fail)
                                                            else
                                                              Tr.fail)
                                                          else
                                                            (P3_0 d n0 f0 l1 v2 v3 l4 (IntKind.i64.wrap (x5 + 1)) c8 h31))))))))))))))
                                else
                                  (bif (decide ((x7 : Int) < 4)) then
                                    (optK (c8[0]?) fun w37 =>
                                      (intK .i64 w37 fun y38 =>
                                        (bif (!(b6 == ((y38 : Int) == 1))) then
                                          (Tr.ret ([(AVal.bool false)], h10))
                                        else
                                          (optK (c8[0]?) fun w39 =>
                                            (intK .i64 w39 fun y40 =>
                                              (runK (evFn Cw d 27 [v3] h10) fun r41 h41 =>
                                                (consK r41 fun w42 ws43 =>
                                                  (boolK w42 fun bb44 =>
                                                    (nilK ws43
                                                      (bif (!(bb44 == ((y40 : Int) == 1))) then
                                                        (Tr.ret ([(AVal.bool false)], h41))
                                                      else
                                                        (bif (!(bb7 == false)) then
                                                          (Tr.ret ([(AVal.bool false)], h41))
                                                        else
                                                          (bif bb7 then
                                                            (bif decide (0 + 2 ≤ cc4.length) then
                                                              (optK (c8[1]?) fun w45 =>
                                                                (strK w45 fun ss46 =>
                                                                  (bif ((plainOk Cw.P 43 (AVal.agg ((cc4.drop 0).take 2))) && true) then
                                                                    (bif (!(eqCells ((cc4.drop 0).take 2) [(AVal.str ss46), (AVal.str ss13)])) then
                                                                      (Tr.ret ([(AVal.bool false)], h41))
                                                                    else
                                                                      (bif (!bb7) then
                                                                        (bif decide (0 + 2 ≤ cc4.length) then
                                                                          (bif ((plainOk Cw.P 43 (AVal.agg ((cc4.drop 0).take 2))) && true) then
                                                                            (bif (!(eqCells ((cc4.drop 0).take 2) [(AVal.str []), (AVal.str [])])) then
                                                                              (Tr.ret ([(AVal.bool false)], h41))
                                                                            else
                                                                              (P3_0 d n0 f0 l1 v2 v3 l4 (IntKind.i64.wrap (x5 + 1)) c8 h41))
                                                                          else
                                                                            Tr.fail)
                                                                        else
                                                                          Tr.fail)
                                                                      else
                                                                        (P3_0 d n0 f0 l1 v2 v3 l4 (IntKind.i64.wrap (x5 + 1)) c8 h41)))
                                                                  else
                                                                    Tr.fail)))
                                                            else
                                                              Tr.fail)
                                                          else
                                                            (bif (!bb7) then
                                                              (bif decide (0 + 2 ≤ cc4.length) then
                                                                (bif ((plainOk Cw.P 43 (AVal.agg ((cc4.drop 0).take 2))) && true) then
                                                                  (bif (!(eqCells ((cc4.drop 0).take 2) [(AVal.str []), (AVal.str [])])) then
                                                                    (Tr.ret ([(AVal.bool false)], h41))
                                                                  else
                                                                    (P3_0 d n0 f0 l1 v2 v3 l4 (IntKind.i64.wrap (x5 + 1)) c8 h41))
                                                                else
                                                                  Tr.fail)
                                                              else
                                                                Tr.fail)
                                                            else
                                                              (P3_0 d n0 f0 l1 v2 v3 l4 (IntKind.i64.wrap (x5 + 1)) c8 h41))))))))))))))
                                  else
                                    (optK (c8[0]?) fun w47 =>
                                      (intK .i64 w47 fun y48 =>
                                        (runK (evFn Cw d 27 [v3] h10) fun r49 h49 =>
                                          (consK r49 fun w50 ws51 =>
                                            (boolK w50 fun bb52 =>
                                              (nilK ws51
                                                (bif (!(bb52 == ((y48 : Int) == 1))) then
                                                  (Tr.ret ([(AVal.bool false)], h49))
                                                else
                                                  (bif (!(bb7 == false)) then
                                                    (Tr.ret ([(AVal.bool false)], h49))
                                                  else
                                                    (bif bb7 then
                                                      (bif decide (0 + 2 ≤ cc4.length) then
                                                        (optK (c8[1]?) fun w53 =>
                                                          (strK w53 fun ss54 =>
                                                            (bif ((plainOk Cw.P 43 (AVal.agg ((cc4.drop 0).take 2))) && true) then
                                                              (bif (!(eqCells ((cc4.drop 0).take 2) [(AVal.str ss54), (AVal.str ss13)])) then
                                                                (Tr.ret ([(AVal.bool false)], h49))
                                                              else
                                                                (bif (!bb7) then
                                                                  (bif decide (0 + 2 ≤ cc4.length) then
                                                                    (bif ((plainOk Cw.P 43 (AVal.agg ((cc4.drop 0).take 2))) && true) then
                                                                      (bif (!(eqCells ((cc4.drop 0).take 2) [(AVal.str []), (AVal.str [])])) then
                                                                        (Tr.ret ([(AVal.bool false)], h49))
                                                                      else
                                                                        (P3_0 d n0 f0 l1 v2 v3 l4 (IntKind.i64.wrap (x5 + 1)) c8 h49))
                                                                    else
                                                                      Tr.fail)
                                                                  else
                                                                    Tr.fail)
                                                                else
                                                                  (P3_0 d n0 f0 l1 v2 v3 l4 (IntKind.i64.wrap (x5 + 1)) c8 h49)))
                                                            else
                                                              Tr.fail)))
                                                      else
                                                        Tr.fail)
                                                    else
                                                      (bif (!bb7) then
                                                        (bif decide (0 + 2 ≤ cc4.length) then
                                                          (bif ((plainOk Cw.P 43 (AVal.agg ((cc4.drop 0).take 2))) && true) then
                                                            (bif (!(eqCells ((cc4.drop 0).take 2) [(AVal.str []), (AVal.str [])])) then
                                                              (Tr.ret ([(AVal.bool false)], h49))
                                                            else
                                                              (P3_0 d n0 f0 l1 v2 v3 l4 (IntKind.i64.wrap (x5 + 1)) c8 h49))
                                                          else
                                                            Tr.fail)
                                                        else
                                                          Tr.fail)
                                                      else
                                                        (P3_0 d n0 f0 l1 v2 v3 l4 (IntKind.i64.wrap (x5 + 1)) c8 h49)))))))))))))))))))))
              else
                Tr.fail))))))) := (heldPt_eq _ _ _ _ _ _ _).trans (by kernel_rfl)
theorem F3_eq (d : Nat) (f0 : Bool) (l1 : List AVal) (h : Heap) : evFn Cw (d + 1) 3 [(AVal.sl f0 3 l1)] h =
  (bif (decide (((l1.length : Int) : Int) > 100)) then
    (runK (evFn Cw d 12 [] h) fun r1 h1 =>
      (consK r1 fun w2 ws3 =>
        (boolK w2 fun bb4 =>
          (nilK ws3
            (Tr.ret ([(AVal.bool bb4)], h1))))))
  else
    (runK (evFn Cw d 13 [] h) fun r5 h5 =>
      (consK r5 fun w6 ws7 =>
        (nilK ws7
          (runK (evFn Cw d 14 [w6] h5) fun r8 h8 =>
            (consK r8 fun w9 ws10 =>
              (nilK ws10
                (P3_0 d rounds f0 l1 w6 w9 [] 0 [(AVal.int .i64 0), (AVal.str [])] h8)))))))) := by kernel_rfl
end Go.Proofs.Ytdlcjibefbnckaa.Wa
