/- What the evaluator comes to in these functions. -/
import Derived.Test.YtdlcjibefbnckaaW0
import Derived.Test.YtdlcjibefbnckaaWvLb
import Derived.KernelRfl
namespace Go.Proofs.Ytdlcjibefbnckaa.Wa
open Go Go.Weave
set_option maxRecDepth 100000
set_option linter.unusedVariables false
/- f14 strandline/cursor.New -/
theorem F14nil_eq (d : Nat) (h : Heap) : evFn Cw (d + 1) 14 [AVal.nilp] h =
  (Tr.ret ([(AVal.obj h.objs.length 0)], (Heap.push h (Go.Weave.Obj.cells ([AVal.nilp, (AVal.int .i64 0), (AVal.str [])].map HCell.val))))) := by kernel_rfl
theorem F14_eq (d : Nat) (i0 : Nat) (h : Heap) : evFn Cw (d + 1) 14 [(AVal.obj i0 0)] h =
  (Tr.ret ([(AVal.obj h.objs.length 0)], (Heap.push h (Go.Weave.Obj.cells ([(AVal.obj i0 0), (AVal.int .i64 0), (AVal.str [])].map HCell.val))))) := by kernel_rfl
/- f76 (*strandline/cursor.Cursor).to -/
theorem F76_eq (d : Nat) (i0 : Nat) (s1 : List UInt8) (b2 : Bool) (x3 : Int) (h : Heap) : evFn Cw (d + 1) 76 [(AVal.obj i0 0), (AVal.str s1), (AVal.bool b2), (AVal.int .i64 x3)] h =
  (optK (Heap.cell? h i0 1) fun _ =>
    (optK (Heap.cell? (Heap.setCell h i0 1 (HCell.val (AVal.int .i64 x3))) i0 2) fun _ =>
      (bif b2 then
        (optK (Heap.cell? (Heap.setCell (Heap.setCell h i0 1 (HCell.val (AVal.int .i64 x3))) i0 2 (HCell.val (AVal.str []))) i0 1) fun _ =>
          (optK (Heap.cell? (Heap.setCell (Heap.setCell (Heap.setCell h i0 1 (HCell.val (AVal.int .i64 x3))) i0 2 (HCell.val (AVal.str []))) i0 1 (HCell.val (AVal.int .i64 1))) i0 2) fun _ =>
            (Tr.ret ([(AVal.bool b2)], (Heap.setCell (Heap.setCell (Heap.setCell (Heap.setCell h i0 1 (HCell.val (AVal.int .i64 x3))) i0 2 (HCell.val (AVal.str []))) i0 1 (HCell.val (AVal.int .i64 1))) i0 2 (HCell.val (AVal.str s1)))))))
      else
        (Tr.ret ([(AVal.bool b2)], (Heap.setCell (Heap.setCell h i0 1 (HCell.val (AVal.int .i64 x3))) i0 2 (HCell.val (AVal.str [])))))))) := by kernel_rfl
/- f19 (*strandline/cursor.Cursor).Seek -/
theorem F19nil_eq (d : Nat) (s0 : List UInt8) (h : Heap) : evFn Cw (d + 1) 19 [AVal.nilp, (AVal.str s0)] h =
  (Tr.ret ([(AVal.bool false)], h)) := by kernel_rfl
theorem F19_eq (d : Nat) (i0 : Nat) (s1 : List UInt8) (h : Heap) : evFn Cw (d + 1) 19 [(AVal.obj i0 0), (AVal.str s1)] h =
  (optK (Heap.cell? h i0 0) fun z1 =>
    (runK (evFn Cw d 75 [(HCell.toA z1), (AVal.str s1)] h) fun r2 h2 =>
      (consK r2 fun w3 ws4 =>
        (strK w3 fun ss5 =>
          (consK ws4 fun w6 ws7 =>
            (strK w6 fun ss8 =>
              (consK ws7 fun w9 ws10 =>
                (boolK w9 fun bb11 =>
                  (nilK ws10
                    (runK (evFn Cw d 76 [(AVal.obj i0 0), (AVal.str ss5), (AVal.bool bb11), (AVal.int .i64 2)] h2) fun r12 h12 =>
                      (consK r12 fun w13 ws14 =>
                        (boolK w13 fun bb15 =>
                          (nilK ws14
                            (Tr.ret ([(AVal.bool bb15)], h12))))))))))))))) := by kernel_rfl
/- f15 (*strandline/cursor.Cursor).Next -/
theorem F15nil_eq (d : Nat) (h : Heap) : evFn Cw (d + 1) 15 [AVal.nilp] h =
  (Tr.ret ([(AVal.bool false)], h)) := by kernel_rfl
noncomputable def P15_0 (d : Nat) (i0 : Nat) (s1 : List UInt8) (h : Heap) : Tr Res :=
  heldPt Cw d 15 [true, true, true, true] [] ⟨[(0, (EV.one (SV.val (AVal.obj i0 0)))), (3, (EV.one (SV.val (AVal.str s1))))], []⟩ h
theorem P15_0_eq (d : Nat) (i0 : Nat) (s1 : List UInt8) (h : Heap) : P15_0 d i0 s1 h =
  (optK (Heap.cell? h i0 0) fun z1 =>
    (runK (evFn Cw d 75 [(HCell.toA z1), (AVal.str s1)] h) fun r2 h2 =>
      (consK r2 fun w3 ws4 =>
        (strK w3 fun ss5 =>
          (consK ws4 fun w6 ws7 =>
            (strK w6 fun ss8 =>
              (consK ws7 fun w9 ws10 =>
                (boolK w9 fun bb11 =>
                  (nilK ws10
                    (runK (evFn Cw d 76 [(AVal.obj i0 0), (AVal.str ss5), (AVal.bool bb11), (AVal.int .i64 2)] h2) fun r12 h12 =>
                      (consK r12 fun w13 ws14 =>
                        (boolK w13 fun bb15 =>
                          (nilK ws14
                            (Tr.ret ([(AVal.bool bb15)], h12))))))))))))))) := (heldPt_eq _ _ _ _ _ _ _).trans (by kernel_rfl)
theorem F15_eq (d : Nat) (i0 : Nat) (h : Heap) : evFn Cw (d + 1) 15 [(AVal.obj i0 0)] h =
  (optK (Heap.cell? h i0 1) fun z1 =>
    (intK .i64 (HCell.toA z1) fun y2 =>
      (bif ((y2 : Int) == 2) then
        (Tr.ret ([(AVal.bool false)], h))
      else
        (optK (Heap.cell? h i0 1) fun z3 =>
          (intK .i64 (HCell.toA z3) fun y4 =>
            (bif ((y4 : Int) == 1) then
              (optK (Heap.cell? h i0 2) fun z5 =>
                (strK (HCell.toA z5) fun ss6 =>
                  (bif decide (ss6.length + [0].length ≤ 140737488355328) then (P15_0 d i0 (ss6 ++ [0]) h) else Tr.fail)))
            else
              (P15_0 d i0 [] h))))))) := by kernel_rfl
/- f27 (*strandline/cursor.Cursor).On -/
theorem F27nil_eq (d : Nat) (h : Heap) : evFn Cw (d + 1) 27 [AVal.nilp] h =
  (Tr.ret ([(AVal.bool false)], h)) := by kernel_rfl
theorem F27_eq (d : Nat) (i0 : Nat) (h : Heap) : evFn Cw (d + 1) 27 [(AVal.obj i0 0)] h =
  (optK (Heap.cell? h i0 1) fun z1 =>
    (intK .i64 (HCell.toA z1) fun y2 =>
      (Tr.ret ([(AVal.bool ((y2 : Int) == 1))], h)))) := by kernel_rfl
/- f25 (*strandline/cursor.Cursor).Pair -/
theorem F25nil_eq (d : Nat) (h : Heap) : evFn Cw (d + 1) 25 [AVal.nilp] h =
  (runK (evFn Cw d 27 [AVal.nilp] h) fun r1 h1 =>
    (consK r1 fun w2 ws3 =>
      (boolK w2 fun bb4 =>
        (nilK ws3
          (bif (!bb4) then (Tr.ret ([(AVal.agg [(AVal.str []), (AVal.str [])]), (AVal.bool false)], h1)) else Tr.fail))))) := by kernel_rfl
theorem F25_eq (d : Nat) (i0 : Nat) (h : Heap) : evFn Cw (d + 1) 25 [(AVal.obj i0 0)] h =
  (runK (evFn Cw d 27 [(AVal.obj i0 0)] h) fun r1 h1 =>
    (consK r1 fun w2 ws3 =>
      (boolK w2 fun bb4 =>
        (nilK ws3
          (bif (!bb4) then
            (Tr.ret ([(AVal.agg [(AVal.str []), (AVal.str [])]), (AVal.bool false)], h1))
          else
            (optK (Heap.cell? h1 i0 0) fun z5 =>
              (optK (Heap.cell? h1 i0 2) fun z6 =>
                (strK (HCell.toA z6) fun ss7 =>
                  (runK (evFn Cw d 81 [(HCell.toA z5), (AVal.str ss7)] h1) fun r8 h8 =>
                    (consK r8 fun w9 ws10 =>
                      (strK w9 fun ss11 =>
                        (consK ws10 fun w12 ws13 =>
                          (boolK w12 fun bb14 =>
                            (nilK ws13
                              (bif (!bb14) then
                                (Tr.ret ([(AVal.agg [(AVal.str []), (AVal.str [])]), (AVal.bool false)], h8))
                              else
                                (optK (Heap.cell? h8 i0 2) fun z15 =>
                                  (strK (HCell.toA z15) fun ss16 =>
                                    (Tr.ret ([(AVal.agg [(AVal.str ss16), (AVal.str ss11)]), (AVal.bool true)], h8))))))))))))))))))) := by kernel_rfl
/- f79 (*strandline/cursor.Cursor).Prev$1 -/
theorem F79_eq (d : Nat) (s0 : List UInt8) (s1 : List UInt8) (i2 : Nat) (i3 : Nat) (h : Heap) : evFn Cw (d + 1) 79 [(AVal.str s0), (AVal.str s1), (AVal.obj i2 0), (AVal.obj i3 0)] h =
  (optK (Heap.cell? h i2 0) fun _ =>
    (optK (Heap.cell? (Heap.setCell h i2 0 (HCell.val (AVal.str s0))) i3 0) fun _ =>
      (Tr.ret ([(AVal.bool true)], (Heap.setCell (Heap.setCell h i2 0 (HCell.val (AVal.str s0))) i3 0 (HCell.val (AVal.bool true))))))) := by kernel_rfl
/- f17 (*strandline/cursor.Cursor).Prev -/
theorem F17nil_eq (d : Nat) (h : Heap) : evFn Cw (d + 1) 17 [AVal.nilp] h =
  (Tr.ret ([(AVal.bool false)], h)) := by kernel_rfl
theorem F17_eq (d : Nat) (i0 : Nat) (h : Heap) : evFn Cw (d + 1) 17 [(AVal.obj i0 0)] h =
  (optK (Heap.cell? h i0 1) fun z1 =>
    (intK .i64 (HCell.toA z1) fun y2 =>
      (bif ((y2 : Int) == 0) then
        (Tr.ret ([(AVal.bool false)], h))
      else
        (optK (Heap.cell? h i0 1) fun z3 =>
          (intK .i64 (HCell.toA z3) fun y4 =>
            (bif ((y4 : Int) == 1) then
              (optK (Heap.cell? h i0 0) fun z5 =>
                (optK (Heap.cell? h i0 2) fun z6 =>
                  (strK (HCell.toA z6) fun ss7 =>
                    (runK (evFn Cw d 77 [(HCell.toA z5), (AVal.str ss7)] h) fun r8 h8 =>
                      (consK r8 fun w9 ws10 =>
                        (strK w9 fun ss11 =>
                          (consK ws10 fun w12 ws13 =>
                            (strK w12 fun ss14 =>
                              (consK ws13 fun w15 ws16 =>
                                (boolK w15 fun bb17 =>
                                  (nilK ws16
                                    (runK (evFn Cw d 76 [(AVal.obj i0 0), (AVal.str ss11), (AVal.bool bb17), (AVal.int .i64 0)] h8) fun r18 h18 =>
                                      (consK r18 fun w19 ws20 =>
                                        (boolK w19 fun bb21 =>
                                          (nilK ws20
                                            (Tr.ret ([(AVal.bool bb21)], h18)))))))))))))))))
            else
              (optK (Heap.cell? (Heap.push (Heap.push h (Go.Weave.Obj.cells [(HCell.val (AVal.str []))])) (Go.Weave.Obj.cells [(HCell.val (AVal.bool false))])) h.objs.length 0) fun _ =>
                (optK (Heap.cell? (Heap.setCell (Heap.push (Heap.push h (Go.Weave.Obj.cells [(HCell.val (AVal.str []))])) (Go.Weave.Obj.cells [(HCell.val (AVal.bool false))])) h.objs.length 0 (HCell.val (AVal.str []))) (Heap.push h (Go.Weave.Obj.cells [(HCell.val (AVal.str []))])).objs.length 0) fun _ =>
                  (optK (Heap.cell? (Heap.setCell (Heap.setCell (Heap.push (Heap.push h (Go.Weave.Obj.cells [(HCell.val (AVal.str []))])) (Go.Weave.Obj.cells [(HCell.val (AVal.bool false))])) h.objs.length 0 (HCell.val (AVal.str []))) (Heap.push h (Go.Weave.Obj.cells [(HCell.val (AVal.str []))])).objs.length 0 (HCell.val (AVal.bool false))) i0 0) fun z22 =>
                    (runK (evFn Cw d 78 [(HCell.toA z22), (AVal.fn 79 [] [(AVal.obj h.objs.length 0), (AVal.obj (Heap.push h (Go.Weave.Obj.cells [(HCell.val (AVal.str []))])).objs.length 0)])] (Heap.setCell (Heap.setCell (Heap.push (Heap.push h (Go.Weave.Obj.cells [(HCell.val (AVal.str []))])) (Go.Weave.Obj.cells [(HCell.val (AVal.bool false))])) h.objs.length 0 (HCell.val (AVal.str []))) (Heap.push h (Go.Weave.Obj.cells [(HCell.val (AVal.str []))])).objs.length 0 (HCell.val (AVal.bool false)))) fun r23 h23 =>
                      (nilK r23
                        (optK (Heap.cell? h23 h.objs.length 0) fun z24 =>
                          (strK (HCell.toA z24) fun ss25 =>
                            (optK (Heap.cell? h23 (Heap.push h (Go.Weave.Obj.cells [(HCell.val (AVal.str []))])).objs.length 0) fun z26 =>
                              (boolK (HCell.toA z26) fun bb27 =>
                                (runK (evFn Cw d 76 [(AVal.obj i0 0), (AVal.str ss25), (AVal.bool bb27), (AVal.int .i64 0)] h23) fun r28 h28 =>
                                  (consK r28 fun w29 ws30 =>
                                    (boolK w29 fun bb31 =>
                                      (nilK ws30
                                        (Tr.ret ([(AVal.bool bb31)], h28))))))))))))))))))))) := by kernel_rfl
/- f88 strandline/cursor.Range -/
noncomputable def P88nil_0 (d k : Nat) (s0 : List UInt8) (x1 : Int) (l2 : List AVal) (v3 : AVal) (b4 : Bool) (h : Heap) : Tr Res :=
  loopPt Cw d 88 [true, true, true, false, true, true] [] k ⟨[(2, (EV.one (SV.val (AVal.str s0)))), (3, (EV.one (SV.val (AVal.int .i64 x1)))), (9, (EV.one (SV.own (tokOf 9 0) 3 l2))), (10, (EV.one (SV.val v3))), (11, (EV.one (SV.val (AVal.bool b4))))], []⟩ h
theorem P88nil_0_eq (d k : Nat) (s0 : List UInt8) (x1 : Int) (l2 : List AVal) (v3 : AVal) (b4 : Bool) (h : Heap) : P88nil_0 d (k + 1) s0 x1 l2 v3 b4 h =
  (bif b4 then
    (bif (decide (((l2.length : Int) : Int) < x1)) then
      (runK (evFn Cw d 25 [v3] h) fun r1 h1 =>
        (consK r1 fun w2 ws3 =>
          (aggK 2 w2 fun cc4 =>
            (consK ws3 fun w5 ws6 =>
              (boolK w5 fun bb7 =>
                (nilK ws6
                  (bif ((cc4.length == 2) && true) then
                    (bif (!(s0 == [])) then
                      (optK (cc4[0]?) fun w8 =>
                        (strK w8 fun ss9 =>
                          (bif (!(Go.Op.bytesLess ss9 s0)) then
                            (Tr.ret ([(AVal.sl false 3 l2)], h1))
                          else
                            (bif decide (0 + 2 ≤ cc4.length) then
                              (bif ((((cc4.drop 0).take 2).length == 2) && true) then
                                (bif decide ((l2.length + (1 : Nat)) * 32 ≤ 140737488355328) then
                                  (runK (evFn Cw d 15 [v3] h1) fun r10 h10 =>
                                    (consK r10 fun w11 ws12 =>
                                      (boolK w11 fun bb13 =>
                                        (nilK ws12
                                          (P88nil_0 d k s0 x1 (l2 ++ [(AVal.agg ((cc4.drop 0).take 2))]) v3 bb13 h10)))))
                                else
                                  Tr.fail)
                              else
                                Tr.fail)
                            else
                              Tr.fail))))
                    else
                      (bif decide (0 + 2 ≤ cc4.length) then
                        (bif ((((cc4.drop 0).take 2).length == 2) && true) then
                          (bif decide ((l2.length + (1 : Nat)) * 32 ≤ 140737488355328) then
                            (runK (evFn Cw d 15 [v3] h1) fun r14 h14 =>
                              (consK r14 fun w15 ws16 =>
                                (boolK w15 fun bb17 =>
                                  (nilK ws16
                                    (P88nil_0 d k s0 x1 (l2 ++ [(AVal.agg ((cc4.drop 0).take 2))]) v3 bb17 h14)))))
                          else
                            Tr.fail)
                        else
                          Tr.fail)
                      else
                        Tr.fail))
                  else
                    Tr.fail)))))))
    else
      (Tr.ret ([(AVal.sl false 3 l2)], h)))
  else
    (Tr.ret ([(AVal.sl false 3 l2)], h))) := by kernel_rfl
theorem F88nil_eq (d : Nat) (s0 : List UInt8) (s1 : List UInt8) (x2 : Int) (h : Heap) : evFn Cw (d + 1) 88 [AVal.nilp, (AVal.str s0), (AVal.str s1), (AVal.int .i64 x2)] h =
  (runK (evFn Cw d 14 [AVal.nilp] h) fun r1 h1 =>
    (consK r1 fun w2 ws3 =>
      (nilK ws3
        (runK (evFn Cw d 19 [w2, (AVal.str s0)] h1) fun r4 h4 =>
          (consK r4 fun w5 ws6 =>
            (boolK w5 fun bb7 =>
              (nilK ws6
                (P88nil_0 d rounds s1 x2 [] w2 bb7 h4)))))))) := by kernel_rfl
noncomputable def P88_0 (d k : Nat) (s0 : List UInt8) (x1 : Int) (l2 : List AVal) (v3 : AVal) (b4 : Bool) (h : Heap) : Tr Res :=
  loopPt Cw d 88 [true, true, true, false, true, true] [] k ⟨[(2, (EV.one (SV.val (AVal.str s0)))), (3, (EV.one (SV.val (AVal.int .i64 x1)))), (9, (EV.one (SV.own (tokOf 9 0) 3 l2))), (10, (EV.one (SV.val v3))), (11, (EV.one (SV.val (AVal.bool b4))))], []⟩ h
theorem P88_0_eq (d k : Nat) (s0 : List UInt8) (x1 : Int) (l2 : List AVal) (v3 : AVal) (b4 : Bool) (h : Heap) : P88_0 d (k + 1) s0 x1 l2 v3 b4 h =
  (bif b4 then
    (bif (decide (((l2.length : Int) : Int) < x1)) then
      (runK (evFn Cw d 25 [v3] h) fun r1 h1 =>
        (consK r1 fun w2 ws3 =>
          (aggK 2 w2 fun cc4 =>
            (consK ws3 fun w5 ws6 =>
              (boolK w5 fun bb7 =>
                (nilK ws6
                  (bif ((cc4.length == 2) && true) then
                    (bif (!(s0 == [])) then
                      (optK (cc4[0]?) fun w8 =>
                        (strK w8 fun ss9 =>
                          (bif (!(Go.Op.bytesLess ss9 s0)) then
                            (Tr.ret ([(AVal.sl false 3 l2)], h1))
                          else
                            (bif decide (0 + 2 ≤ cc4.length) then
                              (bif ((((cc4.drop 0).take 2).length == 2) && true) then
                                (bif decide ((l2.length + (1 : Nat)) * 32 ≤ 140737488355328) then
                                  (runK (evFn Cw d 15 [v3] h1) fun r10 h10 =>
                                    (consK r10 fun w11 ws12 =>
                                      (boolK w11 fun bb13 =>
                                        (nilK ws12
                                          (P88_0 d k s0 x1 (l2 ++ [(AVal.agg ((cc4.drop 0).take 2))]) v3 bb13 h10)))))
                                else
                                  Tr.fail)
                              else
                                Tr.fail)
                            else
                              Tr.fail))))
                    else
                      (bif decide (0 + 2 ≤ cc4.length) then
                        (bif ((((cc4.drop 0).take 2).length == 2) && true) then
                          (bif decide ((l2.length + (1 : Nat)) * 32 ≤ 140737488355328) then
                            (runK (evFn Cw d 15 [v3] h1) fun r14 h14 =>
                              (consK r14 fun w15 ws16 =>
                                (boolK w15 fun bb17 =>
                                  (nilK ws16
                                    (P88_0 d k s0 x1 (l2 ++ [(AVal.agg ((cc4.drop 0).take 2))]) v3 bb17 h14)))))
                          else
                            Tr.fail)
                        else
                          Tr.fail)
                      else
                        Tr.fail))
                  else
                    Tr.fail)))))))
    else
      (Tr.ret ([(AVal.sl false 3 l2)], h)))
  else
    (Tr.ret ([(AVal.sl false 3 l2)], h))) := by kernel_rfl
theorem F88_eq (d : Nat) (i0 : Nat) (s1 : List UInt8) (s2 : List UInt8) (x3 : Int) (h : Heap) : evFn Cw (d + 1) 88 [(AVal.obj i0 0), (AVal.str s1), (AVal.str s2), (AVal.int .i64 x3)] h =
  (runK (evFn Cw d 14 [(AVal.obj i0 0)] h) fun r1 h1 =>
    (consK r1 fun w2 ws3 =>
      (nilK ws3
        (runK (evFn Cw d 19 [w2, (AVal.str s1)] h1) fun r4 h4 =>
          (consK r4 fun w5 ws6 =>
            (boolK w5 fun bb7 =>
              (nilK ws6
                (P88_0 d rounds s2 x3 [] w2 bb7 h4)))))))) := by kernel_rfl
/- f39 strandline/strandlineref32.Range -/
noncomputable def P39_0 (d k : Nat) (f0 : Bool) (l1 : List AVal) (s2 : List UInt8) (s3 : List UInt8) (x4 : Int) (l5 : List AVal) (x6 : Int) (h : Heap) : Tr Res :=
  loopPt Cw d 39 [true, true, false, true, true] [] k ⟨[(0, (EV.one (SV.val (AVal.sl f0 3 l1)))), (1, (EV.one (SV.val (AVal.str s2)))), (2, (EV.one (SV.val (AVal.str s3)))), (3, (EV.one (SV.val (AVal.int .i64 x4)))), (9, (EV.one (SV.own (tokOf 9 0) 3 l5))), (10, (EV.one (SV.val (AVal.int .i64 x6))))], []⟩ h
theorem P39_0_eq (d k : Nat) (f0 : Bool) (l1 : List AVal) (s2 : List UInt8) (s3 : List UInt8) (x4 : Int) (l5 : List AVal) (x6 : Int) (h : Heap) : P39_0 d (k + 1) f0 l1 s2 s3 x4 l5 x6 h =
  (bif (decide ((x6 : Int) < (l1.length : Int))) then
    (bif (decide (((l5.length : Int) : Int) < x4)) then
      (bif (decide ((0 : Int) ≤ x6) && decide ((x6 : Int) < (l1.length : Int))) then
        (optK ((AVal.cells (l1.getD (Int.toNat x6) AVal.undef))[0]?) fun w1 =>
          (strK w1 fun ss2 =>
            (bif (!(Go.Op.bytesLess ss2 s2)) then
              (bif (s3 == []) then
                (bif (decide ((0 : Int) ≤ x6) && decide ((x6 : Int) < (l1.length : Int))) then
                  (aggK 2 (l1.getD (Int.toNat x6) AVal.undef) fun cc3 =>
                    (bif ((cc3.length == 2) && true) then
                      (bif decide ((l5.length + (1 : Nat)) * 32 ≤ 140737488355328) then (P39_0 d k f0 l1 s2 s3 x4 (l5 ++ [(AVal.agg cc3)]) (IntKind.i64.wrap (x6 + 1)) h) else Tr.fail)
                    else
                      Tr.fail))
                else
                  Tr.fail)
              else
                (bif (decide ((0 : Int) ≤ x6) && decide ((x6 : Int) < (l1.length : Int))) then
                  (optK ((AVal.cells (l1.getD (Int.toNat x6) AVal.undef))[0]?) fun w4 =>
                    (strK w4 fun ss5 =>
                      (bif (Go.Op.bytesLess ss5 s3) then
                        (bif (decide ((0 : Int) ≤ x6) && decide ((x6 : Int) < (l1.length : Int))) then
                          (aggK 2 (l1.getD (Int.toNat x6) AVal.undef) fun cc6 =>
                            (bif ((cc6.length == 2) && true) then
                              (bif decide ((l5.length + (1 : Nat)) * 32 ≤ 140737488355328) then (P39_0 d k f0 l1 s2 s3 x4 (l5 ++ [(AVal.agg cc6)]) (IntKind.i64.wrap (x6 + 1)) h) else Tr.fail)
                            else
                              Tr.fail))
                        else
                          Tr.fail)
                      else
                        (P39_0 d k f0 l1 s2 s3 x4 l5 (IntKind.i64.wrap (x6 + 1)) h))))
                else
                  Tr.fail))
            else
              (P39_0 d k f0 l1 s2 s3 x4 l5 (IntKind.i64.wrap (x6 + 1)) h))))
      else
        Tr.fail)
    else
      (Tr.ret ([(AVal.sl false 3 l5)], h)))
  else
    (Tr.ret ([(AVal.sl false 3 l5)], h))) := by kernel_rfl
theorem F39_eq (d : Nat) (f0 : Bool) (l1 : List AVal) (s2 : List UInt8) (s3 : List UInt8) (x4 : Int) (h : Heap) : evFn Cw (d + 1) 39 [(AVal.sl f0 3 l1), (AVal.str s2), (AVal.str s3), (AVal.int .i64 x4)] h =
  (P39_0 d rounds f0 l1 s2 s3 x4 [] 0 h) := by kernel_rfl
end Go.Proofs.Ytdlcjibefbnckaa.Wa
