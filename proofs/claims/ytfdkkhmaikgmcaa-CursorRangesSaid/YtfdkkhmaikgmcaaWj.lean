/- What the evaluator comes to in these functions. -/
import Derived.Test.YtfdkkhmaikgmcaaW0
import Derived.Test.YtfdkkhmaikgmcaaWvLb
import Derived.KernelRfl
namespace Go.Proofs.Ytfdkkhmaikgmcaa.Wa
open Go Go.Weave
set_option maxRecDepth 100000
set_option linter.unusedVariables false
/- f51 strandline/cursor.New -/
theorem F51nil_eq (d : Nat) (h : Heap) : evFn Cw (d + 1) 51 [AVal.nilp] h =
  (Tr.ret ([(AVal.obj h.objs.length 0)], (Heap.push h (Go.Weave.Obj.cells ([AVal.nilp, (AVal.int .i64 0), (AVal.str [])].map HCell.val))))) := by kernel_rfl
theorem F51_eq (d : Nat) (i0 : Nat) (h : Heap) : evFn Cw (d + 1) 51 [(AVal.obj i0 0)] h =
  (Tr.ret ([(AVal.obj h.objs.length 0)], (Heap.push h (Go.Weave.Obj.cells ([(AVal.obj i0 0), (AVal.int .i64 0), (AVal.str [])].map HCell.val))))) := by kernel_rfl
/- f88 (*strandline/cursor.Cursor).to -/
theorem F88_eq (d : Nat) (i0 : Nat) (s1 : List UInt8) (b2 : Bool) (x3 : Int) (h : Heap) : evFn Cw (d + 1) 88 [(AVal.obj i0 0), (AVal.str s1), (AVal.bool b2), (AVal.int .i64 x3)] h =
  (optK (Heap.cell? h i0 1) fun _ =>
    (optK (Heap.cell? (Heap.setCell h i0 1 (HCell.val (AVal.int .i64 x3))) i0 2) fun _ =>
      (bif b2 then
        (optK (Heap.cell? (Heap.setCell (Heap.setCell h i0 1 (HCell.val (AVal.int .i64 x3))) i0 2 (HCell.val (AVal.str []))) i0 1) fun _ =>
          (optK (Heap.cell? (Heap.setCell (Heap.setCell (Heap.setCell h i0 1 (HCell.val (AVal.int .i64 x3))) i0 2 (HCell.val (AVal.str []))) i0 1 (HCell.val (AVal.int .i64 1))) i0 2) fun _ =>
            (Tr.ret ([(AVal.bool b2)], (Heap.setCell (Heap.setCell (Heap.setCell (Heap.setCell h i0 1 (HCell.val (AVal.int .i64 x3))) i0 2 (HCell.val (AVal.str []))) i0 1 (HCell.val (AVal.int .i64 1))) i0 2 (HCell.val (AVal.str s1)))))))
      else
        (Tr.ret ([(AVal.bool b2)], (Heap.setCell (Heap.setCell h i0 1 (HCell.val (AVal.int .i64 x3))) i0 2 (HCell.val (AVal.str [])))))))) := by kernel_rfl
/- f52 (*strandline/cursor.Cursor).Next -/
theorem F52nil_eq (d : Nat) (h : Heap) : evFn Cw (d + 1) 52 [AVal.nilp] h =
  (Tr.ret ([(AVal.bool false)], h)) := by kernel_rfl
noncomputable def P52_0 (d : Nat) (i0 : Nat) (s1 : List UInt8) (h : Heap) : Tr Res :=
  heldPt Cw d 52 [true, true, true, true] [] ⟨[(0, (EV.one (SV.val (AVal.obj i0 0)))), (3, (EV.one (SV.val (AVal.str s1))))], []⟩ h
theorem P52_0_eq (d : Nat) (i0 : Nat) (s1 : List UInt8) (h : Heap) : P52_0 d i0 s1 h =
  (optK (Heap.cell? h i0 0) fun z1 =>
    (runK (evFn Cw d 61 [(HCell.toA z1), (AVal.str s1)] h) fun r2 h2 =>
      (consK r2 fun w3 ws4 =>
        (strK w3 fun ss5 =>
          (consK ws4 fun w6 ws7 =>
            (strK w6 fun ss8 =>
              (consK ws7 fun w9 ws10 =>
                (boolK w9 fun bb11 =>
                  (nilK ws10
                    (runK (evFn Cw d 88 [(AVal.obj i0 0), (AVal.str ss5), (AVal.bool bb11), (AVal.int .i64 2)] h2) fun r12 h12 =>
                      (consK r12 fun w13 ws14 =>
                        (boolK w13 fun bb15 =>
                          (nilK ws14
                            (Tr.ret ([(AVal.bool bb15)], h12))))))))))))))) := (heldPt_eq _ _ _ _ _ _ _).trans (by kernel_rfl)
theorem F52_eq (d : Nat) (i0 : Nat) (h : Heap) : evFn Cw (d + 1) 52 [(AVal.obj i0 0)] h =
  (optK (Heap.cell? h i0 1) fun z1 =>
    (intK .i64 (HCell.toA z1) fun y2 =>
      (bif ((y2 : Int) == 2) then
        (Tr.ret ([(AVal.bool false)], h))
      else
        (optK (Heap.cell? h i0 1) fun z3 =>
          (intK .i64 (HCell.toA z3) fun y4 =>
            (bif ((y4 : Int) == 1) then
              (optK (Heap.cell? h i0 2) fun z5 =>
                (strK (HCell.toA z5) fun ss6 =>
                  (bif decide (ss6.length + [0].length ≤ 140737488355328) then (P52_0 d i0 (ss6 ++ [0]) h) else Tr.fail)))
            else
              (P52_0 d i0 [] h))))))) := by kernel_rfl
/- f56 (*strandline/cursor.Cursor).On -/
theorem F56nil_eq (d : Nat) (h : Heap) : evFn Cw (d + 1) 56 [AVal.nilp] h =
  (Tr.ret ([(AVal.bool false)], h)) := by kernel_rfl
theorem F56_eq (d : Nat) (i0 : Nat) (h : Heap) : evFn Cw (d + 1) 56 [(AVal.obj i0 0)] h =
  (optK (Heap.cell? h i0 1) fun z1 =>
    (intK .i64 (HCell.toA z1) fun y2 =>
      (Tr.ret ([(AVal.bool ((y2 : Int) == 1))], h)))) := by kernel_rfl
/- f53 (*strandline/cursor.Cursor).Pair -/
theorem F53nil_eq (d : Nat) (h : Heap) : evFn Cw (d + 1) 53 [AVal.nilp] h =
  (runK (evFn Cw d 56 [AVal.nilp] h) fun r1 h1 =>
    (consK r1 fun w2 ws3 =>
      (boolK w2 fun bb4 =>
        (nilK ws3
          (bif (!bb4) then (Tr.ret ([(AVal.agg [(AVal.str []), (AVal.str [])]), (AVal.bool false)], h1)) else Tr.fail))))) := by kernel_rfl
theorem F53_eq (d : Nat) (i0 : Nat) (h : Heap) : evFn Cw (d + 1) 53 [(AVal.obj i0 0)] h =
  (runK (evFn Cw d 56 [(AVal.obj i0 0)] h) fun r1 h1 =>
    (consK r1 fun w2 ws3 =>
      (boolK w2 fun bb4 =>
        (nilK ws3
          (bif (!bb4) then
            (Tr.ret ([(AVal.agg [(AVal.str []), (AVal.str [])]), (AVal.bool false)], h1))
          else
            (Tr.anyL [
              (optK (Heap.cell? h1 i0 0) fun z5 =>
                (optK (Heap.cell? h1 i0 2) fun z6 =>
                  (strK (HCell.toA z6) fun ss7 =>
                    (runK (evFn Cw d 60 [(HCell.toA z5), (AVal.str ss7)] h1) fun r8 h8 =>
                      (consK r8 fun w9 ws10 =>
                        (strK w9 fun ss11 =>
                          (consK ws10 fun w12 ws13 =>
                            (boolK w12 fun bb14 =>
                              (nilK ws13
                                (bif (!bb14) then
                                  (Tr.ret ([(AVal.agg [(AVal.str []), (AVal.str [])]), (AVal.bool false)], h8))
                                else
                                  (optK (Heap.cell? h8 i0 2) fun z15 =>
                                    (strK (HCell.toA z15) fun ss16 =>
                                      (Tr.ret ([(AVal.agg [(AVal.str ss16), (AVal.str ss11)]), (AVal.bool true)], h8)))))))))))))),
              (optK (Heap.cell? h1 i0 2) fun z5 =>
                (strK (HCell.toA z5) fun ss6 =>
                  (optK (Heap.cell? h1 i0 0) fun z7 =>
                    (runK (evFn Cw d 60 [(HCell.toA z7), (AVal.str ss6)] h1) fun r8 h8 =>
                      (consK r8 fun w9 ws10 =>
                        (strK w9 fun ss11 =>
                          (consK ws10 fun w12 ws13 =>
                            (boolK w12 fun bb14 =>
                              (nilK ws13
                                (bif (!bb14) then
                                  (Tr.ret ([(AVal.agg [(AVal.str []), (AVal.str [])]), (AVal.bool false)], h8))
                                else
                                  (optK (Heap.cell? h8 i0 2) fun z15 =>
                                    (strK (HCell.toA z15) fun ss16 =>
                                      (Tr.ret ([(AVal.agg [(AVal.str ss16), (AVal.str ss11)]), (AVal.bool true)], h8))))))))))))))])))))) := by kernel_rfl
/- f47 strandline/strandlinelaw32.awake -/
noncomputable def P47_0 (d : Nat) (v0 : AVal) (b1 : Bool) (c2 : List AVal) (h : Heap) : Tr Res :=
  heldPt Cw d 47 [true, true, true, true, true, true] [] ⟨[(2, (EV.one (SV.val v0))), (3, (EV.one (SV.loc 3 0))), (4, (EV.one (SV.val (AVal.bool b1))))], [(3, (Box.plain c2))]⟩ h
theorem P47_0_eq (d : Nat) (v0 : AVal) (b1 : Bool) (c2 : List AVal) (h : Heap) : P47_0 d v0 b1 c2 h =
  (bif b1 then
    (optK (c2[0]?) fun w1 =>
      (strK w1 fun ss2 =>
        (bif (ss2 == [97]) then
          (optK (c2[1]?) fun w3 =>
            (strK w3 fun ss4 =>
              (bif (ss4 == [120]) then
                (runK (evFn Cw d 52 [v0] h) fun r5 h5 =>
                  (consK r5 fun w6 ws7 =>
                    (boolK w6 fun bb8 =>
                      (nilK ws7
                        (Tr.ret ([(AVal.bool (!bb8))], h5))))))
              else
                (Tr.ret ([(AVal.bool false)], h)))))
        else
          (Tr.ret ([(AVal.bool false)], h)))))
  else
    (Tr.ret ([(AVal.bool false)], h))) := (heldPt_eq _ _ _ _ _ _ _).trans (by kernel_rfl)
theorem F47_eq (d : Nat) (h : Heap) : evFn Cw (d + 1) 47 [] h =
  (runK (evFn Cw d 40 [] h) fun r1 h1 =>
    (consK r1 fun w2 ws3 =>
      (nilK ws3
        (runK (evFn Cw d 44 [w2, (AVal.str [97]), (AVal.str [120])] h1) fun r4 h4 =>
          (consK r4 fun w5 ws6 =>
            (strK w5 fun ss7 =>
              (consK ws6 fun w8 ws9 =>
                (boolK w8 fun bb10 =>
                  (nilK ws9
                    (runK (evFn Cw d 51 [w2] h4) fun r11 h11 =>
                      (consK r11 fun w12 ws13 =>
                        (nilK ws13
                          (runK (evFn Cw d 52 [w12] h11) fun r14 h14 =>
                            (consK r14 fun w15 ws16 =>
                              (boolK w15 fun bb17 =>
                                (nilK ws16
                                  (bif bb17 then
                                    (runK (evFn Cw d 53 [w12] h14) fun r18 h18 =>
                                      (consK r18 fun w19 ws20 =>
                                        (aggK 2 w19 fun cc21 =>
                                          (consK ws20 fun w22 ws23 =>
                                            (boolK w22 fun bb24 =>
                                              (nilK ws23
                                                (bif ((cc21.length == 2) && true) then (P47_0 d w12 bb24 cc21 h18) else Tr.fail)))))))
                                  else
                                    (P47_0 d w12 bb17 [(AVal.str []), (AVal.str [])] h14)))))))))))))))))) := by kernel_rfl
/- f55 (*strandline/cursor.Cursor).Seek -/
theorem F55nil_eq (d : Nat) (s0 : List UInt8) (h : Heap) : evFn Cw (d + 1) 55 [AVal.nilp, (AVal.str s0)] h =
  (Tr.ret ([(AVal.bool false)], h)) := by kernel_rfl
theorem F55_eq (d : Nat) (i0 : Nat) (s1 : List UInt8) (h : Heap) : evFn Cw (d + 1) 55 [(AVal.obj i0 0), (AVal.str s1)] h =
  (optK (Heap.cell? h i0 0) fun z1 =>
    (runK (evFn Cw d 61 [(HCell.toA z1), (AVal.str s1)] h) fun r2 h2 =>
      (consK r2 fun w3 ws4 =>
        (strK w3 fun ss5 =>
          (consK ws4 fun w6 ws7 =>
            (strK w6 fun ss8 =>
              (consK ws7 fun w9 ws10 =>
                (boolK w9 fun bb11 =>
                  (nilK ws10
                    (runK (evFn Cw d 88 [(AVal.obj i0 0), (AVal.str ss5), (AVal.bool bb11), (AVal.int .i64 2)] h2) fun r12 h12 =>
                      (consK r12 fun w13 ws14 =>
                        (boolK w13 fun bb15 =>
                          (nilK ws14
                            (Tr.ret ([(AVal.bool bb15)], h12))))))))))))))) := by kernel_rfl
/- f49 strandline/cursor.Range -/
noncomputable def P49nil_0 (d k : Nat) (s0 : List UInt8) (x1 : Int) (l2 : List AVal) (v3 : AVal) (b4 : Bool) (h : Heap) : Tr Res :=
  loopPt Cw d 49 [true, true, true, false, true, true] [] k ⟨[(2, (EV.one (SV.val (AVal.str s0)))), (3, (EV.one (SV.val (AVal.int .i64 x1)))), (9, (EV.one (SV.own (tokOf 9 0) 3 l2))), (10, (EV.one (SV.val v3))), (11, (EV.one (SV.val (AVal.bool b4))))], []⟩ h
theorem P49nil_0_eq (d k : Nat) (s0 : List UInt8) (x1 : Int) (l2 : List AVal) (v3 : AVal) (b4 : Bool) (h : Heap) : P49nil_0 d (k + 1) s0 x1 l2 v3 b4 h =
  (bif b4 then
    (bif (decide (((l2.length : Int) : Int) < x1)) then
      (runK (evFn Cw d 53 [v3] h) fun r1 h1 =>
        (consK r1 fun w2 ws3 =>
          (aggK 2 w2 fun cc4 =>
            (consK ws3 fun w5 ws6 =>
              (boolK w5 fun bb7 =>
                (nilK ws6
                  (bif ((cc4.length == 2) && true) then
                    (bif (!(s0 == [])) then
                      (optK (cc4[0]?) fun w8 =>
                        (strK w8 fun ss9 =>
                          (bif (!(Go.Op.bytesLess ss9 s0)) then
                            (Tr.ret ([(AVal.sl false 3 l2)], h1))
                          else
                            (bif decide (0 + 2 ≤ cc4.length) then
                              (bif ((((cc4.drop 0).take 2).length == 2) && true) then
                                (bif decide ((l2.length + (1 : Nat)) * 32 ≤ 140737488355328) then
                                  (runK (evFn Cw d 52 [v3] h1) fun r10 h10 =>
                                    (consK r10 fun w11 ws12 =>
                                      (boolK w11 fun bb13 =>
                                        (nilK ws12
                                          (P49nil_0 d k s0 x1 (l2 ++ [(AVal.agg ((cc4.drop 0).take 2))]) v3 bb13 h10)))))
                                else
                                  Tr.fail)
                              else
                                Tr.fail)
                            else
                              Tr.fail))))
                    else
                      (bif decide (0 + 2 ≤ cc4.length) then
                        (bif ((((cc4.drop 0).take 2).length == 2) && true) then
                          (bif decide ((l2.length + (1 : Nat)) * 32 ≤ 140737488355328) then
                            (runK (evFn Cw d 52 [v3] h1) fun r14 h14 =>
                              (consK r14 fun w15 ws16 =>
                                (boolK w15 fun bb17 =>
                                  (nilK ws16
                                    (P49nil_0 d k s0 x1 (l2 ++ [(AVal.agg ((cc4.drop 0).take 2))]) v3 bb17 h14)))))
                          else
                            Tr.fail)
                        else
                          Tr.fail)
                      else
                        Tr.fail))
                  else
                    Tr.fail)))))))
    else
      (Tr.ret ([(AVal.sl false 3 l2)], h)))
  else
    (Tr.ret ([(AVal.sl false 3 l2)], h))) := by kernel_rfl
theorem F49nil_eq (d : Nat) (s0 : List UInt8) (s1 : List UInt8) (x2 : Int) (h : Heap) : evFn Cw (d + 1) 49 [AVal.nilp, (AVal.str s0), (AVal.str s1), (AVal.int .i64 x2)] h =
  (runK (evFn Cw d 51 [AVal.nilp] h) fun r1 h1 =>
    (consK r1 fun w2 ws3 =>
      (nilK ws3
        (runK (evFn Cw d 55 [w2, (AVal.str s0)] h1) fun r4 h4 =>
          (consK r4 fun w5 ws6 =>
            (boolK w5 fun bb7 =>
              (nilK ws6
                (P49nil_0 d rounds s1 x2 [] w2 bb7 h4)))))))) := by kernel_rfl
noncomputable def P49_0 (d k : Nat) (s0 : List UInt8) (x1 : Int) (l2 : List AVal) (v3 : AVal) (b4 : Bool) (h : Heap) : Tr Res :=
  loopPt Cw d 49 [true, true, true, false, true, true] [] k ⟨[(2, (EV.one (SV.val (AVal.str s0)))), (3, (EV.one (SV.val (AVal.int .i64 x1)))), (9, (EV.one (SV.own (tokOf 9 0) 3 l2))), (10, (EV.one (SV.val v3))), (11, (EV.one (SV.val (AVal.bool b4))))], []⟩ h
theorem P49_0_eq (d k : Nat) (s0 : List UInt8) (x1 : Int) (l2 : List AVal) (v3 : AVal) (b4 : Bool) (h : Heap) : P49_0 d (k + 1) s0 x1 l2 v3 b4 h =
  (bif b4 then
    (bif (decide (((l2.length : Int) : Int) < x1)) then
      (runK (evFn Cw d 53 [v3] h) fun r1 h1 =>
        (consK r1 fun w2 ws3 =>
          (aggK 2 w2 fun cc4 =>
            (consK ws3 fun w5 ws6 =>
              (boolK w5 fun bb7 =>
                (nilK ws6
                  (bif ((cc4.length == 2) && true) then
                    (bif (!(s0 == [])) then
                      (optK (cc4[0]?) fun w8 =>
                        (strK w8 fun ss9 =>
                          (bif (!(Go.Op.bytesLess ss9 s0)) then
                            (Tr.ret ([(AVal.sl false 3 l2)], h1))
                          else
                            (bif decide (0 + 2 ≤ cc4.length) then
                              (bif ((((cc4.drop 0).take 2).length == 2) && true) then
                                (bif decide ((l2.length + (1 : Nat)) * 32 ≤ 140737488355328) then
                                  (runK (evFn Cw d 52 [v3] h1) fun r10 h10 =>
                                    (consK r10 fun w11 ws12 =>
                                      (boolK w11 fun bb13 =>
                                        (nilK ws12
                                          (P49_0 d k s0 x1 (l2 ++ [(AVal.agg ((cc4.drop 0).take 2))]) v3 bb13 h10)))))
                                else
                                  Tr.fail)
                              else
                                Tr.fail)
                            else
                              Tr.fail))))
                    else
                      (bif decide (0 + 2 ≤ cc4.length) then
                        (bif ((((cc4.drop 0).take 2).length == 2) && true) then
                          (bif decide ((l2.length + (1 : Nat)) * 32 ≤ 140737488355328) then
                            (runK (evFn Cw d 52 [v3] h1) fun r14 h14 =>
                              (consK r14 fun w15 ws16 =>
                                (boolK w15 fun bb17 =>
                                  (nilK ws16
                                    (P49_0 d k s0 x1 (l2 ++ [(AVal.agg ((cc4.drop 0).take 2))]) v3 bb17 h14)))))
                          else
                            Tr.fail)
                        else
                          Tr.fail)
                      else
                        Tr.fail))
                  else
                    Tr.fail)))))))
    else
      (Tr.ret ([(AVal.sl false 3 l2)], h)))
  else
    (Tr.ret ([(AVal.sl false 3 l2)], h))) := by kernel_rfl
theorem F49_eq (d : Nat) (i0 : Nat) (s1 : List UInt8) (s2 : List UInt8) (x3 : Int) (h : Heap) : evFn Cw (d + 1) 49 [(AVal.obj i0 0), (AVal.str s1), (AVal.str s2), (AVal.int .i64 x3)] h =
  (runK (evFn Cw d 51 [(AVal.obj i0 0)] h) fun r1 h1 =>
    (consK r1 fun w2 ws3 =>
      (nilK ws3
        (runK (evFn Cw d 55 [w2, (AVal.str s1)] h1) fun r4 h4 =>
          (consK r4 fun w5 ws6 =>
            (boolK w5 fun bb7 =>
              (nilK ws6
                (P49_0 d rounds s2 x3 [] w2 bb7 h4)))))))) := by kernel_rfl
/- f50 strandline/strandlineref32.Range -/
noncomputable def P50_0 (d k : Nat) (f0 : Bool) (l1 : List AVal) (s2 : List UInt8) (s3 : List UInt8) (x4 : Int) (l5 : List AVal) (x6 : Int) (h : Heap) : Tr Res :=
  loopPt Cw d 50 [true, true, false, true, true] [] k ⟨[(0, (EV.one (SV.val (AVal.sl f0 3 l1)))), (1, (EV.one (SV.val (AVal.str s2)))), (2, (EV.one (SV.val (AVal.str s3)))), (3, (EV.one (SV.val (AVal.int .i64 x4)))), (9, (EV.one (SV.own (tokOf 9 0) 3 l5))), (10, (EV.one (SV.val (AVal.int .i64 x6))))], []⟩ h
theorem P50_0_eq (d k : Nat) (f0 : Bool) (l1 : List AVal) (s2 : List UInt8) (s3 : List UInt8) (x4 : Int) (l5 : List AVal) (x6 : Int) (h : Heap) : P50_0 d (k + 1) f0 l1 s2 s3 x4 l5 x6 h =
  (bif (decide ((x6 : Int) < (l1.length : Int))) then
    (bif (decide (((l5.length : Int) : Int) < x4)) then
      (bif (decide ((0 : Int) ≤ x6) && decide ((x6 : Int) < (l1.length : Int))) then
        (optK ((AVal.cells (l1.getD (Int.toNat x6) AVal.undef))[0]?) fun w1 =>
          (strK w1 fun ss2 =>
            (bif (!(Go.Op.bytesLess ss2 s2)) then
              (bif (s3 == []) then
                (bif (decide ((0 : Int) ≤ x6) && decide ((x6 : Int) < (l1.length : Int))) then
                  (aggK 2 (l1.getD (Int.toNat x6) AVal.undef) fun cc3 =>
                    (bif ((cc3.length == 2) && true) then
                      (bif decide ((l5.length + (1 : Nat)) * 32 ≤ 140737488355328) then (P50_0 d k f0 l1 s2 s3 x4 (l5 ++ [(AVal.agg cc3)]) (IntKind.i64.wrap (x6 + 1)) h) else Tr.fail)
                    else
                      Tr.fail))
                else
                  Tr.fail)
              else
                (bif (decide ((0 : Int) ≤ x6) && decide ((x6 : Int) < (l1.length : Int))) then
                  (optK ((AVal.cells (l1.getD (Int.toNat x6) AVal.undef))[0]?) fun w4 =>
                    (strK w4 fun ss5 =>
                      (bif (Go.Op.bytesLess ss5 s3) then
                        (bif (decide ((0 : Int) ≤ x6) && decide ((x6 : Int) < (l1.length : Int))) then
                          (aggK 2 (l1.getD (Int.toNat x6) AVal.undef) fun cc6 =>
                            (bif ((cc6.length == 2) && true) then
                              (bif decide ((l5.length + (1 : Nat)) * 32 ≤ 140737488355328) then (P50_0 d k f0 l1 s2 s3 x4 (l5 ++ [(AVal.agg cc6)]) (IntKind.i64.wrap (x6 + 1)) h) else Tr.fail)
                            else
                              Tr.fail))
                        else
                          Tr.fail)
                      else
                        (P50_0 d k f0 l1 s2 s3 x4 l5 (IntKind.i64.wrap (x6 + 1)) h))))
                else
                  Tr.fail))
            else
              (P50_0 d k f0 l1 s2 s3 x4 l5 (IntKind.i64.wrap (x6 + 1)) h))))
      else
        Tr.fail)
    else
      (Tr.ret ([(AVal.sl false 3 l5)], h)))
  else
    (Tr.ret ([(AVal.sl false 3 l5)], h))) := by kernel_rfl
theorem F50_eq (d : Nat) (f0 : Bool) (l1 : List AVal) (s2 : List UInt8) (s3 : List UInt8) (x4 : Int) (h : Heap) : evFn Cw (d + 1) 50 [(AVal.sl f0 3 l1), (AVal.str s2), (AVal.str s3), (AVal.int .i64 x4)] h =
  (P50_0 d rounds f0 l1 s2 s3 x4 [] 0 h) := by kernel_rfl
/- f89 (*strandline/cursor.Cursor).Prev$1 -/
theorem F89_eq (d : Nat) (s0 : List UInt8) (s1 : List UInt8) (i2 : Nat) (i3 : Nat) (h : Heap) : evFn Cw (d + 1) 89 [(AVal.str s0), (AVal.str s1), (AVal.obj i2 0), (AVal.obj i3 0)] h =
  (optK (Heap.cell? h i2 0) fun _ =>
    (optK (Heap.cell? (Heap.setCell h i2 0 (HCell.val (AVal.str s0))) i3 0) fun _ =>
      (Tr.ret ([(AVal.bool true)], (Heap.setCell (Heap.setCell h i2 0 (HCell.val (AVal.str s0))) i3 0 (HCell.val (AVal.bool true))))))) := by kernel_rfl
/- f54 (*strandline/cursor.Cursor).Prev -/
theorem F54nil_eq (d : Nat) (h : Heap) : evFn Cw (d + 1) 54 [AVal.nilp] h =
  (Tr.ret ([(AVal.bool false)], h)) := by kernel_rfl
theorem F54_eq (d : Nat) (i0 : Nat) (h : Heap) : evFn Cw (d + 1) 54 [(AVal.obj i0 0)] h =
  (optK (Heap.cell? h i0 1) fun z1 =>
    (intK .i64 (HCell.toA z1) fun y2 =>
      (bif ((y2 : Int) == 0) then
        (Tr.ret ([(AVal.bool false)], h))
      else
        (optK (Heap.cell? h i0 1) fun z3 =>
          (intK .i64 (HCell.toA z3) fun y4 =>
            (bif ((y4 : Int) == 1) then
              (Tr.anyL [
                (optK (Heap.cell? h i0 0) fun z5 =>
                  (optK (Heap.cell? h i0 2) fun z6 =>
                    (strK (HCell.toA z6) fun ss7 =>
                      (runK (evFn Cw d 62 [(HCell.toA z5), (AVal.str ss7)] h) fun r8 h8 =>
                        (consK r8 fun w9 ws10 =>
                          (strK w9 fun ss11 =>
                            (consK ws10 fun w12 ws13 =>
                              (strK w12 fun ss14 =>
                                (consK ws13 fun w15 ws16 =>
                                  (boolK w15 fun bb17 =>
                                    (nilK ws16
                                      (runK (evFn Cw d 88 [(AVal.obj i0 0), (AVal.str ss11), (AVal.bool bb17), (AVal.int .i64 0)] h8) fun r18 h18 =>
                                        (consK r18 fun w19 ws20 =>
                                          (boolK w19 fun bb21 =>
                                            (nilK ws20
                                              (Tr.ret ([(AVal.bool bb21)], h18))))))))))))))))),
                (optK (Heap.cell? h i0 2) fun z5 =>
                  (strK (HCell.toA z5) fun ss6 =>
                    (optK (Heap.cell? h i0 0) fun z7 =>
                      (runK (evFn Cw d 62 [(HCell.toA z7), (AVal.str ss6)] h) fun r8 h8 =>
                        (consK r8 fun w9 ws10 =>
                          (strK w9 fun ss11 =>
                            (consK ws10 fun w12 ws13 =>
                              (strK w12 fun ss14 =>
                                (consK ws13 fun w15 ws16 =>
                                  (boolK w15 fun bb17 =>
                                    (nilK ws16
                                      (runK (evFn Cw d 88 [(AVal.obj i0 0), (AVal.str ss11), (AVal.bool bb17), (AVal.int .i64 0)] h8) fun r18 h18 =>
                                        (consK r18 fun w19 ws20 =>
                                          (boolK w19 fun bb21 =>
                                            (nilK ws20
                                              (Tr.ret ([(AVal.bool bb21)], h18)))))))))))))))))])
            else
              (optK (Heap.cell? (Heap.push (Heap.push h (Go.Weave.Obj.cells [(HCell.val (AVal.str []))])) (Go.Weave.Obj.cells [(HCell.val (AVal.bool false))])) h.objs.length 0) fun _ =>
                (optK (Heap.cell? (Heap.setCell (Heap.push (Heap.push h (Go.Weave.Obj.cells [(HCell.val (AVal.str []))])) (Go.Weave.Obj.cells [(HCell.val (AVal.bool false))])) h.objs.length 0 (HCell.val (AVal.str []))) (Heap.push h (Go.Weave.Obj.cells [(HCell.val (AVal.str []))])).objs.length 0) fun _ =>
                  (optK (Heap.cell? (Heap.setCell (Heap.setCell (Heap.push (Heap.push h (Go.Weave.Obj.cells [(HCell.val (AVal.str []))])) (Go.Weave.Obj.cells [(HCell.val (AVal.bool false))])) h.objs.length 0 (HCell.val (AVal.str []))) (Heap.push h (Go.Weave.Obj.cells [(HCell.val (AVal.str []))])).objs.length 0 (HCell.val (AVal.bool false))) i0 0) fun z22 =>
                    (runK (evFn Cw d 58 [(HCell.toA z22), (AVal.fn 89 [] [(AVal.obj h.objs.length 0), (AVal.obj (Heap.push h (Go.Weave.Obj.cells [(HCell.val (AVal.str []))])).objs.length 0)])] (Heap.setCell (Heap.setCell (Heap.push (Heap.push h (Go.Weave.Obj.cells [(HCell.val (AVal.str []))])) (Go.Weave.Obj.cells [(HCell.val (AVal.bool false))])) h.objs.length 0 (HCell.val (AVal.str []))) (Heap.push h (Go.Weave.Obj.cells [(HCell.val (AVal.str []))])).objs.length 0 (HCell.val (AVal.bool false)))) fun r23 h23 =>
                      (nilK r23
                        (optK (Heap.cell? h23 h.objs.length 0) fun z24 =>
                          (strK (HCell.toA z24) fun ss25 =>
                            (optK (Heap.cell? h23 (Heap.push h (Go.Weave.Obj.cells [(HCell.val (AVal.str []))])).objs.length 0) fun z26 =>
                              (boolK (HCell.toA z26) fun bb27 =>
                                (runK (evFn Cw d 88 [(AVal.obj i0 0), (AVal.str ss25), (AVal.bool bb27), (AVal.int .i64 0)] h23) fun r28 h28 =>
                                  (consK r28 fun w29 ws30 =>
                                    (boolK w29 fun bb31 =>
                                      (nilK ws30
                                        (Tr.ret ([(AVal.bool bb31)], h28))))))))))))))))))))) := by kernel_rfl
/- f11 strandline/strandlinelaw32.CursorRanges -/
noncomputable def P11_0 (d k : Nat) (f0 : Bool) (l1 : List AVal) (x2 : Int) (v3 : AVal) (l4 : List AVal) (x5 : Int) (s6 : List UInt8) (s7 : List UInt8) (h : Heap) : Tr Res :=
  loopPt Cw d 11 [true, true, true, true, false, true, true] [] k ⟨[(0, (EV.one (SV.val (AVal.sl f0 3 l1)))), (2, (EV.one (SV.val (AVal.int .i64 x2)))), (4, (EV.one (SV.loc 4 0))), (7, (EV.one (SV.val v3))), (8, (EV.one (SV.own (tokOf 8 0) 3 l4))), (9, (EV.one (SV.val (AVal.int .i64 x5))))], [(4, (Box.plain [(AVal.str s6), (AVal.str s7)]))]⟩ h
noncomputable def P11_1 (d k : Nat) (l0 : List AVal) (v1 : AVal) (x2 : Int) (h : Heap) : Tr Res :=
  loopPt Cw d 11 [true, true, true, true, true, true, true, true, false, true] [] k ⟨[(8, (EV.one (SV.own (tokOf 8 0) 3 l0))), (10, (EV.one (SV.val v1))), (11, (EV.one (SV.val (AVal.int .i64 x2))))], []⟩ h
noncomputable def P11_2 (d k : Nat) (l0 : List AVal) (v1 : AVal) (x2 : Int) (h : Heap) : Tr Res :=
  loopPt Cw d 11 [true, true, true, true, true, true, true, true, true, false, true] [] k ⟨[(8, (EV.one (SV.own (tokOf 8 0) 3 l0))), (10, (EV.one (SV.val v1))), (11, (EV.one (SV.val (AVal.int .i64 x2))))], []⟩ h
theorem P11_0_eq (d k : Nat) (f0 : Bool) (l1 : List AVal) (x2 : Int) (v3 : AVal) (l4 : List AVal) (x5 : Int) (s6 : List UInt8) (s7 : List UInt8) (h : Heap) : P11_0 d (k + 1) f0 l1 x2 v3 l4 x5 s6 s7 h =
  (bif (decide ((x5 : Int) < (l1.length : Int))) then
    (bif (decide ((0 : Int) ≤ x5) && decide ((x5 : Int) < (l1.length : Int))) then
      (optK ((AVal.cells (l1.getD (Int.toNat x5) AVal.undef))[0]?) fun w1 =>
        (strK w1 fun ss2 =>
          (bif (decide ((0 : Int) ≤ x5) && decide ((x5 : Int) < (l1.length : Int))) then
            (optK ((AVal.cells (l1.getD (Int.toNat x5) AVal.undef))[1]?) fun w3 =>
              (strK w3 fun ss4 =>
                (runK (evFn Cw d 44 [v3, (AVal.str ss2), (AVal.str ss4)] h) fun r5 h5 =>
                  (consK r5 fun w6 ws7 =>
                    (strK w6 fun ss8 =>
                      (consK ws7 fun w9 ws10 =>
                        (boolK w9 fun bb11 =>
                          (nilK ws10
                            (bif (decide ((0 : Int) ≤ x5) && decide ((x5 : Int) < (l1.length : Int))) then
                              (optK ((AVal.cells (l1.getD (Int.toNat x5) AVal.undef))[0]?) fun w12 =>
                                (strK w12 fun ss13 =>
                                  (bif (decide ((0 : Int) ≤ x5) && decide ((x5 : Int) < (l1.length : Int))) then
                                    (optK ((AVal.cells (l1.getD (Int.toNat x5) AVal.undef))[1]?) fun w14 =>
                                      (strK w14 fun ss15 =>
                                        (runK (evFn Cw d 45 [(AVal.sl false 3 l4), (AVal.str ss13), (AVal.str ss15)] h5) fun r16 h16 =>
                                          (consK r16 fun w17 ws18 =>
                                            (slOK 3 w17 fun es19 =>
                                              (nilK ws18
                                                (P11_0 d k f0 l1 x2 v3 es19 (IntKind.i64.wrap (x5 + 1)) s6 s7 h16)))))))
                                  else
                                    Tr.fail)))
                            else
                              Tr.fail)))))))))
          else
            Tr.fail)))
    else
      Tr.fail)
  else
    (runK (evFn Cw d 49 [v3, (AVal.str s6), (AVal.str s7), (AVal.int .i64 x2)] h) fun r20 h20 =>
      (consK r20 fun w21 ws22 =>
        (slOK 3 w21 fun es23 =>
          (nilK ws22
            (runK (evFn Cw d 50 [(AVal.sl false 3 l4), (AVal.str s6), (AVal.str s7), (AVal.int .i64 x2)] h20) fun r24 h24 =>
              (consK r24 fun w25 ws26 =>
                (slOK 3 w25 fun es27 =>
                  (nilK ws26
                    (runK (evFn Cw d 48 [(AVal.sl false 3 es23), (AVal.sl false 3 es27)] h24) fun r28 h28 =>
                      (consK r28 fun w29 ws30 =>
                        (boolK w29 fun bb31 =>
                          (nilK ws30
                            (bif (!bb31) then
                              (Tr.ret ([(AVal.bool false)], h28))
                            else
                              (runK (evFn Cw d 51 [v3] h28) fun r32 h32 =>
                                (consK r32 fun w33 ws34 =>
                                  (nilK ws34
                                    (P11_1 d rounds l4 w33 0 h32)))))))))))))))))) := by kernel_rfl
theorem P11_1_eq (d k : Nat) (l0 : List AVal) (v1 : AVal) (x2 : Int) (h : Heap) : P11_1 d (k + 1) l0 v1 x2 h =
  (runK (evFn Cw d 52 [v1] h) fun r1 h1 =>
    (consK r1 fun w2 ws3 =>
      (boolK w2 fun bb4 =>
        (nilK ws3
          (bif bb4 then
            (runK (evFn Cw d 53 [v1] h1) fun r5 h5 =>
              (consK r5 fun w6 ws7 =>
                (aggK 2 w6 fun cc8 =>
                  (consK ws7 fun w9 ws10 =>
                    (boolK w9 fun bb11 =>
                      (nilK ws10
                        (bif ((cc8.length == 2) && true) then
                          (bif (decide ((x2 : Int) ≥ (l0.length : Int))) then
                            (Tr.ret ([(AVal.bool false)], h5))
                          else
                            (bif decide (0 + 2 ≤ cc8.length) then
                              (bif (decide ((0 : Int) ≤ x2) && decide ((x2 : Int) < (l0.length : Int))) then
                                (aggK 2 (l0.getD (Int.toNat x2) AVal.undef) fun cc12 =>
                                  (bif ((plainOk Cw.P 76 (AVal.agg ((cc8.drop 0).take 2))) && (plainOk Cw.P 76 (AVal.agg cc12))) then
                                    (bif (!(eqCells ((cc8.drop 0).take 2) cc12)) then (Tr.ret ([(AVal.bool false)], h5)) else (P11_1 d k l0 v1 (IntKind.i64.wrap (x2 + 1)) h5))
                                  else
                                    Tr.fail))
                              else
                                Tr.fail)
                            else
                              Tr.fail))
                        else
                          Tr.fail)))))))
          else
            (P11_2 d rounds l0 v1 x2 h1)))))) := by kernel_rfl
theorem P11_2_eq (d k : Nat) (l0 : List AVal) (v1 : AVal) (x2 : Int) (h : Heap) : P11_2 d (k + 1) l0 v1 x2 h =
  (runK (evFn Cw d 54 [v1] h) fun r1 h1 =>
    (consK r1 fun w2 ws3 =>
      (boolK w2 fun bb4 =>
        (nilK ws3
          (bif bb4 then
            (runK (evFn Cw d 53 [v1] h1) fun r5 h5 =>
              (consK r5 fun w6 ws7 =>
                (aggK 2 w6 fun cc8 =>
                  (consK ws7 fun w9 ws10 =>
                    (boolK w9 fun bb11 =>
                      (nilK ws10
                        (bif ((cc8.length == 2) && true) then
                          (bif (decide (((IntKind.i64.wrap (x2 - 1)) : Int) < 0)) then
                            (Tr.ret ([(AVal.bool false)], h5))
                          else
                            (bif decide (0 + 2 ≤ cc8.length) then
                              (bif (decide ((0 : Int) ≤ (IntKind.i64.wrap (x2 - 1))) && decide (((IntKind.i64.wrap (x2 - 1)) : Int) < (l0.length : Int))) then
                                (aggK 2 (l0.getD (Int.toNat (IntKind.i64.wrap (x2 - 1))) AVal.undef) fun cc12 =>
                                  (bif ((plainOk Cw.P 76 (AVal.agg ((cc8.drop 0).take 2))) && (plainOk Cw.P 76 (AVal.agg cc12))) then
                                    (bif (!(eqCells ((cc8.drop 0).take 2) cc12)) then (Tr.ret ([(AVal.bool false)], h5)) else (P11_2 d k l0 v1 (IntKind.i64.wrap (x2 - 1)) h5))
                                  else
                                    Tr.fail))
                              else
                                Tr.fail)
                            else
                              Tr.fail))
                        else
                          Tr.fail)))))))
          else
            (runK (evFn Cw d 53 [AVal.nilp] h1) fun r13 h13 =>
              (consK r13 fun w14 ws15 =>
                (aggK 2 w14 fun cc16 =>
                  (consK ws15 fun w17 ws18 =>
                    (boolK w17 fun bb19 =>
                      (nilK ws18
                        (bif ((cc16.length == 2) && true) then
                          (runK (evFn Cw d 51 [AVal.nilp] h13) fun r20 h20 =>
                            (consK r20 fun w21 ws22 =>
                              (nilK ws22
                                (bif ((x2 : Int) == 0) then
                                  (bif (!bb19) then
                                    (runK (evFn Cw d 52 [AVal.nilp] h20) fun r23 h23 =>
                                      (consK r23 fun w24 ws25 =>
                                        (boolK w24 fun bb26 =>
                                          (nilK ws25
                                            (bif (!bb26) then
                                              (runK (evFn Cw d 54 [AVal.nilp] h23) fun r27 h27 =>
                                                (consK r27 fun w28 ws29 =>
                                                  (boolK w28 fun bb30 =>
                                                    (nilK ws29
                                                      (bif (!bb30) then
                                                        (runK (evFn Cw d 55 [AVal.nilp, (AVal.str [97])] h27) fun r31 h31 =>
                                                          (consK r31 fun w32 ws33 =>
                                                            (boolK w32 fun bb34 =>
                                                              (nilK ws33
                                                                (bif (!bb34) then
                                                                  (runK (evFn Cw d 56 [AVal.nilp] h31) fun r35 h35 =>
                                                                    (consK r35 fun w36 ws37 =>
                                                                      (boolK w36 fun bb38 =>
                                                                        (nilK ws37
                                                                          (bif (!bb38) then
                                                                            (runK (evFn Cw d 52 [w21] h35) fun r39 h39 =>
                                                                              (consK r39 fun w40 ws41 =>
                                                                                (boolK w40 fun bb42 =>
                                                                                  (nilK ws41
                                                                                    (bif (!bb42) then
                                                                                      (runK (evFn Cw d 54 [w21] h39) fun r43 h43 =>
                                                                                        (consK r43 fun w44 ws45 =>
                                                                                          (boolK w44 fun bb46 =>
                                                                                            (nilK ws45
                                                                                              (bif (!bb46) then
                                                                                                (runK (evFn Cw d 49 [AVal.nilp, (AVal.str []), (AVal.str []), (AVal.int .i64 9)] h43) fun r47 h47 =>
                                                                                                  (consK r47 fun w48 ws49 =>
                                                                                                    (slOK 3 w48 fun es50 =>
                                                                                                      (nilK ws49
                                                                                                        (bif (((es50.length : Int) : Int) == 0) then
                                                                                                          (runK (evFn Cw d 47 [] h47) fun r51 h51 =>
                                                                                                            (consK r51 fun w52 ws53 =>
                                                                                                              (boolK w52 fun bb54 =>
                                                                                                                (nilK ws53
                                                                                                                  (Tr.ret ([(AVal.bool bb54)], h51))))))
                                                                                                        else
                                                                                                          (Tr.ret ([(AVal.bool false)], h47)))))))
                                                                                              else
                                                                                                (Tr.ret ([(AVal.bool false)], h43)))))))
                                                                                    else
                                                                                      (Tr.ret ([(AVal.bool false)], h39)))))))
                                                                          else
                                                                            (Tr.ret ([(AVal.bool false)], h35)))))))
                                                                else
                                                                  (Tr.ret ([(AVal.bool false)], h31)))))))
                                                      else
                                                        (Tr.ret ([(AVal.bool false)], h27)))))))
                                            else
                                              (Tr.ret ([(AVal.bool false)], h23)))))))
                                  else
                                    (Tr.ret ([(AVal.bool false)], h20)))
                                else
                                  (Tr.ret ([(AVal.bool false)], h20))))))
                        else
                          Tr.fail)))))))))))) := by kernel_rfl
theorem F11_eq (d : Nat) (f0 : Bool) (l1 : List AVal) (s2 : List UInt8) (s3 : List UInt8) (x4 : Int) (h : Heap) : evFn Cw (d + 1) 11 [(AVal.sl f0 3 l1), (AVal.agg [(AVal.str s2), (AVal.str s3)]), (AVal.int .i64 x4)] h =
  (bif (decide (((l1.length : Int) : Int) > 100)) then
    (runK (evFn Cw d 47 [] h) fun r1 h1 =>
      (consK r1 fun w2 ws3 =>
        (boolK w2 fun bb4 =>
          (nilK ws3
            (Tr.ret ([(AVal.bool bb4)], h1))))))
  else
    (runK (evFn Cw d 40 [] h) fun r5 h5 =>
      (consK r5 fun w6 ws7 =>
        (nilK ws7
          (P11_0 d rounds f0 l1 x4 w6 [] 0 s2 s3 h5))))) := by kernel_rfl
end Go.Proofs.Ytfdkkhmaikgmcaa.Wa
