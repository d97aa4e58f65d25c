/- What the evaluator comes to in these functions. -/
import Derived.Test.YtfdkkhmaikgmcaaW0
import Derived.Test.YtfdkkhmaikgmcaaWvLb
import Derived.KernelRfl
namespace Go.Proofs.Ytfdkkhmaikgmcaa.Wa
open Go Go.Weave
set_option maxRecDepth 100000
set_option linter.unusedVariables false
/- f40 strandline/tree.New[string] -/
theorem F40_eq (d : Nat) (h : Heap) : evFn Cw (d + 1) 40 [] h =
  (Tr.ret ([(AVal.obj h.objs.length 0)], (Heap.push h (Go.Weave.Obj.cells ([AVal.nilp, (AVal.int .i64 0)].map HCell.val))))) := by kernel_rfl
/- f91 strandline/tree.told[string] -/
theorem F91_eq (d : Nat) (v0 : AVal) (h : Heap) : evFn Cw (d + 1) 91 [v0] h =
  (bif AVal.isPtr v0 then
    (bif (AVal.isNilp v0) then
      (Tr.ret ([(AVal.str []), (AVal.str []), (AVal.bool false)], h))
    else
      (nodeW 5 v0 fun cc1 =>
        (optK (cc1[0]?) fun w2 =>
          (strK w2 fun ss3 =>
            (nodeW 5 v0 fun cc4 =>
              (optK (cc4[1]?) fun w5 =>
                (strK w5 fun ss6 =>
                  (Tr.ret ([(AVal.str ss3), (AVal.str ss6), (AVal.bool true)], h)))))))))
  else
    Tr.fail) := by kernel_rfl
/- f61 (*strandline/tree.Tree[string]).Seek -/
theorem F61nil_eq (d : Nat) (s0 : List UInt8) (h : Heap) : evFn Cw (d + 1) 61 [AVal.nilp, (AVal.str s0)] h =
  (runK (evFn Cw d 91 [AVal.nilp] h) fun r1 h1 =>
    (consK r1 fun w2 ws3 =>
      (strK w2 fun ss4 =>
        (consK ws3 fun w5 ws6 =>
          (strK w5 fun ss7 =>
            (consK ws6 fun w8 ws9 =>
              (boolK w8 fun bb10 =>
                (nilK ws9
                  (Tr.ret ([(AVal.str ss4), (AVal.str ss7), (AVal.bool bb10)], h1)))))))))) := by kernel_rfl
noncomputable def P61_0 (d k : Nat) (s0 : List UInt8) (v1 : AVal) (v2 : AVal) (h : Heap) : Tr Res :=
  loopPt Cw d 61 [true, true, false, true, true, true, true] [] k ⟨[(1, (EV.one (SV.val (AVal.str s0)))), (7, (EV.one (SV.val v1))), (8, (EV.one (SV.val v2)))], []⟩ h
theorem P61_0_eq (d k : Nat) (s0 : List UInt8) (v1 : AVal) (v2 : AVal) (h : Heap) : P61_0 d (k + 1) s0 v1 v2 h =
  (bif AVal.isPtr v2 then
    (bif (!(AVal.isNilp v2)) then
      (nodeW 5 v2 fun cc1 =>
        (optK (cc1[0]?) fun w2 =>
          (strK w2 fun ss3 =>
            (bif (Go.Op.bytesLess ss3 s0) then
              (nodeW 5 v2 fun cc4 =>
                (optK (cc4[3]?) fun w5 =>
                  (P61_0 d k s0 v1 w5 h)))
            else
              (nodeW 5 v2 fun cc6 =>
                (optK (cc6[2]?) fun w7 =>
                  (P61_0 d k s0 v2 w7 h)))))))
    else
      (runK (evFn Cw d 91 [v1] h) fun r8 h8 =>
        (consK r8 fun w9 ws10 =>
          (strK w9 fun ss11 =>
            (consK ws10 fun w12 ws13 =>
              (strK w12 fun ss14 =>
                (consK ws13 fun w15 ws16 =>
                  (boolK w15 fun bb17 =>
                    (nilK ws16
                      (Tr.ret ([(AVal.str ss11), (AVal.str ss14), (AVal.bool bb17)], h8)))))))))))
  else
    Tr.fail) := by kernel_rfl
theorem F61_eq (d : Nat) (i0 : Nat) (s1 : List UInt8) (h : Heap) : evFn Cw (d + 1) 61 [(AVal.obj i0 0), (AVal.str s1)] h =
  (optK (Heap.cell? h i0 0) fun z1 =>
    (P61_0 d rounds s1 AVal.nilp (HCell.toA z1) h)) := by kernel_rfl
/- f60 (*strandline/tree.Tree[string]).Get -/
theorem F60nil_eq (d : Nat) (s0 : List UInt8) (h : Heap) : evFn Cw (d + 1) 60 [AVal.nilp, (AVal.str s0)] h =
  (runK (evFn Cw d 61 [AVal.nilp, (AVal.str s0)] h) fun r1 h1 =>
    (consK r1 fun w2 ws3 =>
      (strK w2 fun ss4 =>
        (consK ws3 fun w5 ws6 =>
          (strK w5 fun ss7 =>
            (consK ws6 fun w8 ws9 =>
              (boolK w8 fun bb10 =>
                (nilK ws9
                  (bif (!bb10) then
                    (Tr.ret ([(AVal.str []), (AVal.bool false)], h1))
                  else
                    (bif (!(ss4 == s0)) then (Tr.ret ([(AVal.str []), (AVal.bool false)], h1)) else (Tr.ret ([(AVal.str ss7), (AVal.bool true)], h1)))))))))))) := by kernel_rfl
theorem F60_eq (d : Nat) (i0 : Nat) (s1 : List UInt8) (h : Heap) : evFn Cw (d + 1) 60 [(AVal.obj i0 0), (AVal.str s1)] h =
  (runK (evFn Cw d 61 [(AVal.obj i0 0), (AVal.str s1)] h) fun r1 h1 =>
    (consK r1 fun w2 ws3 =>
      (strK w2 fun ss4 =>
        (consK ws3 fun w5 ws6 =>
          (strK w5 fun ss7 =>
            (consK ws6 fun w8 ws9 =>
              (boolK w8 fun bb10 =>
                (nilK ws9
                  (bif (!bb10) then
                    (Tr.ret ([(AVal.str []), (AVal.bool false)], h1))
                  else
                    (bif (!(ss4 == s1)) then (Tr.ret ([(AVal.str []), (AVal.bool false)], h1)) else (Tr.ret ([(AVal.str ss7), (AVal.bool true)], h1)))))))))))) := by kernel_rfl
/- f92 (*strandline/tree.node[string]).high -/
theorem F92_eq (d : Nat) (v0 : AVal) (h : Heap) : evFn Cw (d + 1) 92 [v0] h =
  (bif AVal.isPtr v0 then
    (bif (AVal.isNilp v0) then
      (Tr.ret ([(AVal.int .i64 0)], h))
    else
      (nodeW 5 v0 fun cc1 =>
        (optK (cc1[4]?) fun w2 =>
          (intK .i64 w2 fun y3 =>
            (Tr.ret ([(AVal.int .i64 y3)], h))))))
  else
    Tr.fail) := by kernel_rfl
/- f102 (*strandline/tree.node[string]).with -/
theorem F102_eq (d : Nat) (v0 : AVal) (v1 : AVal) (v2 : AVal) (h : Heap) : evFn Cw (d + 1) 102 [v0, v1, v2] h =
  (nodeW 5 v0 fun cc1 =>
    (nodeW 5 v0 fun cc2 =>
      (Tr.anyL [
        (optK (cc1[0]?) fun w3 =>
          (strK w3 fun ss4 =>
            (Tr.anyL [
              (optK (cc2[1]?) fun w5 =>
                (strK w5 fun ss6 =>
                  (runK (evFn Cw d 92 [v1] h) fun r7 h7 =>
                    (consK r7 fun w8 ws9 =>
                      (intK .i64 w8 fun y10 =>
                        (nilK ws9
                          (runK (evFn Cw d 92 [v2] h7) fun r11 h11 =>
                            (consK r11 fun w12 ws13 =>
                              (intK .i64 w12 fun y14 =>
                                (nilK ws13
                                  (bif (((!(AVal.isAgg v1)) && true) && true) then
                                    (bif (((!(AVal.isAgg v2)) && true) && true) then
                                      (Tr.ret ([(AVal.elt (AVal.agg [(AVal.str ss4), (AVal.str ss6), v1, v2, (AVal.int .i64 (IntKind.i64.wrap (1 + (if (y14 : Int) > y10 then y14 else y10))))]) true 5 0)], h11))
                                    else
                                      Tr.fail)
                                  else
                                    Tr.fail))))))))))),
              (runK (evFn Cw d 92 [v1] h) fun r5 h5 =>
                (consK r5 fun w6 ws7 =>
                  (intK .i64 w6 fun y8 =>
                    (nilK ws7
                      (Tr.anyL [
                        (optK (cc2[1]?) fun w9 =>
                          (strK w9 fun ss10 =>
                            (runK (evFn Cw d 92 [v2] h5) fun r11 h11 =>
                              (consK r11 fun w12 ws13 =>
                                (intK .i64 w12 fun y14 =>
                                  (nilK ws13
                                    (bif (((!(AVal.isAgg v1)) && true) && true) then
                                      (bif (((!(AVal.isAgg v2)) && true) && true) then
                                        (Tr.ret ([(AVal.elt (AVal.agg [(AVal.str ss4), (AVal.str ss10), v1, v2, (AVal.int .i64 (IntKind.i64.wrap (1 + (if (y14 : Int) > y8 then y14 else y8))))]) true 5 0)], h11))
                                      else
                                        Tr.fail)
                                    else
                                      Tr.fail))))))),
                        (runK (evFn Cw d 92 [v2] h5) fun r9 h9 =>
                          (consK r9 fun w10 ws11 =>
                            (intK .i64 w10 fun y12 =>
                              (nilK ws11
                                (optK (cc2[1]?) fun w13 =>
                                  (strK w13 fun ss14 =>
                                    (bif (((!(AVal.isAgg v1)) && true) && true) then
                                      (bif (((!(AVal.isAgg v2)) && true) && true) then
                                        (Tr.ret ([(AVal.elt (AVal.agg [(AVal.str ss4), (AVal.str ss14), v1, v2, (AVal.int .i64 (IntKind.i64.wrap (1 + (if (y12 : Int) > y8 then y12 else y8))))]) true 5 0)], h9))
                                      else
                                        Tr.fail)
                                    else
                                      Tr.fail)))))))])))))]))),
        (optK (cc2[1]?) fun w3 =>
          (strK w3 fun ss4 =>
            (Tr.anyL [
              (optK (cc1[0]?) fun w5 =>
                (strK w5 fun ss6 =>
                  (runK (evFn Cw d 92 [v1] h) fun r7 h7 =>
                    (consK r7 fun w8 ws9 =>
                      (intK .i64 w8 fun y10 =>
                        (nilK ws9
                          (runK (evFn Cw d 92 [v2] h7) fun r11 h11 =>
                            (consK r11 fun w12 ws13 =>
                              (intK .i64 w12 fun y14 =>
                                (nilK ws13
                                  (bif (((!(AVal.isAgg v1)) && true) && true) then
                                    (bif (((!(AVal.isAgg v2)) && true) && true) then
                                      (Tr.ret ([(AVal.elt (AVal.agg [(AVal.str ss6), (AVal.str ss4), v1, v2, (AVal.int .i64 (IntKind.i64.wrap (1 + (if (y14 : Int) > y10 then y14 else y10))))]) true 5 0)], h11))
                                    else
                                      Tr.fail)
                                  else
                                    Tr.fail))))))))))),
              (runK (evFn Cw d 92 [v1] h) fun r5 h5 =>
                (consK r5 fun w6 ws7 =>
                  (intK .i64 w6 fun y8 =>
                    (nilK ws7
                      (Tr.anyL [
                        (optK (cc1[0]?) fun w9 =>
                          (strK w9 fun ss10 =>
                            (runK (evFn Cw d 92 [v2] h5) fun r11 h11 =>
                              (consK r11 fun w12 ws13 =>
                                (intK .i64 w12 fun y14 =>
                                  (nilK ws13
                                    (bif (((!(AVal.isAgg v1)) && true) && true) then
                                      (bif (((!(AVal.isAgg v2)) && true) && true) then
                                        (Tr.ret ([(AVal.elt (AVal.agg [(AVal.str ss10), (AVal.str ss4), v1, v2, (AVal.int .i64 (IntKind.i64.wrap (1 + (if (y14 : Int) > y8 then y14 else y8))))]) true 5 0)], h11))
                                      else
                                        Tr.fail)
                                    else
                                      Tr.fail))))))),
                        (runK (evFn Cw d 92 [v2] h5) fun r9 h9 =>
                          (consK r9 fun w10 ws11 =>
                            (intK .i64 w10 fun y12 =>
                              (nilK ws11
                                (optK (cc1[0]?) fun w13 =>
                                  (strK w13 fun ss14 =>
                                    (bif (((!(AVal.isAgg v1)) && true) && true) then
                                      (bif (((!(AVal.isAgg v2)) && true) && true) then
                                        (Tr.ret ([(AVal.elt (AVal.agg [(AVal.str ss14), (AVal.str ss4), v1, v2, (AVal.int .i64 (IntKind.i64.wrap (1 + (if (y12 : Int) > y8 then y12 else y8))))]) true 5 0)], h9))
                                      else
                                        Tr.fail)
                                    else
                                      Tr.fail)))))))])))))]))),
        (runK (evFn Cw d 92 [v1] h) fun r3 h3 =>
          (consK r3 fun w4 ws5 =>
            (intK .i64 w4 fun y6 =>
              (nilK ws5
                (Tr.anyL [
                  (optK (cc1[0]?) fun w7 =>
                    (strK w7 fun ss8 =>
                      (Tr.anyL [
                        (optK (cc2[1]?) fun w9 =>
                          (strK w9 fun ss10 =>
                            (runK (evFn Cw d 92 [v2] h3) fun r11 h11 =>
                              (consK r11 fun w12 ws13 =>
                                (intK .i64 w12 fun y14 =>
                                  (nilK ws13
                                    (bif (((!(AVal.isAgg v1)) && true) && true) then
                                      (bif (((!(AVal.isAgg v2)) && true) && true) then
                                        (Tr.ret ([(AVal.elt (AVal.agg [(AVal.str ss8), (AVal.str ss10), v1, v2, (AVal.int .i64 (IntKind.i64.wrap (1 + (if (y14 : Int) > y6 then y14 else y6))))]) true 5 0)], h11))
                                      else
                                        Tr.fail)
                                    else
                                      Tr.fail))))))),
                        (runK (evFn Cw d 92 [v2] h3) fun r9 h9 =>
                          (consK r9 fun w10 ws11 =>
                            (intK .i64 w10 fun y12 =>
                              (nilK ws11
                                (optK (cc2[1]?) fun w13 =>
                                  (strK w13 fun ss14 =>
                                    (bif (((!(AVal.isAgg v1)) && true) && true) then
                                      (bif (((!(AVal.isAgg v2)) && true) && true) then
                                        (Tr.ret ([(AVal.elt (AVal.agg [(AVal.str ss8), (AVal.str ss14), v1, v2, (AVal.int .i64 (IntKind.i64.wrap (1 + (if (y12 : Int) > y6 then y12 else y6))))]) true 5 0)], h9))
                                      else
                                        Tr.fail)
                                    else
                                      Tr.fail)))))))]))),
                  (optK (cc2[1]?) fun w7 =>
                    (strK w7 fun ss8 =>
                      (Tr.anyL [
                        (optK (cc1[0]?) fun w9 =>
                          (strK w9 fun ss10 =>
                            (runK (evFn Cw d 92 [v2] h3) fun r11 h11 =>
                              (consK r11 fun w12 ws13 =>
                                (intK .i64 w12 fun y14 =>
                                  (nilK ws13
                                    (bif (((!(AVal.isAgg v1)) && true) && true) then
                                      (bif (((!(AVal.isAgg v2)) && true) && true) then
                                        (Tr.ret ([(AVal.elt (AVal.agg [(AVal.str ss10), (AVal.str ss8), v1, v2, (AVal.int .i64 (IntKind.i64.wrap (1 + (if (y14 : Int) > y6 then y14 else y6))))]) true 5 0)], h11))
                                      else
                                        Tr.fail)
                                    else
                                      Tr.fail))))))),
                        (runK (evFn Cw d 92 [v2] h3) fun r9 h9 =>
                          (consK r9 fun w10 ws11 =>
                            (intK .i64 w10 fun y12 =>
                              (nilK ws11
                                (optK (cc1[0]?) fun w13 =>
                                  (strK w13 fun ss14 =>
                                    (bif (((!(AVal.isAgg v1)) && true) && true) then
                                      (bif (((!(AVal.isAgg v2)) && true) && true) then
                                        (Tr.ret ([(AVal.elt (AVal.agg [(AVal.str ss14), (AVal.str ss8), v1, v2, (AVal.int .i64 (IntKind.i64.wrap (1 + (if (y12 : Int) > y6 then y12 else y6))))]) true 5 0)], h9))
                                      else
                                        Tr.fail)
                                    else
                                      Tr.fail)))))))]))),
                  (runK (evFn Cw d 92 [v2] h3) fun r7 h7 =>
                    (consK r7 fun w8 ws9 =>
                      (intK .i64 w8 fun y10 =>
                        (nilK ws9
                          (Tr.anyL [
                            (optK (cc1[0]?) fun w11 =>
                              (strK w11 fun ss12 =>
                                (optK (cc2[1]?) fun w13 =>
                                  (strK w13 fun ss14 =>
                                    (bif (((!(AVal.isAgg v1)) && true) && true) then
                                      (bif (((!(AVal.isAgg v2)) && true) && true) then
                                        (Tr.ret ([(AVal.elt (AVal.agg [(AVal.str ss12), (AVal.str ss14), v1, v2, (AVal.int .i64 (IntKind.i64.wrap (1 + (if (y10 : Int) > y6 then y10 else y6))))]) true 5 0)], h7))
                                      else
                                        Tr.fail)
                                    else
                                      Tr.fail))))),
                            (optK (cc2[1]?) fun w11 =>
                              (strK w11 fun ss12 =>
                                (optK (cc1[0]?) fun w13 =>
                                  (strK w13 fun ss14 =>
                                    (bif (((!(AVal.isAgg v1)) && true) && true) then
                                      (bif (((!(AVal.isAgg v2)) && true) && true) then
                                        (Tr.ret ([(AVal.elt (AVal.agg [(AVal.str ss14), (AVal.str ss12), v1, v2, (AVal.int .i64 (IntKind.i64.wrap (1 + (if (y10 : Int) > y6 then y10 else y6))))]) true 5 0)], h7))
                                      else
                                        Tr.fail)
                                    else
                                      Tr.fail)))))])))))])))))]))) := by kernel_rfl
/- f100 (*strandline/tree.node[string]).level -/
theorem F100_eq (d : Nat) (v0 : AVal) (v1 : AVal) (v2 : AVal) (h : Heap) : evFn Cw (d + 1) 100 [v0, v1, v2] h =
  (runK (evFn Cw d 92 [v1] h) fun r1 h1 =>
    (consK r1 fun w2 ws3 =>
      (intK .i64 w2 fun y4 =>
        (nilK ws3
          (runK (evFn Cw d 92 [v2] h1) fun r5 h5 =>
            (consK r5 fun w6 ws7 =>
              (intK .i64 w6 fun y8 =>
                (nilK ws7
                  (bif (decide ((y4 : Int) > (IntKind.i64.wrap (y8 + 1)))) then
                    (nodeW 5 v1 fun cc9 =>
                      (optK (cc9[2]?) fun w10 =>
                        (nodeW 5 v1 fun cc11 =>
                          (optK (cc11[3]?) fun w12 =>
                            (runK (evFn Cw d 92 [w10] h5) fun r13 h13 =>
                              (consK r13 fun w14 ws15 =>
                                (intK .i64 w14 fun y16 =>
                                  (nilK ws15
                                    (runK (evFn Cw d 92 [w12] h13) fun r17 h17 =>
                                      (consK r17 fun w18 ws19 =>
                                        (intK .i64 w18 fun y20 =>
                                          (nilK ws19
                                            (bif (decide ((y16 : Int) ≥ y20)) then
                                              (nodeW 5 v1 fun cc21 =>
                                                (optK (cc21[2]?) fun w22 =>
                                                  (nodeW 5 v1 fun cc23 =>
                                                    (optK (cc23[3]?) fun w24 =>
                                                      (runK (evFn Cw d 102 [v0, w24, v2] h17) fun r25 h25 =>
                                                        (consK r25 fun w26 ws27 =>
                                                          (nilK ws27
                                                            (runK (evFn Cw d 102 [v1, w22, w26] h25) fun r28 h28 =>
                                                              (consK r28 fun w29 ws30 =>
                                                                (nilK ws30
                                                                  (Tr.ret ([w29], h28))))))))))))
                                            else
                                              (nodeW 5 v1 fun cc31 =>
                                                (optK (cc31[3]?) fun w32 =>
                                                  (nodeW 5 v1 fun cc33 =>
                                                    (optK (cc33[2]?) fun w34 =>
                                                      (nodeW 5 v1 fun cc35 =>
                                                        (optK (cc35[3]?) fun w36 =>
                                                          (nodeW 5 w36 fun cc37 =>
                                                            (optK (cc37[2]?) fun w38 =>
                                                              (nodeW 5 v1 fun cc39 =>
                                                                (optK (cc39[3]?) fun w40 =>
                                                                  (nodeW 5 w40 fun cc41 =>
                                                                    (optK (cc41[3]?) fun w42 =>
                                                                      (runK (evFn Cw d 102 [v1, w34, w38] h17) fun r43 h43 =>
                                                                        (consK r43 fun w44 ws45 =>
                                                                          (nilK ws45
                                                                            (runK (evFn Cw d 102 [v0, w42, v2] h43) fun r46 h46 =>
                                                                              (consK r46 fun w47 ws48 =>
                                                                                (nilK ws48
                                                                                  (runK (evFn Cw d 102 [w32, w44, w47] h46) fun r49 h49 =>
                                                                                    (consK r49 fun w50 ws51 =>
                                                                                      (nilK ws51
                                                                                        (Tr.ret ([w50], h49))))))))))))))))))))))))))))))))))))
                  else
                    (runK (evFn Cw d 92 [v2] h5) fun r52 h52 =>
                      (consK r52 fun w53 ws54 =>
                        (intK .i64 w53 fun y55 =>
                          (nilK ws54
                            (runK (evFn Cw d 92 [v1] h52) fun r56 h56 =>
                              (consK r56 fun w57 ws58 =>
                                (intK .i64 w57 fun y59 =>
                                  (nilK ws58
                                    (bif (decide ((y55 : Int) > (IntKind.i64.wrap (y59 + 1)))) then
                                      (nodeW 5 v2 fun cc60 =>
                                        (optK (cc60[3]?) fun w61 =>
                                          (nodeW 5 v2 fun cc62 =>
                                            (optK (cc62[2]?) fun w63 =>
                                              (runK (evFn Cw d 92 [w61] h56) fun r64 h64 =>
                                                (consK r64 fun w65 ws66 =>
                                                  (intK .i64 w65 fun y67 =>
                                                    (nilK ws66
                                                      (runK (evFn Cw d 92 [w63] h64) fun r68 h68 =>
                                                        (consK r68 fun w69 ws70 =>
                                                          (intK .i64 w69 fun y71 =>
                                                            (nilK ws70
                                                              (bif (decide ((y67 : Int) ≥ y71)) then
                                                                (nodeW 5 v2 fun cc72 =>
                                                                  (optK (cc72[2]?) fun w73 =>
                                                                    (nodeW 5 v2 fun cc74 =>
                                                                      (optK (cc74[3]?) fun w75 =>
                                                                        (runK (evFn Cw d 102 [v0, v1, w73] h68) fun r76 h76 =>
                                                                          (consK r76 fun w77 ws78 =>
                                                                            (nilK ws78
                                                                              (runK (evFn Cw d 102 [v2, w77, w75] h76) fun r79 h79 =>
                                                                                (consK r79 fun w80 ws81 =>
                                                                                  (nilK ws81
                                                                                    (Tr.ret ([w80], h79))))))))))))
                                                              else
                                                                (nodeW 5 v2 fun cc82 =>
                                                                  (optK (cc82[2]?) fun w83 =>
                                                                    (nodeW 5 v2 fun cc84 =>
                                                                      (optK (cc84[2]?) fun w85 =>
                                                                        (nodeW 5 w85 fun cc86 =>
                                                                          (optK (cc86[2]?) fun w87 =>
                                                                            (nodeW 5 v2 fun cc88 =>
                                                                              (optK (cc88[2]?) fun w89 =>
                                                                                (nodeW 5 w89 fun cc90 =>
                                                                                  (optK (cc90[3]?) fun w91 =>
                                                                                    (nodeW 5 v2 fun cc92 =>
                                                                                      (optK (cc92[3]?) fun w93 =>
                                                                                        (runK (evFn Cw d 102 [v0, v1, w87] h68) fun r94 h94 =>
                                                                                          (consK r94 fun w95 ws96 =>
                                                                                            (nilK ws96
                                                                                              (runK (evFn Cw d 102 [v2, w91, w93] h94) fun r97 h97 =>
                                                                                                (consK r97 fun w98 ws99 =>
                                                                                                  (nilK ws99
                                                                                                    (runK (evFn Cw d 102 [w83, w95, w98] h97) fun r100 h100 =>
                                                                                                      (consK r100 fun w101 ws102 =>
                                                                                                        (nilK ws102
                                                                                                          (Tr.ret ([w101], h100))))))))))))))))))))))))))))))))))))
                                    else
                                      (runK (evFn Cw d 102 [v0, v1, v2] h56) fun r103 h103 =>
                                        (consK r103 fun w104 ws105 =>
                                          (nilK ws105
                                            (Tr.ret ([w104], h103))))))))))))))))))))))) := by kernel_rfl
/- f84 (*strandline/tree.node[string]).put -/
theorem F84_eq (d : Nat) (v0 : AVal) (s1 : List UInt8) (s2 : List UInt8) (h : Heap) : evFn Cw (d + 1) 84 [v0, (AVal.str s1), (AVal.str s2)] h =
  (bif AVal.isPtr v0 then
    (bif (AVal.isNilp v0) then
      (Tr.ret ([(AVal.elt (AVal.agg [(AVal.str s1), (AVal.str s2), AVal.nilp, AVal.nilp, (AVal.int .i64 1)]) true 5 0)], h))
    else
      (nodeW 5 v0 fun cc1 =>
        (optK (cc1[0]?) fun w2 =>
          (strK w2 fun ss3 =>
            (bif (Go.Op.bytesLess s1 ss3) then
              (nodeW 5 v0 fun cc4 =>
                (optK (cc4[2]?) fun w5 =>
                  (nodeW 5 v0 fun cc6 =>
                    (optK (cc6[3]?) fun w7 =>
                      (runK (evFn Cw d 84 [w5, (AVal.str s1), (AVal.str s2)] h) fun r8 h8 =>
                        (consK r8 fun w9 ws10 =>
                          (nilK ws10
                            (runK (evFn Cw d 100 [v0, w9, w7] h8) fun r11 h11 =>
                              (consK r11 fun w12 ws13 =>
                                (nilK ws13
                                  (Tr.ret ([w12], h11))))))))))))
            else
              (nodeW 5 v0 fun cc14 =>
                (optK (cc14[0]?) fun w15 =>
                  (strK w15 fun ss16 =>
                    (bif (!((Go.Op.bytesLess s1 ss16) || (s1 == ss16))) then
                      (nodeW 5 v0 fun cc17 =>
                        (optK (cc17[2]?) fun w18 =>
                          (nodeW 5 v0 fun cc19 =>
                            (optK (cc19[3]?) fun w20 =>
                              (runK (evFn Cw d 84 [w20, (AVal.str s1), (AVal.str s2)] h) fun r21 h21 =>
                                (consK r21 fun w22 ws23 =>
                                  (nilK ws23
                                    (runK (evFn Cw d 100 [v0, w18, w22] h21) fun r24 h24 =>
                                      (consK r24 fun w25 ws26 =>
                                        (nilK ws26
                                          (Tr.ret ([w25], h24))))))))))))
                    else
                      (nodeW 5 v0 fun cc27 =>
                        (nodeW 5 v0 fun cc28 =>
                          (nodeW 5 v0 fun cc29 =>
                            (Tr.anyL [
                              (optK (cc27[2]?) fun w30 =>
                                (Tr.anyL [
                                  (optK (cc28[3]?) fun w31 =>
                                    (optK (cc29[4]?) fun w32 =>
                                      (intK .i64 w32 fun y33 =>
                                        (bif (((!(AVal.isAgg w30)) && true) && true) then
                                          (bif (((!(AVal.isAgg w31)) && true) && true) then
                                            (Tr.ret ([(AVal.elt (AVal.agg [(AVal.str s1), (AVal.str s2), w30, w31, (AVal.int .i64 y33)]) true 5 0)], h))
                                          else
                                            Tr.fail)
                                        else
                                          Tr.fail)))),
                                  (optK (cc29[4]?) fun w31 =>
                                    (intK .i64 w31 fun y32 =>
                                      (optK (cc28[3]?) fun w33 =>
                                        (bif (((!(AVal.isAgg w30)) && true) && true) then
                                          (bif (((!(AVal.isAgg w33)) && true) && true) then
                                            (Tr.ret ([(AVal.elt (AVal.agg [(AVal.str s1), (AVal.str s2), w30, w33, (AVal.int .i64 y32)]) true 5 0)], h))
                                          else
                                            Tr.fail)
                                        else
                                          Tr.fail))))])),
                              (optK (cc28[3]?) fun w30 =>
                                (Tr.anyL [
                                  (optK (cc27[2]?) fun w31 =>
                                    (optK (cc29[4]?) fun w32 =>
                                      (intK .i64 w32 fun y33 =>
                                        (bif (((!(AVal.isAgg w31)) && true) && true) then
                                          (bif (((!(AVal.isAgg w30)) && true) && true) then
                                            (Tr.ret ([(AVal.elt (AVal.agg [(AVal.str s1), (AVal.str s2), w31, w30, (AVal.int .i64 y33)]) true 5 0)], h))
                                          else
                                            Tr.fail)
                                        else
                                          Tr.fail)))),
                                  (optK (cc29[4]?) fun w31 =>
                                    (intK .i64 w31 fun y32 =>
                                      (optK (cc27[2]?) fun w33 =>
                                        (bif (((!(AVal.isAgg w33)) && true) && true) then
                                          (bif (((!(AVal.isAgg w30)) && true) && true) then
                                            (Tr.ret ([(AVal.elt (AVal.agg [(AVal.str s1), (AVal.str s2), w33, w30, (AVal.int .i64 y32)]) true 5 0)], h))
                                          else
                                            Tr.fail)
                                        else
                                          Tr.fail))))])),
                              (optK (cc29[4]?) fun w30 =>
                                (intK .i64 w30 fun y31 =>
                                  (Tr.anyL [
                                    (optK (cc27[2]?) fun w32 =>
                                      (optK (cc28[3]?) fun w33 =>
                                        (bif (((!(AVal.isAgg w32)) && true) && true) then
                                          (bif (((!(AVal.isAgg w33)) && true) && true) then
                                            (Tr.ret ([(AVal.elt (AVal.agg [(AVal.str s1), (AVal.str s2), w32, w33, (AVal.int .i64 y31)]) true 5 0)], h))
                                          else
                                            Tr.fail)
                                        else
                                          Tr.fail))),
                                    (optK (cc28[3]?) fun w32 =>
                                      (optK (cc27[2]?) fun w33 =>
                                        (bif (((!(AVal.isAgg w33)) && true) && true) then
                                          (bif (((!(AVal.isAgg w32)) && true) && true) then
                                            (Tr.ret ([(AVal.elt (AVal.agg [(AVal.str s1), (AVal.str s2), w33, w32, (AVal.int .i64 y31)]) true 5 0)], h))
                                          else
                                            Tr.fail)
                                        else
                                          Tr.fail)))])))])))))))))))))
  else
    Tr.fail) := by kernel_rfl
/- f44 (*strandline/tree.Tree[string]).Put -/
theorem F44nil_eq (d : Nat) (s0 : List UInt8) (s1 : List UInt8) (h : Heap) : evFn Cw (d + 1) 44 [AVal.nilp, (AVal.str s0), (AVal.str s1)] h =
  (runK (evFn Cw d 60 [AVal.nilp, (AVal.str s0)] h) fun r1 h1 =>
    (consK r1 fun w2 ws3 =>
      (strK w2 fun ss4 =>
        (consK ws3 fun w5 ws6 =>
          (boolK w5 fun bb7 =>
            (nilK ws6
              (Tr.ret ([(AVal.str ss4), (AVal.bool bb7)], h1)))))))) := by kernel_rfl
theorem F44_eq (d : Nat) (i0 : Nat) (s1 : List UInt8) (s2 : List UInt8) (h : Heap) : evFn Cw (d + 1) 44 [(AVal.obj i0 0), (AVal.str s1), (AVal.str s2)] h =
  (runK (evFn Cw d 60 [(AVal.obj i0 0), (AVal.str s1)] h) fun r1 h1 =>
    (consK r1 fun w2 ws3 =>
      (strK w2 fun ss4 =>
        (consK ws3 fun w5 ws6 =>
          (boolK w5 fun bb7 =>
            (nilK ws6
              (optK (Heap.cell? h1 i0 0) fun z8 =>
                (runK (evFn Cw d 84 [(HCell.toA z8), (AVal.str s1), (AVal.str s2)] h1) fun r9 h9 =>
                  (consK r9 fun w10 ws11 =>
                    (nilK ws11
                      (bif (AVal.isAgg w10) then
                        Tr.fail
                      else
                        (optK (Heap.cell? h9 i0 0) fun _ =>
                          (bif (!bb7) then
                            (optK (Heap.cell? (Heap.setCell h9 i0 0 (HCell.val w10)) i0 1) fun z12 =>
                              (intK .i64 (HCell.toA z12) fun y13 =>
                                (optK (Heap.cell? (Heap.setCell h9 i0 0 (HCell.val w10)) i0 1) fun _ =>
                                  (Tr.ret ([(AVal.str ss4), (AVal.bool bb7)], (Heap.setCell (Heap.setCell h9 i0 0 (HCell.val w10)) i0 1 (HCell.val (AVal.int .i64 (IntKind.i64.wrap (y13 + 1))))))))))
                          else
                            (Tr.ret ([(AVal.str ss4), (AVal.bool bb7)], (Heap.setCell h9 i0 0 (HCell.val w10))))))))))))))))) := by kernel_rfl
/- f64 (*strandline/tree.Tree[string]).Height -/
theorem F64nil_eq (d : Nat) (h : Heap) : evFn Cw (d + 1) 64 [AVal.nilp] h =
  (Tr.ret ([(AVal.int .i64 0)], h)) := by kernel_rfl
theorem F64_eq (d : Nat) (i0 : Nat) (h : Heap) : evFn Cw (d + 1) 64 [(AVal.obj i0 0)] h =
  (optK (Heap.cell? h i0 0) fun z1 =>
    (runK (evFn Cw d 92 [(HCell.toA z1)] h) fun r2 h2 =>
      (consK r2 fun w3 ws4 =>
        (intK .i64 w3 fun y5 =>
          (nilK ws4
            (Tr.ret ([(AVal.int .i64 y5)], h2))))))) := by kernel_rfl
/- f63 (*strandline/tree.Tree[string]).Len -/
theorem F63nil_eq (d : Nat) (h : Heap) : evFn Cw (d + 1) 63 [AVal.nilp] h =
  (Tr.ret ([(AVal.int .i64 0)], h)) := by kernel_rfl
theorem F63_eq (d : Nat) (i0 : Nat) (h : Heap) : evFn Cw (d + 1) 63 [(AVal.obj i0 0)] h =
  (optK (Heap.cell? h i0 1) fun z1 =>
    (intK .i64 (HCell.toA z1) fun y2 =>
      (Tr.ret ([(AVal.int .i64 y2)], h)))) := by kernel_rfl
/- f93 (*strandline/tree.Tree[string]).Balanced$1 -/
theorem F93_eq (d : Nat) (s0 : List UInt8) (s1 : List UInt8) (i2 : Nat) (i3 : Nat) (h : Heap) : evFn Cw (d + 1) 93 [(AVal.str s0), (AVal.str s1), (AVal.obj i2 0), (AVal.obj i3 0)] h =
  (optK (Heap.cell? h i2 0) fun z1 =>
    (intK .i64 (HCell.toA z1) fun y2 =>
      (bif (decide ((y2 : Int) > 0)) then
        (optK (Heap.cell? h i3 0) fun z3 =>
          (strK (HCell.toA z3) fun ss4 =>
            (bif ((Go.Op.bytesLess s0 ss4) || (s0 == ss4)) then
              (Tr.ret ([(AVal.bool false)], h))
            else
              (optK (Heap.cell? h i2 0) fun z5 =>
                (intK .i64 (HCell.toA z5) fun y6 =>
                  (optK (Heap.cell? h i2 0) fun _ =>
                    (optK (Heap.cell? (Heap.setCell h i2 0 (HCell.val (AVal.int .i64 (IntKind.i64.wrap (y6 + 1))))) i3 0) fun _ =>
                      (Tr.ret ([(AVal.bool true)], (Heap.setCell (Heap.setCell h i2 0 (HCell.val (AVal.int .i64 (IntKind.i64.wrap (y6 + 1))))) i3 0 (HCell.val (AVal.str s0))))))))))))
      else
        (optK (Heap.cell? h i2 0) fun z7 =>
          (intK .i64 (HCell.toA z7) fun y8 =>
            (optK (Heap.cell? h i2 0) fun _ =>
              (optK (Heap.cell? (Heap.setCell h i2 0 (HCell.val (AVal.int .i64 (IntKind.i64.wrap (y8 + 1))))) i3 0) fun _ =>
                (Tr.ret ([(AVal.bool true)], (Heap.setCell (Heap.setCell h i2 0 (HCell.val (AVal.int .i64 (IntKind.i64.wrap (y8 + 1))))) i3 0 (HCell.val (AVal.str s0)))))))))))) := by kernel_rfl
/- f90 (*strandline/tree.node[string]).each -/
theorem F90bal_eq (d : Nat) (v0 : AVal) (i1 : Nat) (i2 : Nat) (h : Heap) : evFn Cw (d + 1) 90 [v0, (AVal.fn 93 [] [(AVal.obj i1 0), (AVal.obj i2 0)])] h =
  (bif AVal.isPtr v0 then
    (bif (AVal.isNilp v0) then
      (Tr.ret ([(AVal.bool true)], h))
    else
      (nodeW 5 v0 fun cc1 =>
        (optK (cc1[2]?) fun w2 =>
          (runK (evFn Cw d 90 [w2, (AVal.fn 93 [] [(AVal.obj i1 0), (AVal.obj i2 0)])] h) fun r3 h3 =>
            (consK r3 fun w4 ws5 =>
              (boolK w4 fun bb6 =>
                (nilK ws5
                  (bif bb6 then
                    (nodeW 5 v0 fun cc7 =>
                      (optK (cc7[0]?) fun w8 =>
                        (strK w8 fun ss9 =>
                          (nodeW 5 v0 fun cc10 =>
                            (optK (cc10[1]?) fun w11 =>
                              (strK w11 fun ss12 =>
                                (runK (evFn Cw d 93 [(AVal.str ss9), (AVal.str ss12), (AVal.obj i1 0), (AVal.obj i2 0)] h3) fun r13 h13 =>
                                  (consK r13 fun w14 ws15 =>
                                    (boolK w14 fun bb16 =>
                                      (nilK ws15
                                        (bif bb16 then
                                          (nodeW 5 v0 fun cc17 =>
                                            (optK (cc17[3]?) fun w18 =>
                                              (runK (evFn Cw d 90 [w18, (AVal.fn 93 [] [(AVal.obj i1 0), (AVal.obj i2 0)])] h13) fun r19 h19 =>
                                                (consK r19 fun w20 ws21 =>
                                                  (boolK w20 fun bb22 =>
                                                    (nilK ws21
                                                      (Tr.ret ([(AVal.bool bb22)], h19))))))))
                                        else
                                          (Tr.ret ([(AVal.bool false)], h13)))))))))))))
                  else
                    (Tr.ret ([(AVal.bool false)], h3))))))))))
  else
    Tr.fail) := by kernel_rfl
theorem F90prs_eq (d : Nat) (v0 : AVal) (i1 : Nat) (h : Heap) : evFn Cw (d + 1) 90 [v0, (AVal.fn 95 [] [(AVal.obj i1 0)])] h =
  (bif AVal.isPtr v0 then
    (bif (AVal.isNilp v0) then
      (Tr.ret ([(AVal.bool true)], h))
    else
      (nodeW 5 v0 fun cc1 =>
        (optK (cc1[2]?) fun w2 =>
          (runK (evFn Cw d 90 [w2, (AVal.fn 95 [] [(AVal.obj i1 0)])] h) fun r3 h3 =>
            (consK r3 fun w4 ws5 =>
              (boolK w4 fun bb6 =>
                (nilK ws5
                  (bif bb6 then
                    (nodeW 5 v0 fun cc7 =>
                      (optK (cc7[0]?) fun w8 =>
                        (strK w8 fun ss9 =>
                          (nodeW 5 v0 fun cc10 =>
                            (optK (cc10[1]?) fun w11 =>
                              (strK w11 fun ss12 =>
                                (runK (evFn Cw d 95 [(AVal.str ss9), (AVal.str ss12), (AVal.obj i1 0)] h3) fun r13 h13 =>
                                  (consK r13 fun w14 ws15 =>
                                    (boolK w14 fun bb16 =>
                                      (nilK ws15
                                        (bif bb16 then
                                          (nodeW 5 v0 fun cc17 =>
                                            (optK (cc17[3]?) fun w18 =>
                                              (runK (evFn Cw d 90 [w18, (AVal.fn 95 [] [(AVal.obj i1 0)])] h13) fun r19 h19 =>
                                                (consK r19 fun w20 ws21 =>
                                                  (boolK w20 fun bb22 =>
                                                    (nilK ws21
                                                      (Tr.ret ([(AVal.bool bb22)], h19))))))))
                                        else
                                          (Tr.ret ([(AVal.bool false)], h13)))))))))))))
                  else
                    (Tr.ret ([(AVal.bool false)], h3))))))))))
  else
    Tr.fail) := by kernel_rfl
theorem F90cln_eq (d : Nat) (v0 : AVal) (i1 : Nat) (i2 : Nat) (h : Heap) : evFn Cw (d + 1) 90 [v0, (AVal.fn 59 [] [(AVal.obj i1 0), (AVal.obj i2 0)])] h =
  (bif AVal.isPtr v0 then
    (bif (AVal.isNilp v0) then
      (Tr.ret ([(AVal.bool true)], h))
    else
      (nodeW 5 v0 fun cc1 =>
        (optK (cc1[2]?) fun w2 =>
          (runK (evFn Cw d 90 [w2, (AVal.fn 59 [] [(AVal.obj i1 0), (AVal.obj i2 0)])] h) fun r3 h3 =>
            (consK r3 fun w4 ws5 =>
              (boolK w4 fun bb6 =>
                (nilK ws5
                  (bif bb6 then
                    (nodeW 5 v0 fun cc7 =>
                      (optK (cc7[0]?) fun w8 =>
                        (strK w8 fun ss9 =>
                          (nodeW 5 v0 fun cc10 =>
                            (optK (cc10[1]?) fun w11 =>
                              (strK w11 fun ss12 =>
                                (runK (evFn Cw d 59 [(AVal.str ss9), (AVal.str ss12), (AVal.obj i1 0), (AVal.obj i2 0)] h3) fun r13 h13 =>
                                  (consK r13 fun w14 ws15 =>
                                    (boolK w14 fun bb16 =>
                                      (nilK ws15
                                        (bif bb16 then
                                          (nodeW 5 v0 fun cc17 =>
                                            (optK (cc17[3]?) fun w18 =>
                                              (runK (evFn Cw d 90 [w18, (AVal.fn 59 [] [(AVal.obj i1 0), (AVal.obj i2 0)])] h13) fun r19 h19 =>
                                                (consK r19 fun w20 ws21 =>
                                                  (boolK w20 fun bb22 =>
                                                    (nilK ws21
                                                      (Tr.ret ([(AVal.bool bb22)], h19))))))))
                                        else
                                          (Tr.ret ([(AVal.bool false)], h13)))))))))))))
                  else
                    (Tr.ret ([(AVal.bool false)], h3))))))))))
  else
    Tr.fail) := by kernel_rfl
theorem F90prv_eq (d : Nat) (v0 : AVal) (i1 : Nat) (i2 : Nat) (h : Heap) : evFn Cw (d + 1) 90 [v0, (AVal.fn 89 [] [(AVal.obj i1 0), (AVal.obj i2 0)])] h =
  (bif AVal.isPtr v0 then
    (bif (AVal.isNilp v0) then
      (Tr.ret ([(AVal.bool true)], h))
    else
      (nodeW 5 v0 fun cc1 =>
        (optK (cc1[2]?) fun w2 =>
          (runK (evFn Cw d 90 [w2, (AVal.fn 89 [] [(AVal.obj i1 0), (AVal.obj i2 0)])] h) fun r3 h3 =>
            (consK r3 fun w4 ws5 =>
              (boolK w4 fun bb6 =>
                (nilK ws5
                  (bif bb6 then
                    (nodeW 5 v0 fun cc7 =>
                      (optK (cc7[0]?) fun w8 =>
                        (strK w8 fun ss9 =>
                          (nodeW 5 v0 fun cc10 =>
                            (optK (cc10[1]?) fun w11 =>
                              (strK w11 fun ss12 =>
                                (runK (evFn Cw d 89 [(AVal.str ss9), (AVal.str ss12), (AVal.obj i1 0), (AVal.obj i2 0)] h3) fun r13 h13 =>
                                  (consK r13 fun w14 ws15 =>
                                    (boolK w14 fun bb16 =>
                                      (nilK ws15
                                        (bif bb16 then
                                          (nodeW 5 v0 fun cc17 =>
                                            (optK (cc17[3]?) fun w18 =>
                                              (runK (evFn Cw d 90 [w18, (AVal.fn 89 [] [(AVal.obj i1 0), (AVal.obj i2 0)])] h13) fun r19 h19 =>
                                                (consK r19 fun w20 ws21 =>
                                                  (boolK w20 fun bb22 =>
                                                    (nilK ws21
                                                      (Tr.ret ([(AVal.bool bb22)], h19))))))))
                                        else
                                          (Tr.ret ([(AVal.bool false)], h13)))))))))))))
                  else
                    (Tr.ret ([(AVal.bool false)], h3))))))))))
  else
    Tr.fail) := by kernel_rfl
/- f58 (*strandline/tree.Tree[string]).Each -/
theorem F58bal_eq (d : Nat) (i0 : Nat) (i1 : Nat) (i2 : Nat) (h : Heap) : evFn Cw (d + 1) 58 [(AVal.obj i0 0), (AVal.fn 93 [] [(AVal.obj i1 0), (AVal.obj i2 0)])] h =
  (optK (Heap.cell? h i0 0) fun z1 =>
    (runK (evFn Cw d 90 [(HCell.toA z1), (AVal.fn 93 [] [(AVal.obj i1 0), (AVal.obj i2 0)])] h) fun r2 h2 =>
      (consK r2 fun w3 ws4 =>
        (boolK w3 fun bb5 =>
          (nilK ws4
            (Tr.ret ([], h2))))))) := by kernel_rfl
theorem F58prs_eq (d : Nat) (i0 : Nat) (i1 : Nat) (h : Heap) : evFn Cw (d + 1) 58 [(AVal.obj i0 0), (AVal.fn 95 [] [(AVal.obj i1 0)])] h =
  (optK (Heap.cell? h i0 0) fun z1 =>
    (runK (evFn Cw d 90 [(HCell.toA z1), (AVal.fn 95 [] [(AVal.obj i1 0)])] h) fun r2 h2 =>
      (consK r2 fun w3 ws4 =>
        (boolK w3 fun bb5 =>
          (nilK ws4
            (Tr.ret ([], h2))))))) := by kernel_rfl
theorem F58cln_eq (d : Nat) (i0 : Nat) (i1 : Nat) (i2 : Nat) (h : Heap) : evFn Cw (d + 1) 58 [(AVal.obj i0 0), (AVal.fn 59 [] [(AVal.obj i1 0), (AVal.obj i2 0)])] h =
  (optK (Heap.cell? h i0 0) fun z1 =>
    (runK (evFn Cw d 90 [(HCell.toA z1), (AVal.fn 59 [] [(AVal.obj i1 0), (AVal.obj i2 0)])] h) fun r2 h2 =>
      (consK r2 fun w3 ws4 =>
        (boolK w3 fun bb5 =>
          (nilK ws4
            (Tr.ret ([], h2))))))) := by kernel_rfl
theorem F58prv_eq (d : Nat) (i0 : Nat) (i1 : Nat) (i2 : Nat) (h : Heap) : evFn Cw (d + 1) 58 [(AVal.obj i0 0), (AVal.fn 89 [] [(AVal.obj i1 0), (AVal.obj i2 0)])] h =
  (optK (Heap.cell? h i0 0) fun z1 =>
    (runK (evFn Cw d 90 [(HCell.toA z1), (AVal.fn 89 [] [(AVal.obj i1 0), (AVal.obj i2 0)])] h) fun r2 h2 =>
      (consK r2 fun w3 ws4 =>
        (boolK w3 fun bb5 =>
          (nilK ws4
            (Tr.ret ([], h2))))))) := by kernel_rfl
theorem F58nil_eq (d : Nat) (v0 : AVal) (h : Heap) : evFn Cw (d + 1) 58 [AVal.nilp, v0] h =
  (Tr.ret ([], h)) := by kernel_rfl
/- f94 (*strandline/tree.node[string]).balanced -/
theorem F94_eq (d : Nat) (v0 : AVal) (h : Heap) : evFn Cw (d + 1) 94 [v0] h =
  (bif AVal.isPtr v0 then
    (bif (AVal.isNilp v0) then
      (Tr.ret ([(AVal.bool true)], h))
    else
      (nodeW 5 v0 fun cc1 =>
        (optK (cc1[2]?) fun w2 =>
          (nodeW 5 v0 fun cc3 =>
            (optK (cc3[3]?) fun w4 =>
              (runK (evFn Cw d 92 [w2] h) fun r5 h5 =>
                (consK r5 fun w6 ws7 =>
                  (intK .i64 w6 fun y8 =>
                    (nilK ws7
                      (runK (evFn Cw d 92 [w4] h5) fun r9 h9 =>
                        (consK r9 fun w10 ws11 =>
                          (intK .i64 w10 fun y12 =>
                            (nilK ws11
                              (bif (decide (((IntKind.i64.wrap (y8 - y12)) : Int) ≤ 1)) then
                                (bif (decide (((IntKind.i64.wrap (y12 - y8)) : Int) ≤ 1)) then
                                  (nodeW 5 v0 fun cc13 =>
                                    (optK (cc13[4]?) fun w14 =>
                                      (intK .i64 w14 fun y15 =>
                                        (bif ((y15 : Int) == (IntKind.i64.wrap (1 + (if (y12 : Int) > y8 then y12 else y8)))) then
                                          (nodeW 5 v0 fun cc16 =>
                                            (optK (cc16[2]?) fun w17 =>
                                              (runK (evFn Cw d 94 [w17] h9) fun r18 h18 =>
                                                (consK r18 fun w19 ws20 =>
                                                  (boolK w19 fun bb21 =>
                                                    (nilK ws20
                                                      (bif bb21 then
                                                        (nodeW 5 v0 fun cc22 =>
                                                          (optK (cc22[3]?) fun w23 =>
                                                            (runK (evFn Cw d 94 [w23] h18) fun r24 h24 =>
                                                              (consK r24 fun w25 ws26 =>
                                                                (boolK w25 fun bb27 =>
                                                                  (nilK ws26
                                                                    (Tr.ret ([(AVal.bool bb27)], h24))))))))
                                                      else
                                                        (Tr.ret ([(AVal.bool false)], h18)))))))))
                                        else
                                          (Tr.ret ([(AVal.bool false)], h9))))))
                                else
                                  (Tr.ret ([(AVal.bool false)], h9)))
                              else
                                (Tr.ret ([(AVal.bool false)], h9))))))))))))))))
  else
    Tr.fail) := by kernel_rfl
/- f65 (*strandline/tree.Tree[string]).Balanced -/
theorem F65nil_eq (d : Nat) (h : Heap) : evFn Cw (d + 1) 65 [AVal.nilp] h =
  (Tr.ret ([(AVal.bool true)], h)) := by kernel_rfl
theorem F65_eq (d : Nat) (i0 : Nat) (h : Heap) : evFn Cw (d + 1) 65 [(AVal.obj i0 0)] h =
  (optK (Heap.cell? (Heap.push (Heap.push h (Go.Weave.Obj.cells [(HCell.val (AVal.int .i64 0))])) (Go.Weave.Obj.cells [(HCell.val (AVal.str []))])) h.objs.length 0) fun _ =>
    (optK (Heap.cell? (Heap.setCell (Heap.push (Heap.push h (Go.Weave.Obj.cells [(HCell.val (AVal.int .i64 0))])) (Go.Weave.Obj.cells [(HCell.val (AVal.str []))])) h.objs.length 0 (HCell.val (AVal.int .i64 0))) (Heap.push h (Go.Weave.Obj.cells [(HCell.val (AVal.int .i64 0))])).objs.length 0) fun _ =>
      (runK (evFn Cw d 58 [(AVal.obj i0 0), (AVal.fn 93 [] [(AVal.obj h.objs.length 0), (AVal.obj (Heap.push h (Go.Weave.Obj.cells [(HCell.val (AVal.int .i64 0))])).objs.length 0)])] (Heap.setCell (Heap.setCell (Heap.push (Heap.push h (Go.Weave.Obj.cells [(HCell.val (AVal.int .i64 0))])) (Go.Weave.Obj.cells [(HCell.val (AVal.str []))])) h.objs.length 0 (HCell.val (AVal.int .i64 0))) (Heap.push h (Go.Weave.Obj.cells [(HCell.val (AVal.int .i64 0))])).objs.length 0 (HCell.val (AVal.str [])))) fun r1 h1 =>
        (nilK r1
          (Tr.anyL [
            (optK (Heap.cell? h1 h.objs.length 0) fun z2 =>
              (intK .i64 (HCell.toA z2) fun y3 =>
                (optK (Heap.cell? h1 i0 1) fun z4 =>
                  (intK .i64 (HCell.toA z4) fun y5 =>
                    (bif ((y3 : Int) == y5) then
                      (optK (Heap.cell? h1 i0 0) fun z6 =>
                        (runK (evFn Cw d 94 [(HCell.toA z6)] h1) fun r7 h7 =>
                          (consK r7 fun w8 ws9 =>
                            (boolK w8 fun bb10 =>
                              (nilK ws9
                                (Tr.ret ([(AVal.bool bb10)], h7)))))))
                    else
                      (Tr.ret ([(AVal.bool false)], h1))))))),
            (optK (Heap.cell? h1 i0 1) fun z2 =>
              (intK .i64 (HCell.toA z2) fun y3 =>
                (optK (Heap.cell? h1 h.objs.length 0) fun z4 =>
                  (intK .i64 (HCell.toA z4) fun y5 =>
                    (bif ((y5 : Int) == y3) then
                      (optK (Heap.cell? h1 i0 0) fun z6 =>
                        (runK (evFn Cw d 94 [(HCell.toA z6)] h1) fun r7 h7 =>
                          (consK r7 fun w8 ws9 =>
                            (boolK w8 fun bb10 =>
                              (nilK ws9
                                (Tr.ret ([(AVal.bool bb10)], h7)))))))
                    else
                      (Tr.ret ([(AVal.bool false)], h1)))))))]))))) := by kernel_rfl
/- f39 strandline/strandlinelaw31.awake -/
noncomputable def P39_0 (d k : Nat) (v0 : AVal) (x1 : Int) (h : Heap) : Tr Res :=
  loopPt Cw d 39 [true, true, false, true, true] [] k ⟨[(1, (EV.one (SV.val v0))), (2, (EV.one (SV.val (AVal.int .i64 x1))))], []⟩ h
theorem P39_0_eq (d k : Nat) (v0 : AVal) (x1 : Int) (h : Heap) : P39_0 d (k + 1) v0 x1 h =
  (bif (decide ((x1 : Int) < 7)) then
    (bif ((decide ((0 : Int) ≤ x1) && decide ((x1 : Int) ≤ (IntKind.i64.wrap (x1 + 1)))) && decide (((IntKind.i64.wrap (x1 + 1)) : Int) ≤ ([97, 98, 99, 100, 101, 102, 103].length : Int))) then
      (runK (evFn Cw d 44 [v0, (AVal.str (Go.Weave.part x1 (IntKind.i64.wrap (x1 + 1)) [97, 98, 99, 100, 101, 102, 103])), (AVal.str [120])] h) fun r1 h1 =>
        (consK r1 fun w2 ws3 =>
          (strK w2 fun ss4 =>
            (consK ws3 fun w5 ws6 =>
              (boolK w5 fun bb7 =>
                (nilK ws6
                  (P39_0 d k v0 (IntKind.i64.wrap (x1 + 1)) h1)))))))
    else
      Tr.fail)
  else
    (runK (evFn Cw d 64 [v0] h) fun r8 h8 =>
      (consK r8 fun w9 ws10 =>
        (intK .i64 w9 fun y11 =>
          (nilK ws10
            (bif ((y11 : Int) == 3) then
              (runK (evFn Cw d 63 [v0] h8) fun r12 h12 =>
                (consK r12 fun w13 ws14 =>
                  (intK .i64 w13 fun y15 =>
                    (nilK ws14
                      (bif ((y15 : Int) == 7) then
                        (runK (evFn Cw d 65 [v0] h12) fun r16 h16 =>
                          (consK r16 fun w17 ws18 =>
                            (boolK w17 fun bb19 =>
                              (nilK ws18
                                (Tr.ret ([(AVal.bool bb19)], h16))))))
                      else
                        (Tr.ret ([(AVal.bool false)], h12)))))))
            else
              (Tr.ret ([(AVal.bool false)], h8)))))))) := by kernel_rfl
theorem F39_eq (d : Nat) (h : Heap) : evFn Cw (d + 1) 39 [] h =
  (runK (evFn Cw d 40 [] h) fun r1 h1 =>
    (consK r1 fun w2 ws3 =>
      (nilK ws3
        (P39_0 d rounds w2 0 h1)))) := by kernel_rfl
/- f41 strandline/strandlineref31.Get -/
noncomputable def P41_0 (d k : Nat) (f0 : Bool) (l1 : List AVal) (s2 : List UInt8) (x3 : Int) (h : Heap) : Tr Res :=
  loopPt Cw d 41 [true, false, true, true] [] k ⟨[(0, (EV.one (SV.val (AVal.sl f0 3 l1)))), (1, (EV.one (SV.val (AVal.str s2)))), (6, (EV.one (SV.val (AVal.int .i64 x3))))], []⟩ h
theorem P41_0_eq (d k : Nat) (f0 : Bool) (l1 : List AVal) (s2 : List UInt8) (x3 : Int) (h : Heap) : P41_0 d (k + 1) f0 l1 s2 x3 h =
  (bif (decide ((x3 : Int) < (l1.length : Int))) then
    (bif (decide ((0 : Int) ≤ x3) && decide ((x3 : Int) < (l1.length : Int))) then
      (optK ((AVal.cells (l1.getD (Int.toNat x3) AVal.undef))[0]?) fun w1 =>
        (strK w1 fun ss2 =>
          (bif (ss2 == s2) then
            (bif (decide ((0 : Int) ≤ x3) && decide ((x3 : Int) < (l1.length : Int))) then
              (optK ((AVal.cells (l1.getD (Int.toNat x3) AVal.undef))[1]?) fun w3 =>
                (strK w3 fun ss4 =>
                  (Tr.ret ([(AVal.str ss4), (AVal.bool true)], h))))
            else
              Tr.fail)
          else
            (P41_0 d k f0 l1 s2 (IntKind.i64.wrap (x3 + 1)) h))))
    else
      Tr.fail)
  else
    (Tr.ret ([(AVal.str []), (AVal.bool false)], h))) := by kernel_rfl
theorem F41_eq (d : Nat) (f0 : Bool) (l1 : List AVal) (s2 : List UInt8) (h : Heap) : evFn Cw (d + 1) 41 [(AVal.sl f0 3 l1), (AVal.str s2)] h =
  (P41_0 d rounds f0 l1 s2 0 h) := by kernel_rfl
/- f101 (*strandline/tree.node[string]).least -/
noncomputable def P101_0 (d k : Nat) (v0 : AVal) (h : Heap) : Tr Res :=
  loopPt Cw d 101 [true, false, true] [] k ⟨[(0, (EV.one (SV.val v0)))], []⟩ h
theorem P101_0_eq (d k : Nat) (v0 : AVal) (h : Heap) : P101_0 d (k + 1) v0 h =
  (nodeW 5 v0 fun cc1 =>
    (optK (cc1[2]?) fun w2 =>
      (bif AVal.isPtr w2 then
        (bif (!(AVal.isNilp w2)) then
          (nodeW 5 v0 fun cc3 =>
            (optK (cc3[2]?) fun w4 =>
              (P101_0 d k w4 h)))
        else
          (Tr.ret ([v0], h)))
      else
        Tr.fail))) := by kernel_rfl
theorem F101_eq (d : Nat) (v0 : AVal) (h : Heap) : evFn Cw (d + 1) 101 [v0] h =
  (P101_0 d rounds v0 h) := by kernel_rfl
/- f83 (*strandline/tree.node[string]).without -/
theorem F83_eq (d : Nat) (v0 : AVal) (s1 : List UInt8) (h : Heap) : evFn Cw (d + 1) 83 [v0, (AVal.str s1)] h =
  (nodeW 5 v0 fun cc1 =>
    (optK (cc1[0]?) fun w2 =>
      (strK w2 fun ss3 =>
        (bif (Go.Op.bytesLess s1 ss3) then
          (nodeW 5 v0 fun cc4 =>
            (optK (cc4[2]?) fun w5 =>
              (nodeW 5 v0 fun cc6 =>
                (optK (cc6[3]?) fun w7 =>
                  (runK (evFn Cw d 83 [w5, (AVal.str s1)] h) fun r8 h8 =>
                    (consK r8 fun w9 ws10 =>
                      (nilK ws10
                        (runK (evFn Cw d 100 [v0, w9, w7] h8) fun r11 h11 =>
                          (consK r11 fun w12 ws13 =>
                            (nilK ws13
                              (Tr.ret ([w12], h11))))))))))))
        else
          (nodeW 5 v0 fun cc14 =>
            (optK (cc14[0]?) fun w15 =>
              (strK w15 fun ss16 =>
                (bif (!((Go.Op.bytesLess s1 ss16) || (s1 == ss16))) then
                  (nodeW 5 v0 fun cc17 =>
                    (optK (cc17[2]?) fun w18 =>
                      (nodeW 5 v0 fun cc19 =>
                        (optK (cc19[3]?) fun w20 =>
                          (runK (evFn Cw d 83 [w20, (AVal.str s1)] h) fun r21 h21 =>
                            (consK r21 fun w22 ws23 =>
                              (nilK ws23
                                (runK (evFn Cw d 100 [v0, w18, w22] h21) fun r24 h24 =>
                                  (consK r24 fun w25 ws26 =>
                                    (nilK ws26
                                      (Tr.ret ([w25], h24))))))))))))
                else
                  (nodeW 5 v0 fun cc27 =>
                    (optK (cc27[2]?) fun w28 =>
                      (bif AVal.isPtr w28 then
                        (bif (AVal.isNilp w28) then
                          (nodeW 5 v0 fun cc29 =>
                            (optK (cc29[3]?) fun w30 =>
                              (Tr.ret ([w30], h))))
                        else
                          (nodeW 5 v0 fun cc31 =>
                            (optK (cc31[3]?) fun w32 =>
                              (bif AVal.isPtr w32 then
                                (bif (AVal.isNilp w32) then
                                  (nodeW 5 v0 fun cc33 =>
                                    (optK (cc33[2]?) fun w34 =>
                                      (Tr.ret ([w34], h))))
                                else
                                  (nodeW 5 v0 fun cc35 =>
                                    (optK (cc35[3]?) fun w36 =>
                                      (runK (evFn Cw d 101 [w36] h) fun r37 h37 =>
                                        (consK r37 fun w38 ws39 =>
                                          (nilK ws39
                                            (nodeW 5 v0 fun cc40 =>
                                              (optK (cc40[2]?) fun w41 =>
                                                (nodeW 5 v0 fun cc42 =>
                                                  (optK (cc42[3]?) fun w43 =>
                                                    (nodeW 5 w38 fun cc44 =>
                                                      (optK (cc44[0]?) fun w45 =>
                                                        (strK w45 fun ss46 =>
                                                          (runK (evFn Cw d 83 [w43, (AVal.str ss46)] h37) fun r47 h47 =>
                                                            (consK r47 fun w48 ws49 =>
                                                              (nilK ws49
                                                                (runK (evFn Cw d 100 [w38, w41, w48] h47) fun r50 h50 =>
                                                                  (consK r50 fun w51 ws52 =>
                                                                    (nilK ws52
                                                                      (Tr.ret ([w51], h50)))))))))))))))))))))
                              else
                                Tr.fail))))
                      else
                        Tr.fail))))))))))) := by kernel_rfl
/- f42 (*strandline/tree.Tree[string]).Delete -/
theorem F42nil_eq (d : Nat) (s0 : List UInt8) (h : Heap) : evFn Cw (d + 1) 42 [AVal.nilp, (AVal.str s0)] h =
  (runK (evFn Cw d 60 [AVal.nilp, (AVal.str s0)] h) fun r1 h1 =>
    (consK r1 fun w2 ws3 =>
      (strK w2 fun ss4 =>
        (consK ws3 fun w5 ws6 =>
          (boolK w5 fun bb7 =>
            (nilK ws6
              (bif bb7 then Tr.fail else (Tr.ret ([(AVal.str ss4), (AVal.bool bb7)], h1))))))))) := by kernel_rfl
theorem F42_eq (d : Nat) (i0 : Nat) (s1 : List UInt8) (h : Heap) : evFn Cw (d + 1) 42 [(AVal.obj i0 0), (AVal.str s1)] h =
  (runK (evFn Cw d 60 [(AVal.obj i0 0), (AVal.str s1)] h) fun r1 h1 =>
    (consK r1 fun w2 ws3 =>
      (strK w2 fun ss4 =>
        (consK ws3 fun w5 ws6 =>
          (boolK w5 fun bb7 =>
            (nilK ws6
              (bif bb7 then
                (optK (Heap.cell? h1 i0 0) fun z8 =>
                  (runK (evFn Cw d 83 [(HCell.toA z8), (AVal.str s1)] h1) fun r9 h9 =>
                    (consK r9 fun w10 ws11 =>
                      (nilK ws11
                        (bif (AVal.isAgg w10) then
                          Tr.fail
                        else
                          (optK (Heap.cell? h9 i0 0) fun _ =>
                            (optK (Heap.cell? (Heap.setCell h9 i0 0 (HCell.val w10)) i0 1) fun z12 =>
                              (intK .i64 (HCell.toA z12) fun y13 =>
                                (optK (Heap.cell? (Heap.setCell h9 i0 0 (HCell.val w10)) i0 1) fun _ =>
                                  (Tr.ret ([(AVal.str ss4), (AVal.bool bb7)], (Heap.setCell (Heap.setCell h9 i0 0 (HCell.val w10)) i0 1 (HCell.val (AVal.int .i64 (IntKind.i64.wrap (y13 - 1))))))))))))))))
              else
                (Tr.ret ([(AVal.str ss4), (AVal.bool bb7)], h1))))))))) := by kernel_rfl
/- f43 strandline/strandlineref31.Delete -/
noncomputable def P43_0 (d k : Nat) (f0 : Bool) (l1 : List AVal) (s2 : List UInt8) (l3 : List AVal) (x4 : Int) (h : Heap) : Tr Res :=
  loopPt Cw d 43 [true, true, false, true, true] [] k ⟨[(0, (EV.one (SV.val (AVal.sl f0 3 l1)))), (1, (EV.one (SV.val (AVal.str s2)))), (5, (EV.one (SV.own (tokOf 5 0) 3 l3))), (6, (EV.one (SV.val (AVal.int .i64 x4))))], []⟩ h
theorem P43_0_eq (d k : Nat) (f0 : Bool) (l1 : List AVal) (s2 : List UInt8) (l3 : List AVal) (x4 : Int) (h : Heap) : P43_0 d (k + 1) f0 l1 s2 l3 x4 h =
  (bif (decide ((x4 : Int) < (l1.length : Int))) then
    (bif (decide ((0 : Int) ≤ x4) && decide ((x4 : Int) < (l1.length : Int))) then
      (optK ((AVal.cells (l1.getD (Int.toNat x4) AVal.undef))[0]?) fun w1 =>
        (strK w1 fun ss2 =>
          (bif (!(ss2 == s2)) then
            (bif (decide ((0 : Int) ≤ x4) && decide ((x4 : Int) < (l1.length : Int))) then
              (aggK 2 (l1.getD (Int.toNat x4) AVal.undef) fun cc3 =>
                (bif ((cc3.length == 2) && true) then
                  (bif decide ((l3.length + (1 : Nat)) * 32 ≤ 140737488355328) then (P43_0 d k f0 l1 s2 (l3 ++ [(AVal.agg cc3)]) (IntKind.i64.wrap (x4 + 1)) h) else Tr.fail)
                else
                  Tr.fail))
            else
              Tr.fail)
          else
            (P43_0 d k f0 l1 s2 l3 (IntKind.i64.wrap (x4 + 1)) h))))
    else
      Tr.fail)
  else
    (Tr.ret ([(AVal.sl false 3 l3)], h))) := by kernel_rfl
theorem F43_eq (d : Nat) (f0 : Bool) (l1 : List AVal) (s2 : List UInt8) (h : Heap) : evFn Cw (d + 1) 43 [(AVal.sl f0 3 l1), (AVal.str s2)] h =
  (P43_0 d rounds f0 l1 s2 [] 0 h) := by kernel_rfl
/- f45 strandline/strandlineref31.Put -/
noncomputable def P45_0 (d k : Nat) (l0 : List AVal) (s1 : List UInt8) (s2 : List UInt8) (l3 : List AVal) (b4 : Bool) (x5 : Int) (h : Heap) : Tr Res :=
  loopPt Cw d 45 [true, true, true, true, false, true, true] [] k ⟨[(0, (EV.one (SV.own (tokOf 0 0) 3 l0))), (1, (EV.one (SV.val (AVal.str s1)))), (2, (EV.one (SV.val (AVal.str s2)))), (7, (EV.one (SV.own (tokOf 7 0) 3 l3))), (8, (EV.one (SV.val (AVal.bool b4)))), (9, (EV.one (SV.val (AVal.int .i64 x5))))], []⟩ h
theorem P45_0_eq (d k : Nat) (l0 : List AVal) (s1 : List UInt8) (s2 : List UInt8) (l3 : List AVal) (b4 : Bool) (x5 : Int) (h : Heap) : P45_0 d (k + 1) l0 s1 s2 l3 b4 x5 h =
  (bif (decide ((x5 : Int) < (l0.length : Int))) then
    (bif (!b4) then
      (bif (decide ((0 : Int) ≤ x5) && decide ((x5 : Int) < (l0.length : Int))) then
        (optK ((AVal.cells (l0.getD (Int.toNat x5) AVal.undef))[0]?) fun w1 =>
          (strK w1 fun ss2 =>
            (bif (!((Go.Op.bytesLess ss2 s1) || (ss2 == s1))) then
              (bif decide ((l3.length + (1 : Nat)) * 32 ≤ 140737488355328) then
                (bif (decide ((0 : Int) ≤ x5) && decide ((x5 : Int) < (l0.length : Int))) then
                  (aggK 2 (l0.getD (Int.toNat x5) AVal.undef) fun cc3 =>
                    (bif ((cc3.length == 2) && true) then
                      (bif decide (((l3 ++ [(AVal.agg [(AVal.str s1), (AVal.str s2)])]).length + (1 : Nat)) * 32 ≤ 140737488355328) then
                        (P45_0 d k l0 s1 s2 ((l3 ++ [(AVal.agg [(AVal.str s1), (AVal.str s2)])]) ++ [(AVal.agg cc3)]) true (IntKind.i64.wrap (x5 + 1)) h)
                      else
                        Tr.fail)
                    else
                      Tr.fail))
                else
                  Tr.fail)
              else
                Tr.fail)
            else
              (bif (decide ((0 : Int) ≤ x5) && decide ((x5 : Int) < (l0.length : Int))) then
                (aggK 2 (l0.getD (Int.toNat x5) AVal.undef) fun cc4 =>
                  (bif ((cc4.length == 2) && true) then
                    (bif decide ((l3.length + (1 : Nat)) * 32 ≤ 140737488355328) then (P45_0 d k l0 s1 s2 (l3 ++ [(AVal.agg cc4)]) b4 (IntKind.i64.wrap (x5 + 1)) h) else Tr.fail)
                  else
                    Tr.fail))
              else
                Tr.fail))))
      else
        Tr.fail)
    else
      (bif (decide ((0 : Int) ≤ x5) && decide ((x5 : Int) < (l0.length : Int))) then
        (aggK 2 (l0.getD (Int.toNat x5) AVal.undef) fun cc5 =>
          (bif ((cc5.length == 2) && true) then
            (bif decide ((l3.length + (1 : Nat)) * 32 ≤ 140737488355328) then (P45_0 d k l0 s1 s2 (l3 ++ [(AVal.agg cc5)]) b4 (IntKind.i64.wrap (x5 + 1)) h) else Tr.fail)
          else
            Tr.fail))
      else
        Tr.fail))
  else
    (bif (!b4) then
      (bif decide ((l3.length + (1 : Nat)) * 32 ≤ 140737488355328) then (Tr.ret ([(AVal.sl false 3 (l3 ++ [(AVal.agg [(AVal.str s1), (AVal.str s2)])]))], h)) else Tr.fail)
    else
      (Tr.ret ([(AVal.sl false 3 l3)], h)))) := by kernel_rfl
theorem F45_eq (d : Nat) (f0 : Bool) (l1 : List AVal) (s2 : List UInt8) (s3 : List UInt8) (h : Heap) : evFn Cw (d + 1) 45 [(AVal.sl f0 3 l1), (AVal.str s2), (AVal.str s3)] h =
  (runK (evFn Cw d 43 [(AVal.sl f0 3 l1), (AVal.str s2)] h) fun r1 h1 =>
    (consK r1 fun w2 ws3 =>
      (slOK 3 w2 fun es4 =>
        (nilK ws3
          (P45_0 d rounds es4 s2 s3 [] false 0 h1))))) := by kernel_rfl
/- f85 strandline/strandlineref31.Seek -/
noncomputable def P85_0 (d k : Nat) (f0 : Bool) (l1 : List AVal) (s2 : List UInt8) (x3 : Int) (s4 : List UInt8) (s5 : List UInt8) (h : Heap) : Tr Res :=
  loopPt Cw d 85 [true, false, true, true] [] k ⟨[(0, (EV.one (SV.val (AVal.sl f0 3 l1)))), (1, (EV.one (SV.val (AVal.str s2)))), (4, (EV.one (SV.loc 4 0))), (6, (EV.one (SV.val (AVal.int .i64 x3))))], [(4, (Box.plain [(AVal.str s4), (AVal.str s5)]))]⟩ h
theorem P85_0_eq (d k : Nat) (f0 : Bool) (l1 : List AVal) (s2 : List UInt8) (x3 : Int) (s4 : List UInt8) (s5 : List UInt8) (h : Heap) : P85_0 d (k + 1) f0 l1 s2 x3 s4 s5 h =
  (bif (decide ((x3 : Int) < (l1.length : Int))) then
    (bif (decide ((0 : Int) ≤ x3) && decide ((x3 : Int) < (l1.length : Int))) then
      (optK ((AVal.cells (l1.getD (Int.toNat x3) AVal.undef))[0]?) fun w1 =>
        (strK w1 fun ss2 =>
          (bif (!(Go.Op.bytesLess ss2 s2)) then
            (bif (decide ((0 : Int) ≤ x3) && decide ((x3 : Int) < (l1.length : Int))) then
              (aggK 2 (l1.getD (Int.toNat x3) AVal.undef) fun cc3 =>
                (bif ((cc3.length == 2) && true) then
                  (bif decide (0 + 2 ≤ cc3.length) then (Tr.ret ([(AVal.agg ((cc3.drop 0).take 2)), (AVal.bool true)], h)) else Tr.fail)
                else
                  Tr.fail))
            else
              Tr.fail)
          else
            (P85_0 d k f0 l1 s2 (IntKind.i64.wrap (x3 + 1)) s4 s5 h))))
    else
      Tr.fail)
  else
    (Tr.ret ([(AVal.agg [(AVal.str []), (AVal.str [])]), (AVal.bool false)], h))) := by kernel_rfl
theorem F85_eq (d : Nat) (f0 : Bool) (l1 : List AVal) (s2 : List UInt8) (h : Heap) : evFn Cw (d + 1) 85 [(AVal.sl f0 3 l1), (AVal.str s2)] h =
  (P85_0 d rounds f0 l1 s2 0 [] [] h) := by kernel_rfl
/- f62 (*strandline/tree.Tree[string]).Below -/
theorem F62nil_eq (d : Nat) (s0 : List UInt8) (h : Heap) : evFn Cw (d + 1) 62 [AVal.nilp, (AVal.str s0)] h =
  (runK (evFn Cw d 91 [AVal.nilp] h) fun r1 h1 =>
    (consK r1 fun w2 ws3 =>
      (strK w2 fun ss4 =>
        (consK ws3 fun w5 ws6 =>
          (strK w5 fun ss7 =>
            (consK ws6 fun w8 ws9 =>
              (boolK w8 fun bb10 =>
                (nilK ws9
                  (Tr.ret ([(AVal.str ss4), (AVal.str ss7), (AVal.bool bb10)], h1)))))))))) := by kernel_rfl
noncomputable def P62_0 (d k : Nat) (s0 : List UInt8) (v1 : AVal) (v2 : AVal) (h : Heap) : Tr Res :=
  loopPt Cw d 62 [true, true, false, true, true, true, true] [] k ⟨[(1, (EV.one (SV.val (AVal.str s0)))), (7, (EV.one (SV.val v1))), (8, (EV.one (SV.val v2)))], []⟩ h
theorem P62_0_eq (d k : Nat) (s0 : List UInt8) (v1 : AVal) (v2 : AVal) (h : Heap) : P62_0 d (k + 1) s0 v1 v2 h =
  (bif AVal.isPtr v2 then
    (bif (!(AVal.isNilp v2)) then
      (nodeW 5 v2 fun cc1 =>
        (optK (cc1[0]?) fun w2 =>
          (strK w2 fun ss3 =>
            (bif (!(Go.Op.bytesLess ss3 s0)) then
              (nodeW 5 v2 fun cc4 =>
                (optK (cc4[2]?) fun w5 =>
                  (P62_0 d k s0 v1 w5 h)))
            else
              (nodeW 5 v2 fun cc6 =>
                (optK (cc6[3]?) fun w7 =>
                  (P62_0 d k s0 v2 w7 h)))))))
    else
      (runK (evFn Cw d 91 [v1] h) fun r8 h8 =>
        (consK r8 fun w9 ws10 =>
          (strK w9 fun ss11 =>
            (consK ws10 fun w12 ws13 =>
              (strK w12 fun ss14 =>
                (consK ws13 fun w15 ws16 =>
                  (boolK w15 fun bb17 =>
                    (nilK ws16
                      (Tr.ret ([(AVal.str ss11), (AVal.str ss14), (AVal.bool bb17)], h8)))))))))))
  else
    Tr.fail) := by kernel_rfl
theorem F62_eq (d : Nat) (i0 : Nat) (s1 : List UInt8) (h : Heap) : evFn Cw (d + 1) 62 [(AVal.obj i0 0), (AVal.str s1)] h =
  (optK (Heap.cell? h i0 0) fun z1 =>
    (P62_0 d rounds s1 AVal.nilp (HCell.toA z1) h)) := by kernel_rfl
/- f86 strandline/strandlineref31.Below -/
noncomputable def P86_0 (d k : Nat) (f0 : Bool) (l1 : List AVal) (s2 : List UInt8) (b3 : Bool) (x4 : Int) (s5 : List UInt8) (s6 : List UInt8) (c7 : List AVal) (h : Heap) : Tr Res :=
  loopPt Cw d 86 [true, true, true, false, true, true] [] k ⟨[(0, (EV.one (SV.val (AVal.sl f0 3 l1)))), (1, (EV.one (SV.val (AVal.str s2)))), (4, (EV.one (SV.loc 4 0))), (6, (EV.one (SV.loc 6 0))), (7, (EV.one (SV.val (AVal.bool b3)))), (8, (EV.one (SV.val (AVal.int .i64 x4))))], [(4, (Box.plain [(AVal.str s5), (AVal.str s6)])), (6, (Box.plain c7))]⟩ h
theorem P86_0_eq (d k : Nat) (f0 : Bool) (l1 : List AVal) (s2 : List UInt8) (b3 : Bool) (x4 : Int) (s5 : List UInt8) (s6 : List UInt8) (c7 : List AVal) (h : Heap) : P86_0 d (k + 1) f0 l1 s2 b3 x4 s5 s6 c7 h =
  (bif (decide ((x4 : Int) < (l1.length : Int))) then
    (bif (decide ((0 : Int) ≤ x4) && decide ((x4 : Int) < (l1.length : Int))) then
      (optK ((AVal.cells (l1.getD (Int.toNat x4) AVal.undef))[0]?) fun w1 =>
        (strK w1 fun ss2 =>
          (bif (Go.Op.bytesLess ss2 s2) then
            (bif (decide ((0 : Int) ≤ x4) && decide ((x4 : Int) < (l1.length : Int))) then
              (aggK 2 (l1.getD (Int.toNat x4) AVal.undef) fun cc3 =>
                (bif ((cc3.length == 2) && decide (0 + 2 ≤ c7.length)) then
                  (P86_0 d k f0 l1 s2 true (IntKind.i64.wrap (x4 + 1)) s5 s6 (bif (c7.length == 2) then cc3 else (spliceAt 0 cc3 c7)) h)
                else
                  Tr.fail))
            else
              Tr.fail)
          else
            (P86_0 d k f0 l1 s2 b3 (IntKind.i64.wrap (x4 + 1)) s5 s6 c7 h))))
    else
      Tr.fail)
  else
    (bif decide (0 + 2 ≤ c7.length) then
      (bif ((((c7.drop 0).take 2).length == 2) && true) then
        (bif decide (0 + 2 ≤ ((c7.drop 0).take 2).length) then (Tr.ret ([(AVal.agg ((((c7.drop 0).take 2).drop 0).take 2)), (AVal.bool b3)], h)) else Tr.fail)
      else
        Tr.fail)
    else
      Tr.fail)) := by kernel_rfl
theorem F86_eq (d : Nat) (f0 : Bool) (l1 : List AVal) (s2 : List UInt8) (h : Heap) : evFn Cw (d + 1) 86 [(AVal.sl f0 3 l1), (AVal.str s2)] h =
  (P86_0 d rounds f0 l1 s2 false 0 [] [] [(AVal.str []), (AVal.str [])] h) := by kernel_rfl
/- f87 strandline/strandlineref31.Least -/
noncomputable def P87_0 (d k : Nat) (x0 : Int) (x1 : Int) (x2 : Int) (x3 : Int) (h : Heap) : Tr Res :=
  loopPt Cw d 87 [true, true, true, false, true, true] [] k ⟨[(0, (EV.one (SV.val (AVal.int .i64 x0)))), (3, (EV.one (SV.val (AVal.int .i64 x1)))), (4, (EV.one (SV.val (AVal.int .i64 x2)))), (5, (EV.one (SV.val (AVal.int .i64 x3))))], []⟩ h
theorem P87_0_eq (d k : Nat) (x0 : Int) (x1 : Int) (x2 : Int) (x3 : Int) (h : Heap) : P87_0 d (k + 1) x0 x1 x2 x3 h =
  (bif (decide ((x3 : Int) < x0)) then
    (bif (decide ((x3 : Int) < 40)) then
      (P87_0 d k x0 x2 (IntKind.i64.wrap ((IntKind.i64.wrap (x1 + x2)) + 1)) (IntKind.i64.wrap (x3 + 1)) h)
    else
      (Tr.ret ([(AVal.int .i64 x1)], h)))
  else
    (Tr.ret ([(AVal.int .i64 x1)], h))) := by kernel_rfl
theorem F87_eq (d : Nat) (x0 : Int) (h : Heap) : evFn Cw (d + 1) 87 [(AVal.int .i64 x0)] h =
  (P87_0 d rounds x0 0 1 0 h) := by kernel_rfl
/- f95 strandline/strandlinelaw31.Pairs$1 -/
theorem F95_eq (d : Nat) (s0 : List UInt8) (s1 : List UInt8) (i2 : Nat) (h : Heap) : evFn Cw (d + 1) 95 [(AVal.str s0), (AVal.str s1), (AVal.obj i2 0)] h =
  (optK (Heap.cell? h i2 0) fun z1 =>
    (slK 3 (HCell.toA z1) fun _ es2 =>
      (bif decide ((es2.length + (1 : Nat)) * 32 ≤ 140737488355328) then
        (lentK h i2 0 3 es2 fun h3 =>
          (optK (Heap.cell? h3 i2 0) fun _ =>
            (Tr.ret ([(AVal.bool true)], (Heap.setCell h3 i2 0 (HCell.own 3 (es2 ++ [(AVal.agg [(AVal.str s0), (AVal.str s1)])])))))))
      else
        Tr.fail))) := by kernel_rfl
/- f66 strandline/strandlinelaw31.Pairs -/
theorem F66nil_eq (d : Nat) (h : Heap) : evFn Cw (d + 1) 66 [AVal.nilp] h =
  (runK (evFn Cw d 58 [AVal.nilp, (AVal.fn 95 [] [(AVal.obj h.objs.length 0)])] (Heap.push h (Go.Weave.Obj.cells [(HCell.val (AVal.sl true 3 []))]))) fun r1 h1 =>
    (nilK r1
      (optK (Heap.cell? h1 h.objs.length 0) fun z2 =>
        (slK 3 (HCell.toA z2) fun _ es3 =>
          (Tr.ret ([(AVal.sl false 3 es3)], h1)))))) := by kernel_rfl
theorem F66_eq (d : Nat) (i0 : Nat) (h : Heap) : evFn Cw (d + 1) 66 [(AVal.obj i0 0)] h =
  (runK (evFn Cw d 58 [(AVal.obj i0 0), (AVal.fn 95 [] [(AVal.obj h.objs.length 0)])] (Heap.push h (Go.Weave.Obj.cells [(HCell.val (AVal.sl true 3 []))]))) fun r1 h1 =>
    (nilK r1
      (optK (Heap.cell? h1 h.objs.length 0) fun z2 =>
        (slK 3 (HCell.toA z2) fun _ es3 =>
          (Tr.ret ([(AVal.sl false 3 es3)], h1)))))) := by kernel_rfl
/- f48 strandline/strandlineref31.Same -/
noncomputable def P48_0 (d k : Nat) (f0 : Bool) (l1 : List AVal) (f2 : Bool) (l3 : List AVal) (x4 : Int) (h : Heap) : Tr Res :=
  loopPt Cw d 48 [true, true, false, true, true] [] k ⟨[(0, (EV.one (SV.val (AVal.sl f0 3 l1)))), (1, (EV.one (SV.val (AVal.sl f2 3 l3)))), (5, (EV.one (SV.val (AVal.int .i64 x4))))], []⟩ h
theorem P48_0_eq (d k : Nat) (f0 : Bool) (l1 : List AVal) (f2 : Bool) (l3 : List AVal) (x4 : Int) (h : Heap) : P48_0 d (k + 1) f0 l1 f2 l3 x4 h =
  (bif (decide ((x4 : Int) < (l1.length : Int))) then
    (bif (decide ((0 : Int) ≤ x4) && decide ((x4 : Int) < (l1.length : Int))) then
      (aggK 2 (l1.getD (Int.toNat x4) AVal.undef) fun cc1 =>
        (bif (decide ((0 : Int) ≤ x4) && decide ((x4 : Int) < (l3.length : Int))) then
          (aggK 2 (l3.getD (Int.toNat x4) AVal.undef) fun cc2 =>
            (bif ((plainOk Cw.P 76 (AVal.agg cc1)) && (plainOk Cw.P 76 (AVal.agg cc2))) then
              (bif (!(eqCells cc1 cc2)) then (Tr.ret ([(AVal.bool false)], h)) else (P48_0 d k f0 l1 f2 l3 (IntKind.i64.wrap (x4 + 1)) h))
            else
              Tr.fail))
        else
          Tr.fail))
    else
      Tr.fail)
  else
    (Tr.ret ([(AVal.bool true)], h))) := by kernel_rfl
theorem F48_eq (d : Nat) (f0 : Bool) (l1 : List AVal) (f2 : Bool) (l3 : List AVal) (h : Heap) : evFn Cw (d + 1) 48 [(AVal.sl f0 3 l1), (AVal.sl f2 3 l3)] h =
  (bif (((l1.length : Int) : Int) != (l3.length : Int)) then (Tr.ret ([(AVal.bool false)], h)) else (P48_0 d rounds f0 l1 f2 l3 0 h)) := by kernel_rfl
/- f46 strandline/strandlinelaw31.same -/
theorem F46_eq (d : Nat) (i0 : Nat) (f1 : Bool) (l2 : List AVal) (s3 : List UInt8) (h : Heap) : evFn Cw (d + 1) 46 [(AVal.obj i0 0), (AVal.sl f1 3 l2), (AVal.str s3)] h =
  (runK (evFn Cw d 60 [(AVal.obj i0 0), (AVal.str s3)] h) fun r1 h1 =>
    (consK r1 fun w2 ws3 =>
      (strK w2 fun ss4 =>
        (consK ws3 fun w5 ws6 =>
          (boolK w5 fun bb7 =>
            (nilK ws6
              (runK (evFn Cw d 41 [(AVal.sl f1 3 l2), (AVal.str s3)] h1) fun r8 h8 =>
                (consK r8 fun w9 ws10 =>
                  (strK w9 fun ss11 =>
                    (consK ws10 fun w12 ws13 =>
                      (boolK w12 fun bb14 =>
                        (nilK ws13
                          (runK (evFn Cw d 61 [(AVal.obj i0 0), (AVal.str s3)] h8) fun r15 h15 =>
                            (consK r15 fun w16 ws17 =>
                              (strK w16 fun ss18 =>
                                (consK ws17 fun w19 ws20 =>
                                  (strK w19 fun ss21 =>
                                    (consK ws20 fun w22 ws23 =>
                                      (boolK w22 fun bb24 =>
                                        (nilK ws23
                                          (runK (evFn Cw d 85 [(AVal.sl f1 3 l2), (AVal.str s3)] h15) fun r25 h25 =>
                                            (consK r25 fun w26 ws27 =>
                                              (aggK 2 w26 fun cc28 =>
                                                (consK ws27 fun w29 ws30 =>
                                                  (boolK w29 fun bb31 =>
                                                    (nilK ws30
                                                      (bif ((cc28.length == 2) && true) then
                                                        (runK (evFn Cw d 62 [(AVal.obj i0 0), (AVal.str s3)] h25) fun r32 h32 =>
                                                          (consK r32 fun w33 ws34 =>
                                                            (strK w33 fun ss35 =>
                                                              (consK ws34 fun w36 ws37 =>
                                                                (strK w36 fun ss38 =>
                                                                  (consK ws37 fun w39 ws40 =>
                                                                    (boolK w39 fun bb41 =>
                                                                      (nilK ws40
                                                                        (runK (evFn Cw d 86 [(AVal.sl f1 3 l2), (AVal.str s3)] h32) fun r42 h42 =>
                                                                          (consK r42 fun w43 ws44 =>
                                                                            (aggK 2 w43 fun cc45 =>
                                                                              (consK ws44 fun w46 ws47 =>
                                                                                (boolK w46 fun bb48 =>
                                                                                  (nilK ws47
                                                                                    (bif ((cc45.length == 2) && true) then
                                                                                      (bif (!(ss4 == ss11)) then
                                                                                        (Tr.ret ([(AVal.bool false)], h42))
                                                                                      else
                                                                                        (bif (!(bb7 == bb14)) then
                                                                                          (Tr.ret ([(AVal.bool false)], h42))
                                                                                        else
                                                                                          (optK (cc28[0]?) fun w49 =>
                                                                                            (strK w49 fun ss50 =>
                                                                                              (bif (!(ss18 == ss50)) then
                                                                                                (Tr.ret ([(AVal.bool false)], h42))
                                                                                              else
                                                                                                (optK (cc28[1]?) fun w51 =>
                                                                                                  (strK w51 fun ss52 =>
                                                                                                    (bif (!(ss21 == ss52)) then
                                                                                                      (Tr.ret ([(AVal.bool false)], h42))
                                                                                                    else
                                                                                                      (bif (!(bb24 == bb31)) then
                                                                                                        (Tr.ret ([(AVal.bool false)], h42))
                                                                                                      else
                                                                                                        (optK (cc45[0]?) fun w53 =>
                                                                                                          (strK w53 fun ss54 =>
                                                                                                            (bif (!(ss35 == ss54)) then
                                                                                                              (Tr.ret ([(AVal.bool false)], h42))
                                                                                                            else
                                                                                                              (optK (cc45[1]?) fun w55 =>
                                                                                                                (strK w55 fun ss56 =>
                                                                                                                  (bif (!(ss38 == ss56)) then
                                                                                                                    (Tr.ret ([(AVal.bool false)], h42))
                                                                                                                  else
                                                                                                                    (bif (!(bb41 == bb48)) then
                                                                                                                      (Tr.ret ([(AVal.bool false)], h42))
                                                                                                                    else
                                                                                                                      (runK (evFn Cw d 63 [(AVal.obj i0 0)] h42) fun r57 h57 =>
                                                                                                                        (consK r57 fun w58 ws59 =>
                                                                                                                          (intK .i64 w58 fun y60 =>
                                                                                                                            (nilK ws59
                                                                                                                              (bif ((y60 : Int) == (l2.length : Int)) then
                                                                                                                                (runK (evFn Cw d 65 [(AVal.obj i0 0)] h57) fun r61 h61 =>
                                                                                                                                  (consK r61 fun w62 ws63 =>
                                                                                                                                    (boolK w62 fun bb64 =>
                                                                                                                                      (nilK ws63
                                                                                                                                        (bif bb64 then
                                                                                                                                          (runK (evFn Cw d 64 [(AVal.obj i0 0)] h61) fun r65 h65 =>
                                                                                                                                            (consK r65 fun w66 ws67 =>
                                                                                                                                              (intK .i64 w66 fun y68 =>
                                                                                                                                                (nilK ws67
                                                                                                                                                  (runK (evFn Cw d 87 [(AVal.int .i64 y68)] h65) fun r69 h69 =>
                                                                                                                                                    (consK r69 fun w70 ws71 =>
                                                                                                                                                      (intK .i64 w70 fun y72 =>
                                                                                                                                                        (nilK ws71
                                                                                                                                                          (bif (decide ((y72 : Int) ≤ (l2.length : Int))) then
                                                                                                                                                            (runK (evFn Cw d 66 [(AVal.obj i0 0)] h69) fun r73 h73 =>
                                                                                                                                                              (consK r73 fun w74 ws75 =>
                                                                                                                                                                (slK 3 w74 fun fl76 es77 =>
                                                                                                                                                                  (nilK ws75
                                                                                                                                                                    (runK (evFn Cw d 48 [(AVal.sl fl76 3 es77), (AVal.sl f1 3 l2)] h73) fun r78 h78 =>
                                                                                                                                                                      (consK r78 fun w79 ws80 =>
                                                                                                                                                                        (boolK w79 fun bb81 =>
                                                                                                                                                                          (nilK ws80
                                                                                                                                                                            (Tr.ret ([(AVal.bool bb81)], h78))))))))))
                                                                                                                                                          else
                                                                                                                                                            (Tr.ret ([(AVal.bool false)], h69)))))))))))
                                                                                                                                        else
                                                                                                                                          (Tr.ret ([(AVal.bool false)], h61)))))))
                                                                                                                              else
                                                                                                                                (Tr.ret ([(AVal.bool false)], h57)))))))))))))))))))))))
                                                                                    else
                                                                                      Tr.fail)))))))))))))))
                                                      else
                                                        Tr.fail))))))))))))))))))))))))))) := by kernel_rfl
/- f10 strandline/strandlinelaw31.TreePlays -/
noncomputable def P10_0 (d k : Nat) (f0 : Bool) (l1 : List AVal) (f2 : Bool) (l3 : List AVal) (v4 : AVal) (l5 : List AVal) (x6 : Int) (h : Heap) : Tr Res :=
  loopPt Cw d 10 [true, true, true, true, false, true, true] [] k ⟨[(0, (EV.one (SV.val (AVal.sl f0 4 l1)))), (1, (EV.one (SV.val (AVal.sl f2 0 l3)))), (5, (EV.one (SV.val v4))), (6, (EV.one (SV.own (tokOf 6 0) 3 l5))), (7, (EV.one (SV.val (AVal.int .i64 x6))))], []⟩ h
noncomputable def P10_1 (d n0 : Nat) (f0 : Bool) (l1 : List AVal) (f2 : Bool) (l3 : List AVal) (v4 : AVal) (l5 : List AVal) (x6 : Int) (s7 : List UInt8) (b8 : Bool) (s9 : List UInt8) (b10 : Bool) (h : Heap) : Tr Res :=
  heldPt Cw d 10 [true, true, true, true, false, true, true, true, true, false, true, true, true, true] [n0] ⟨[(0, (EV.one (SV.val (AVal.sl f0 4 l1)))), (1, (EV.one (SV.val (AVal.sl f2 0 l3)))), (5, (EV.one (SV.val v4))), (6, (EV.one (SV.own (tokOf 6 0) 3 l5))), (7, (EV.one (SV.val (AVal.int .i64 x6)))), (8, (EV.one (SV.val (AVal.str s7)))), (9, (EV.one (SV.val (AVal.bool b8)))), (10, (EV.one (SV.val (AVal.str s9)))), (11, (EV.one (SV.val (AVal.bool b10))))], []⟩ h
noncomputable def P10_2 (d k : Nat) (f0 : Bool) (l1 : List AVal) (v2 : AVal) (l3 : List AVal) (x4 : Int) (h : Heap) : Tr Res :=
  loopPt Cw d 10 [true, true, true, true, true, false, true, true] [] k ⟨[(1, (EV.one (SV.val (AVal.sl f0 0 l1)))), (5, (EV.one (SV.val v2))), (6, (EV.one (SV.own (tokOf 6 0) 3 l3))), (12, (EV.one (SV.val (AVal.int .i64 x4))))], []⟩ h
theorem P10_0_eq (d k : Nat) (f0 : Bool) (l1 : List AVal) (f2 : Bool) (l3 : List AVal) (v4 : AVal) (l5 : List AVal) (x6 : Int) (h : Heap) : P10_0 d (k + 1) f0 l1 f2 l3 v4 l5 x6 h =
  (bif (decide ((x6 : Int) < (l1.length : Int))) then
    (bif (decide ((0 : Int) ≤ x6) && decide ((x6 : Int) < (l1.length : Int))) then
      (optK ((AVal.cells (l1.getD (Int.toNat x6) AVal.undef))[1]?) fun w1 =>
        (strK w1 fun ss2 =>
          (runK (evFn Cw d 41 [(AVal.sl false 3 l5), (AVal.str ss2)] h) fun r3 h3 =>
            (consK r3 fun w4 ws5 =>
              (strK w4 fun ss6 =>
                (consK ws5 fun w7 ws8 =>
                  (boolK w7 fun bb9 =>
                    (nilK ws8
                      (bif (decide ((0 : Int) ≤ x6) && decide ((x6 : Int) < (l1.length : Int))) then
                        (optK ((AVal.cells (l1.getD (Int.toNat x6) AVal.undef))[0]?) fun w10 =>
                          (intK .i64 w10 fun y11 =>
                            (bif ((y11 : Int) == 2) then
                              (bif (decide ((0 : Int) ≤ x6) && decide ((x6 : Int) < (l1.length : Int))) then
                                (optK ((AVal.cells (l1.getD (Int.toNat x6) AVal.undef))[1]?) fun w12 =>
                                  (strK w12 fun ss13 =>
                                    (runK (evFn Cw d 42 [v4, (AVal.str ss13)] h3) fun r14 h14 =>
                                      (consK r14 fun w15 ws16 =>
                                        (strK w15 fun ss17 =>
                                          (consK ws16 fun w18 ws19 =>
                                            (boolK w18 fun bb20 =>
                                              (nilK ws19
                                                (bif (decide ((0 : Int) ≤ x6) && decide ((x6 : Int) < (l1.length : Int))) then
                                                  (optK ((AVal.cells (l1.getD (Int.toNat x6) AVal.undef))[1]?) fun w21 =>
                                                    (strK w21 fun ss22 =>
                                                      (runK (evFn Cw d 43 [(AVal.sl false 3 l5), (AVal.str ss22)] h14) fun r23 h23 =>
                                                        (consK r23 fun w24 ws25 =>
                                                          (slOK 3 w24 fun es26 =>
                                                            (nilK ws25
                                                              (P10_1 d k f0 l1 f2 l3 v4 es26 x6 ss6 bb9 ss17 bb20 h23)))))))
                                                else
                                                  Tr.fail)))))))))
                              else
                                Tr.fail)
                            else
                              (bif (decide ((0 : Int) ≤ x6) && decide ((x6 : Int) < (l1.length : Int))) then
                                (optK ((AVal.cells (l1.getD (Int.toNat x6) AVal.undef))[1]?) fun w27 =>
                                  (strK w27 fun ss28 =>
                                    (bif (decide ((0 : Int) ≤ x6) && decide ((x6 : Int) < (l1.length : Int))) then
                                      (optK ((AVal.cells (l1.getD (Int.toNat x6) AVal.undef))[2]?) fun w29 =>
                                        (strK w29 fun ss30 =>
                                          (runK (evFn Cw d 44 [v4, (AVal.str ss28), (AVal.str ss30)] h3) fun r31 h31 =>
                                            (consK r31 fun w32 ws33 =>
                                              (strK w32 fun ss34 =>
                                                (consK ws33 fun w35 ws36 =>
                                                  (boolK w35 fun bb37 =>
                                                    (nilK ws36
                                                      (bif (decide ((0 : Int) ≤ x6) && decide ((x6 : Int) < (l1.length : Int))) then
                                                        (optK ((AVal.cells (l1.getD (Int.toNat x6) AVal.undef))[1]?) fun w38 =>
                                                          (strK w38 fun ss39 =>
                                                            (bif (decide ((0 : Int) ≤ x6) && decide ((x6 : Int) < (l1.length : Int))) then
                                                              (optK ((AVal.cells (l1.getD (Int.toNat x6) AVal.undef))[2]?) fun w40 =>
                                                                (strK w40 fun ss41 =>
                                                                  (runK (evFn Cw d 45 [(AVal.sl false 3 l5), (AVal.str ss39), (AVal.str ss41)] h31) fun r42 h42 =>
                                                                    (consK r42 fun w43 ws44 =>
                                                                      (slOK 3 w43 fun es45 =>
                                                                        (nilK ws44
                                                                          (P10_1 d k f0 l1 f2 l3 v4 es45 x6 ss6 bb9 ss34 bb37 h42)))))))
                                                            else
                                                              Tr.fail)))
                                                      else
                                                        Tr.fail)))))))))
                                    else
                                      Tr.fail)))
                              else
                                Tr.fail))))
                      else
                        Tr.fail)))))))))
    else
      Tr.fail)
  else
    (P10_2 d rounds f2 l3 v4 l5 0 h)) := by kernel_rfl
theorem P10_1_eq (d n0 : Nat) (f0 : Bool) (l1 : List AVal) (f2 : Bool) (l3 : List AVal) (v4 : AVal) (l5 : List AVal) (x6 : Int) (s7 : List UInt8) (b8 : Bool) (s9 : List UInt8) (b10 : Bool) (h : Heap) : P10_1 d n0 f0 l1 f2 l3 v4 l5 x6 s7 b8 s9 b10 h =
  (bif (!(s9 == s7)) then
    (Tr.ret ([(AVal.bool false)], h))
  else
    (bif (!(b10 == b8)) then
      (Tr.ret ([(AVal.bool false)], h))
    else
      (bif (decide ((0 : Int) ≤ x6) && decide ((x6 : Int) < (l1.length : Int))) then
        (optK ((AVal.cells (l1.getD (Int.toNat x6) AVal.undef))[1]?) fun w1 =>
          (strK w1 fun ss2 =>
            (runK (evFn Cw d 46 [v4, (AVal.sl false 3 l5), (AVal.str ss2)] h) fun r3 h3 =>
              (consK r3 fun w4 ws5 =>
                (boolK w4 fun bb6 =>
                  (nilK ws5
                    (bif (!bb6) then (Tr.ret ([(AVal.bool false)], h3)) else (P10_0 d n0 f0 l1 f2 l3 v4 l5 (IntKind.i64.wrap (x6 + 1)) h3))))))))
      else
        Tr.fail))) := (heldPt_eq _ _ _ _ _ _ _).trans (by kernel_rfl)
theorem P10_2_eq (d k : Nat) (f0 : Bool) (l1 : List AVal) (v2 : AVal) (l3 : List AVal) (x4 : Int) (h : Heap) : P10_2 d (k + 1) f0 l1 v2 l3 x4 h =
  (bif (decide ((x4 : Int) < (l1.length : Int))) then
    (bif (decide ((0 : Int) ≤ x4) && decide ((x4 : Int) < (l1.length : Int))) then
      (strK (l1.getD (Int.toNat x4) AVal.undef) fun ss1 =>
        (runK (evFn Cw d 46 [v2, (AVal.sl false 3 l3), (AVal.str ss1)] h) fun r2 h2 =>
          (consK r2 fun w3 ws4 =>
            (boolK w3 fun bb5 =>
              (nilK ws4
                (bif (!bb5) then (Tr.ret ([(AVal.bool false)], h2)) else (P10_2 d k f0 l1 v2 l3 (IntKind.i64.wrap (x4 + 1)) h2)))))))
    else
      Tr.fail)
  else
    (runK (evFn Cw d 39 [] h) fun r6 h6 =>
      (consK r6 fun w7 ws8 =>
        (boolK w7 fun bb9 =>
          (nilK ws8
            (Tr.ret ([(AVal.bool bb9)], h6))))))) := by kernel_rfl
theorem F10_eq (d : Nat) (f0 : Bool) (l1 : List AVal) (f2 : Bool) (l3 : List AVal) (h : Heap) : evFn Cw (d + 1) 10 [(AVal.sl f0 4 l1), (AVal.sl f2 0 l3)] h =
  (bif (decide (((l1.length : Int) : Int) > 100)) then
    (runK (evFn Cw d 39 [] h) fun r1 h1 =>
      (consK r1 fun w2 ws3 =>
        (boolK w2 fun bb4 =>
          (nilK ws3
            (Tr.ret ([(AVal.bool bb4)], h1))))))
  else
    (bif (decide (((l3.length : Int) : Int) > 100)) then
      (runK (evFn Cw d 39 [] h) fun r5 h5 =>
        (consK r5 fun w6 ws7 =>
          (boolK w6 fun bb8 =>
            (nilK ws7
              (Tr.ret ([(AVal.bool bb8)], h5))))))
    else
      (runK (evFn Cw d 40 [] h) fun r9 h9 =>
        (consK r9 fun w10 ws11 =>
          (nilK ws11
            (P10_0 d rounds f0 l1 f2 l3 w10 [] 0 h9)))))) := by kernel_rfl
/- f57 (*strandline/tree.Tree[string]).Clone -/
theorem F57nil_eq (d : Nat) (h : Heap) : evFn Cw (d + 1) 57 [AVal.nilp] h =
  (Tr.ret ([AVal.nilp], h)) := by kernel_rfl
theorem F57_eq (d : Nat) (i0 : Nat) (h : Heap) : evFn Cw (d + 1) 57 [(AVal.obj i0 0)] h =
  (Tr.anyL [
    (optK (Heap.cell? h i0 0) fun z1 =>
      (optK (Heap.cell? h i0 1) fun z2 =>
        (intK .i64 (HCell.toA z2) fun y3 =>
          (bif (((!(AVal.isAgg (HCell.toA z1))) && true) && true) then
            (Tr.ret ([(AVal.obj h.objs.length 0)], (Heap.push h (Go.Weave.Obj.cells ([(HCell.toA z1), (AVal.int .i64 y3)].map HCell.val)))))
          else
            Tr.fail)))),
    (optK (Heap.cell? h i0 1) fun z1 =>
      (intK .i64 (HCell.toA z1) fun y2 =>
        (optK (Heap.cell? h i0 0) fun z3 =>
          (bif (((!(AVal.isAgg (HCell.toA z3))) && true) && true) then
            (Tr.ret ([(AVal.obj h.objs.length 0)], (Heap.push h (Go.Weave.Obj.cells ([(HCell.toA z3), (AVal.int .i64 y2)].map HCell.val)))))
          else
            Tr.fail))))]) := by kernel_rfl
/- f59 strandline/strandlinelaw31.TreeClones$1 -/
theorem F59_eq (d : Nat) (s0 : List UInt8) (s1 : List UInt8) (i2 : Nat) (i3 : Nat) (h : Heap) : evFn Cw (d + 1) 59 [(AVal.str s0), (AVal.str s1), (AVal.obj i2 0), (AVal.obj i3 0)] h =
  (optK (Heap.cell? h i2 0) fun z1 =>
    (intK .i64 (HCell.toA z1) fun y2 =>
      (optK (Heap.cell? h i2 0) fun _ =>
        (optK (Heap.cell? (Heap.setCell h i2 0 (HCell.val (AVal.int .i64 (IntKind.i64.wrap (y2 + 1))))) i2 0) fun z3 =>
          (intK .i64 (HCell.toA z3) fun y4 =>
            (optK (Heap.cell? (Heap.setCell h i2 0 (HCell.val (AVal.int .i64 (IntKind.i64.wrap (y2 + 1))))) i3 0) fun z5 =>
              (intK .i64 (HCell.toA z5) fun y6 =>
                (Tr.ret ([(AVal.bool (decide ((y4 : Int) < y6)))], (Heap.setCell h i2 0 (HCell.val (AVal.int .i64 (IntKind.i64.wrap (y2 + 1)))))))))))))) := by kernel_rfl
/- f12 strandline/strandlinelaw31.TreeClones -/
noncomputable def P12_0 (d k : Nat) (f0 : Bool) (l1 : List AVal) (f2 : Bool) (l3 : List AVal) (i4 : Nat) (v5 : AVal) (l6 : List AVal) (x7 : Int) (h : Heap) : Tr Res :=
  loopPt Cw d 12 [true, true, true, true, false, true, true] [] k ⟨[(0, (EV.one (SV.val (AVal.sl f0 4 l1)))), (1, (EV.one (SV.val (AVal.sl f2 4 l3)))), (5, (EV.one (SV.val (AVal.obj i4 0)))), (7, (EV.one (SV.val v5))), (8, (EV.one (SV.own (tokOf 8 0) 3 l6))), (9, (EV.one (SV.val (AVal.int .i64 x7))))], []⟩ h
noncomputable def P12_1 (d k : Nat) (f0 : Bool) (l1 : List AVal) (i2 : Nat) (v3 : AVal) (l4 : List AVal) (v5 : AVal) (l6 : List AVal) (x7 : Int) (h : Heap) : Tr Res :=
  loopPt Cw d 12 [true, true, true, true, true, true, true, false, true, true] [] k ⟨[(1, (EV.one (SV.val (AVal.sl f0 4 l1)))), (5, (EV.one (SV.val (AVal.obj i2 0)))), (7, (EV.one (SV.val v3))), (8, (EV.one (SV.own (tokOf 8 0) 3 l4))), (10, (EV.one (SV.val v5))), (11, (EV.one (SV.val (AVal.sl false 3 l6)))), (12, (EV.one (SV.val (AVal.int .i64 x7))))], []⟩ h
theorem P12_0_eq (d k : Nat) (f0 : Bool) (l1 : List AVal) (f2 : Bool) (l3 : List AVal) (i4 : Nat) (v5 : AVal) (l6 : List AVal) (x7 : Int) (h : Heap) : P12_0 d (k + 1) f0 l1 f2 l3 i4 v5 l6 x7 h =
  (bif (decide ((x7 : Int) < (l1.length : Int))) then
    (bif (decide ((0 : Int) ≤ x7) && decide ((x7 : Int) < (l1.length : Int))) then
      (optK ((AVal.cells (l1.getD (Int.toNat x7) AVal.undef))[1]?) fun w1 =>
        (strK w1 fun ss2 =>
          (bif (decide ((0 : Int) ≤ x7) && decide ((x7 : Int) < (l1.length : Int))) then
            (optK ((AVal.cells (l1.getD (Int.toNat x7) AVal.undef))[2]?) fun w3 =>
              (strK w3 fun ss4 =>
                (runK (evFn Cw d 44 [v5, (AVal.str ss2), (AVal.str ss4)] h) fun r5 h5 =>
                  (consK r5 fun w6 ws7 =>
                    (strK w6 fun ss8 =>
                      (consK ws7 fun w9 ws10 =>
                        (boolK w9 fun bb11 =>
                          (nilK ws10
                            (bif (decide ((0 : Int) ≤ x7) && decide ((x7 : Int) < (l1.length : Int))) then
                              (optK ((AVal.cells (l1.getD (Int.toNat x7) AVal.undef))[1]?) fun w12 =>
                                (strK w12 fun ss13 =>
                                  (bif (decide ((0 : Int) ≤ x7) && decide ((x7 : Int) < (l1.length : Int))) then
                                    (optK ((AVal.cells (l1.getD (Int.toNat x7) AVal.undef))[2]?) fun w14 =>
                                      (strK w14 fun ss15 =>
                                        (runK (evFn Cw d 45 [(AVal.sl false 3 l6), (AVal.str ss13), (AVal.str ss15)] h5) fun r16 h16 =>
                                          (consK r16 fun w17 ws18 =>
                                            (slOK 3 w17 fun es19 =>
                                              (nilK ws18
                                                (P12_0 d k f0 l1 f2 l3 i4 v5 es19 (IntKind.i64.wrap (x7 + 1)) h16)))))))
                                  else
                                    Tr.fail)))
                            else
                              Tr.fail)))))))))
          else
            Tr.fail)))
    else
      Tr.fail)
  else
    (runK (evFn Cw d 57 [v5] h) fun r20 h20 =>
      (consK r20 fun w21 ws22 =>
        (nilK ws22
          (P12_1 d rounds f2 l3 i4 v5 l6 w21 l6 0 h20))))) := by kernel_rfl
theorem P12_1_eq (d k : Nat) (f0 : Bool) (l1 : List AVal) (i2 : Nat) (v3 : AVal) (l4 : List AVal) (v5 : AVal) (l6 : List AVal) (x7 : Int) (h : Heap) : P12_1 d (k + 1) f0 l1 i2 v3 l4 v5 l6 x7 h =
  (bif (decide ((x7 : Int) < (l1.length : Int))) then
    (bif (decide ((0 : Int) ≤ x7) && decide ((x7 : Int) < (l1.length : Int))) then
      (optK ((AVal.cells (l1.getD (Int.toNat x7) AVal.undef))[0]?) fun w1 =>
        (intK .i64 w1 fun y2 =>
          (bif ((y2 : Int) == 2) then
            (bif (decide ((0 : Int) ≤ x7) && decide ((x7 : Int) < (l1.length : Int))) then
              (optK ((AVal.cells (l1.getD (Int.toNat x7) AVal.undef))[1]?) fun w3 =>
                (strK w3 fun ss4 =>
                  (runK (evFn Cw d 42 [v5, (AVal.str ss4)] h) fun r5 h5 =>
                    (consK r5 fun w6 ws7 =>
                      (strK w6 fun ss8 =>
                        (consK ws7 fun w9 ws10 =>
                          (boolK w9 fun bb11 =>
                            (nilK ws10
                              (bif (decide ((0 : Int) ≤ x7) && decide ((x7 : Int) < (l1.length : Int))) then
                                (optK ((AVal.cells (l1.getD (Int.toNat x7) AVal.undef))[1]?) fun w12 =>
                                  (strK w12 fun ss13 =>
                                    (runK (evFn Cw d 43 [(AVal.sl false 3 l6), (AVal.str ss13)] h5) fun r14 h14 =>
                                      (consK r14 fun w15 ws16 =>
                                        (slOK 3 w15 fun es17 =>
                                          (nilK ws16
                                            (P12_1 d k f0 l1 i2 v3 l4 v5 es17 (IntKind.i64.wrap (x7 + 1)) h14)))))))
                              else
                                Tr.fail)))))))))
            else
              Tr.fail)
          else
            (bif (decide ((0 : Int) ≤ x7) && decide ((x7 : Int) < (l1.length : Int))) then
              (optK ((AVal.cells (l1.getD (Int.toNat x7) AVal.undef))[1]?) fun w18 =>
                (strK w18 fun ss19 =>
                  (bif (decide ((0 : Int) ≤ x7) && decide ((x7 : Int) < (l1.length : Int))) then
                    (optK ((AVal.cells (l1.getD (Int.toNat x7) AVal.undef))[2]?) fun w20 =>
                      (strK w20 fun ss21 =>
                        (runK (evFn Cw d 44 [v5, (AVal.str ss19), (AVal.str ss21)] h) fun r22 h22 =>
                          (consK r22 fun w23 ws24 =>
                            (strK w23 fun ss25 =>
                              (consK ws24 fun w26 ws27 =>
                                (boolK w26 fun bb28 =>
                                  (nilK ws27
                                    (bif (decide ((0 : Int) ≤ x7) && decide ((x7 : Int) < (l1.length : Int))) then
                                      (optK ((AVal.cells (l1.getD (Int.toNat x7) AVal.undef))[1]?) fun w29 =>
                                        (strK w29 fun ss30 =>
                                          (bif (decide ((0 : Int) ≤ x7) && decide ((x7 : Int) < (l1.length : Int))) then
                                            (optK ((AVal.cells (l1.getD (Int.toNat x7) AVal.undef))[2]?) fun w31 =>
                                              (strK w31 fun ss32 =>
                                                (runK (evFn Cw d 45 [(AVal.sl false 3 l6), (AVal.str ss30), (AVal.str ss32)] h22) fun r33 h33 =>
                                                  (consK r33 fun w34 ws35 =>
                                                    (slOK 3 w34 fun es36 =>
                                                      (nilK ws35
                                                        (P12_1 d k f0 l1 i2 v3 l4 v5 es36 (IntKind.i64.wrap (x7 + 1)) h33)))))))
                                          else
                                            Tr.fail)))
                                    else
                                      Tr.fail)))))))))
                  else
                    Tr.fail)))
            else
              Tr.fail))))
    else
      Tr.fail)
  else
    (optK (Heap.cell? (Heap.push h (Go.Weave.Obj.cells [(HCell.val (AVal.int .i64 0))])) h.objs.length 0) fun _ =>
      (runK (evFn Cw d 58 [v3, (AVal.fn 59 [] [(AVal.obj h.objs.length 0), (AVal.obj i2 0)])] (Heap.setCell (Heap.push h (Go.Weave.Obj.cells [(HCell.val (AVal.int .i64 0))])) h.objs.length 0 (HCell.val (AVal.int .i64 0)))) fun r37 h37 =>
        (nilK r37
          (runK (evFn Cw d 44 [AVal.nilp, (AVal.str [97]), (AVal.str [98])] h37) fun r38 h38 =>
            (consK r38 fun w39 ws40 =>
              (strK w39 fun ss41 =>
                (consK ws40 fun w42 ws43 =>
                  (boolK w42 fun bb44 =>
                    (nilK ws43
                      (runK (evFn Cw d 60 [AVal.nilp, (AVal.str [97])] h38) fun r45 h45 =>
                        (consK r45 fun w46 ws47 =>
                          (strK w46 fun ss48 =>
                            (consK ws47 fun w49 ws50 =>
                              (boolK w49 fun bb51 =>
                                (nilK ws50
                                  (runK (evFn Cw d 42 [AVal.nilp, (AVal.str [97])] h45) fun r52 h52 =>
                                    (consK r52 fun w53 ws54 =>
                                      (strK w53 fun ss55 =>
                                        (consK ws54 fun w56 ws57 =>
                                          (boolK w56 fun bb58 =>
                                            (nilK ws57
                                              (runK (evFn Cw d 61 [AVal.nilp, (AVal.str [97])] h52) fun r59 h59 =>
                                                (consK r59 fun w60 ws61 =>
                                                  (strK w60 fun ss62 =>
                                                    (consK ws61 fun w63 ws64 =>
                                                      (strK w63 fun ss65 =>
                                                        (consK ws64 fun w66 ws67 =>
                                                          (boolK w66 fun bb68 =>
                                                            (nilK ws67
                                                              (runK (evFn Cw d 62 [AVal.nilp, (AVal.str [98])] h59) fun r69 h69 =>
                                                                (consK r69 fun w70 ws71 =>
                                                                  (strK w70 fun ss72 =>
                                                                    (consK ws71 fun w73 ws74 =>
                                                                      (strK w73 fun ss75 =>
                                                                        (consK ws74 fun w76 ws77 =>
                                                                          (boolK w76 fun bb78 =>
                                                                            (nilK ws77
                                                                              (bif (!bb44) then
                                                                                (bif (!bb51) then
                                                                                  (bif (!bb58) then
                                                                                    (bif (!bb68) then
                                                                                      (bif (!bb78) then
                                                                                        (runK (evFn Cw d 63 [AVal.nilp] h69) fun r79 h79 =>
                                                                                          (consK r79 fun w80 ws81 =>
                                                                                            (intK .i64 w80 fun y82 =>
                                                                                              (nilK ws81
                                                                                                (bif ((y82 : Int) == 0) then
                                                                                                  (runK (evFn Cw d 64 [AVal.nilp] h79) fun r83 h83 =>
                                                                                                    (consK r83 fun w84 ws85 =>
                                                                                                      (intK .i64 w84 fun y86 =>
                                                                                                        (nilK ws85
                                                                                                          (bif ((y86 : Int) == 0) then
                                                                                                            (runK (evFn Cw d 57 [AVal.nilp] h83) fun r87 h87 =>
                                                                                                              (consK r87 fun w88 ws89 =>
                                                                                                                (nilK ws89
                                                                                                                  (bif AVal.isPtr w88 then
                                                                                                                    (bif (AVal.isNilp w88) then
                                                                                                                      (runK (evFn Cw d 65 [AVal.nilp] h87) fun r90 h90 =>
                                                                                                                        (consK r90 fun w91 ws92 =>
                                                                                                                          (boolK w91 fun bb93 =>
                                                                                                                            (nilK ws92
                                                                                                                              (bif bb93 then
                                                                                                                                (runK (evFn Cw d 66 [AVal.nilp] h90) fun r94 h94 =>
                                                                                                                                  (consK r94 fun w95 ws96 =>
                                                                                                                                    (slK 3 w95 fun fl97 es98 =>
                                                                                                                                      (nilK ws96
                                                                                                                                        (runK (evFn Cw d 66 [v3] h94) fun r99 h99 =>
                                                                                                                                          (consK r99 fun w100 ws101 =>
                                                                                                                                            (slK 3 w100 fun fl102 es103 =>
                                                                                                                                              (nilK ws101
                                                                                                                                                (runK (evFn Cw d 48 [(AVal.sl fl102 3 es103), (AVal.sl false 3 l4)] h99) fun r104 h104 =>
                                                                                                                                                  (consK r104 fun w105 ws106 =>
                                                                                                                                                    (boolK w105 fun bb107 =>
                                                                                                                                                      (nilK ws106
                                                                                                                                                        (bif bb107 then
                                                                                                                                                          (runK (evFn Cw d 66 [v5] h104) fun r108 h108 =>
                                                                                                                                                            (consK r108 fun w109 ws110 =>
                                                                                                                                                              (slK 3 w109 fun fl111 es112 =>
                                                                                                                                                                (nilK ws110
                                                                                                                                                                  (runK (evFn Cw d 48 [(AVal.sl fl111 3 es112), (AVal.sl false 3 l6)] h108) fun r113 h113 =>
                                                                                                                                                                    (consK r113 fun w114 ws115 =>
                                                                                                                                                                      (boolK w114 fun bb116 =>
                                                                                                                                                                        (nilK ws115
                                                                                                                                                                          (bif bb116 then
                                                                                                                                                                            (optK (Heap.cell? h113 h.objs.length 0) fun z117 =>
                                                                                                                                                                              (intK .i64 (HCell.toA z117) fun y118 =>
                                                                                                                                                                                (optK (Heap.cell? h113 i2 0) fun z119 =>
                                                                                                                                                                                  (intK .i64 (HCell.toA z119) fun y120 =>
                                                                                                                                                                                    (bif ((y118 : Int) == (if ((if (y120 : Int) > 1 then y120 else 1) : Int) < (l4.length : Int) then (if (y120 : Int) > 1 then y120 else 1) else (l4.length : Int))) then
                                                                                                                                                                                      (bif (((es98.length : Int) : Int) == 0) then
                                                                                                                                                                                        (runK (evFn Cw d 39 [] h113) fun r121 h121 =>
                                                                                                                                                                                          (consK r121 fun w122 ws123 =>
                                                                                                                                                                                            (boolK w122 fun bb124 =>
                                                                                                                                                                                              (nilK ws123
                                                                                                                                                                                                (Tr.ret ([(AVal.bool bb124)], h121))))))
                                                                                                                                                                                      else
                                                                                                                                                                                        (Tr.ret ([(AVal.bool false)], h113)))
                                                                                                                                                                                    else
                                                                                                                                                                                      (Tr.ret ([(AVal.bool false)], h113)))))))
                                                                                                                                                                          else
                                                                                                                                                                            (Tr.ret ([(AVal.bool false)], h113)))))))))))
                                                                                                                                                        else
                                                                                                                                                          (Tr.ret ([(AVal.bool false)], h104)))))))))))))))
                                                                                                                              else
                                                                                                                                (runK (evFn Cw d 66 [v3] h90) fun r125 h125 =>
                                                                                                                                  (consK r125 fun w126 ws127 =>
                                                                                                                                    (slK 3 w126 fun fl128 es129 =>
                                                                                                                                      (nilK ws127
                                                                                                                                        (runK (evFn Cw d 48 [(AVal.sl fl128 3 es129), (AVal.sl false 3 l4)] h125) fun r130 h130 =>
                                                                                                                                          (consK r130 fun w131 ws132 =>
                                                                                                                                            (boolK w131 fun bb133 =>
                                                                                                                                              (nilK ws132
                                                                                                                                                (bif bb133 then
                                                                                                                                                  (runK (evFn Cw d 66 [v5] h130) fun r134 h134 =>
                                                                                                                                                    (consK r134 fun w135 ws136 =>
                                                                                                                                                      (slK 3 w135 fun fl137 es138 =>
                                                                                                                                                        (nilK ws136
                                                                                                                                                          (runK (evFn Cw d 48 [(AVal.sl fl137 3 es138), (AVal.sl false 3 l6)] h134) fun r139 h139 =>
                                                                                                                                                            (consK r139 fun w140 ws141 =>
                                                                                                                                                              (boolK w140 fun bb142 =>
                                                                                                                                                                (nilK ws141
                                                                                                                                                                  (bif bb142 then
                                                                                                                                                                    (optK (Heap.cell? h139 h.objs.length 0) fun z143 =>
                                                                                                                                                                      (intK .i64 (HCell.toA z143) fun y144 =>
                                                                                                                                                                        (optK (Heap.cell? h139 i2 0) fun z145 =>
                                                                                                                                                                          (intK .i64 (HCell.toA z145) fun y146 =>
                                                                                                                                                                            (bif ((y144 : Int) == (if ((if (y146 : Int) > 1 then y146 else 1) : Int) < (l4.length : Int) then (if (y146 : Int) > 1 then y146 else 1) else (l4.length : Int))) then
                                                                                                                                                                              (Tr.ret ([(AVal.bool false)], h139))
                                                                                                                                                                            else
                                                                                                                                                                              (Tr.ret ([(AVal.bool false)], h139)))))))
                                                                                                                                                                  else
                                                                                                                                                                    (Tr.ret ([(AVal.bool false)], h139)))))))))))
                                                                                                                                                else
                                                                                                                                                  (Tr.ret ([(AVal.bool false)], h130))))))))))))))))
                                                                                                                    else
                                                                                                                      (runK (evFn Cw d 66 [v3] h87) fun r147 h147 =>
                                                                                                                        (consK r147 fun w148 ws149 =>
                                                                                                                          (slK 3 w148 fun fl150 es151 =>
                                                                                                                            (nilK ws149
                                                                                                                              (runK (evFn Cw d 48 [(AVal.sl fl150 3 es151), (AVal.sl false 3 l4)] h147) fun r152 h152 =>
                                                                                                                                (consK r152 fun w153 ws154 =>
                                                                                                                                  (boolK w153 fun bb155 =>
                                                                                                                                    (nilK ws154
                                                                                                                                      (bif bb155 then
                                                                                                                                        (runK (evFn Cw d 66 [v5] h152) fun r156 h156 =>
                                                                                                                                          (consK r156 fun w157 ws158 =>
                                                                                                                                            (slK 3 w157 fun fl159 es160 =>
                                                                                                                                              (nilK ws158
                                                                                                                                                (runK (evFn Cw d 48 [(AVal.sl fl159 3 es160), (AVal.sl false 3 l6)] h156) fun r161 h161 =>
                                                                                                                                                  (consK r161 fun w162 ws163 =>
                                                                                                                                                    (boolK w162 fun bb164 =>
                                                                                                                                                      (nilK ws163
                                                                                                                                                        (bif bb164 then
                                                                                                                                                          (optK (Heap.cell? h161 h.objs.length 0) fun z165 =>
                                                                                                                                                            (intK .i64 (HCell.toA z165) fun y166 =>
                                                                                                                                                              (optK (Heap.cell? h161 i2 0) fun z167 =>
                                                                                                                                                                (intK .i64 (HCell.toA z167) fun y168 =>
                                                                                                                                                                  (bif ((y166 : Int) == (if ((if (y168 : Int) > 1 then y168 else 1) : Int) < (l4.length : Int) then (if (y168 : Int) > 1 then y168 else 1) else (l4.length : Int))) then
                                                                                                                                                                    (Tr.ret ([(AVal.bool false)], h161))
                                                                                                                                                                  else
                                                                                                                                                                    (Tr.ret ([(AVal.bool false)], h161)))))))
                                                                                                                                                        else
                                                                                                                                                          (Tr.ret ([(AVal.bool false)], h161)))))))))))
                                                                                                                                      else
                                                                                                                                        (Tr.ret ([(AVal.bool false)], h152))))))))))))
                                                                                                                  else
                                                                                                                    Tr.fail))))
                                                                                                          else
                                                                                                            (runK (evFn Cw d 66 [v3] h83) fun r169 h169 =>
                                                                                                              (consK r169 fun w170 ws171 =>
                                                                                                                (slK 3 w170 fun fl172 es173 =>
                                                                                                                  (nilK ws171
                                                                                                                    (runK (evFn Cw d 48 [(AVal.sl fl172 3 es173), (AVal.sl false 3 l4)] h169) fun r174 h174 =>
                                                                                                                      (consK r174 fun w175 ws176 =>
                                                                                                                        (boolK w175 fun bb177 =>
                                                                                                                          (nilK ws176
                                                                                                                            (bif bb177 then
                                                                                                                              (runK (evFn Cw d 66 [v5] h174) fun r178 h178 =>
                                                                                                                                (consK r178 fun w179 ws180 =>
                                                                                                                                  (slK 3 w179 fun fl181 es182 =>
                                                                                                                                    (nilK ws180
                                                                                                                                      (runK (evFn Cw d 48 [(AVal.sl fl181 3 es182), (AVal.sl false 3 l6)] h178) fun r183 h183 =>
                                                                                                                                        (consK r183 fun w184 ws185 =>
                                                                                                                                          (boolK w184 fun bb186 =>
                                                                                                                                            (nilK ws185
                                                                                                                                              (bif bb186 then
                                                                                                                                                (optK (Heap.cell? h183 h.objs.length 0) fun z187 =>
                                                                                                                                                  (intK .i64 (HCell.toA z187) fun y188 =>
                                                                                                                                                    (optK (Heap.cell? h183 i2 0) fun z189 =>
                                                                                                                                                      (intK .i64 (HCell.toA z189) fun y190 =>
                                                                                                                                                        (bif ((y188 : Int) == (if ((if (y190 : Int) > 1 then y190 else 1) : Int) < (l4.length : Int) then (if (y190 : Int) > 1 then y190 else 1) else (l4.length : Int))) then
                                                                                                                                                          (Tr.ret ([(AVal.bool false)], h183))
                                                                                                                                                        else
                                                                                                                                                          (Tr.ret ([(AVal.bool false)], h183)))))))
                                                                                                                                              else
                                                                                                                                                (Tr.ret ([(AVal.bool false)], h183)))))))))))
                                                                                                                            else
                                                                                                                              (Tr.ret ([(AVal.bool false)], h174))))))))))))))))
                                                                                                else
                                                                                                  (runK (evFn Cw d 66 [v3] h79) fun r191 h191 =>
                                                                                                    (consK r191 fun w192 ws193 =>
                                                                                                      (slK 3 w192 fun fl194 es195 =>
                                                                                                        (nilK ws193
                                                                                                          (runK (evFn Cw d 48 [(AVal.sl fl194 3 es195), (AVal.sl false 3 l4)] h191) fun r196 h196 =>
                                                                                                            (consK r196 fun w197 ws198 =>
                                                                                                              (boolK w197 fun bb199 =>
                                                                                                                (nilK ws198
                                                                                                                  (bif bb199 then
                                                                                                                    (runK (evFn Cw d 66 [v5] h196) fun r200 h200 =>
                                                                                                                      (consK r200 fun w201 ws202 =>
                                                                                                                        (slK 3 w201 fun fl203 es204 =>
                                                                                                                          (nilK ws202
                                                                                                                            (runK (evFn Cw d 48 [(AVal.sl fl203 3 es204), (AVal.sl false 3 l6)] h200) fun r205 h205 =>
                                                                                                                              (consK r205 fun w206 ws207 =>
                                                                                                                                (boolK w206 fun bb208 =>
                                                                                                                                  (nilK ws207
                                                                                                                                    (bif bb208 then
                                                                                                                                      (optK (Heap.cell? h205 h.objs.length 0) fun z209 =>
                                                                                                                                        (intK .i64 (HCell.toA z209) fun y210 =>
                                                                                                                                          (optK (Heap.cell? h205 i2 0) fun z211 =>
                                                                                                                                            (intK .i64 (HCell.toA z211) fun y212 =>
                                                                                                                                              (bif ((y210 : Int) == (if ((if (y212 : Int) > 1 then y212 else 1) : Int) < (l4.length : Int) then (if (y212 : Int) > 1 then y212 else 1) else (l4.length : Int))) then
                                                                                                                                                (Tr.ret ([(AVal.bool false)], h205))
                                                                                                                                              else
                                                                                                                                                (Tr.ret ([(AVal.bool false)], h205)))))))
                                                                                                                                    else
                                                                                                                                      (Tr.ret ([(AVal.bool false)], h205)))))))))))
                                                                                                                  else
                                                                                                                    (Tr.ret ([(AVal.bool false)], h196))))))))))))))))
                                                                                      else
                                                                                        (runK (evFn Cw d 66 [v3] h69) fun r213 h213 =>
                                                                                          (consK r213 fun w214 ws215 =>
                                                                                            (slK 3 w214 fun fl216 es217 =>
                                                                                              (nilK ws215
                                                                                                (runK (evFn Cw d 48 [(AVal.sl fl216 3 es217), (AVal.sl false 3 l4)] h213) fun r218 h218 =>
                                                                                                  (consK r218 fun w219 ws220 =>
                                                                                                    (boolK w219 fun bb221 =>
                                                                                                      (nilK ws220
                                                                                                        (bif bb221 then
                                                                                                          (runK (evFn Cw d 66 [v5] h218) fun r222 h222 =>
                                                                                                            (consK r222 fun w223 ws224 =>
                                                                                                              (slK 3 w223 fun fl225 es226 =>
                                                                                                                (nilK ws224
                                                                                                                  (runK (evFn Cw d 48 [(AVal.sl fl225 3 es226), (AVal.sl false 3 l6)] h222) fun r227 h227 =>
                                                                                                                    (consK r227 fun w228 ws229 =>
                                                                                                                      (boolK w228 fun bb230 =>
                                                                                                                        (nilK ws229
                                                                                                                          (bif bb230 then
                                                                                                                            (optK (Heap.cell? h227 h.objs.length 0) fun z231 =>
                                                                                                                              (intK .i64 (HCell.toA z231) fun y232 =>
                                                                                                                                (optK (Heap.cell? h227 i2 0) fun z233 =>
                                                                                                                                  (intK .i64 (HCell.toA z233) fun y234 =>
                                                                                                                                    (bif ((y232 : Int) == (if ((if (y234 : Int) > 1 then y234 else 1) : Int) < (l4.length : Int) then (if (y234 : Int) > 1 then y234 else 1) else (l4.length : Int))) then
                                                                                                                                      (Tr.ret ([(AVal.bool false)], h227))
                                                                                                                                    else
                                                                                                                                      (Tr.ret ([(AVal.bool false)], h227)))))))
                                                                                                                          else
                                                                                                                            (Tr.ret ([(AVal.bool false)], h227)))))))))))
                                                                                                        else
                                                                                                          (Tr.ret ([(AVal.bool false)], h218))))))))))))
                                                                                    else
                                                                                      (runK (evFn Cw d 66 [v3] h69) fun r235 h235 =>
                                                                                        (consK r235 fun w236 ws237 =>
                                                                                          (slK 3 w236 fun fl238 es239 =>
                                                                                            (nilK ws237
                                                                                              (runK (evFn Cw d 48 [(AVal.sl fl238 3 es239), (AVal.sl false 3 l4)] h235) fun r240 h240 =>
                                                                                                (consK r240 fun w241 ws242 =>
                                                                                                  (boolK w241 fun bb243 =>
                                                                                                    (nilK ws242
                                                                                                      (bif bb243 then
                                                                                                        (runK (evFn Cw d 66 [v5] h240) fun r244 h244 =>
                                                                                                          (consK r244 fun w245 ws246 =>
                                                                                                            (slK 3 w245 fun fl247 es248 =>
                                                                                                              (nilK ws246
                                                                                                                (runK (evFn Cw d 48 [(AVal.sl fl247 3 es248), (AVal.sl false 3 l6)] h244) fun r249 h249 =>
                                                                                                                  (consK r249 fun w250 ws251 =>
                                                                                                                    (boolK w250 fun bb252 =>
                                                                                                                      (nilK ws251
                                                                                                                        (bif bb252 then
                                                                                                                          (optK (Heap.cell? h249 h.objs.length 0) fun z253 =>
                                                                                                                            (intK .i64 (HCell.toA z253) fun y254 =>
                                                                                                                              (optK (Heap.cell? h249 i2 0) fun z255 =>
                                                                                                                                (intK .i64 (HCell.toA z255) fun y256 =>
                                                                                                                                  (bif ((y254 : Int) == (if ((if (y256 : Int) > 1 then y256 else 1) : Int) < (l4.length : Int) then (if (y256 : Int) > 1 then y256 else 1) else (l4.length : Int))) then
                                                                                                                                    (Tr.ret ([(AVal.bool false)], h249))
                                                                                                                                  else
                                                                                                                                    (Tr.ret ([(AVal.bool false)], h249)))))))
                                                                                                                        else
                                                                                                                          (Tr.ret ([(AVal.bool false)], h249)))))))))))
                                                                                                      else
                                                                                                        (Tr.ret ([(AVal.bool false)], h240))))))))))))
                                                                                  else
                                                                                    (runK (evFn Cw d 66 [v3] h69) fun r257 h257 =>
                                                                                      (consK r257 fun w258 ws259 =>
                                                                                        (slK 3 w258 fun fl260 es261 =>
                                                                                          (nilK ws259
                                                                                            (runK (evFn Cw d 48 [(AVal.sl fl260 3 es261), (AVal.sl false 3 l4)] h257) fun r262 h262 =>
                                                                                              (consK r262 fun w263 ws264 =>
                                                                                                (boolK w263 fun bb265 =>
                                                                                                  (nilK ws264
                                                                                                    (bif bb265 then
                                                                                                      (runK (evFn Cw d 66 [v5] h262) fun r266 h266 =>
                                                                                                        (consK r266 fun w267 ws268 =>
                                                                                                          (slK 3 w267 fun fl269 es270 =>
                                                                                                            (nilK ws268
                                                                                                              (runK (evFn Cw d 48 [(AVal.sl fl269 3 es270), (AVal.sl false 3 l6)] h266) fun r271 h271 =>
                                                                                                                (consK r271 fun w272 ws273 =>
                                                                                                                  (boolK w272 fun bb274 =>
                                                                                                                    (nilK ws273
                                                                                                                      (bif bb274 then
                                                                                                                        (optK (Heap.cell? h271 h.objs.length 0) fun z275 =>
                                                                                                                          (intK .i64 (HCell.toA z275) fun y276 =>
                                                                                                                            (optK (Heap.cell? h271 i2 0) fun z277 =>
                                                                                                                              (intK .i64 (HCell.toA z277) fun y278 =>
                                                                                                                                (bif ((y276 : Int) == (if ((if (y278 : Int) > 1 then y278 else 1) : Int) < (l4.length : Int) then (if (y278 : Int) > 1 then y278 else 1) else (l4.length : Int))) then
                                                                                                                                  (Tr.ret ([(AVal.bool false)], h271))
                                                                                                                                else
                                                                                                                                  (Tr.ret ([(AVal.bool false)], h271)))))))
                                                                                                                      else
                                                                                                                        (Tr.ret ([(AVal.bool false)], h271)))))))))))
                                                                                                    else
                                                                                                      (Tr.ret ([(AVal.bool false)], h262))))))))))))
                                                                                else
                                                                                  (runK (evFn Cw d 66 [v3] h69) fun r279 h279 =>
                                                                                    (consK r279 fun w280 ws281 =>
                                                                                      (slK 3 w280 fun fl282 es283 =>
                                                                                        (nilK ws281
                                                                                          (runK (evFn Cw d 48 [(AVal.sl fl282 3 es283), (AVal.sl false 3 l4)] h279) fun r284 h284 =>
                                                                                            (consK r284 fun w285 ws286 =>
                                                                                              (boolK w285 fun bb287 =>
                                                                                                (nilK ws286
                                                                                                  (bif bb287 then
                                                                                                    (runK (evFn Cw d 66 [v5] h284) fun r288 h288 =>
                                                                                                      (consK r288 fun w289 ws290 =>
                                                                                                        (slK 3 w289 fun fl291 es292 =>
                                                                                                          (nilK ws290
                                                                                                            (runK (evFn Cw d 48 [(AVal.sl fl291 3 es292), (AVal.sl false 3 l6)] h288) fun r293 h293 =>
                                                                                                              (consK r293 fun w294 ws295 =>
                                                                                                                (boolK w294 fun bb296 =>
                                                                                                                  (nilK ws295
                                                                                                                    (bif bb296 then
                                                                                                                      (optK (Heap.cell? h293 h.objs.length 0) fun z297 =>
                                                                                                                        (intK .i64 (HCell.toA z297) fun y298 =>
                                                                                                                          (optK (Heap.cell? h293 i2 0) fun z299 =>
                                                                                                                            (intK .i64 (HCell.toA z299) fun y300 =>
                                                                                                                              (bif ((y298 : Int) == (if ((if (y300 : Int) > 1 then y300 else 1) : Int) < (l4.length : Int) then (if (y300 : Int) > 1 then y300 else 1) else (l4.length : Int))) then
                                                                                                                                (Tr.ret ([(AVal.bool false)], h293))
                                                                                                                              else
                                                                                                                                (Tr.ret ([(AVal.bool false)], h293)))))))
                                                                                                                    else
                                                                                                                      (Tr.ret ([(AVal.bool false)], h293)))))))))))
                                                                                                  else
                                                                                                    (Tr.ret ([(AVal.bool false)], h284))))))))))))
                                                                              else
                                                                                (runK (evFn Cw d 66 [v3] h69) fun r301 h301 =>
                                                                                  (consK r301 fun w302 ws303 =>
                                                                                    (slK 3 w302 fun fl304 es305 =>
                                                                                      (nilK ws303
                                                                                        (runK (evFn Cw d 48 [(AVal.sl fl304 3 es305), (AVal.sl false 3 l4)] h301) fun r306 h306 =>
                                                                                          (consK r306 fun w307 ws308 =>
                                                                                            (boolK w307 fun bb309 =>
                                                                                              (nilK ws308
                                                                                                (bif bb309 then
                                                                                                  (runK (evFn Cw d 66 [v5] h306) fun r310 h310 =>
                                                                                                    (consK r310 fun w311 ws312 =>
                                                                                                      (slK 3 w311 fun fl313 es314 =>
                                                                                                        (nilK ws312
                                                                                                          (runK (evFn Cw d 48 [(AVal.sl fl313 3 es314), (AVal.sl false 3 l6)] h310) fun r315 h315 =>
                                                                                                            (consK r315 fun w316 ws317 =>
                                                                                                              (boolK w316 fun bb318 =>
                                                                                                                (nilK ws317
                                                                                                                  (bif bb318 then
                                                                                                                    (optK (Heap.cell? h315 h.objs.length 0) fun z319 =>
                                                                                                                      (intK .i64 (HCell.toA z319) fun y320 =>
                                                                                                                        (optK (Heap.cell? h315 i2 0) fun z321 =>
                                                                                                                          (intK .i64 (HCell.toA z321) fun y322 =>
                                                                                                                            (bif ((y320 : Int) == (if ((if (y322 : Int) > 1 then y322 else 1) : Int) < (l4.length : Int) then (if (y322 : Int) > 1 then y322 else 1) else (l4.length : Int))) then
                                                                                                                              (Tr.ret ([(AVal.bool false)], h315))
                                                                                                                            else
                                                                                                                              (Tr.ret ([(AVal.bool false)], h315)))))))
                                                                                                                  else
                                                                                                                    (Tr.ret ([(AVal.bool false)], h315)))))))))))
                                                                                                else
                                                                                                  (Tr.ret ([(AVal.bool false)], h306)))))))))))))))))))))))))))))))))))))))))))))))))) := by kernel_rfl
theorem F12_eq (d : Nat) (f0 : Bool) (l1 : List AVal) (f2 : Bool) (l3 : List AVal) (x4 : Int) (h : Heap) : evFn Cw (d + 1) 12 [(AVal.sl f0 4 l1), (AVal.sl f2 4 l3), (AVal.int .i64 x4)] h =
  (bif (decide (((l1.length : Int) : Int) > 100)) then
    (runK (evFn Cw d 39 [] (Heap.push h (Go.Weave.Obj.cells [(HCell.val (AVal.int .i64 x4))]))) fun r1 h1 =>
      (consK r1 fun w2 ws3 =>
        (boolK w2 fun bb4 =>
          (nilK ws3
            (Tr.ret ([(AVal.bool bb4)], h1))))))
  else
    (bif (decide (((l3.length : Int) : Int) > 100)) then
      (runK (evFn Cw d 39 [] (Heap.push h (Go.Weave.Obj.cells [(HCell.val (AVal.int .i64 x4))]))) fun r5 h5 =>
        (consK r5 fun w6 ws7 =>
          (boolK w6 fun bb8 =>
            (nilK ws7
              (Tr.ret ([(AVal.bool bb8)], h5))))))
    else
      (runK (evFn Cw d 40 [] (Heap.push h (Go.Weave.Obj.cells [(HCell.val (AVal.int .i64 x4))]))) fun r9 h9 =>
        (consK r9 fun w10 ws11 =>
          (nilK ws11
            (P12_0 d rounds f0 l1 f2 l3 h.objs.length w10 [] 0 h9)))))) := by kernel_rfl
end Go.Proofs.Ytfdkkhmaikgmcaa.Wa
