/- What the evaluator comes to in these functions. -/
import Derived.Test.YtdlcjibefbnckaaW0
import Derived.Test.YtdlcjibefbnckaaWvLb
import Derived.KernelRfl
namespace Go.Proofs.Ytdlcjibefbnckaa.Wa
open Go Go.Weave
set_option maxRecDepth 100000
set_option linter.unusedVariables false
/- f99 strandline/tree.told[string] -/
theorem F99_eq (d : Nat) (v0 : AVal) (h : Heap) : evFn Cw (d + 1) 99 [v0] h =
  (bif AVal.isPtr v0 then
    (bif (AVal.isNilp v0) then
      (Tr.ret ([(AVal.str []), (AVal.str []), (AVal.bool false)], h))
    else
      (nodeW 5 v0 fun cc1 =>
        (optK (cc1[0]?) fun w2 =>
          (strK w2 fun ss3 =>
            (nodeW 5 v0 fun cc4 =>
              (optK (cc4[1]?) fun w5 =>
                (strK w5 fun ss6 =>
                  (Tr.ret ([(AVal.str ss3), (AVal.str ss6), (AVal.bool true)], h)))))))))
  else
    Tr.fail) := by kernel_rfl
/- f118 (*strandline/tree.node[string]).high -/
theorem F118_eq (d : Nat) (v0 : AVal) (h : Heap) : evFn Cw (d + 1) 118 [v0] h =
  (bif AVal.isPtr v0 then
    (bif (AVal.isNilp v0) then
      (Tr.ret ([(AVal.int .i64 0)], h))
    else
      (nodeW 5 v0 fun cc1 =>
        (optK (cc1[4]?) fun w2 =>
          (intK .i64 w2 fun y3 =>
            (Tr.ret ([(AVal.int .i64 y3)], h))))))
  else
    Tr.fail) := by kernel_rfl
/- f119 (*strandline/tree.node[string]).with -/
theorem F119_eq (d : Nat) (v0 : AVal) (v1 : AVal) (v2 : AVal) (h : Heap) : evFn Cw (d + 1) 119 [v0, v1, v2] h =
  (nodeW 5 v0 fun cc1 =>
    (nodeW 5 v0 fun cc2 =>
      (Tr.anyL [
        (optK (cc1[0]?) fun w3 =>
          (strK w3 fun ss4 =>
            (Tr.anyL [
              (optK (cc2[1]?) fun w5 =>
                (strK w5 fun ss6 =>
                  (runK (evFn Cw d 118 [v1] h) fun r7 h7 =>
                    (consK r7 fun w8 ws9 =>
                      (intK .i64 w8 fun y10 =>
                        (nilK ws9
                          (runK (evFn Cw d 118 [v2] h7) fun r11 h11 =>
                            (consK r11 fun w12 ws13 =>
                              (intK .i64 w12 fun y14 =>
                                (nilK ws13
                                  (bif (((!(AVal.isAgg v1)) && true) && true) then
                                    (bif (((!(AVal.isAgg v2)) && true) && true) then
                                      (Tr.ret ([(AVal.elt (AVal.agg [(AVal.str ss4), (AVal.str ss6), v1, v2, (AVal.int .i64 (IntKind.i64.wrap (1 + (if (y14 : Int) > y10 then y14 else y10))))]) true 5 0)], h11))
                                    else
                                      Tr.fail)
                                  else
                                    Tr.fail))))))))))),
              (runK (evFn Cw d 118 [v1] h) fun r5 h5 =>
                (consK r5 fun w6 ws7 =>
                  (intK .i64 w6 fun y8 =>
                    (nilK ws7
                      (Tr.anyL [
                        (optK (cc2[1]?) fun w9 =>
                          (strK w9 fun ss10 =>
                            (runK (evFn Cw d 118 [v2] h5) fun r11 h11 =>
                              (consK r11 fun w12 ws13 =>
                                (intK .i64 w12 fun y14 =>
                                  (nilK ws13
                                    (bif (((!(AVal.isAgg v1)) && true) && true) then
                                      (bif (((!(AVal.isAgg v2)) && true) && true) then
                                        (Tr.ret ([(AVal.elt (AVal.agg [(AVal.str ss4), (AVal.str ss10), v1, v2, (AVal.int .i64 (IntKind.i64.wrap (1 + (if (y14 : Int) > y8 then y14 else y8))))]) true 5 0)], h11))
                                      else
                                        Tr.fail)
                                    else
                                      Tr.fail))))))),
                        (runK (evFn Cw d 118 [v2] h5) fun r9 h9 =>
                          (consK r9 fun w10 ws11 =>
                            (intK .i64 w10 fun y12 =>
                              (nilK ws11
                                (optK (cc2[1]?) fun w13 =>
                                  (strK w13 fun ss14 =>
                                    (bif (((!(AVal.isAgg v1)) && true) && true) then
                                      (bif (((!(AVal.isAgg v2)) && true) && true) then
                                        (Tr.ret ([(AVal.elt (AVal.agg [(AVal.str ss4), (AVal.str ss14), v1, v2, (AVal.int .i64 (IntKind.i64.wrap (1 + (if (y12 : Int) > y8 then y12 else y8))))]) true 5 0)], h9))
                                      else
                                        Tr.fail)
                                    else
                                      Tr.fail)))))))])))))]))),
        (optK (cc2[1]?) fun w3 =>
          (strK w3 fun ss4 =>
            (Tr.anyL [
              (optK (cc1[0]?) fun w5 =>
                (strK w5 fun ss6 =>
                  (runK (evFn Cw d 118 [v1] h) fun r7 h7 =>
                    (consK r7 fun w8 ws9 =>
                      (intK .i64 w8 fun y10 =>
                        (nilK ws9
                          (runK (evFn Cw d 118 [v2] h7) fun r11 h11 =>
                            (consK r11 fun w12 ws13 =>
                              (intK .i64 w12 fun y14 =>
                                (nilK ws13
                                  (bif (((!(AVal.isAgg v1)) && true) && true) then
                                    (bif (((!(AVal.isAgg v2)) && true) && true) then
                                      (Tr.ret ([(AVal.elt (AVal.agg [(AVal.str ss6), (AVal.str ss4), v1, v2, (AVal.int .i64 (IntKind.i64.wrap (1 + (if (y14 : Int) > y10 then y14 else y10))))]) true 5 0)], h11))
                                    else
                                      Tr.fail)
                                  else
                                    Tr.fail))))))))))),
              (runK (evFn Cw d 118 [v1] h) fun r5 h5 =>
                (consK r5 fun w6 ws7 =>
                  (intK .i64 w6 fun y8 =>
                    (nilK ws7
                      (Tr.anyL [
                        (optK (cc1[0]?) fun w9 =>
                          (strK w9 fun ss10 =>
                            (runK (evFn Cw d 118 [v2] h5) fun r11 h11 =>
                              (consK r11 fun w12 ws13 =>
                                (intK .i64 w12 fun y14 =>
                                  (nilK ws13
                                    (bif (((!(AVal.isAgg v1)) && true) && true) then
                                      (bif (((!(AVal.isAgg v2)) && true) && true) then
                                        (Tr.ret ([(AVal.elt (AVal.agg [(AVal.str ss10), (AVal.str ss4), v1, v2, (AVal.int .i64 (IntKind.i64.wrap (1 + (if (y14 : Int) > y8 then y14 else y8))))]) true 5 0)], h11))
                                      else
                                        Tr.fail)
                                    else
                                      Tr.fail))))))),
                        (runK (evFn Cw d 118 [v2] h5) fun r9 h9 =>
                          (consK r9 fun w10 ws11 =>
                            (intK .i64 w10 fun y12 =>
                              (nilK ws11
                                (optK (cc1[0]?) fun w13 =>
                                  (strK w13 fun ss14 =>
                                    (bif (((!(AVal.isAgg v1)) && true) && true) then
                                      (bif (((!(AVal.isAgg v2)) && true) && true) then
                                        (Tr.ret ([(AVal.elt (AVal.agg [(AVal.str ss14), (AVal.str ss4), v1, v2, (AVal.int .i64 (IntKind.i64.wrap (1 + (if (y12 : Int) > y8 then y12 else y8))))]) true 5 0)], h9))
                                      else
                                        Tr.fail)
                                    else
                                      Tr.fail)))))))])))))]))),
        (runK (evFn Cw d 118 [v1] h) fun r3 h3 =>
          (consK r3 fun w4 ws5 =>
            (intK .i64 w4 fun y6 =>
              (nilK ws5
                (Tr.anyL [
                  (optK (cc1[0]?) fun w7 =>
                    (strK w7 fun ss8 =>
                      (Tr.anyL [
                        (optK (cc2[1]?) fun w9 =>
                          (strK w9 fun ss10 =>
                            (runK (evFn Cw d 118 [v2] h3) fun r11 h11 =>
                              (consK r11 fun w12 ws13 =>
                                (intK .i64 w12 fun y14 =>
                                  (nilK ws13
                                    (bif (((!(AVal.isAgg v1)) && true) && true) then
                                      (bif (((!(AVal.isAgg v2)) && true) && true) then
                                        (Tr.ret ([(AVal.elt (AVal.agg [(AVal.str ss8), (AVal.str ss10), v1, v2, (AVal.int .i64 (IntKind.i64.wrap (1 + (if (y14 : Int) > y6 then y14 else y6))))]) true 5 0)], h11))
                                      else
                                        Tr.fail)
                                    else
                                      Tr.fail))))))),
                        (runK (evFn Cw d 118 [v2] h3) fun r9 h9 =>
                          (consK r9 fun w10 ws11 =>
                            (intK .i64 w10 fun y12 =>
                              (nilK ws11
                                (optK (cc2[1]?) fun w13 =>
                                  (strK w13 fun ss14 =>
                                    (bif (((!(AVal.isAgg v1)) && true) && true) then
                                      (bif (((!(AVal.isAgg v2)) && true) && true) then
                                        (Tr.ret ([(AVal.elt (AVal.agg [(AVal.str ss8), (AVal.str ss14), v1, v2, (AVal.int .i64 (IntKind.i64.wrap (1 + (if (y12 : Int) > y6 then y12 else y6))))]) true 5 0)], h9))
                                      else
                                        Tr.fail)
                                    else
                                      Tr.fail)))))))]))),
                  (optK (cc2[1]?) fun w7 =>
                    (strK w7 fun ss8 =>
                      (Tr.anyL [
                        (optK (cc1[0]?) fun w9 =>
                          (strK w9 fun ss10 =>
                            (runK (evFn Cw d 118 [v2] h3) fun r11 h11 =>
                              (consK r11 fun w12 ws13 =>
                                (intK .i64 w12 fun y14 =>
                                  (nilK ws13
                                    (bif (((!(AVal.isAgg v1)) && true) && true) then
                                      (bif (((!(AVal.isAgg v2)) && true) && true) then
                                        (Tr.ret ([(AVal.elt (AVal.agg [(AVal.str ss10), (AVal.str ss8), v1, v2, (AVal.int .i64 (IntKind.i64.wrap (1 + (if (y14 : Int) > y6 then y14 else y6))))]) true 5 0)], h11))
                                      else
                                        Tr.fail)
                                    else
                                      Tr.fail))))))),
                        (runK (evFn Cw d 118 [v2] h3) fun r9 h9 =>
                          (consK r9 fun w10 ws11 =>
                            (intK .i64 w10 fun y12 =>
                              (nilK ws11
                                (optK (cc1[0]?) fun w13 =>
                                  (strK w13 fun ss14 =>
                                    (bif (((!(AVal.isAgg v1)) && true) && true) then
                                      (bif (((!(AVal.isAgg v2)) && true) && true) then
                                        (Tr.ret ([(AVal.elt (AVal.agg [(AVal.str ss14), (AVal.str ss8), v1, v2, (AVal.int .i64 (IntKind.i64.wrap (1 + (if (y12 : Int) > y6 then y12 else y6))))]) true 5 0)], h9))
                                      else
                                        Tr.fail)
                                    else
                                      Tr.fail)))))))]))),
                  (runK (evFn Cw d 118 [v2] h3) fun r7 h7 =>
                    (consK r7 fun w8 ws9 =>
                      (intK .i64 w8 fun y10 =>
                        (nilK ws9
                          (Tr.anyL [
                            (optK (cc1[0]?) fun w11 =>
                              (strK w11 fun ss12 =>
                                (optK (cc2[1]?) fun w13 =>
                                  (strK w13 fun ss14 =>
                                    (bif (((!(AVal.isAgg v1)) && true) && true) then
                                      (bif (((!(AVal.isAgg v2)) && true) && true) then
                                        (Tr.ret ([(AVal.elt (AVal.agg [(AVal.str ss12), (AVal.str ss14), v1, v2, (AVal.int .i64 (IntKind.i64.wrap (1 + (if (y10 : Int) > y6 then y10 else y6))))]) true 5 0)], h7))
                                      else
                                        Tr.fail)
                                    else
                                      Tr.fail))))),
                            (optK (cc2[1]?) fun w11 =>
                              (strK w11 fun ss12 =>
                                (optK (cc1[0]?) fun w13 =>
                                  (strK w13 fun ss14 =>
                                    (bif (((!(AVal.isAgg v1)) && true) && true) then
                                      (bif (((!(AVal.isAgg v2)) && true) && true) then
                                        (Tr.ret ([(AVal.elt (AVal.agg [(AVal.str ss14), (AVal.str ss12), v1, v2, (AVal.int .i64 (IntKind.i64.wrap (1 + (if (y10 : Int) > y6 then y10 else y6))))]) true 5 0)], h7))
                                      else
                                        Tr.fail)
                                    else
                                      Tr.fail)))))])))))])))))]))) := by kernel_rfl
/- f101 (*strandline/tree.node[string]).level -/
theorem F101_eq (d : Nat) (v0 : AVal) (v1 : AVal) (v2 : AVal) (h : Heap) : evFn Cw (d + 1) 101 [v0, v1, v2] h =
  (runK (evFn Cw d 118 [v1] h) fun r1 h1 =>
    (consK r1 fun w2 ws3 =>
      (intK .i64 w2 fun y4 =>
        (nilK ws3
          (runK (evFn Cw d 118 [v2] h1) fun r5 h5 =>
            (consK r5 fun w6 ws7 =>
              (intK .i64 w6 fun y8 =>
                (nilK ws7
                  (bif (decide ((y4 : Int) > (IntKind.i64.wrap (y8 + 1)))) then
                    (nodeW 5 v1 fun cc9 =>
                      (optK (cc9[2]?) fun w10 =>
                        (nodeW 5 v1 fun cc11 =>
                          (optK (cc11[3]?) fun w12 =>
                            (runK (evFn Cw d 118 [w10] h5) fun r13 h13 =>
                              (consK r13 fun w14 ws15 =>
                                (intK .i64 w14 fun y16 =>
                                  (nilK ws15
                                    (runK (evFn Cw d 118 [w12] h13) fun r17 h17 =>
                                      (consK r17 fun w18 ws19 =>
                                        (intK .i64 w18 fun y20 =>
                                          (nilK ws19
                                            (bif (decide ((y16 : Int) ≥ y20)) then
                                              (nodeW 5 v1 fun cc21 =>
                                                (optK (cc21[2]?) fun w22 =>
                                                  (nodeW 5 v1 fun cc23 =>
                                                    (optK (cc23[3]?) fun w24 =>
                                                      (runK (evFn Cw d 119 [v0, w24, v2] h17) fun r25 h25 =>
                                                        (consK r25 fun w26 ws27 =>
                                                          (nilK ws27
                                                            (runK (evFn Cw d 119 [v1, w22, w26] h25) fun r28 h28 =>
                                                              (consK r28 fun w29 ws30 =>
                                                                (nilK ws30
                                                                  (Tr.ret ([w29], h28))))))))))))
                                            else
                                              (nodeW 5 v1 fun cc31 =>
                                                (optK (cc31[3]?) fun w32 =>
                                                  (nodeW 5 v1 fun cc33 =>
                                                    (optK (cc33[2]?) fun w34 =>
                                                      (nodeW 5 v1 fun cc35 =>
                                                        (optK (cc35[3]?) fun w36 =>
                                                          (nodeW 5 w36 fun cc37 =>
                                                            (optK (cc37[2]?) fun w38 =>
                                                              (nodeW 5 v1 fun cc39 =>
                                                                (optK (cc39[3]?) fun w40 =>
                                                                  (nodeW 5 w40 fun cc41 =>
                                                                    (optK (cc41[3]?) fun w42 =>
                                                                      (runK (evFn Cw d 119 [v1, w34, w38] h17) fun r43 h43 =>
                                                                        (consK r43 fun w44 ws45 =>
                                                                          (nilK ws45
                                                                            (runK (evFn Cw d 119 [v0, w42, v2] h43) fun r46 h46 =>
                                                                              (consK r46 fun w47 ws48 =>
                                                                                (nilK ws48
                                                                                  (runK (evFn Cw d 119 [w32, w44, w47] h46) fun r49 h49 =>
                                                                                    (consK r49 fun w50 ws51 =>
                                                                                      (nilK ws51
                                                                                        (Tr.ret ([w50], h49))))))))))))))))))))))))))))))))))))
                  else
                    (runK (evFn Cw d 118 [v2] h5) fun r52 h52 =>
                      (consK r52 fun w53 ws54 =>
                        (intK .i64 w53 fun y55 =>
                          (nilK ws54
                            (runK (evFn Cw d 118 [v1] h52) fun r56 h56 =>
                              (consK r56 fun w57 ws58 =>
                                (intK .i64 w57 fun y59 =>
                                  (nilK ws58
                                    (bif (decide ((y55 : Int) > (IntKind.i64.wrap (y59 + 1)))) then
                                      (nodeW 5 v2 fun cc60 =>
                                        (optK (cc60[3]?) fun w61 =>
                                          (nodeW 5 v2 fun cc62 =>
                                            (optK (cc62[2]?) fun w63 =>
                                              (runK (evFn Cw d 118 [w61] h56) fun r64 h64 =>
                                                (consK r64 fun w65 ws66 =>
                                                  (intK .i64 w65 fun y67 =>
                                                    (nilK ws66
                                                      (runK (evFn Cw d 118 [w63] h64) fun r68 h68 =>
                                                        (consK r68 fun w69 ws70 =>
                                                          (intK .i64 w69 fun y71 =>
                                                            (nilK ws70
                                                              (bif (decide ((y67 : Int) ≥ y71)) then
                                                                (nodeW 5 v2 fun cc72 =>
                                                                  (optK (cc72[2]?) fun w73 =>
                                                                    (nodeW 5 v2 fun cc74 =>
                                                                      (optK (cc74[3]?) fun w75 =>
                                                                        (runK (evFn Cw d 119 [v0, v1, w73] h68) fun r76 h76 =>
                                                                          (consK r76 fun w77 ws78 =>
                                                                            (nilK ws78
                                                                              (runK (evFn Cw d 119 [v2, w77, w75] h76) fun r79 h79 =>
                                                                                (consK r79 fun w80 ws81 =>
                                                                                  (nilK ws81
                                                                                    (Tr.ret ([w80], h79))))))))))))
                                                              else
                                                                (nodeW 5 v2 fun cc82 =>
                                                                  (optK (cc82[2]?) fun w83 =>
                                                                    (nodeW 5 v2 fun cc84 =>
                                                                      (optK (cc84[2]?) fun w85 =>
                                                                        (nodeW 5 w85 fun cc86 =>
                                                                          (optK (cc86[2]?) fun w87 =>
                                                                            (nodeW 5 v2 fun cc88 =>
                                                                              (optK (cc88[2]?) fun w89 =>
                                                                                (nodeW 5 w89 fun cc90 =>
                                                                                  (optK (cc90[3]?) fun w91 =>
                                                                                    (nodeW 5 v2 fun cc92 =>
                                                                                      (optK (cc92[3]?) fun w93 =>
                                                                                        (runK (evFn Cw d 119 [v0, v1, w87] h68) fun r94 h94 =>
                                                                                          (consK r94 fun w95 ws96 =>
                                                                                            (nilK ws96
                                                                                              (runK (evFn Cw d 119 [v2, w91, w93] h94) fun r97 h97 =>
                                                                                                (consK r97 fun w98 ws99 =>
                                                                                                  (nilK ws99
                                                                                                    (runK (evFn Cw d 119 [w83, w95, w98] h97) fun r100 h100 =>
                                                                                                      (consK r100 fun w101 ws102 =>
                                                                                                        (nilK ws102
                                                                                                          (Tr.ret ([w101], h100))))))))))))))))))))))))))))))))))))
                                    else
                                      (runK (evFn Cw d 119 [v0, v1, v2] h56) fun r103 h103 =>
                                        (consK r103 fun w104 ws105 =>
                                          (nilK ws105
                                            (Tr.ret ([w104], h103))))))))))))))))))))))) := by kernel_rfl
/- f82 (*strandline/tree.node[string]).put -/
theorem F82_eq (d : Nat) (v0 : AVal) (s1 : List UInt8) (s2 : List UInt8) (h : Heap) : evFn Cw (d + 1) 82 [v0, (AVal.str s1), (AVal.str s2)] h =
  (bif AVal.isPtr v0 then
    (bif (AVal.isNilp v0) then
      (Tr.ret ([(AVal.elt (AVal.agg [(AVal.str s1), (AVal.str s2), AVal.nilp, AVal.nilp, (AVal.int .i64 1)]) true 5 0)], h))
    else
      (nodeW 5 v0 fun cc1 =>
        (optK (cc1[0]?) fun w2 =>
          (strK w2 fun ss3 =>
            (bif (Go.Op.bytesLess s1 ss3) then
              (nodeW 5 v0 fun cc4 =>
                (optK (cc4[2]?) fun w5 =>
                  (nodeW 5 v0 fun cc6 =>
                    (optK (cc6[3]?) fun w7 =>
                      (runK (evFn Cw d 82 [w5, (AVal.str s1), (AVal.str s2)] h) fun r8 h8 =>
                        (consK r8 fun w9 ws10 =>
                          (nilK ws10
                            (runK (evFn Cw d 101 [v0, w9, w7] h8) fun r11 h11 =>
                              (consK r11 fun w12 ws13 =>
                                (nilK ws13
                                  (Tr.ret ([w12], h11))))))))))))
            else
              (nodeW 5 v0 fun cc14 =>
                (optK (cc14[0]?) fun w15 =>
                  (strK w15 fun ss16 =>
                    (bif (!((Go.Op.bytesLess s1 ss16) || (s1 == ss16))) then
                      (nodeW 5 v0 fun cc17 =>
                        (optK (cc17[2]?) fun w18 =>
                          (nodeW 5 v0 fun cc19 =>
                            (optK (cc19[3]?) fun w20 =>
                              (runK (evFn Cw d 82 [w20, (AVal.str s1), (AVal.str s2)] h) fun r21 h21 =>
                                (consK r21 fun w22 ws23 =>
                                  (nilK ws23
                                    (runK (evFn Cw d 101 [v0, w18, w22] h21) fun r24 h24 =>
                                      (consK r24 fun w25 ws26 =>
                                        (nilK ws26
                                          (Tr.ret ([w25], h24))))))))))))
                    else
                      (nodeW 5 v0 fun cc27 =>
                        (nodeW 5 v0 fun cc28 =>
                          (nodeW 5 v0 fun cc29 =>
                            (Tr.anyL [
                              (optK (cc27[2]?) fun w30 =>
                                (Tr.anyL [
                                  (optK (cc28[3]?) fun w31 =>
                                    (optK (cc29[4]?) fun w32 =>
                                      (intK .i64 w32 fun y33 =>
                                        (bif (((!(AVal.isAgg w30)) && true) && true) then
                                          (bif (((!(AVal.isAgg w31)) && true) && true) then
                                            (Tr.ret ([(AVal.elt (AVal.agg [(AVal.str s1), (AVal.str s2), w30, w31, (AVal.int .i64 y33)]) true 5 0)], h))
                                          else
                                            Tr.fail)
                                        else
                                          Tr.fail)))),
                                  (optK (cc29[4]?) fun w31 =>
                                    (intK .i64 w31 fun y32 =>
                                      (optK (cc28[3]?) fun w33 =>
                                        (bif (((!(AVal.isAgg w30)) && true) && true) then
                                          (bif (((!(AVal.isAgg w33)) && true) && true) then
                                            (Tr.ret ([(AVal.elt (AVal.agg [(AVal.str s1), (AVal.str s2), w30, w33, (AVal.int .i64 y32)]) true 5 0)], h))
                                          else
                                            Tr.fail)
                                        else
                                          Tr.fail))))])),
                              (optK (cc28[3]?) fun w30 =>
                                (Tr.anyL [
                                  (optK (cc27[2]?) fun w31 =>
                                    (optK (cc29[4]?) fun w32 =>
                                      (intK .i64 w32 fun y33 =>
                                        (bif (((!(AVal.isAgg w31)) && true) && true) then
                                          (bif (((!(AVal.isAgg w30)) && true) && true) then
                                            (Tr.ret ([(AVal.elt (AVal.agg [(AVal.str s1), (AVal.str s2), w31, w30, (AVal.int .i64 y33)]) true 5 0)], h))
                                          else
                                            Tr.fail)
                                        else
                                          Tr.fail)))),
                                  (optK (cc29[4]?) fun w31 =>
                                    (intK .i64 w31 fun y32 =>
                                      (optK (cc27[2]?) fun w33 =>
                                        (bif (((!(AVal.isAgg w33)) && true) && true) then
                                          (bif (((!(AVal.isAgg w30)) && true) && true) then
                                            (Tr.ret ([(AVal.elt (AVal.agg [(AVal.str s1), (AVal.str s2), w33, w30, (AVal.int .i64 y32)]) true 5 0)], h))
                                          else
                                            Tr.fail)
                                        else
                                          Tr.fail))))])),
                              (optK (cc29[4]?) fun w30 =>
                                (intK .i64 w30 fun y31 =>
                                  (Tr.anyL [
                                    (optK (cc27[2]?) fun w32 =>
                                      (optK (cc28[3]?) fun w33 =>
                                        (bif (((!(AVal.isAgg w32)) && true) && true) then
                                          (bif (((!(AVal.isAgg w33)) && true) && true) then
                                            (Tr.ret ([(AVal.elt (AVal.agg [(AVal.str s1), (AVal.str s2), w32, w33, (AVal.int .i64 y31)]) true 5 0)], h))
                                          else
                                            Tr.fail)
                                        else
                                          Tr.fail))),
                                    (optK (cc28[3]?) fun w32 =>
                                      (optK (cc27[2]?) fun w33 =>
                                        (bif (((!(AVal.isAgg w33)) && true) && true) then
                                          (bif (((!(AVal.isAgg w32)) && true) && true) then
                                            (Tr.ret ([(AVal.elt (AVal.agg [(AVal.str s1), (AVal.str s2), w33, w32, (AVal.int .i64 y31)]) true 5 0)], h))
                                          else
                                            Tr.fail)
                                        else
                                          Tr.fail)))])))])))))))))))))
  else
    Tr.fail) := by kernel_rfl
/- f102 (*strandline/tree.node[string]).least -/
noncomputable def P102_0 (d k : Nat) (v0 : AVal) (h : Heap) : Tr Res :=
  loopPt Cw d 102 [true, false, true] [] k ⟨[(0, (EV.one (SV.val v0)))], []⟩ h
theorem P102_0_eq (d k : Nat) (v0 : AVal) (h : Heap) : P102_0 d (k + 1) v0 h =
  (nodeW 5 v0 fun cc1 =>
    (optK (cc1[2]?) fun w2 =>
      (bif AVal.isPtr w2 then
        (bif (!(AVal.isNilp w2)) then
          (nodeW 5 v0 fun cc3 =>
            (optK (cc3[2]?) fun w4 =>
              (P102_0 d k w4 h)))
        else
          (Tr.ret ([v0], h)))
      else
        Tr.fail))) := by kernel_rfl
theorem F102_eq (d : Nat) (v0 : AVal) (h : Heap) : evFn Cw (d + 1) 102 [v0] h =
  (P102_0 d rounds v0 h) := by kernel_rfl
/- f83 (*strandline/tree.node[string]).without -/
theorem F83_eq (d : Nat) (v0 : AVal) (s1 : List UInt8) (h : Heap) : evFn Cw (d + 1) 83 [v0, (AVal.str s1)] h =
  (nodeW 5 v0 fun cc1 =>
    (optK (cc1[0]?) fun w2 =>
      (strK w2 fun ss3 =>
        (bif (Go.Op.bytesLess s1 ss3) then
          (nodeW 5 v0 fun cc4 =>
            (optK (cc4[2]?) fun w5 =>
              (nodeW 5 v0 fun cc6 =>
                (optK (cc6[3]?) fun w7 =>
                  (runK (evFn Cw d 83 [w5, (AVal.str s1)] h) fun r8 h8 =>
                    (consK r8 fun w9 ws10 =>
                      (nilK ws10
                        (runK (evFn Cw d 101 [v0, w9, w7] h8) fun r11 h11 =>
                          (consK r11 fun w12 ws13 =>
                            (nilK ws13
                              (Tr.ret ([w12], h11))))))))))))
        else
          (nodeW 5 v0 fun cc14 =>
            (optK (cc14[0]?) fun w15 =>
              (strK w15 fun ss16 =>
                (bif (!((Go.Op.bytesLess s1 ss16) || (s1 == ss16))) then
                  (nodeW 5 v0 fun cc17 =>
                    (optK (cc17[2]?) fun w18 =>
                      (nodeW 5 v0 fun cc19 =>
                        (optK (cc19[3]?) fun w20 =>
                          (runK (evFn Cw d 83 [w20, (AVal.str s1)] h) fun r21 h21 =>
                            (consK r21 fun w22 ws23 =>
                              (nilK ws23
                                (runK (evFn Cw d 101 [v0, w18, w22] h21) fun r24 h24 =>
                                  (consK r24 fun w25 ws26 =>
                                    (nilK ws26
                                      (Tr.ret ([w25], h24))))))))))))
                else
                  (nodeW 5 v0 fun cc27 =>
                    (optK (cc27[2]?) fun w28 =>
                      (bif AVal.isPtr w28 then
                        (bif (AVal.isNilp w28) then
                          (nodeW 5 v0 fun cc29 =>
                            (optK (cc29[3]?) fun w30 =>
                              (Tr.ret ([w30], h))))
                        else
                          (nodeW 5 v0 fun cc31 =>
                            (optK (cc31[3]?) fun w32 =>
                              (bif AVal.isPtr w32 then
                                (bif (AVal.isNilp w32) then
                                  (nodeW 5 v0 fun cc33 =>
                                    (optK (cc33[2]?) fun w34 =>
                                      (Tr.ret ([w34], h))))
                                else
                                  (nodeW 5 v0 fun cc35 =>
                                    (optK (cc35[3]?) fun w36 =>
                                      (runK (evFn Cw d 102 [w36] h) fun r37 h37 =>
                                        (consK r37 fun w38 ws39 =>
                                          (nilK ws39
                                            (nodeW 5 v0 fun cc40 =>
                                              (optK (cc40[2]?) fun w41 =>
                                                (nodeW 5 v0 fun cc42 =>
                                                  (optK (cc42[3]?) fun w43 =>
                                                    (nodeW 5 w38 fun cc44 =>
                                                      (optK (cc44[0]?) fun w45 =>
                                                        (strK w45 fun ss46 =>
                                                          (runK (evFn Cw d 83 [w43, (AVal.str ss46)] h37) fun r47 h47 =>
                                                            (consK r47 fun w48 ws49 =>
                                                              (nilK ws49
                                                                (runK (evFn Cw d 101 [w38, w41, w48] h47) fun r50 h50 =>
                                                                  (consK r50 fun w51 ws52 =>
                                                                    (nilK ws52
                                                                      (Tr.ret ([w51], h50)))))))))))))))))))))
                              else
                                Tr.fail))))
                      else
                        Tr.fail))))))))))) := by kernel_rfl
/- f100 (*strandline/tree.node[string]).each -/
theorem F100prv_eq (d : Nat) (v0 : AVal) (i1 : Nat) (i2 : Nat) (h : Heap) : evFn Cw (d + 1) 100 [v0, (AVal.fn 79 [] [(AVal.obj i1 0), (AVal.obj i2 0)])] h =
  (bif AVal.isPtr v0 then
    (bif (AVal.isNilp v0) then
      (Tr.ret ([(AVal.bool true)], h))
    else
      (nodeW 5 v0 fun cc1 =>
        (optK (cc1[2]?) fun w2 =>
          (runK (evFn Cw d 100 [w2, (AVal.fn 79 [] [(AVal.obj i1 0), (AVal.obj i2 0)])] h) fun r3 h3 =>
            (consK r3 fun w4 ws5 =>
              (boolK w4 fun bb6 =>
                (nilK ws5
                  (bif bb6 then
                    (nodeW 5 v0 fun cc7 =>
                      (optK (cc7[0]?) fun w8 =>
                        (strK w8 fun ss9 =>
                          (nodeW 5 v0 fun cc10 =>
                            (optK (cc10[1]?) fun w11 =>
                              (strK w11 fun ss12 =>
                                (runK (evFn Cw d 79 [(AVal.str ss9), (AVal.str ss12), (AVal.obj i1 0), (AVal.obj i2 0)] h3) fun r13 h13 =>
                                  (consK r13 fun w14 ws15 =>
                                    (boolK w14 fun bb16 =>
                                      (nilK ws15
                                        (bif bb16 then
                                          (nodeW 5 v0 fun cc17 =>
                                            (optK (cc17[3]?) fun w18 =>
                                              (runK (evFn Cw d 100 [w18, (AVal.fn 79 [] [(AVal.obj i1 0), (AVal.obj i2 0)])] h13) fun r19 h19 =>
                                                (consK r19 fun w20 ws21 =>
                                                  (boolK w20 fun bb22 =>
                                                    (nilK ws21
                                                      (Tr.ret ([(AVal.bool bb22)], h19))))))))
                                        else
                                          (Tr.ret ([(AVal.bool false)], h13)))))))))))))
                  else
                    (Tr.ret ([(AVal.bool false)], h3))))))))))
  else
    Tr.fail) := by kernel_rfl
/- f13 strandline/tree.New[string] -/
theorem F13_eq (d : Nat) (h : Heap) : evFn Cw (d + 1) 13 [] h =
  (Tr.ret ([(AVal.obj h.objs.length 0)], (Heap.push h (Go.Weave.Obj.cells ([AVal.nilp, (AVal.int .i64 0)].map HCell.val))))) := by kernel_rfl
/- f75 (*strandline/tree.Tree[string]).Seek -/
theorem F75nil_eq (d : Nat) (s0 : List UInt8) (h : Heap) : evFn Cw (d + 1) 75 [AVal.nilp, (AVal.str s0)] h =
  (runK (evFn Cw d 99 [AVal.nilp] h) fun r1 h1 =>
    (consK r1 fun w2 ws3 =>
      (strK w2 fun ss4 =>
        (consK ws3 fun w5 ws6 =>
          (strK w5 fun ss7 =>
            (consK ws6 fun w8 ws9 =>
              (boolK w8 fun bb10 =>
                (nilK ws9
                  (Tr.ret ([(AVal.str ss4), (AVal.str ss7), (AVal.bool bb10)], h1)))))))))) := by kernel_rfl
noncomputable def P75_0 (d k : Nat) (s0 : List UInt8) (v1 : AVal) (v2 : AVal) (h : Heap) : Tr Res :=
  loopPt Cw d 75 [true, true, false, true, true, true, true] [] k ⟨[(1, (EV.one (SV.val (AVal.str s0)))), (7, (EV.one (SV.val v1))), (8, (EV.one (SV.val v2)))], []⟩ h
theorem P75_0_eq (d k : Nat) (s0 : List UInt8) (v1 : AVal) (v2 : AVal) (h : Heap) : P75_0 d (k + 1) s0 v1 v2 h =
  (bif AVal.isPtr v2 then
    (bif (!(AVal.isNilp v2)) then
      (nodeW 5 v2 fun cc1 =>
        (optK (cc1[0]?) fun w2 =>
          (strK w2 fun ss3 =>
            (bif (Go.Op.bytesLess ss3 s0) then
              (nodeW 5 v2 fun cc4 =>
                (optK (cc4[3]?) fun w5 =>
                  (P75_0 d k s0 v1 w5 h)))
            else
              (nodeW 5 v2 fun cc6 =>
                (optK (cc6[2]?) fun w7 =>
                  (P75_0 d k s0 v2 w7 h)))))))
    else
      (runK (evFn Cw d 99 [v1] h) fun r8 h8 =>
        (consK r8 fun w9 ws10 =>
          (strK w9 fun ss11 =>
            (consK ws10 fun w12 ws13 =>
              (strK w12 fun ss14 =>
                (consK ws13 fun w15 ws16 =>
                  (boolK w15 fun bb17 =>
                    (nilK ws16
                      (Tr.ret ([(AVal.str ss11), (AVal.str ss14), (AVal.bool bb17)], h8)))))))))))
  else
    Tr.fail) := by kernel_rfl
theorem F75_eq (d : Nat) (i0 : Nat) (s1 : List UInt8) (h : Heap) : evFn Cw (d + 1) 75 [(AVal.obj i0 0), (AVal.str s1)] h =
  (optK (Heap.cell? h i0 0) fun z1 =>
    (P75_0 d rounds s1 AVal.nilp (HCell.toA z1) h)) := by kernel_rfl
/- f77 (*strandline/tree.Tree[string]).Below -/
theorem F77nil_eq (d : Nat) (s0 : List UInt8) (h : Heap) : evFn Cw (d + 1) 77 [AVal.nilp, (AVal.str s0)] h =
  (runK (evFn Cw d 99 [AVal.nilp] h) fun r1 h1 =>
    (consK r1 fun w2 ws3 =>
      (strK w2 fun ss4 =>
        (consK ws3 fun w5 ws6 =>
          (strK w5 fun ss7 =>
            (consK ws6 fun w8 ws9 =>
              (boolK w8 fun bb10 =>
                (nilK ws9
                  (Tr.ret ([(AVal.str ss4), (AVal.str ss7), (AVal.bool bb10)], h1)))))))))) := by kernel_rfl
noncomputable def P77_0 (d k : Nat) (s0 : List UInt8) (v1 : AVal) (v2 : AVal) (h : Heap) : Tr Res :=
  loopPt Cw d 77 [true, true, false, true, true, true, true] [] k ⟨[(1, (EV.one (SV.val (AVal.str s0)))), (7, (EV.one (SV.val v1))), (8, (EV.one (SV.val v2)))], []⟩ h
theorem P77_0_eq (d k : Nat) (s0 : List UInt8) (v1 : AVal) (v2 : AVal) (h : Heap) : P77_0 d (k + 1) s0 v1 v2 h =
  (bif AVal.isPtr v2 then
    (bif (!(AVal.isNilp v2)) then
      (nodeW 5 v2 fun cc1 =>
        (optK (cc1[0]?) fun w2 =>
          (strK w2 fun ss3 =>
            (bif (!(Go.Op.bytesLess ss3 s0)) then
              (nodeW 5 v2 fun cc4 =>
                (optK (cc4[2]?) fun w5 =>
                  (P77_0 d k s0 v1 w5 h)))
            else
              (nodeW 5 v2 fun cc6 =>
                (optK (cc6[3]?) fun w7 =>
                  (P77_0 d k s0 v2 w7 h)))))))
    else
      (runK (evFn Cw d 99 [v1] h) fun r8 h8 =>
        (consK r8 fun w9 ws10 =>
          (strK w9 fun ss11 =>
            (consK ws10 fun w12 ws13 =>
              (strK w12 fun ss14 =>
                (consK ws13 fun w15 ws16 =>
                  (boolK w15 fun bb17 =>
                    (nilK ws16
                      (Tr.ret ([(AVal.str ss11), (AVal.str ss14), (AVal.bool bb17)], h8)))))))))))
  else
    Tr.fail) := by kernel_rfl
theorem F77_eq (d : Nat) (i0 : Nat) (s1 : List UInt8) (h : Heap) : evFn Cw (d + 1) 77 [(AVal.obj i0 0), (AVal.str s1)] h =
  (optK (Heap.cell? h i0 0) fun z1 =>
    (P77_0 d rounds s1 AVal.nilp (HCell.toA z1) h)) := by kernel_rfl
/- f81 (*strandline/tree.Tree[string]).Get -/
theorem F81nil_eq (d : Nat) (s0 : List UInt8) (h : Heap) : evFn Cw (d + 1) 81 [AVal.nilp, (AVal.str s0)] h =
  (runK (evFn Cw d 75 [AVal.nilp, (AVal.str s0)] h) fun r1 h1 =>
    (consK r1 fun w2 ws3 =>
      (strK w2 fun ss4 =>
        (consK ws3 fun w5 ws6 =>
          (strK w5 fun ss7 =>
            (consK ws6 fun w8 ws9 =>
              (boolK w8 fun bb10 =>
                (nilK ws9
                  (bif (!bb10) then
                    (Tr.ret ([(AVal.str []), (AVal.bool false)], h1))
                  else
                    (bif (!(ss4 == s0)) then (Tr.ret ([(AVal.str []), (AVal.bool false)], h1)) else (Tr.ret ([(AVal.str ss7), (AVal.bool true)], h1)))))))))))) := by kernel_rfl
theorem F81_eq (d : Nat) (i0 : Nat) (s1 : List UInt8) (h : Heap) : evFn Cw (d + 1) 81 [(AVal.obj i0 0), (AVal.str s1)] h =
  (runK (evFn Cw d 75 [(AVal.obj i0 0), (AVal.str s1)] h) fun r1 h1 =>
    (consK r1 fun w2 ws3 =>
      (strK w2 fun ss4 =>
        (consK ws3 fun w5 ws6 =>
          (strK w5 fun ss7 =>
            (consK ws6 fun w8 ws9 =>
              (boolK w8 fun bb10 =>
                (nilK ws9
                  (bif (!bb10) then
                    (Tr.ret ([(AVal.str []), (AVal.bool false)], h1))
                  else
                    (bif (!(ss4 == s1)) then (Tr.ret ([(AVal.str []), (AVal.bool false)], h1)) else (Tr.ret ([(AVal.str ss7), (AVal.bool true)], h1)))))))))))) := by kernel_rfl
/- f21 (*strandline/tree.Tree[string]).Put -/
theorem F21nil_eq (d : Nat) (s0 : List UInt8) (s1 : List UInt8) (h : Heap) : evFn Cw (d + 1) 21 [AVal.nilp, (AVal.str s0), (AVal.str s1)] h =
  (runK (evFn Cw d 81 [AVal.nilp, (AVal.str s0)] h) fun r1 h1 =>
    (consK r1 fun w2 ws3 =>
      (strK w2 fun ss4 =>
        (consK ws3 fun w5 ws6 =>
          (boolK w5 fun bb7 =>
            (nilK ws6
              (Tr.ret ([(AVal.str ss4), (AVal.bool bb7)], h1)))))))) := by kernel_rfl
theorem F21_eq (d : Nat) (i0 : Nat) (s1 : List UInt8) (s2 : List UInt8) (h : Heap) : evFn Cw (d + 1) 21 [(AVal.obj i0 0), (AVal.str s1), (AVal.str s2)] h =
  (runK (evFn Cw d 81 [(AVal.obj i0 0), (AVal.str s1)] h) fun r1 h1 =>
    (consK r1 fun w2 ws3 =>
      (strK w2 fun ss4 =>
        (consK ws3 fun w5 ws6 =>
          (boolK w5 fun bb7 =>
            (nilK ws6
              (optK (Heap.cell? h1 i0 0) fun z8 =>
                (runK (evFn Cw d 82 [(HCell.toA z8), (AVal.str s1), (AVal.str s2)] h1) fun r9 h9 =>
                  (consK r9 fun w10 ws11 =>
                    (nilK ws11
                      (bif (AVal.isAgg w10) then
                        Tr.fail
                      else
                        (optK (Heap.cell? h9 i0 0) fun _ =>
                          (bif (!bb7) then
                            (optK (Heap.cell? (Heap.setCell h9 i0 0 (HCell.val w10)) i0 1) fun z12 =>
                              (intK .i64 (HCell.toA z12) fun y13 =>
                                (optK (Heap.cell? (Heap.setCell h9 i0 0 (HCell.val w10)) i0 1) fun _ =>
                                  (Tr.ret ([(AVal.str ss4), (AVal.bool bb7)], (Heap.setCell (Heap.setCell h9 i0 0 (HCell.val w10)) i0 1 (HCell.val (AVal.int .i64 (IntKind.i64.wrap (y13 + 1))))))))))
                          else
                            (Tr.ret ([(AVal.str ss4), (AVal.bool bb7)], (Heap.setCell h9 i0 0 (HCell.val w10))))))))))))))))) := by kernel_rfl
/- f23 (*strandline/tree.Tree[string]).Delete -/
theorem F23nil_eq (d : Nat) (s0 : List UInt8) (h : Heap) : evFn Cw (d + 1) 23 [AVal.nilp, (AVal.str s0)] h =
  (runK (evFn Cw d 81 [AVal.nilp, (AVal.str s0)] h) fun r1 h1 =>
    (consK r1 fun w2 ws3 =>
      (strK w2 fun ss4 =>
        (consK ws3 fun w5 ws6 =>
          (boolK w5 fun bb7 =>
            (nilK ws6
              (bif bb7 then Tr.fail else (Tr.ret ([(AVal.str ss4), (AVal.bool bb7)], h1))))))))) := by kernel_rfl
theorem F23_eq (d : Nat) (i0 : Nat) (s1 : List UInt8) (h : Heap) : evFn Cw (d + 1) 23 [(AVal.obj i0 0), (AVal.str s1)] h =
  (runK (evFn Cw d 81 [(AVal.obj i0 0), (AVal.str s1)] h) fun r1 h1 =>
    (consK r1 fun w2 ws3 =>
      (strK w2 fun ss4 =>
        (consK ws3 fun w5 ws6 =>
          (boolK w5 fun bb7 =>
            (nilK ws6
              (bif bb7 then
                (optK (Heap.cell? h1 i0 0) fun z8 =>
                  (runK (evFn Cw d 83 [(HCell.toA z8), (AVal.str s1)] h1) fun r9 h9 =>
                    (consK r9 fun w10 ws11 =>
                      (nilK ws11
                        (bif (AVal.isAgg w10) then
                          Tr.fail
                        else
                          (optK (Heap.cell? h9 i0 0) fun _ =>
                            (optK (Heap.cell? (Heap.setCell h9 i0 0 (HCell.val w10)) i0 1) fun z12 =>
                              (intK .i64 (HCell.toA z12) fun y13 =>
                                (optK (Heap.cell? (Heap.setCell h9 i0 0 (HCell.val w10)) i0 1) fun _ =>
                                  (Tr.ret ([(AVal.str ss4), (AVal.bool bb7)], (Heap.setCell (Heap.setCell h9 i0 0 (HCell.val w10)) i0 1 (HCell.val (AVal.int .i64 (IntKind.i64.wrap (y13 - 1))))))))))))))))
              else
                (Tr.ret ([(AVal.str ss4), (AVal.bool bb7)], h1))))))))) := by kernel_rfl
/- f87 (*strandline/tree.Tree[string]).Len -/
theorem F87nil_eq (d : Nat) (h : Heap) : evFn Cw (d + 1) 87 [AVal.nilp] h =
  (Tr.ret ([(AVal.int .i64 0)], h)) := by kernel_rfl
theorem F87_eq (d : Nat) (i0 : Nat) (h : Heap) : evFn Cw (d + 1) 87 [(AVal.obj i0 0)] h =
  (optK (Heap.cell? h i0 1) fun z1 =>
    (intK .i64 (HCell.toA z1) fun y2 =>
      (Tr.ret ([(AVal.int .i64 y2)], h)))) := by kernel_rfl
/- f78 (*strandline/tree.Tree[string]).Each -/
theorem F78prv_eq (d : Nat) (i0 : Nat) (i1 : Nat) (i2 : Nat) (h : Heap) : evFn Cw (d + 1) 78 [(AVal.obj i0 0), (AVal.fn 79 [] [(AVal.obj i1 0), (AVal.obj i2 0)])] h =
  (optK (Heap.cell? h i0 0) fun z1 =>
    (runK (evFn Cw d 100 [(HCell.toA z1), (AVal.fn 79 [] [(AVal.obj i1 0), (AVal.obj i2 0)])] h) fun r2 h2 =>
      (consK r2 fun w3 ws4 =>
        (boolK w3 fun bb5 =>
          (nilK ws4
            (Tr.ret ([], h2))))))) := by kernel_rfl
theorem F78nil_eq (d : Nat) (v0 : AVal) (h : Heap) : evFn Cw (d + 1) 78 [AVal.nilp, v0] h =
  (Tr.ret ([], h)) := by kernel_rfl
/- f89 (*strandline/tree.Tree[string]).Clone -/
theorem F89nil_eq (d : Nat) (h : Heap) : evFn Cw (d + 1) 89 [AVal.nilp] h =
  (Tr.ret ([AVal.nilp], h)) := by kernel_rfl
theorem F89_eq (d : Nat) (i0 : Nat) (h : Heap) : evFn Cw (d + 1) 89 [(AVal.obj i0 0)] h =
  (Tr.anyL [
    (optK (Heap.cell? h i0 0) fun z1 =>
      (optK (Heap.cell? h i0 1) fun z2 =>
        (intK .i64 (HCell.toA z2) fun y3 =>
          (bif (((!(AVal.isAgg (HCell.toA z1))) && true) && true) then
            (Tr.ret ([(AVal.obj h.objs.length 0)], (Heap.push h (Go.Weave.Obj.cells ([(HCell.toA z1), (AVal.int .i64 y3)].map HCell.val)))))
          else
            Tr.fail)))),
    (optK (Heap.cell? h i0 1) fun z1 =>
      (intK .i64 (HCell.toA z1) fun y2 =>
        (optK (Heap.cell? h i0 0) fun z3 =>
          (bif (((!(AVal.isAgg (HCell.toA z3))) && true) && true) then
            (Tr.ret ([(AVal.obj h.objs.length 0)], (Heap.push h (Go.Weave.Obj.cells ([(HCell.toA z3), (AVal.int .i64 y2)].map HCell.val)))))
          else
            Tr.fail))))]) := by kernel_rfl
/- f26 strandline/strandlineref31.Get -/
noncomputable def P26_0 (d k : Nat) (f0 : Bool) (l1 : List AVal) (s2 : List UInt8) (x3 : Int) (h : Heap) : Tr Res :=
  loopPt Cw d 26 [true, false, true, true] [] k ⟨[(0, (EV.one (SV.val (AVal.sl f0 3 l1)))), (1, (EV.one (SV.val (AVal.str s2)))), (6, (EV.one (SV.val (AVal.int .i64 x3))))], []⟩ h
theorem P26_0_eq (d k : Nat) (f0 : Bool) (l1 : List AVal) (s2 : List UInt8) (x3 : Int) (h : Heap) : P26_0 d (k + 1) f0 l1 s2 x3 h =
  (bif (decide ((x3 : Int) < (l1.length : Int))) then
    (bif (decide ((0 : Int) ≤ x3) && decide ((x3 : Int) < (l1.length : Int))) then
      (optK ((AVal.cells (l1.getD (Int.toNat x3) AVal.undef))[0]?) fun w1 =>
        (strK w1 fun ss2 =>
          (bif (ss2 == s2) then
            (bif (decide ((0 : Int) ≤ x3) && decide ((x3 : Int) < (l1.length : Int))) then
              (optK ((AVal.cells (l1.getD (Int.toNat x3) AVal.undef))[1]?) fun w3 =>
                (strK w3 fun ss4 =>
                  (Tr.ret ([(AVal.str ss4), (AVal.bool true)], h))))
            else
              Tr.fail)
          else
            (P26_0 d k f0 l1 s2 (IntKind.i64.wrap (x3 + 1)) h))))
    else
      Tr.fail)
  else
    (Tr.ret ([(AVal.str []), (AVal.bool false)], h))) := by kernel_rfl
theorem F26_eq (d : Nat) (f0 : Bool) (l1 : List AVal) (s2 : List UInt8) (h : Heap) : evFn Cw (d + 1) 26 [(AVal.sl f0 3 l1), (AVal.str s2)] h =
  (P26_0 d rounds f0 l1 s2 0 h) := by kernel_rfl
/- f24 strandline/strandlineref31.Delete -/
noncomputable def P24_0 (d k : Nat) (f0 : Bool) (l1 : List AVal) (s2 : List UInt8) (l3 : List AVal) (x4 : Int) (h : Heap) : Tr Res :=
  loopPt Cw d 24 [true, true, false, true, true] [] k ⟨[(0, (EV.one (SV.val (AVal.sl f0 3 l1)))), (1, (EV.one (SV.val (AVal.str s2)))), (5, (EV.one (SV.own (tokOf 5 0) 3 l3))), (6, (EV.one (SV.val (AVal.int .i64 x4))))], []⟩ h
theorem P24_0_eq (d k : Nat) (f0 : Bool) (l1 : List AVal) (s2 : List UInt8) (l3 : List AVal) (x4 : Int) (h : Heap) : P24_0 d (k + 1) f0 l1 s2 l3 x4 h =
  (bif (decide ((x4 : Int) < (l1.length : Int))) then
    (bif (decide ((0 : Int) ≤ x4) && decide ((x4 : Int) < (l1.length : Int))) then
      (optK ((AVal.cells (l1.getD (Int.toNat x4) AVal.undef))[0]?) fun w1 =>
        (strK w1 fun ss2 =>
          (bif (!(ss2 == s2)) then
            (bif (decide ((0 : Int) ≤ x4) && decide ((x4 : Int) < (l1.length : Int))) then
              (aggK 2 (l1.getD (Int.toNat x4) AVal.undef) fun cc3 =>
                (bif ((cc3.length == 2) && true) then
                  (bif decide ((l3.length + (1 : Nat)) * 32 ≤ 140737488355328) then (P24_0 d k f0 l1 s2 (l3 ++ [(AVal.agg cc3)]) (IntKind.i64.wrap (x4 + 1)) h) else Tr.fail)
                else
                  Tr.fail))
            else
              Tr.fail)
          else
            (P24_0 d k f0 l1 s2 l3 (IntKind.i64.wrap (x4 + 1)) h))))
    else
      Tr.fail)
  else
    (Tr.ret ([(AVal.sl false 3 l3)], h))) := by kernel_rfl
theorem F24_eq (d : Nat) (f0 : Bool) (l1 : List AVal) (s2 : List UInt8) (h : Heap) : evFn Cw (d + 1) 24 [(AVal.sl f0 3 l1), (AVal.str s2)] h =
  (P24_0 d rounds f0 l1 s2 [] 0 h) := by kernel_rfl
noncomputable def P24n_0 (d k : Nat) (s0 : List UInt8) (l1 : List AVal) (x2 : Int) (h : Heap) : Tr Res :=
  loopPt Cw d 24 [true, true, false, true, true] [] k ⟨[(0, (EV.one (SV.val (AVal.sl true 0 [])))), (1, (EV.one (SV.val (AVal.str s0)))), (5, (EV.one (SV.own (tokOf 5 0) 3 l1))), (6, (EV.one (SV.val (AVal.int .i64 x2))))], []⟩ h
theorem P24n_0_eq (d k : Nat) (s0 : List UInt8) (l1 : List AVal) (x2 : Int) (h : Heap) : P24n_0 d (k + 1) s0 l1 x2 h =
  (bif (decide ((x2 : Int) < 0)) then
    (bif (decide ((0 : Int) ≤ x2) && decide ((x2 : Int) < 0)) then
      (optK ((AVal.cells ([].getD (Int.toNat x2) AVal.undef))[0]?) fun w1 =>
        (strK w1 fun ss2 =>
          (bif (!(ss2 == s0)) then
            (bif (decide ((0 : Int) ≤ x2) && decide ((x2 : Int) < 0)) then
              (aggK 2 ([].getD (Int.toNat x2) AVal.undef) fun cc3 =>
                (bif ((cc3.length == 2) && true) then
                  (bif decide ((l1.length + (1 : Nat)) * 32 ≤ 140737488355328) then (P24n_0 d k s0 (l1 ++ [(AVal.agg cc3)]) (IntKind.i64.wrap (x2 + 1)) h) else Tr.fail)
                else
                  Tr.fail))
            else
              Tr.fail)
          else
            (P24n_0 d k s0 l1 (IntKind.i64.wrap (x2 + 1)) h))))
    else
      Tr.fail)
  else
    (Tr.ret ([(AVal.sl false 3 l1)], h))) := by kernel_rfl
theorem F24n_eq (d : Nat) (s0 : List UInt8) (h : Heap) : evFn Cw (d + 1) 24 [(AVal.sl true 0 []), (AVal.str s0)] h =
  (P24n_0 d rounds s0 [] 0 h) := by kernel_rfl
/- f22 strandline/strandlineref31.Put -/
noncomputable def P22_0 (d k : Nat) (l0 : List AVal) (s1 : List UInt8) (s2 : List UInt8) (l3 : List AVal) (b4 : Bool) (x5 : Int) (h : Heap) : Tr Res :=
  loopPt Cw d 22 [true, true, true, true, false, true, true] [] k ⟨[(0, (EV.one (SV.own (tokOf 0 0) 3 l0))), (1, (EV.one (SV.val (AVal.str s1)))), (2, (EV.one (SV.val (AVal.str s2)))), (7, (EV.one (SV.own (tokOf 7 0) 3 l3))), (8, (EV.one (SV.val (AVal.bool b4)))), (9, (EV.one (SV.val (AVal.int .i64 x5))))], []⟩ h
theorem P22_0_eq (d k : Nat) (l0 : List AVal) (s1 : List UInt8) (s2 : List UInt8) (l3 : List AVal) (b4 : Bool) (x5 : Int) (h : Heap) : P22_0 d (k + 1) l0 s1 s2 l3 b4 x5 h =
  (bif (decide ((x5 : Int) < (l0.length : Int))) then
    (bif (!b4) then
      (bif (decide ((0 : Int) ≤ x5) && decide ((x5 : Int) < (l0.length : Int))) then
        (optK ((AVal.cells (l0.getD (Int.toNat x5) AVal.undef))[0]?) fun w1 =>
          (strK w1 fun ss2 =>
            (bif (!((Go.Op.bytesLess ss2 s1) || (ss2 == s1))) then
              (bif decide ((l3.length + (1 : Nat)) * 32 ≤ 140737488355328) then
                (bif (decide ((0 : Int) ≤ x5) && decide ((x5 : Int) < (l0.length : Int))) then
                  (aggK 2 (l0.getD (Int.toNat x5) AVal.undef) fun cc3 =>
                    (bif ((cc3.length == 2) && true) then
                      (bif decide (((l3 ++ [(AVal.agg [(AVal.str s1), (AVal.str s2)])]).length + (1 : Nat)) * 32 ≤ 140737488355328) then
                        (P22_0 d k l0 s1 s2 ((l3 ++ [(AVal.agg [(AVal.str s1), (AVal.str s2)])]) ++ [(AVal.agg cc3)]) true (IntKind.i64.wrap (x5 + 1)) h)
                      else
                        Tr.fail)
                    else
                      Tr.fail))
                else
                  Tr.fail)
              else
                Tr.fail)
            else
              (bif (decide ((0 : Int) ≤ x5) && decide ((x5 : Int) < (l0.length : Int))) then
                (aggK 2 (l0.getD (Int.toNat x5) AVal.undef) fun cc4 =>
                  (bif ((cc4.length == 2) && true) then
                    (bif decide ((l3.length + (1 : Nat)) * 32 ≤ 140737488355328) then (P22_0 d k l0 s1 s2 (l3 ++ [(AVal.agg cc4)]) b4 (IntKind.i64.wrap (x5 + 1)) h) else Tr.fail)
                  else
                    Tr.fail))
              else
                Tr.fail))))
      else
        Tr.fail)
    else
      (bif (decide ((0 : Int) ≤ x5) && decide ((x5 : Int) < (l0.length : Int))) then
        (aggK 2 (l0.getD (Int.toNat x5) AVal.undef) fun cc5 =>
          (bif ((cc5.length == 2) && true) then
            (bif decide ((l3.length + (1 : Nat)) * 32 ≤ 140737488355328) then (P22_0 d k l0 s1 s2 (l3 ++ [(AVal.agg cc5)]) b4 (IntKind.i64.wrap (x5 + 1)) h) else Tr.fail)
          else
            Tr.fail))
      else
        Tr.fail))
  else
    (bif (!b4) then
      (bif decide ((l3.length + (1 : Nat)) * 32 ≤ 140737488355328) then (Tr.ret ([(AVal.sl false 3 (l3 ++ [(AVal.agg [(AVal.str s1), (AVal.str s2)])]))], h)) else Tr.fail)
    else
      (Tr.ret ([(AVal.sl false 3 l3)], h)))) := by kernel_rfl
theorem F22_eq (d : Nat) (f0 : Bool) (l1 : List AVal) (s2 : List UInt8) (s3 : List UInt8) (h : Heap) : evFn Cw (d + 1) 22 [(AVal.sl f0 3 l1), (AVal.str s2), (AVal.str s3)] h =
  (runK (evFn Cw d 24 [(AVal.sl f0 3 l1), (AVal.str s2)] h) fun r1 h1 =>
    (consK r1 fun w2 ws3 =>
      (slOK 3 w2 fun es4 =>
        (nilK ws3
          (P22_0 d rounds es4 s2 s3 [] false 0 h1))))) := by kernel_rfl
noncomputable def P22n_0 (d k : Nat) (l0 : List AVal) (s1 : List UInt8) (s2 : List UInt8) (l3 : List AVal) (b4 : Bool) (x5 : Int) (h : Heap) : Tr Res :=
  loopPt Cw d 22 [true, true, true, true, false, true, true] [] k ⟨[(0, (EV.one (SV.own (tokOf 0 0) 3 l0))), (1, (EV.one (SV.val (AVal.str s1)))), (2, (EV.one (SV.val (AVal.str s2)))), (7, (EV.one (SV.own (tokOf 7 0) 3 l3))), (8, (EV.one (SV.val (AVal.bool b4)))), (9, (EV.one (SV.val (AVal.int .i64 x5))))], []⟩ h
theorem P22n_0_eq (d k : Nat) (l0 : List AVal) (s1 : List UInt8) (s2 : List UInt8) (l3 : List AVal) (b4 : Bool) (x5 : Int) (h : Heap) : P22n_0 d (k + 1) l0 s1 s2 l3 b4 x5 h =
  (bif (decide ((x5 : Int) < (l0.length : Int))) then
    (bif (!b4) then
      (bif (decide ((0 : Int) ≤ x5) && decide ((x5 : Int) < (l0.length : Int))) then
        (optK ((AVal.cells (l0.getD (Int.toNat x5) AVal.undef))[0]?) fun w1 =>
          (strK w1 fun ss2 =>
            (bif (!((Go.Op.bytesLess ss2 s1) || (ss2 == s1))) then
              (bif decide ((l3.length + (1 : Nat)) * 32 ≤ 140737488355328) then
                (bif (decide ((0 : Int) ≤ x5) && decide ((x5 : Int) < (l0.length : Int))) then
                  (aggK 2 (l0.getD (Int.toNat x5) AVal.undef) fun cc3 =>
                    (bif ((cc3.length == 2) && true) then
                      (bif decide (((l3 ++ [(AVal.agg [(AVal.str s1), (AVal.str s2)])]).length + (1 : Nat)) * 32 ≤ 140737488355328) then
                        (P22n_0 d k l0 s1 s2 ((l3 ++ [(AVal.agg [(AVal.str s1), (AVal.str s2)])]) ++ [(AVal.agg cc3)]) true (IntKind.i64.wrap (x5 + 1)) h)
                      else
                        Tr.fail)
                    else
                      Tr.fail))
                else
                  Tr.fail)
              else
                Tr.fail)
            else
              (bif (decide ((0 : Int) ≤ x5) && decide ((x5 : Int) < (l0.length : Int))) then
                (aggK 2 (l0.getD (Int.toNat x5) AVal.undef) fun cc4 =>
                  (bif ((cc4.length == 2) && true) then
                    (bif decide ((l3.length + (1 : Nat)) * 32 ≤ 140737488355328) then (P22n_0 d k l0 s1 s2 (l3 ++ [(AVal.agg cc4)]) b4 (IntKind.i64.wrap (x5 + 1)) h) else Tr.fail)
                  else
                    Tr.fail))
              else
                Tr.fail))))
      else
        Tr.fail)
    else
      (bif (decide ((0 : Int) ≤ x5) && decide ((x5 : Int) < (l0.length : Int))) then
        (aggK 2 (l0.getD (Int.toNat x5) AVal.undef) fun cc5 =>
          (bif ((cc5.length == 2) && true) then
            (bif decide ((l3.length + (1 : Nat)) * 32 ≤ 140737488355328) then (P22n_0 d k l0 s1 s2 (l3 ++ [(AVal.agg cc5)]) b4 (IntKind.i64.wrap (x5 + 1)) h) else Tr.fail)
          else
            Tr.fail))
      else
        Tr.fail))
  else
    (bif (!b4) then
      (bif decide ((l3.length + (1 : Nat)) * 32 ≤ 140737488355328) then (Tr.ret ([(AVal.sl false 3 (l3 ++ [(AVal.agg [(AVal.str s1), (AVal.str s2)])]))], h)) else Tr.fail)
    else
      (Tr.ret ([(AVal.sl false 3 l3)], h)))) := by kernel_rfl
theorem F22n_eq (d : Nat) (s0 : List UInt8) (s1 : List UInt8) (h : Heap) : evFn Cw (d + 1) 22 [(AVal.sl true 0 []), (AVal.str s0), (AVal.str s1)] h =
  (runK (evFn Cw d 24 [(AVal.sl true 0 []), (AVal.str s0)] h) fun r1 h1 =>
    (consK r1 fun w2 ws3 =>
      (slOK 3 w2 fun es4 =>
        (nilK ws3
          (P22n_0 d rounds es4 s0 s1 [] false 0 h1))))) := by kernel_rfl
/- f80 strandline/strandlineref31.Seek -/
noncomputable def P80_0 (d k : Nat) (f0 : Bool) (l1 : List AVal) (s2 : List UInt8) (x3 : Int) (s4 : List UInt8) (s5 : List UInt8) (h : Heap) : Tr Res :=
  loopPt Cw d 80 [true, false, true, true] [] k ⟨[(0, (EV.one (SV.val (AVal.sl f0 3 l1)))), (1, (EV.one (SV.val (AVal.str s2)))), (4, (EV.one (SV.loc 4 0))), (6, (EV.one (SV.val (AVal.int .i64 x3))))], [(4, (Box.plain [(AVal.str s4), (AVal.str s5)]))]⟩ h
theorem P80_0_eq (d k : Nat) (f0 : Bool) (l1 : List AVal) (s2 : List UInt8) (x3 : Int) (s4 : List UInt8) (s5 : List UInt8) (h : Heap) : P80_0 d (k + 1) f0 l1 s2 x3 s4 s5 h =
  (bif (decide ((x3 : Int) < (l1.length : Int))) then
    (bif (decide ((0 : Int) ≤ x3) && decide ((x3 : Int) < (l1.length : Int))) then
      (optK ((AVal.cells (l1.getD (Int.toNat x3) AVal.undef))[0]?) fun w1 =>
        (strK w1 fun ss2 =>
          (bif (!(Go.Op.bytesLess ss2 s2)) then
            (bif (decide ((0 : Int) ≤ x3) && decide ((x3 : Int) < (l1.length : Int))) then
              (aggK 2 (l1.getD (Int.toNat x3) AVal.undef) fun cc3 =>
                (bif ((cc3.length == 2) && true) then
                  (bif decide (0 + 2 ≤ cc3.length) then (Tr.ret ([(AVal.agg ((cc3.drop 0).take 2)), (AVal.bool true)], h)) else Tr.fail)
                else
                  Tr.fail))
            else
              Tr.fail)
          else
            (P80_0 d k f0 l1 s2 (IntKind.i64.wrap (x3 + 1)) s4 s5 h))))
    else
      Tr.fail)
  else
    (Tr.ret ([(AVal.agg [(AVal.str []), (AVal.str [])]), (AVal.bool false)], h))) := by kernel_rfl
theorem F80_eq (d : Nat) (f0 : Bool) (l1 : List AVal) (s2 : List UInt8) (h : Heap) : evFn Cw (d + 1) 80 [(AVal.sl f0 3 l1), (AVal.str s2)] h =
  (P80_0 d rounds f0 l1 s2 0 [] [] h) := by kernel_rfl
/- f36 strandline/strandlineref31.Same -/
noncomputable def P36_0 (d k : Nat) (f0 : Bool) (l1 : List AVal) (f2 : Bool) (l3 : List AVal) (x4 : Int) (h : Heap) : Tr Res :=
  loopPt Cw d 36 [true, true, false, true, true] [] k ⟨[(0, (EV.one (SV.val (AVal.sl f0 3 l1)))), (1, (EV.one (SV.val (AVal.sl f2 3 l3)))), (5, (EV.one (SV.val (AVal.int .i64 x4))))], []⟩ h
theorem P36_0_eq (d k : Nat) (f0 : Bool) (l1 : List AVal) (f2 : Bool) (l3 : List AVal) (x4 : Int) (h : Heap) : P36_0 d (k + 1) f0 l1 f2 l3 x4 h =
  (bif (decide ((x4 : Int) < (l1.length : Int))) then
    (bif (decide ((0 : Int) ≤ x4) && decide ((x4 : Int) < (l1.length : Int))) then
      (aggK 2 (l1.getD (Int.toNat x4) AVal.undef) fun cc1 =>
        (bif (decide ((0 : Int) ≤ x4) && decide ((x4 : Int) < (l3.length : Int))) then
          (aggK 2 (l3.getD (Int.toNat x4) AVal.undef) fun cc2 =>
            (bif ((plainOk Cw.P 43 (AVal.agg cc1)) && (plainOk Cw.P 43 (AVal.agg cc2))) then
              (bif (!(eqCells cc1 cc2)) then (Tr.ret ([(AVal.bool false)], h)) else (P36_0 d k f0 l1 f2 l3 (IntKind.i64.wrap (x4 + 1)) h))
            else
              Tr.fail))
        else
          Tr.fail))
    else
      Tr.fail)
  else
    (Tr.ret ([(AVal.bool true)], h))) := by kernel_rfl
theorem F36_eq (d : Nat) (f0 : Bool) (l1 : List AVal) (f2 : Bool) (l3 : List AVal) (h : Heap) : evFn Cw (d + 1) 36 [(AVal.sl f0 3 l1), (AVal.sl f2 3 l3)] h =
  (bif (((l1.length : Int) : Int) != (l3.length : Int)) then (Tr.ret ([(AVal.bool false)], h)) else (P36_0 d rounds f0 l1 f2 l3 0 h)) := by kernel_rfl
end Go.Proofs.Ytdlcjibefbnckaa.Wa
