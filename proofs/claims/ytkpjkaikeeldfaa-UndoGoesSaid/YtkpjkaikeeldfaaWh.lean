/- What the evaluator comes to in these functions. -/
import Derived.Test.YtkpjkaikeeldfaaW0
import Derived.Test.YtkpjkaikeeldfaaWvLb
import Derived.KernelRfl
namespace Go.Proofs.Ytkpjkaikeeldfaa.Wa
open Go Go.Weave
set_option maxRecDepth 100000
set_option linter.unusedVariables false
/- f24 strandline/undo.back -/
noncomputable def P24_0 (d k : Nat) (f0 : Bool) (l1 : List AVal) (x2 : Int) (m3 : Nat) (x4 : Int) (x5 : Int) (l6 : List AVal) (x7 : Int) (h : Heap) : Tr Res :=
  loopPt Cw d 24 [true, true, true, false, true, true] [] k ⟨[(0, (EV.one (SV.val (AVal.sl f0 6 l1)))), (1, (EV.one (SV.val (AVal.int .i64 x2)))), (4, (EV.one (SV.loc 4 0))), (6, (EV.one (SV.val (AVal.map m3)))), (19, (EV.one (SV.val (AVal.int .i64 x4)))), (20, (EV.one (SV.val (AVal.int .i64 x5))))], [(4, (Box.plain [(AVal.sl true 7 l6), (AVal.sl true 0 []), (AVal.int .i64 x7)]))]⟩ h
noncomputable def P24_1 (d k : Nat) (f0 : Bool) (l1 : List AVal) (m2 : Nat) (x3 : Int) (l4 : List AVal) (x5 : Int) (l6 : List AVal) (l7 : List AVal) (x8 : Int) (h : Heap) : Tr Res :=
  loopPt Cw d 24 [true, true, true, true, true, true, true, false, true] [] k ⟨[(0, (EV.one (SV.val (AVal.sl f0 6 l1)))), (4, (EV.one (SV.loc 4 0))), (6, (EV.one (SV.val (AVal.map m2)))), (9, (EV.one (SV.loc 9 0))), (10, (EV.one (SV.val (AVal.int .i64 x3))))], [(4, (Box.plain [(AVal.sl true 7 l4), (AVal.sl true 0 []), (AVal.int .i64 x5)])), (9, (Box.rich [(SV.own (tokOf 9 0) 7 l6), (SV.own (tokOf 9 1) 0 l7), (SV.val (AVal.int .i64 x8))]))]⟩ h
theorem P24_0_eq (d k : Nat) (f0 : Bool) (l1 : List AVal) (x2 : Int) (m3 : Nat) (x4 : Int) (x5 : Int) (l6 : List AVal) (x7 : Int) (h : Heap) : P24_0 d (k + 1) f0 l1 x2 m3 x4 x5 l6 x7 h =
  (bif (decide ((x5 : Int) < x4)) then
    (bif (decide ((0 : Int) ≤ (IntKind.i64.wrap ((IntKind.i64.wrap ((l1.length : Int) - 1)) - x5))) && decide (((IntKind.i64.wrap ((IntKind.i64.wrap ((l1.length : Int) - 1)) - x5)) : Int) < (l1.length : Int))) then
      (optK ((AVal.cells (l1.getD (Int.toNat (IntKind.i64.wrap ((IntKind.i64.wrap ((l1.length : Int) - 1)) - x5))) AVal.undef))[2]?) fun w1 =>
        (intK .i64 w1 fun y2 =>
          (updK 3 (AVal.map m3) (AVal.int .i64 y2) (AVal.int .i64 (IntKind.i64.wrap ((IntKind.i64.wrap ((l1.length : Int) - 1)) - x5))) h fun h3 =>
            (P24_0 d k f0 l1 x2 m3 x4 (IntKind.i64.wrap (x5 + 1)) l6 x7 h3))))
    else
      Tr.fail)
  else
    (P24_1 d rounds f0 l1 m3 x2 l6 x7 [] [] 0 h)) := by kernel_rfl
theorem P24_1_eq (d k : Nat) (f0 : Bool) (l1 : List AVal) (m2 : Nat) (x3 : Int) (l4 : List AVal) (x5 : Int) (l6 : List AVal) (l7 : List AVal) (x8 : Int) (h : Heap) : P24_1 d (k + 1) f0 l1 m2 x3 l4 x5 l6 l7 x8 h =
  (lookK 3 (AVal.int .i64 0) (AVal.map m2) (AVal.int .i64 x3) h fun w1 bb2 =>
    (intK .i64 w1 fun y3 =>
      (bif (!bb2) then
        (Tr.ret ([(AVal.agg [(AVal.sl true 7 []), (AVal.sl true 0 []), (AVal.int .i64 0)]), (AVal.bool false)], h))
      else
        (bif (decide ((0 : Int) ≤ y3) && decide ((y3 : Int) < (l1.length : Int))) then
          (aggK 5 (l1.getD (Int.toNat y3) AVal.undef) fun cc4 =>
            (bif ((cc4.length == 5) && true) then
              (optK (cc4[0]?) fun w5 =>
                (intK .i64 w5 fun y6 =>
                  (bif ((y6 : Int) == 5) then
                    (Tr.ret ([(AVal.agg [(AVal.sl false 7 l6), (AVal.sl false 0 l7), (AVal.int .i64 x3)]), (AVal.bool true)], h))
                  else
                    (bif ((y6 : Int) == 6) then
                      (bif ((y6 : Int) == 6) then
                        (optK (cc4[4]?) fun w7 =>
                          (slK 0 w7 fun fl8 es9 =>
                            (runK (evFn Cw d 10 [(AVal.sl fl8 0 es9)] h) fun r10 h10 =>
                              (consK r10 fun w11 ws12 =>
                                (aggK 6 w11 fun cc13 =>
                                  (consK ws12 fun w14 ws15 =>
                                    (intK .i64 w14 fun y16 =>
                                      (nilK ws15
                                        (bif ((cc13.length == 6) && true) then
                                          (bif ((y16 : Int) != 0) then
                                            (Tr.ret ([(AVal.agg [(AVal.sl true 7 []), (AVal.sl true 0 []), (AVal.int .i64 0)]), (AVal.bool false)], h10))
                                          else
                                            (optK (cc13[5]?) fun w17 =>
                                              (intK .i64 w17 fun y18 =>
                                                (optK (cc4[0]?) fun w19 =>
                                                  (intK .i64 w19 fun y20 =>
                                                    (bif ((y20 : Int) == 6) then
                                                      (optK (cc4[3]?) fun w21 =>
                                                        (intK .i64 w21 fun y22 =>
                                                          (bif decide (0 + 6 ≤ cc13.length) then
                                                            (Tr.anyL [
                                                              (runK (evFn Cw d 29 [(AVal.agg ((cc13.drop 0).take 6)), (AVal.int .i64 y22)] h10) fun r23 h23 =>
                                                                (consK r23 fun w24 ws25 =>
                                                                  (aggK 6 w24 fun cc26 =>
                                                                    (nilK ws25
                                                                      (Tr.anyL [
                                                                        (bif ((cc26.length == 6) && true) then
                                                                          (sameL 2
                                                                            (bif decide ((l6.length + (1 : Nat)) * 64 ≤ 140737488355328) then
                                                                              (bif decide ((l7.length + (1 : Nat)) * 8 ≤ 140737488355328) then
                                                                                (bif (decide ((y22 : Int) ≥ x3)) then
                                                                                  (Tr.ret ([(AVal.agg [(AVal.sl true 7 []), (AVal.sl true 0 []), (AVal.int .i64 0)]), (AVal.bool false)], h23))
                                                                                else
                                                                                  (P24_1 d k f0 l1 m2 y22 l4 x5 (l6 ++ [(AVal.agg cc26)]) (l7 ++ [(AVal.int .i64 x3)]) x8 h23))
                                                                              else
                                                                                Tr.fail)
                                                                            else
                                                                              Tr.fail))
                                                                        else
                                                                          Tr.fail),
                                                                        (bif ((cc26.length == 6) && true) then
                                                                          (bif decide ((l6.length + (1 : Nat)) * 64 ≤ 140737488355328) then
                                                                            (bif decide ((l7.length + (1 : Nat)) * 8 ≤ 140737488355328) then
                                                                              (bif (decide ((y22 : Int) ≥ x3)) then
                                                                                (Tr.ret ([(AVal.agg [(AVal.sl true 7 []), (AVal.sl true 0 []), (AVal.int .i64 0)]), (AVal.bool false)], h23))
                                                                              else
                                                                                (P24_1 d k f0 l1 m2 y22 l4 x5 (l6 ++ [(AVal.agg cc26)]) (l7 ++ [(AVal.int .i64 x3)]) x8 h23))
                                                                            else
                                                                              Tr.fail)
                                                                          else
                                                                            Tr.fail)
                                                                        else
                                                                          Tr.fail)]))))),
                                                              (runK (evFn Cw d 29 [(AVal.agg ((cc13.drop 0).take 6)), (AVal.int .i64 y22)] h10) fun r23 h23 =>
                                                                (consK r23 fun w24 ws25 =>
                                                                  (aggK 6 w24 fun cc26 =>
                                                                    (nilK ws25
                                                                      (bif ((cc26.length == 6) && true) then
                                                                        (bif decide ((l6.length + (1 : Nat)) * 64 ≤ 140737488355328) then
                                                                          (bif decide ((l7.length + (1 : Nat)) * 8 ≤ 140737488355328) then
                                                                            (bif (decide ((y22 : Int) ≥ x3)) then
                                                                              (Tr.ret ([(AVal.agg [(AVal.sl true 7 []), (AVal.sl true 0 []), (AVal.int .i64 0)]), (AVal.bool false)], h23))
                                                                            else
                                                                              (P24_1 d k f0 l1 m2 y22 l4 x5 (l6 ++ [(AVal.agg cc26)]) (l7 ++ [(AVal.int .i64 x3)]) x8 h23))
                                                                          else
                                                                            Tr.fail)
                                                                        else
                                                                          Tr.fail)
                                                                      else
                                                                        Tr.fail)))))])
                                                          else
                                                            Tr.fail)))
                                                    else
                                                      (bif (decide ((y18 : Int) ≥ x3)) then
                                                        (Tr.ret ([(AVal.agg [(AVal.sl true 7 []), (AVal.sl true 0 []), (AVal.int .i64 0)]), (AVal.bool false)], h10))
                                                      else
                                                        (P24_1 d k f0 l1 m2 y18 l4 x5 l6 l7 x8 h10))))))))
                                        else
                                          Tr.fail)))))))))
                      else
                        (Tr.ret ([(AVal.agg [(AVal.sl true 7 []), (AVal.sl true 0 []), (AVal.int .i64 0)]), (AVal.bool false)], h)))
                    else
                      (bif ((y6 : Int) == 7) then
                        (optK (cc4[4]?) fun w27 =>
                          (slK 0 w27 fun fl28 es29 =>
                            (runK (evFn Cw d 10 [(AVal.sl fl28 0 es29)] h) fun r30 h30 =>
                              (consK r30 fun w31 ws32 =>
                                (aggK 6 w31 fun cc33 =>
                                  (consK ws32 fun w34 ws35 =>
                                    (intK .i64 w34 fun y36 =>
                                      (nilK ws35
                                        (bif ((cc33.length == 6) && true) then
                                          (bif ((y36 : Int) != 0) then
                                            (Tr.ret ([(AVal.agg [(AVal.sl true 7 []), (AVal.sl true 0 []), (AVal.int .i64 0)]), (AVal.bool false)], h30))
                                          else
                                            (optK (cc33[5]?) fun w37 =>
                                              (intK .i64 w37 fun y38 =>
                                                (optK (cc4[0]?) fun w39 =>
                                                  (intK .i64 w39 fun y40 =>
                                                    (bif ((y40 : Int) == 6) then
                                                      (optK (cc4[3]?) fun w41 =>
                                                        (intK .i64 w41 fun y42 =>
                                                          (bif decide (0 + 6 ≤ cc33.length) then
                                                            (Tr.anyL [
                                                              (runK (evFn Cw d 29 [(AVal.agg ((cc33.drop 0).take 6)), (AVal.int .i64 y42)] h30) fun r43 h43 =>
                                                                (consK r43 fun w44 ws45 =>
                                                                  (aggK 6 w44 fun cc46 =>
                                                                    (nilK ws45
                                                                      (Tr.anyL [
                                                                        (bif ((cc46.length == 6) && true) then
                                                                          (sameL 2
                                                                            (bif decide ((l6.length + (1 : Nat)) * 64 ≤ 140737488355328) then
                                                                              (bif decide ((l7.length + (1 : Nat)) * 8 ≤ 140737488355328) then
                                                                                (bif (decide ((y42 : Int) ≥ x3)) then
                                                                                  (Tr.ret ([(AVal.agg [(AVal.sl true 7 []), (AVal.sl true 0 []), (AVal.int .i64 0)]), (AVal.bool false)], h43))
                                                                                else
                                                                                  (P24_1 d k f0 l1 m2 y42 l4 x5 (l6 ++ [(AVal.agg cc46)]) (l7 ++ [(AVal.int .i64 x3)]) x8 h43))
                                                                              else
                                                                                Tr.fail)
                                                                            else
                                                                              Tr.fail))
                                                                        else
                                                                          Tr.fail),
                                                                        (bif ((cc46.length == 6) && true) then
                                                                          (bif decide ((l6.length + (1 : Nat)) * 64 ≤ 140737488355328) then
                                                                            (bif decide ((l7.length + (1 : Nat)) * 8 ≤ 140737488355328) then
                                                                              (bif (decide ((y42 : Int) ≥ x3)) then
                                                                                (Tr.ret ([(AVal.agg [(AVal.sl true 7 []), (AVal.sl true 0 []), (AVal.int .i64 0)]), (AVal.bool false)], h43))
                                                                              else
                                                                                (P24_1 d k f0 l1 m2 y42 l4 x5 (l6 ++ [(AVal.agg cc46)]) (l7 ++ [(AVal.int .i64 x3)]) x8 h43))
                                                                            else
                                                                              Tr.fail)
                                                                          else
                                                                            Tr.fail)
                                                                        else
                                                                          Tr.fail)]))))),
                                                              (runK (evFn Cw d 29 [(AVal.agg ((cc33.drop 0).take 6)), (AVal.int .i64 y42)] h30) fun r43 h43 =>
                                                                (consK r43 fun w44 ws45 =>
                                                                  (aggK 6 w44 fun cc46 =>
                                                                    (nilK ws45
                                                                      (bif ((cc46.length == 6) && true) then
                                                                        (bif decide ((l6.length + (1 : Nat)) * 64 ≤ 140737488355328) then
                                                                          (bif decide ((l7.length + (1 : Nat)) * 8 ≤ 140737488355328) then
                                                                            (bif (decide ((y42 : Int) ≥ x3)) then
                                                                              (Tr.ret ([(AVal.agg [(AVal.sl true 7 []), (AVal.sl true 0 []), (AVal.int .i64 0)]), (AVal.bool false)], h43))
                                                                            else
                                                                              (P24_1 d k f0 l1 m2 y42 l4 x5 (l6 ++ [(AVal.agg cc46)]) (l7 ++ [(AVal.int .i64 x3)]) x8 h43))
                                                                          else
                                                                            Tr.fail)
                                                                        else
                                                                          Tr.fail)
                                                                      else
                                                                        Tr.fail)))))])
                                                          else
                                                            Tr.fail)))
                                                    else
                                                      (bif (decide ((y38 : Int) ≥ x3)) then
                                                        (Tr.ret ([(AVal.agg [(AVal.sl true 7 []), (AVal.sl true 0 []), (AVal.int .i64 0)]), (AVal.bool false)], h30))
                                                      else
                                                        (P24_1 d k f0 l1 m2 y38 l4 x5 l6 l7 x8 h30))))))))
                                        else
                                          Tr.fail)))))))))
                      else
                        (Tr.ret ([(AVal.agg [(AVal.sl true 7 []), (AVal.sl true 0 []), (AVal.int .i64 0)]), (AVal.bool false)], h)))))))
            else
              Tr.fail))
        else
          Tr.fail)))) := by kernel_rfl
theorem F24_eq (d : Nat) (f0 : Bool) (l1 : List AVal) (x2 : Int) (h : Heap) : evFn Cw (d + 1) 24 [(AVal.sl f0 6 l1), (AVal.int .i64 x2)] h =
  (P24_0 d rounds f0 l1 x2 h.objs.length (l1.length : Int) 0 [] 0 (Heap.push h (Go.Weave.Obj.map 3 [] 0))) := by kernel_rfl
/- f13 strandline/undo.Plan -/
theorem F13_eq (d : Nat) (f0 : Bool) (l1 : List AVal) (x2 : Int) (h : Heap) : evFn Cw (d + 1) 13 [(AVal.sl f0 6 l1), (AVal.int .i64 x2)] h =
  (runK (evFn Cw d 24 [(AVal.sl f0 6 l1), (AVal.int .i64 x2)] h) fun r1 h1 =>
    (consK r1 fun w2 ws3 =>
      (aggK 3 w2 fun cc4 =>
        (consK ws3 fun w5 ws6 =>
          (boolK w5 fun bb7 =>
            (nilK ws6
              (bif ((cc4.length == 3) && true) then
                (bif (!bb7) then
                  (Tr.ret ([(AVal.sl true 0 []), (AVal.int .i64 12)], h1))
                else
                  (optK (cc4[0]?) fun w8 =>
                    (slK 7 w8 fun fl9 es10 =>
                      (Tr.ret ([(AVal.sl fl9 7 es10), (AVal.int .i64 0)], h1)))))
              else
                Tr.fail))))))) := by kernel_rfl
/- f15 strandline/undo.Begins -/
theorem F15_eq (d : Nat) (f0 : Bool) (l1 : List AVal) (x2 : Int) (h : Heap) : evFn Cw (d + 1) 15 [(AVal.sl f0 6 l1), (AVal.int .i64 x2)] h =
  (runK (evFn Cw d 24 [(AVal.sl f0 6 l1), (AVal.int .i64 x2)] h) fun r1 h1 =>
    (consK r1 fun w2 ws3 =>
      (aggK 3 w2 fun cc4 =>
        (consK ws3 fun w5 ws6 =>
          (boolK w5 fun bb7 =>
            (nilK ws6
              (bif ((cc4.length == 3) && true) then
                (optK (cc4[2]?) fun w8 =>
                  (intK .i64 w8 fun y9 =>
                    (Tr.ret ([(AVal.int .i64 y9)], h1))))
              else
                Tr.fail))))))) := by kernel_rfl
/- f12 strandline/strandlinelaw44.awake -/
theorem F12_eq (d : Nat) (h : Heap) : evFn Cw (d + 1) 12 [] h =
  (runK (evFn Cw d 11 [(AVal.agg [(AVal.str [97]), (AVal.bool false), (AVal.bool true), (AVal.str []), (AVal.str []), (AVal.int .i64 0)])] h) fun r1 h1 =>
    (consK r1 fun w2 ws3 =>
      (slOK 0 w2 fun es4 =>
        (nilK ws3
          (runK (evFn Cw d 13 [(AVal.sl true 6 [(AVal.agg [(AVal.int .i64 5), (AVal.int .i64 0), (AVal.int .i64 1), (AVal.int .i64 0), (AVal.sl true 0 [])]), (AVal.agg [(AVal.int .i64 6), (AVal.int .i64 0), (AVal.int .i64 2), (AVal.int .i64 1), (AVal.sl false 0 es4)])]), (AVal.int .i64 2)] h1) fun r5 h5 =>
            (consK r5 fun w6 ws7 =>
              (slK 7 w6 fun fl8 es9 =>
                (consK ws7 fun w10 ws11 =>
                  (intK .i64 w10 fun y12 =>
                    (nilK ws11
                      (bif ((y12 : Int) == 0) then
                        (bif (((es9.length : Int) : Int) == 1) then
                          (bif decide ((0 : Int) < (es9.length : Int)) then
                            (optK ((AVal.cells (es9.getD 0 AVal.undef))[1]?) fun w13 =>
                              (boolK w13 fun bb14 =>
                                (bif bb14 then
                                  (bif decide ((0 : Int) < (es9.length : Int)) then
                                    (optK ((AVal.cells (es9.getD 0 AVal.undef))[5]?) fun w15 =>
                                      (intK .i64 w15 fun y16 =>
                                        (bif ((y16 : Int) == 1) then
                                          (runK (evFn Cw d 15 [(AVal.sl true 6 [(AVal.agg [(AVal.int .i64 5), (AVal.int .i64 0), (AVal.int .i64 1), (AVal.int .i64 0), (AVal.sl true 0 [])]), (AVal.agg [(AVal.int .i64 6), (AVal.int .i64 0), (AVal.int .i64 2), (AVal.int .i64 1), (AVal.sl false 0 es4)])]), (AVal.int .i64 2)] h5) fun r17 h17 =>
                                            (consK r17 fun w18 ws19 =>
                                              (intK .i64 w18 fun y20 =>
                                                (nilK ws19
                                                  (Tr.ret ([(AVal.bool ((y20 : Int) == 1))], h17))))))
                                        else
                                          (Tr.ret ([(AVal.bool false)], h5)))))
                                  else
                                    Tr.fail)
                                else
                                  (Tr.ret ([(AVal.bool false)], h5)))))
                          else
                            Tr.fail)
                        else
                          (Tr.ret ([(AVal.bool false)], h5)))
                      else
                        (Tr.ret ([(AVal.bool false)], h5))))))))))))) := by kernel_rfl
/- f16 strandline/undo.Left -/
theorem F16_eq (d : Nat) (f0 : Bool) (l1 : List AVal) (x2 : Int) (h : Heap) : evFn Cw (d + 1) 16 [(AVal.sl f0 6 l1), (AVal.int .i64 x2)] h =
  (runK (evFn Cw d 24 [(AVal.sl f0 6 l1), (AVal.int .i64 x2)] h) fun r1 h1 =>
    (consK r1 fun w2 ws3 =>
      (aggK 3 w2 fun cc4 =>
        (consK ws3 fun w5 ws6 =>
          (boolK w5 fun bb7 =>
            (nilK ws6
              (bif ((cc4.length == 3) && true) then
                (optK (cc4[1]?) fun w8 =>
                  (slK 0 w8 fun fl9 es10 =>
                    (Tr.ret ([(AVal.sl fl9 0 es10)], h1))))
              else
                Tr.fail))))))) := by kernel_rfl
/- f25 strandline/strandlineref44.Find -/
noncomputable def P25_0 (d k : Nat) (f0 : Bool) (l1 : List AVal) (x2 : Int) (x3 : Int) (h : Heap) : Tr Res :=
  loopPt Cw d 25 [true, false, true, true] [] k ⟨[(0, (EV.one (SV.val (AVal.sl f0 6 l1)))), (1, (EV.one (SV.val (AVal.int .i64 x2)))), (5, (EV.one (SV.val (AVal.int .i64 x3))))], []⟩ h
theorem P25_0_eq (d k : Nat) (f0 : Bool) (l1 : List AVal) (x2 : Int) (x3 : Int) (h : Heap) : P25_0 d (k + 1) f0 l1 x2 x3 h =
  (bif (decide ((x3 : Int) < (l1.length : Int))) then
    (bif (decide ((0 : Int) ≤ x3) && decide ((x3 : Int) < (l1.length : Int))) then
      (optK ((AVal.cells (l1.getD (Int.toNat x3) AVal.undef))[2]?) fun w1 =>
        (intK .i64 w1 fun y2 =>
          (bif ((y2 : Int) == x2) then (Tr.ret ([(AVal.int .i64 x3)], h)) else (P25_0 d k f0 l1 x2 (IntKind.i64.wrap (x3 + 1)) h))))
    else
      Tr.fail)
  else
    (Tr.ret ([(AVal.int .i64 (-1))], h))) := by kernel_rfl
theorem F25_eq (d : Nat) (f0 : Bool) (l1 : List AVal) (x2 : Int) (h : Heap) : evFn Cw (d + 1) 25 [(AVal.sl f0 6 l1), (AVal.int .i64 x2)] h =
  (P25_0 d rounds f0 l1 x2 0 h) := by kernel_rfl
/- f17 strandline/strandlineref44.Plan -/
noncomputable def P17_0 (d : Nat) (f0 : Bool) (l1 : List AVal) (x2 : Int) (x3 : Int) (x4 : Int) (c5 : List AVal) (h : Heap) : Tr Res :=
  heldPt Cw d 17 [true, true, true, true, true, true, true, true] [] ⟨[(0, (EV.one (SV.val (AVal.sl f0 6 l1)))), (1, (EV.one (SV.val (AVal.int .i64 x2)))), (8, (EV.one (SV.val (AVal.int .i64 x3)))), (9, (EV.one (SV.loc 9 0))), (11, (EV.one (SV.val (AVal.int .i64 x4))))], [(9, (Box.plain c5))]⟩ h
theorem P17_0_eq (d : Nat) (f0 : Bool) (l1 : List AVal) (x2 : Int) (x3 : Int) (x4 : Int) (c5 : List AVal) (h : Heap) : P17_0 d f0 l1 x2 x3 x4 c5 h =
  (bif (decide ((x4 : Int) ≥ x2)) then
    (Tr.ret ([(AVal.sl true 0 []), (AVal.sl true 0 []), (AVal.int .i64 0), (AVal.bool false)], h))
  else
    (runK (evFn Cw d 17 [(AVal.sl f0 6 l1), (AVal.int .i64 x4)] h) fun r1 h1 =>
      (consK r1 fun w2 ws3 =>
        (slOK 7 w2 fun es4 =>
          (consK ws3 fun w5 ws6 =>
            (slOK 0 w5 fun es7 =>
              (consK ws6 fun w8 ws9 =>
                (intK .i64 w8 fun y10 =>
                  (consK ws9 fun w11 ws12 =>
                    (boolK w11 fun bb13 =>
                      (nilK ws12
                        (bif (!bb13) then
                          (Tr.ret ([(AVal.sl true 0 []), (AVal.sl true 0 []), (AVal.int .i64 0), (AVal.bool false)], h1))
                        else
                          (bif (decide ((0 : Int) ≤ x3) && decide ((x3 : Int) < (l1.length : Int))) then
                            (optK ((AVal.cells (l1.getD (Int.toNat x3) AVal.undef))[0]?) fun w14 =>
                              (intK .i64 w14 fun y15 =>
                                (bif ((y15 : Int) == 6) then
                                  (optK (c5[0]?) fun w16 =>
                                    (strK w16 fun ss17 =>
                                      (optK (c5[2]?) fun w18 =>
                                        (boolK w18 fun bb19 =>
                                          (optK (c5[1]?) fun w20 =>
                                            (boolK w20 fun bb21 =>
                                              (optK (c5[4]?) fun w22 =>
                                                (strK w22 fun ss23 =>
                                                  (optK (c5[3]?) fun w24 =>
                                                    (strK w24 fun ss25 =>
                                                      (bif decide (((1 : Nat) + es4.length) * 64 ≤ 140737488355328) then
                                                        (bif decide (((1 : Nat) + es7.length) * 8 ≤ 140737488355328) then
                                                          (Tr.ret ([(AVal.sl false 7 ([(AVal.agg [(AVal.str ss17), (AVal.bool bb19), (AVal.bool bb21), (AVal.str ss23), (AVal.str ss25), (AVal.int .i64 x4)])] ++ es4)), (AVal.sl false 0 ([(AVal.int .i64 x2)] ++ es7)), (AVal.int .i64 y10), (AVal.bool true)], h1))
                                                        else
                                                          Tr.fail)
                                                      else
                                                        Tr.fail)))))))))))
                                else
                                  (Tr.ret ([(AVal.sl false 7 es4), (AVal.sl false 0 es7), (AVal.int .i64 y10), (AVal.bool true)], h1)))))
                          else
                            Tr.fail))))))))))))) := (heldPt_eq _ _ _ _ _ _ _).trans (by kernel_rfl)
theorem F17_eq (d : Nat) (f0 : Bool) (l1 : List AVal) (x2 : Int) (h : Heap) : evFn Cw (d + 1) 17 [(AVal.sl f0 6 l1), (AVal.int .i64 x2)] h =
  (runK (evFn Cw d 25 [(AVal.sl f0 6 l1), (AVal.int .i64 x2)] h) fun r1 h1 =>
    (consK r1 fun w2 ws3 =>
      (intK .i64 w2 fun y4 =>
        (nilK ws3
          (bif (decide ((y4 : Int) < 0)) then
            (Tr.ret ([(AVal.sl true 0 []), (AVal.sl true 0 []), (AVal.int .i64 0), (AVal.bool false)], h1))
          else
            (bif (decide ((0 : Int) ≤ y4) && decide ((y4 : Int) < (l1.length : Int))) then
              (optK ((AVal.cells (l1.getD (Int.toNat y4) AVal.undef))[0]?) fun w5 =>
                (intK .i64 w5 fun y6 =>
                  (bif ((y6 : Int) == 5) then
                    (Tr.ret ([(AVal.sl true 0 []), (AVal.sl true 0 []), (AVal.int .i64 x2), (AVal.bool true)], h1))
                  else
                    (bif (decide ((0 : Int) ≤ y4) && decide ((y4 : Int) < (l1.length : Int))) then
                      (optK ((AVal.cells (l1.getD (Int.toNat y4) AVal.undef))[4]?) fun w7 =>
                        (slK 0 w7 fun fl8 es9 =>
                          (runK (evFn Cw d 26 [(AVal.sl fl8 0 es9)] h1) fun r10 h10 =>
                            (consK r10 fun w11 ws12 =>
                              (aggK 6 w11 fun cc13 =>
                                (consK ws12 fun w14 ws15 =>
                                  (intK .i64 w14 fun y16 =>
                                    (nilK ws15
                                      (bif ((cc13.length == 6) && true) then
                                        (bif ((y16 : Int) != 0) then
                                          (Tr.ret ([(AVal.sl true 0 []), (AVal.sl true 0 []), (AVal.int .i64 0), (AVal.bool false)], h10))
                                        else
                                          (bif (decide ((0 : Int) ≤ y4) && decide ((y4 : Int) < (l1.length : Int))) then
                                            (optK ((AVal.cells (l1.getD (Int.toNat y4) AVal.undef))[0]?) fun w17 =>
                                              (intK .i64 w17 fun y18 =>
                                                (bif ((y18 : Int) != 6) then
                                                  (bif (decide ((0 : Int) ≤ y4) && decide ((y4 : Int) < (l1.length : Int))) then
                                                    (optK ((AVal.cells (l1.getD (Int.toNat y4) AVal.undef))[0]?) fun w19 =>
                                                      (intK .i64 w19 fun y20 =>
                                                        (bif ((y20 : Int) != 7) then
                                                          (Tr.ret ([(AVal.sl true 0 []), (AVal.sl true 0 []), (AVal.int .i64 0), (AVal.bool false)], h10))
                                                        else
                                                          (optK (cc13[5]?) fun w21 =>
                                                            (intK .i64 w21 fun y22 =>
                                                              (bif (decide ((0 : Int) ≤ y4) && decide ((y4 : Int) < (l1.length : Int))) then
                                                                (optK ((AVal.cells (l1.getD (Int.toNat y4) AVal.undef))[0]?) fun w23 =>
                                                                  (intK .i64 w23 fun y24 =>
                                                                    (bif ((y24 : Int) == 6) then
                                                                      (bif (decide ((0 : Int) ≤ y4) && decide ((y4 : Int) < (l1.length : Int))) then
                                                                        (optK ((AVal.cells (l1.getD (Int.toNat y4) AVal.undef))[3]?) fun w25 =>
                                                                          (intK .i64 w25 fun y26 =>
                                                                            (P17_0 d f0 l1 x2 y4 y26 cc13 h10)))
                                                                      else
                                                                        Tr.fail)
                                                                    else
                                                                      (P17_0 d f0 l1 x2 y4 y22 cc13 h10))))
                                                              else
                                                                Tr.fail))))))
                                                  else
                                                    Tr.fail)
                                                else
                                                  (optK (cc13[5]?) fun w27 =>
                                                    (intK .i64 w27 fun y28 =>
                                                      (bif (decide ((0 : Int) ≤ y4) && decide ((y4 : Int) < (l1.length : Int))) then
                                                        (optK ((AVal.cells (l1.getD (Int.toNat y4) AVal.undef))[0]?) fun w29 =>
                                                          (intK .i64 w29 fun y30 =>
                                                            (bif ((y30 : Int) == 6) then
                                                              (bif (decide ((0 : Int) ≤ y4) && decide ((y4 : Int) < (l1.length : Int))) then
                                                                (optK ((AVal.cells (l1.getD (Int.toNat y4) AVal.undef))[3]?) fun w31 =>
                                                                  (intK .i64 w31 fun y32 =>
                                                                    (P17_0 d f0 l1 x2 y4 y32 cc13 h10)))
                                                              else
                                                                Tr.fail)
                                                            else
                                                              (P17_0 d f0 l1 x2 y4 y28 cc13 h10))))
                                                      else
                                                        Tr.fail))))))
                                          else
                                            Tr.fail))
                                      else
                                        Tr.fail)))))))))
                    else
                      Tr.fail))))
            else
              Tr.fail)))))) := by kernel_rfl
/- f14 strandline/strandlinelaw44.same -/
noncomputable def P14_0 (d k : Nat) (f0 : Bool) (l1 : List AVal) (f2 : Bool) (l3 : List AVal) (x4 : Int) (h : Heap) : Tr Res :=
  loopPt Cw d 14 [true, true, false, true, true] [] k ⟨[(0, (EV.one (SV.val (AVal.sl f0 7 l1)))), (1, (EV.one (SV.val (AVal.sl f2 7 l3)))), (5, (EV.one (SV.val (AVal.int .i64 x4))))], []⟩ h
theorem P14_0_eq (d k : Nat) (f0 : Bool) (l1 : List AVal) (f2 : Bool) (l3 : List AVal) (x4 : Int) (h : Heap) : P14_0 d (k + 1) f0 l1 f2 l3 x4 h =
  (bif (decide ((x4 : Int) < (l1.length : Int))) then
    (bif (decide ((0 : Int) ≤ x4) && decide ((x4 : Int) < (l1.length : Int))) then
      (aggK 6 (l1.getD (Int.toNat x4) AVal.undef) fun cc1 =>
        (bif (decide ((0 : Int) ≤ x4) && decide ((x4 : Int) < (l3.length : Int))) then
          (aggK 6 (l3.getD (Int.toNat x4) AVal.undef) fun cc2 =>
            (bif ((plainOk Cw.P 23 (AVal.agg cc1)) && (plainOk Cw.P 23 (AVal.agg cc2))) then
              (bif (!(eqCells cc1 cc2)) then (Tr.ret ([(AVal.bool false)], h)) else (P14_0 d k f0 l1 f2 l3 (IntKind.i64.wrap (x4 + 1)) h))
            else
              Tr.fail))
        else
          Tr.fail))
    else
      Tr.fail)
  else
    (Tr.ret ([(AVal.bool true)], h))) := by kernel_rfl
theorem F14_eq (d : Nat) (f0 : Bool) (l1 : List AVal) (f2 : Bool) (l3 : List AVal) (h : Heap) : evFn Cw (d + 1) 14 [(AVal.sl f0 7 l1), (AVal.sl f2 7 l3)] h =
  (bif (((l1.length : Int) : Int) != (l3.length : Int)) then (Tr.ret ([(AVal.bool false)], h)) else (P14_0 d rounds f0 l1 f2 l3 0 h)) := by kernel_rfl
/- f5 strandline/strandlinelaw44.UndoPlans -/
noncomputable def P5_0 (d k : Nat) (f0 : Bool) (l1 : List AVal) (l2 : List AVal) (x3 : Int) (h : Heap) : Tr Res :=
  loopPt Cw d 5 [true, true, true, true, true, true, false, true, true] [] k ⟨[(7, (EV.one (SV.val (AVal.sl f0 0 l1)))), (9, (EV.one (SV.own (tokOf 9 0) 0 l2))), (12, (EV.one (SV.val (AVal.int .i64 x3))))], []⟩ h
theorem P5_0_eq (d k : Nat) (f0 : Bool) (l1 : List AVal) (l2 : List AVal) (x3 : Int) (h : Heap) : P5_0 d (k + 1) f0 l1 l2 x3 h =
  (bif (decide ((x3 : Int) < (l2.length : Int))) then
    (bif (decide ((0 : Int) ≤ x3) && decide ((x3 : Int) < (l1.length : Int))) then
      (intK .i64 (l1.getD (Int.toNat x3) AVal.undef) fun y1 =>
        (bif (decide ((0 : Int) ≤ x3) && decide ((x3 : Int) < (l2.length : Int))) then
          (intK .i64 (l2.getD (Int.toNat x3) AVal.undef) fun y2 =>
            (bif ((y1 : Int) != y2) then (Tr.ret ([(AVal.bool false)], h)) else (P5_0 d k f0 l1 l2 (IntKind.i64.wrap (x3 + 1)) h)))
        else
          Tr.fail))
    else
      Tr.fail)
  else
    (runK (evFn Cw d 12 [] h) fun r3 h3 =>
      (consK r3 fun w4 ws5 =>
        (boolK w4 fun bb6 =>
          (nilK ws5
            (Tr.ret ([(AVal.bool bb6)], h3))))))) := by kernel_rfl
theorem F5_eq (d : Nat) (f0 : Bool) (l1 : List AVal) (x2 : Int) (h : Heap) : evFn Cw (d + 1) 5 [(AVal.sl f0 6 l1), (AVal.int .i64 x2)] h =
  (bif (decide (((l1.length : Int) : Int) > 200)) then
    (runK (evFn Cw d 12 [] h) fun r1 h1 =>
      (consK r1 fun w2 ws3 =>
        (boolK w2 fun bb4 =>
          (nilK ws3
            (Tr.ret ([(AVal.bool bb4)], h1))))))
  else
    (runK (evFn Cw d 13 [(AVal.sl f0 6 l1), (AVal.int .i64 x2)] h) fun r5 h5 =>
      (consK r5 fun w6 ws7 =>
        (slK 7 w6 fun fl8 es9 =>
          (consK ws7 fun w10 ws11 =>
            (intK .i64 w10 fun y12 =>
              (nilK ws11
                (runK (evFn Cw d 16 [(AVal.sl f0 6 l1), (AVal.int .i64 x2)] h5) fun r13 h13 =>
                  (consK r13 fun w14 ws15 =>
                    (slK 0 w14 fun fl16 es17 =>
                      (nilK ws15
                        (runK (evFn Cw d 17 [(AVal.sl f0 6 l1), (AVal.int .i64 x2)] h13) fun r18 h18 =>
                          (consK r18 fun w19 ws20 =>
                            (slOK 7 w19 fun es21 =>
                              (consK ws20 fun w22 ws23 =>
                                (slOK 0 w22 fun es24 =>
                                  (consK ws23 fun w25 ws26 =>
                                    (intK .i64 w25 fun y27 =>
                                      (consK ws26 fun w28 ws29 =>
                                        (boolK w28 fun bb30 =>
                                          (nilK ws29
                                            (runK (evFn Cw d 14 [(AVal.sl fl8 7 es9), (AVal.sl false 7 es21)] h18) fun r31 h31 =>
                                              (consK r31 fun w32 ws33 =>
                                                (boolK w32 fun bb34 =>
                                                  (nilK ws33
                                                    (bif (!bb34) then
                                                      (Tr.ret ([(AVal.bool false)], h31))
                                                    else
                                                      (bif (!(((y12 : Int) == 0) == bb30)) then
                                                        (Tr.ret ([(AVal.bool false)], h31))
                                                      else
                                                        (bif (!bb30) then
                                                          (bif ((y12 : Int) != 12) then
                                                            (Tr.ret ([(AVal.bool false)], h31))
                                                          else
                                                            (runK (evFn Cw d 15 [(AVal.sl f0 6 l1), (AVal.int .i64 x2)] h31) fun r35 h35 =>
                                                              (consK r35 fun w36 ws37 =>
                                                                (intK .i64 w36 fun y38 =>
                                                                  (nilK ws37
                                                                    (bif ((y38 : Int) != y27) then
                                                                      (Tr.ret ([(AVal.bool false)], h35))
                                                                    else
                                                                      (bif (((es17.length : Int) : Int) != (es24.length : Int)) then (Tr.ret ([(AVal.bool false)], h35)) else (P5_0 d rounds fl16 es17 es24 0 h35))))))))
                                                        else
                                                          (runK (evFn Cw d 15 [(AVal.sl f0 6 l1), (AVal.int .i64 x2)] h31) fun r39 h39 =>
                                                            (consK r39 fun w40 ws41 =>
                                                              (intK .i64 w40 fun y42 =>
                                                                (nilK ws41
                                                                  (bif ((y42 : Int) != y27) then
                                                                    (Tr.ret ([(AVal.bool false)], h39))
                                                                  else
                                                                    (bif (((es17.length : Int) : Int) != (es24.length : Int)) then (Tr.ret ([(AVal.bool false)], h39)) else (P5_0 d rounds fl16 es17 es24 0 h39))))))))))))))))))))))))))))))))))) := by kernel_rfl
/- f4 strandline/strandlinelaw44.UndoGoes -/
noncomputable def P4_0 (d k : Nat) (f0 : Bool) (l1 : List AVal) (x2 : Int) (x3 : Int) (x4 : Int) (x5 : Int) (h : Heap) : Tr Res :=
  loopPt Cw d 4 [true, true, false, true, true] [] k ⟨[(0, (EV.one (SV.val (AVal.sl f0 6 l1)))), (1, (EV.one (SV.val (AVal.int .i64 x2)))), (2, (EV.one (SV.val (AVal.int .i64 x3)))), (7, (EV.one (SV.val (AVal.int .i64 x4)))), (8, (EV.one (SV.val (AVal.int .i64 x5))))], []⟩ h
noncomputable def P4_1 (d k : Nat) (f0 : Bool) (l1 : List AVal) (x2 : Int) (x3 : Int) (x4 : Int) (f5 : Bool) (l6 : List AVal) (l7 : List AVal) (x8 : Int) (h : Heap) : Tr Res :=
  loopPt Cw d 4 [true, true, true, true, true, true, true, false, true, true] [] k ⟨[(0, (EV.one (SV.val (AVal.sl f0 6 l1)))), (1, (EV.one (SV.val (AVal.int .i64 x2)))), (2, (EV.one (SV.val (AVal.int .i64 x3)))), (7, (EV.one (SV.val (AVal.int .i64 x4)))), (9, (EV.one (SV.val (AVal.sl f5 7 l6)))), (11, (EV.one (SV.own (tokOf 11 0) 6 l7))), (12, (EV.one (SV.val (AVal.int .i64 x8))))], []⟩ h
theorem P4_0_eq (d k : Nat) (f0 : Bool) (l1 : List AVal) (x2 : Int) (x3 : Int) (x4 : Int) (x5 : Int) (h : Heap) : P4_0 d (k + 1) f0 l1 x2 x3 x4 x5 h =
  (bif (decide ((x5 : Int) < (l1.length : Int))) then
    (bif (decide ((0 : Int) ≤ x5) && decide ((x5 : Int) < (l1.length : Int))) then
      (optK ((AVal.cells (l1.getD (Int.toNat x5) AVal.undef))[2]?) fun w1 =>
        (intK .i64 w1 fun y2 =>
          (bif (decide ((y2 : Int) ≤ x4)) then
            (runK (evFn Cw d 12 [] h) fun r3 h3 =>
              (consK r3 fun w4 ws5 =>
                (boolK w4 fun bb6 =>
                  (nilK ws5
                    (Tr.ret ([(AVal.bool bb6)], h3))))))
          else
            (bif (decide ((0 : Int) ≤ x5) && decide ((x5 : Int) < (l1.length : Int))) then
              (optK ((AVal.cells (l1.getD (Int.toNat x5) AVal.undef))[2]?) fun w7 =>
                (intK .i64 w7 fun y8 =>
                  (bif (decide ((y8 : Int) > 1048576)) then
                    (runK (evFn Cw d 12 [] h) fun r9 h9 =>
                      (consK r9 fun w10 ws11 =>
                        (boolK w10 fun bb12 =>
                          (nilK ws11
                            (Tr.ret ([(AVal.bool bb12)], h9))))))
                  else
                    (bif (decide ((0 : Int) ≤ x5) && decide ((x5 : Int) < (l1.length : Int))) then
                      (optK ((AVal.cells (l1.getD (Int.toNat x5) AVal.undef))[2]?) fun w13 =>
                        (intK .i64 w13 fun y14 =>
                          (P4_0 d k f0 l1 x2 x3 y14 (IntKind.i64.wrap (x5 + 1)) h)))
                    else
                      Tr.fail))))
            else
              Tr.fail))))
    else
      Tr.fail)
  else
    (runK (evFn Cw d 13 [(AVal.sl f0 6 l1), (AVal.int .i64 x2)] h) fun r15 h15 =>
      (consK r15 fun w16 ws17 =>
        (slK 7 w16 fun fl18 es19 =>
          (consK ws17 fun w20 ws21 =>
            (intK .i64 w20 fun y22 =>
              (nilK ws21
                (bif (decide (((l1.length : Int) : Int) > 200)) then
                  (runK (evFn Cw d 12 [] h15) fun r23 h23 =>
                    (consK r23 fun w24 ws25 =>
                      (boolK w24 fun bb26 =>
                        (nilK ws25
                          (Tr.ret ([(AVal.bool bb26)], h23))))))
                else
                  (bif ((y22 : Int) != 0) then
                    (runK (evFn Cw d 12 [] h15) fun r27 h27 =>
                      (consK r27 fun w28 ws29 =>
                        (boolK w28 fun bb30 =>
                          (nilK ws29
                            (Tr.ret ([(AVal.bool bb30)], h27))))))
                  else
                    (bif (((es19.length : Int) : Int) == 0) then
                      (runK (evFn Cw d 12 [] h15) fun r31 h31 =>
                        (consK r31 fun w32 ws33 =>
                          (boolK w32 fun bb34 =>
                            (nilK ws33
                              (Tr.ret ([(AVal.bool bb34)], h31))))))
                    else
                      (bif decide ((IntKind.u64.wrap (es19.length : Int)) = 0) then
                        Tr.fail
                      else
                        (bif decide (((0 : Nat) + l1.length) * 56 ≤ 140737488355328) then
                          (P4_1 d rounds f0 l1 x2 (IntKind.i64.wrap (1 + (IntKind.i64.wrap (Int.tmod (IntKind.u64.wrap x3) (IntKind.u64.wrap (es19.length : Int)))))) x4 fl18 es19 ([] ++ l1) 0 h15)
                        else
                          Tr.fail)))))))))))) := by kernel_rfl
theorem P4_1_eq (d k : Nat) (f0 : Bool) (l1 : List AVal) (x2 : Int) (x3 : Int) (x4 : Int) (f5 : Bool) (l6 : List AVal) (l7 : List AVal) (x8 : Int) (h : Heap) : P4_1 d (k + 1) f0 l1 x2 x3 x4 f5 l6 l7 x8 h =
  (bif (decide ((x8 : Int) < x3)) then
    (bif (decide ((0 : Int) ≤ x8) && decide ((x8 : Int) < (l6.length : Int))) then
      (aggK 6 (l6.getD (Int.toNat x8) AVal.undef) fun cc1 =>
        (runK (evFn Cw d 8 [(AVal.agg cc1)] h) fun r2 h2 =>
          (consK r2 fun w3 ws4 =>
            (boolK w3 fun bb5 =>
              (nilK ws4
                (bif (!bb5) then
                  (Tr.ret ([(AVal.bool false)], h2))
                else
                  (bif (decide ((0 : Int) ≤ x8) && decide ((x8 : Int) < (l6.length : Int))) then
                    (aggK 6 (l6.getD (Int.toNat x8) AVal.undef) fun cc6 =>
                      (runK (evFn Cw d 11 [(AVal.agg cc6)] h2) fun r7 h7 =>
                        (consK r7 fun w8 ws9 =>
                          (slOK 0 w8 fun es10 =>
                            (nilK ws9
                              (bif decide ((l7.length + (1 : Nat)) * 56 ≤ 140737488355328) then
                                (P4_1 d k f0 l1 x2 x3 x4 f5 l6 (l7 ++ [(AVal.agg [(AVal.int .i64 7), (AVal.int .i64 0), (AVal.int .i64 (IntKind.i64.wrap ((IntKind.i64.wrap (x4 + 1)) + x8))), (AVal.int .i64 0), (AVal.sl false 0 es10)])]) (IntKind.i64.wrap (x8 + 1)) h7)
                              else
                                Tr.fail))))))
                  else
                    Tr.fail)))))))
    else
      Tr.fail)
  else
    (runK (evFn Cw d 13 [(AVal.sl false 6 l7), (AVal.int .i64 (IntKind.i64.wrap (x4 + x3)))] h) fun r11 h11 =>
      (consK r11 fun w12 ws13 =>
        (slK 7 w12 fun fl14 es15 =>
          (consK ws13 fun w16 ws17 =>
            (intK .i64 w16 fun y18 =>
              (nilK ws17
                (bif ((y18 : Int) == 0) then
                  (bif ((decide ((0 : Int) ≤ x3) && decide ((x3 : Int) ≤ (l6.length : Int))) && decide (((l6.length : Int) : Int) ≤ (l6.length : Int))) then
                    (runK (evFn Cw d 14 [(AVal.sl fl14 7 es15), (AVal.sl f5 7 (Go.Weave.part x3 (l6.length : Int) l6))] h11) fun r19 h19 =>
                      (consK r19 fun w20 ws21 =>
                        (boolK w20 fun bb22 =>
                          (nilK ws21
                            (bif bb22 then
                              (runK (evFn Cw d 15 [(AVal.sl false 6 l7), (AVal.int .i64 (IntKind.i64.wrap (x4 + x3)))] h19) fun r23 h23 =>
                                (consK r23 fun w24 ws25 =>
                                  (intK .i64 w24 fun y26 =>
                                    (nilK ws25
                                      (runK (evFn Cw d 15 [(AVal.sl f0 6 l1), (AVal.int .i64 x2)] h23) fun r27 h27 =>
                                        (consK r27 fun w28 ws29 =>
                                          (intK .i64 w28 fun y30 =>
                                            (nilK ws29
                                              (bif ((y26 : Int) == y30) then
                                                (runK (evFn Cw d 12 [] h27) fun r31 h31 =>
                                                  (consK r31 fun w32 ws33 =>
                                                    (boolK w32 fun bb34 =>
                                                      (nilK ws33
                                                        (Tr.ret ([(AVal.bool bb34)], h31))))))
                                              else
                                                (Tr.ret ([(AVal.bool false)], h27)))))))))))
                            else
                              (Tr.ret ([(AVal.bool false)], h19)))))))
                  else
                    Tr.fail)
                else
                  (Tr.ret ([(AVal.bool false)], h11)))))))))) := by kernel_rfl
theorem F4_eq (d : Nat) (f0 : Bool) (l1 : List AVal) (x2 : Int) (x3 : Int) (h : Heap) : evFn Cw (d + 1) 4 [(AVal.sl f0 6 l1), (AVal.int .i64 x2), (AVal.int .i64 x3)] h =
  (P4_0 d rounds f0 l1 x2 x3 0 0 h) := by kernel_rfl
end Go.Proofs.Ytkpjkaikeeldfaa.Wa
