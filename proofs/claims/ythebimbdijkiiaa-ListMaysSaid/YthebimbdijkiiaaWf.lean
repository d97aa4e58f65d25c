/- What the evaluator comes to in these functions. -/
import Derived.Test.YthebimbdijkiiaaW0
import Derived.Test.YthebimbdijkiiaaWvLb
import Derived.KernelRfl
namespace Go.Proofs.Ythebimbdijkiiaa.Wa
open Go Go.Weave
set_option maxRecDepth 100000
set_option linter.unusedVariables false
/- f58 strandline/list.Follow -/
noncomputable def P58_0 (d k : Nat) (x0 : Int) (f1 : Bool) (l2 : List AVal) (x3 : Int) (x4 : Int) (c5 : List AVal) (h : Heap) : Tr Res :=
  loopPt Cw d 58 [true, false, true, true] [] k ⟨[(1, (EV.one (SV.val (AVal.int .i64 x0)))), (5, (EV.one (SV.loc 5 0))), (9, (EV.one (SV.val (AVal.sl f1 6 l2)))), (10, (EV.one (SV.val (AVal.int .i64 x3)))), (11, (EV.one (SV.val (AVal.int .i64 x4))))], [(5, (Box.plain c5))]⟩ h
theorem P58_0_eq (d k : Nat) (x0 : Int) (f1 : Bool) (l2 : List AVal) (x3 : Int) (x4 : Int) (c5 : List AVal) (h : Heap) : P58_0 d (k + 1) x0 f1 l2 x3 x4 c5 h =
  (bif (decide ((x4 : Int) < x3)) then
    (bif (decide ((0 : Int) ≤ x4) && decide ((x4 : Int) < (l2.length : Int))) then
      (aggK 5 (l2.getD (Int.toNat x4) AVal.undef) fun cc1 =>
        (bif ((cc1.length == 5) && true) then
          (bif decide (0 + 5 ≤ cc1.length) then
            (runK (evFn Cw d 71 [(AVal.agg ((cc1.drop 0).take 5))] h) fun r2 h2 =>
              (consK r2 fun w3 ws4 =>
                (boolK w3 fun bb5 =>
                  (nilK ws4
                    (bif (!bb5) then
                      (Tr.ret ([(AVal.bool false)], h2))
                    else
                      (optK (cc1[2]?) fun w6 =>
                        (intK .i64 w6 fun y7 =>
                          (bif (((IntKind.i64.wrap (y7 - x4)) : Int) != x0) then
                            (Tr.ret ([(AVal.bool false)], h2))
                          else
                            (optK (cc1[3]?) fun w8 =>
                              (intK .i64 w8 fun y9 =>
                                (optK (cc1[1]?) fun w10 =>
                                  (intK .i64 w10 fun y11 =>
                                    (bif (decide ((0 : Int) ≤ y11) && decide ((y11 : Int) < 4)) then
                                      (optK (c5[(0 + ((Int.toNat y11) * 1))]?) fun w12 =>
                                        (intK .i64 w12 fun y13 =>
                                          (bif ((y9 : Int) != y13) then
                                            (Tr.ret ([(AVal.bool false)], h2))
                                          else
                                            (optK (cc1[1]?) fun w14 =>
                                              (intK .i64 w14 fun y15 =>
                                                (optK (cc1[2]?) fun w16 =>
                                                  (intK .i64 w16 fun y17 =>
                                                    (bif (decide ((0 : Int) ≤ y15) && decide ((y15 : Int) < 4)) then
                                                      (bif decide ((0 + ((Int.toNat y15) * 1)) + 1 ≤ c5.length) then
                                                        (P58_0 d k x0 f1 l2 x3 (IntKind.i64.wrap (x4 + 1)) (c5.set (0 + ((Int.toNat y15) * 1)) (AVal.int .i64 y17)) h2)
                                                      else
                                                        Tr.fail)
                                                    else
                                                      Tr.fail))))))))
                                    else
                                      Tr.fail)))))))))))))
          else
            Tr.fail)
        else
          Tr.fail))
    else
      Tr.fail)
  else
    (Tr.ret ([(AVal.bool true)], h))) := by kernel_rfl
theorem F58_eq (d : Nat) (f0 : Bool) (l1 : List AVal) (x2 : Int) (x3 : Int) (x4 : Int) (x5 : Int) (x6 : Int) (h : Heap) : evFn Cw (d + 1) 58 [(AVal.sl f0 6 l1), (AVal.int .i64 x2), (AVal.agg [(AVal.int .i64 x3), (AVal.int .i64 x4), (AVal.int .i64 x5), (AVal.int .i64 x6)])] h =
  (P58_0 d rounds x2 f0 l1 (l1.length : Int) 0 [(AVal.int .i64 x3), (AVal.int .i64 x4), (AVal.int .i64 x5), (AVal.int .i64 x6)] h) := by kernel_rfl
/- f60 strandline/list.Heads -/
noncomputable def P60_0 (d k : Nat) (f0 : Bool) (l1 : List AVal) (x2 : Int) (x3 : Int) (c4 : List AVal) (x5 : Int) (x6 : Int) (x7 : Int) (x8 : Int) (h : Heap) : Tr Res :=
  loopPt Cw d 60 [true, false, true, true] [] k ⟨[(3, (EV.one (SV.loc 3 0))), (4, (EV.one (SV.loc 4 0))), (7, (EV.one (SV.val (AVal.sl f0 6 l1)))), (8, (EV.one (SV.val (AVal.int .i64 x2)))), (9, (EV.one (SV.val (AVal.int .i64 x3))))], [(3, (Box.plain c4)), (4, (Box.plain [(AVal.int .i64 x5), (AVal.int .i64 x6), (AVal.int .i64 x7), (AVal.int .i64 x8)]))]⟩ h
theorem P60_0_eq (d k : Nat) (f0 : Bool) (l1 : List AVal) (x2 : Int) (x3 : Int) (c4 : List AVal) (x5 : Int) (x6 : Int) (x7 : Int) (x8 : Int) (h : Heap) : P60_0 d (k + 1) f0 l1 x2 x3 c4 x5 x6 x7 x8 h =
  (bif (decide ((x3 : Int) < x2)) then
    (bif (decide ((0 : Int) ≤ x3) && decide ((x3 : Int) < (l1.length : Int))) then
      (aggK 5 (l1.getD (Int.toNat x3) AVal.undef) fun cc1 =>
        (bif ((cc1.length == 5) && true) then
          (optK (cc1[1]?) fun w2 =>
            (intK .i64 w2 fun y3 =>
              (bif (decide ((y3 : Int) ≥ 0)) then
                (optK (cc1[1]?) fun w4 =>
                  (intK .i64 w4 fun y5 =>
                    (bif (decide ((y5 : Int) < 4)) then
                      (optK (cc1[1]?) fun w6 =>
                        (intK .i64 w6 fun y7 =>
                          (optK (cc1[2]?) fun w8 =>
                            (intK .i64 w8 fun y9 =>
                              (bif (decide ((0 : Int) ≤ y7) && decide ((y7 : Int) < 4)) then
                                (bif decide ((0 + ((Int.toNat y7) * 1)) + 1 ≤ c4.length) then
                                  (P60_0 d k f0 l1 x2 (IntKind.i64.wrap (x3 + 1)) (c4.set (0 + ((Int.toNat y7) * 1)) (AVal.int .i64 y9)) x5 x6 x7 x8 h)
                                else
                                  Tr.fail)
                              else
                                Tr.fail)))))
                    else
                      (P60_0 d k f0 l1 x2 (IntKind.i64.wrap (x3 + 1)) c4 x5 x6 x7 x8 h))))
              else
                (P60_0 d k f0 l1 x2 (IntKind.i64.wrap (x3 + 1)) c4 x5 x6 x7 x8 h))))
        else
          Tr.fail))
    else
      Tr.fail)
  else
    (bif decide (0 + 4 ≤ c4.length) then
      (bif ((((c4.drop 0).take 4).length == 4) && true) then
        (bif decide (0 + 4 ≤ ((c4.drop 0).take 4).length) then (Tr.ret ([(AVal.agg ((((c4.drop 0).take 4).drop 0).take 4))], h)) else Tr.fail)
      else
        Tr.fail)
    else
      Tr.fail)) := by kernel_rfl
theorem F60_eq (d : Nat) (f0 : Bool) (l1 : List AVal) (x2 : Int) (x3 : Int) (x4 : Int) (x5 : Int) (h : Heap) : evFn Cw (d + 1) 60 [(AVal.sl f0 6 l1), (AVal.agg [(AVal.int .i64 x2), (AVal.int .i64 x3), (AVal.int .i64 x4), (AVal.int .i64 x5)])] h =
  (P60_0 d rounds f0 l1 (l1.length : Int) 0 [(AVal.int .i64 x2), (AVal.int .i64 x3), (AVal.int .i64 x4), (AVal.int .i64 x5)] 0 0 0 0 h) := by kernel_rfl
/- f56 strandline/list.Chain -/
noncomputable def P56_0 (d k : Nat) (f0 : Bool) (l1 : List AVal) (x2 : Int) (m3 : Nat) (x4 : Int) (x5 : Int) (h : Heap) : Tr Res :=
  loopPt Cw d 56 [true, true, false, true, true] [] k ⟨[(0, (EV.one (SV.val (AVal.sl f0 6 l1)))), (1, (EV.one (SV.val (AVal.int .i64 x2)))), (5, (EV.one (SV.val (AVal.map m3)))), (13, (EV.one (SV.val (AVal.int .i64 x4)))), (14, (EV.one (SV.val (AVal.int .i64 x5))))], []⟩ h
noncomputable def P56_1 (d k : Nat) (x0 : Int) (m1 : Nat) (l2 : List AVal) (h : Heap) : Tr Res :=
  loopPt Cw d 56 [true, true, true, true, true] [] k ⟨[(1, (EV.one (SV.val (AVal.int .i64 x0)))), (5, (EV.one (SV.val (AVal.map m1)))), (8, (EV.one (SV.own (tokOf 8 0) 0 l2)))], []⟩ h
theorem P56_0_eq (d k : Nat) (f0 : Bool) (l1 : List AVal) (x2 : Int) (m3 : Nat) (x4 : Int) (x5 : Int) (h : Heap) : P56_0 d (k + 1) f0 l1 x2 m3 x4 x5 h =
  (bif (decide ((x5 : Int) < x4)) then
    (bif (decide ((0 : Int) ≤ (IntKind.i64.wrap ((IntKind.i64.wrap ((l1.length : Int) - 1)) - x5))) && decide (((IntKind.i64.wrap ((IntKind.i64.wrap ((l1.length : Int) - 1)) - x5)) : Int) < (l1.length : Int))) then
      (aggK 5 (l1.getD (Int.toNat (IntKind.i64.wrap ((IntKind.i64.wrap ((l1.length : Int) - 1)) - x5))) AVal.undef) fun cc1 =>
        (bif ((cc1.length == 5) && true) then
          (optK (cc1[2]?) fun w2 =>
            (intK .i64 w2 fun y3 =>
              (optK (cc1[3]?) fun w4 =>
                (intK .i64 w4 fun y5 =>
                  (updK 3 (AVal.map m3) (AVal.int .i64 y3) (AVal.int .i64 y5) h fun h6 =>
                    (P56_0 d k f0 l1 x2 m3 x4 (IntKind.i64.wrap (x5 + 1)) h6))))))
        else
          Tr.fail))
    else
      Tr.fail)
  else
    (P56_1 d rounds x2 m3 [] h)) := by kernel_rfl
theorem P56_1_eq (d k : Nat) (x0 : Int) (m1 : Nat) (l2 : List AVal) (h : Heap) : P56_1 d (k + 1) x0 m1 l2 h =
  (lookK 3 (AVal.int .i64 0) (AVal.map m1) (AVal.int .i64 x0) h fun w1 bb2 =>
    (intK .i64 w1 fun y3 =>
      (bif (!bb2) then
        (Tr.ret ([(AVal.sl false 0 l2)], h))
      else
        (bif decide ((l2.length + (1 : Nat)) * 8 ≤ 140737488355328) then
          (bif (decide ((y3 : Int) ≥ x0)) then (Tr.ret ([(AVal.sl false 0 (l2 ++ [(AVal.int .i64 x0)]))], h)) else (P56_1 d k y3 m1 (l2 ++ [(AVal.int .i64 x0)]) h))
        else
          Tr.fail)))) := by kernel_rfl
theorem F56_eq (d : Nat) (f0 : Bool) (l1 : List AVal) (x2 : Int) (h : Heap) : evFn Cw (d + 1) 56 [(AVal.sl f0 6 l1), (AVal.int .i64 x2)] h =
  (P56_0 d rounds f0 l1 x2 h.objs.length (l1.length : Int) 0 (Heap.push h (Go.Weave.Obj.map 3 [] 0))) := by kernel_rfl
/- f73 strandline/list.begins[strandline/api.Rec] -/
noncomputable def P73_0 (d k : Nat) (f0 : Bool) (l1 : List AVal) (f2 : Bool) (l3 : List AVal) (x4 : Int) (x5 : Int) (h : Heap) : Tr Res :=
  loopPt Cw d 73 [true, true, false, true, true] [] k ⟨[(0, (EV.one (SV.val (AVal.sl f0 6 l1)))), (1, (EV.one (SV.val (AVal.sl f2 6 l3)))), (2, (EV.one (SV.val (AVal.fn 23 [] [])))), (14, (EV.one (SV.val (AVal.int .i64 x4)))), (15, (EV.one (SV.val (AVal.int .i64 x5))))], []⟩ h
theorem P73_0_eq (d k : Nat) (f0 : Bool) (l1 : List AVal) (f2 : Bool) (l3 : List AVal) (x4 : Int) (x5 : Int) (h : Heap) : P73_0 d (k + 1) f0 l1 f2 l3 x4 x5 h =
  (bif (decide ((x5 : Int) < x4)) then
    (bif (decide ((0 : Int) ≤ x5) && decide ((x5 : Int) < (l1.length : Int))) then
      (aggK 5 (l1.getD (Int.toNat x5) AVal.undef) fun cc1 =>
        (bif (decide ((0 : Int) ≤ x5) && decide ((x5 : Int) < (l3.length : Int))) then
          (aggK 5 (l3.getD (Int.toNat x5) AVal.undef) fun cc2 =>
            (runK (evFn Cw d 23 [(AVal.agg cc1), (AVal.agg cc2)] h) fun r3 h3 =>
              (consK r3 fun w4 ws5 =>
                (boolK w4 fun bb6 =>
                  (nilK ws5
                    (bif (!bb6) then (Tr.ret ([(AVal.bool false)], h3)) else (P73_0 d k f0 l1 f2 l3 x4 (IntKind.i64.wrap (x5 + 1)) h3)))))))
        else
          Tr.fail))
    else
      Tr.fail)
  else
    (Tr.ret ([(AVal.bool true)], h))) := by kernel_rfl
theorem F73_eq (d : Nat) (f0 : Bool) (l1 : List AVal) (f2 : Bool) (l3 : List AVal) (h : Heap) : evFn Cw (d + 1) 73 [(AVal.sl f0 6 l1), (AVal.sl f2 6 l3), (AVal.fn 23 [] [])] h =
  (bif (decide (((l1.length : Int) : Int) > (l3.length : Int))) then (Tr.ret ([(AVal.bool false)], h)) else (P73_0 d rounds f0 l1 f2 l3 (l1.length : Int) 0 h)) := by kernel_rfl
/- f64 strandline/list.Prefix -/
theorem F64_eq (d : Nat) (f0 : Bool) (l1 : List AVal) (f2 : Bool) (l3 : List AVal) (h : Heap) : evFn Cw (d + 1) 64 [(AVal.sl f0 6 l1), (AVal.sl f2 6 l3)] h =
  (runK (evFn Cw d 73 [(AVal.sl f0 6 l1), (AVal.sl f2 6 l3), (AVal.fn 23 [] [])] h) fun r1 h1 =>
    (consK r1 fun w2 ws3 =>
      (boolK w2 fun bb4 =>
        (nilK ws3
          (Tr.ret ([(AVal.bool bb4)], h1)))))) := by kernel_rfl
/- f62 strandline/list.May -/
noncomputable def P62_0 (d k : Nat) (f0 : Bool) (l1 : List AVal) (x2 : Int) (x3 : Int) (f4 : Bool) (l5 : List AVal) (l6 : List AVal) (x7 : Int) (f8 : Bool) (l9 : List AVal) (x10 : Int) (x11 : Int) (h : Heap) : Tr Res :=
  loopPt Cw d 62 [true, true, true, false, true, true] [] k ⟨[(0, (EV.one (SV.val (AVal.sl f0 6 l1)))), (1, (EV.one (SV.val (AVal.int .i64 x2)))), (2, (EV.one (SV.val (AVal.int .i64 x3)))), (3, (EV.one (SV.val (AVal.sl f4 6 l5)))), (9, (EV.one (SV.own (tokOf 9 0) 6 l6))), (10, (EV.one (SV.val (AVal.int .i64 x7)))), (13, (EV.one (SV.val (AVal.sl f8 6 l9)))), (14, (EV.one (SV.val (AVal.int .i64 x10)))), (15, (EV.one (SV.val (AVal.int .i64 x11))))], []⟩ h
theorem P62_0_eq (d k : Nat) (f0 : Bool) (l1 : List AVal) (x2 : Int) (x3 : Int) (f4 : Bool) (l5 : List AVal) (l6 : List AVal) (x7 : Int) (f8 : Bool) (l9 : List AVal) (x10 : Int) (x11 : Int) (h : Heap) : P62_0 d (k + 1) f0 l1 x2 x3 f4 l5 l6 x7 f8 l9 x10 x11 h =
  (bif (decide ((x11 : Int) < x10)) then
    (bif (decide ((0 : Int) ≤ x11) && decide ((x11 : Int) < (l9.length : Int))) then
      (aggK 5 (l9.getD (Int.toNat x11) AVal.undef) fun cc1 =>
        (bif ((cc1.length == 5) && true) then
          (bif (decide ((x11 : Int) > 0)) then
            (bif (decide ((0 : Int) ≤ (IntKind.i64.wrap (x11 - 1))) && decide (((IntKind.i64.wrap (x11 - 1)) : Int) < (l1.length : Int))) then
              (optK ((AVal.cells (l1.getD (Int.toNat (IntKind.i64.wrap (x11 - 1))) AVal.undef))[2]?) fun w2 =>
                (intK .i64 w2 fun y3 =>
                  (optK (cc1[2]?) fun w4 =>
                    (intK .i64 w4 fun y5 =>
                      (bif (decide ((y3 : Int) ≥ y5)) then
                        (Tr.ret ([(AVal.bool false)], h))
                      else
                        (optK (cc1[2]?) fun w6 =>
                          (intK .i64 w6 fun y7 =>
                            (bif (decide ((y7 : Int) < x3)) then
                              (P62_0 d k f0 l1 x2 x3 f4 l5 l6 x7 f8 l9 x10 (IntKind.i64.wrap (x11 + 1)) h)
                            else
                              (bif decide (0 + 5 ≤ cc1.length) then
                                (bif ((((cc1.drop 0).take 5).length == 5) && true) then
                                  (bif decide ((l6.length + (1 : Nat)) * 56 ≤ 140737488355328) then
                                    (optK (cc1[2]?) fun w8 =>
                                      (intK .i64 w8 fun y9 =>
                                        (bif (decide ((y9 : Int) ≤ x2)) then
                                          (P62_0 d k f0 l1 x2 x3 f4 l5 (l6 ++ [(AVal.agg ((cc1.drop 0).take 5))]) ((l6 ++ [(AVal.agg ((cc1.drop 0).take 5))]).length : Int) f8 l9 x10 (IntKind.i64.wrap (x11 + 1)) h)
                                        else
                                          (P62_0 d k f0 l1 x2 x3 f4 l5 (l6 ++ [(AVal.agg ((cc1.drop 0).take 5))]) x7 f8 l9 x10 (IntKind.i64.wrap (x11 + 1)) h))))
                                  else
                                    Tr.fail)
                                else
                                  Tr.fail)
                              else
                                Tr.fail)))))))))
            else
              Tr.fail)
          else
            (optK (cc1[2]?) fun w10 =>
              (intK .i64 w10 fun y11 =>
                (bif (decide ((y11 : Int) < x3)) then
                  (P62_0 d k f0 l1 x2 x3 f4 l5 l6 x7 f8 l9 x10 (IntKind.i64.wrap (x11 + 1)) h)
                else
                  (bif decide (0 + 5 ≤ cc1.length) then
                    (bif ((((cc1.drop 0).take 5).length == 5) && true) then
                      (bif decide ((l6.length + (1 : Nat)) * 56 ≤ 140737488355328) then
                        (optK (cc1[2]?) fun w12 =>
                          (intK .i64 w12 fun y13 =>
                            (bif (decide ((y13 : Int) ≤ x2)) then
                              (P62_0 d k f0 l1 x2 x3 f4 l5 (l6 ++ [(AVal.agg ((cc1.drop 0).take 5))]) ((l6 ++ [(AVal.agg ((cc1.drop 0).take 5))]).length : Int) f8 l9 x10 (IntKind.i64.wrap (x11 + 1)) h)
                            else
                              (P62_0 d k f0 l1 x2 x3 f4 l5 (l6 ++ [(AVal.agg ((cc1.drop 0).take 5))]) x7 f8 l9 x10 (IntKind.i64.wrap (x11 + 1)) h))))
                      else
                        Tr.fail)
                    else
                      Tr.fail)
                  else
                    Tr.fail)))))
        else
          Tr.fail))
    else
      Tr.fail)
  else
    (bif (decide (((l5.length : Int) : Int) ≥ x7)) then
      (runK (evFn Cw d 64 [(AVal.sl f4 6 l5), (AVal.sl false 6 l6)] h) fun r14 h14 =>
        (consK r14 fun w15 ws16 =>
          (boolK w15 fun bb17 =>
            (nilK ws16
              (Tr.ret ([(AVal.bool bb17)], h14))))))
    else
      (Tr.ret ([(AVal.bool false)], h)))) := by kernel_rfl
theorem F62_eq (d : Nat) (f0 : Bool) (l1 : List AVal) (x2 : Int) (x3 : Int) (f4 : Bool) (l5 : List AVal) (h : Heap) : evFn Cw (d + 1) 62 [(AVal.sl f0 6 l1), (AVal.int .i64 x2), (AVal.int .i64 x3), (AVal.sl f4 6 l5)] h =
  (P62_0 d rounds f0 l1 x2 x3 f4 l5 [] 0 f0 l1 (l1.length : Int) 0 h) := by kernel_rfl
/- f55 strandline/strandlinelaw30.awake -/
theorem F55_eq (d : Nat) (h : Heap) : evFn Cw (d + 1) 55 [] h =
  (runK (evFn Cw d 58 [(AVal.sl true 6 [(AVal.agg [(AVal.int .i64 1), (AVal.int .i64 0), (AVal.int .i64 4), (AVal.int .i64 0), (AVal.sl true 0 [])]), (AVal.agg [(AVal.int .i64 1), (AVal.int .i64 0), (AVal.int .i64 5), (AVal.int .i64 4), (AVal.sl true 0 [])])]), (AVal.int .i64 4), (AVal.agg [(AVal.int .i64 0), (AVal.int .i64 0), (AVal.int .i64 0), (AVal.int .i64 0)])] h) fun r1 h1 =>
    (consK r1 fun w2 ws3 =>
      (boolK w2 fun bb4 =>
        (nilK ws3
          (bif bb4 then
            (runK (evFn Cw d 60 [(AVal.sl true 6 [(AVal.agg [(AVal.int .i64 1), (AVal.int .i64 0), (AVal.int .i64 4), (AVal.int .i64 0), (AVal.sl true 0 [])]), (AVal.agg [(AVal.int .i64 1), (AVal.int .i64 0), (AVal.int .i64 5), (AVal.int .i64 4), (AVal.sl true 0 [])])]), (AVal.agg [(AVal.int .i64 0), (AVal.int .i64 0), (AVal.int .i64 0), (AVal.int .i64 0)])] h1) fun r5 h5 =>
              (consK r5 fun w6 ws7 =>
                (aggK 4 w6 fun cc8 =>
                  (nilK ws7
                    (bif ((arrOk Cw.P 4 3 (AVal.agg cc8)) && true) then
                      (bif (eqCells cc8 [(AVal.int .i64 5), (AVal.int .i64 0), (AVal.int .i64 0), (AVal.int .i64 0)]) then
                        (runK (evFn Cw d 56 [(AVal.sl true 6 [(AVal.agg [(AVal.int .i64 1), (AVal.int .i64 0), (AVal.int .i64 4), (AVal.int .i64 0), (AVal.sl true 0 [])]), (AVal.agg [(AVal.int .i64 1), (AVal.int .i64 0), (AVal.int .i64 5), (AVal.int .i64 4), (AVal.sl true 0 [])])]), (AVal.int .i64 5)] h5) fun r9 h9 =>
                          (consK r9 fun w10 ws11 =>
                            (slOK 0 w10 fun es12 =>
                              (nilK ws11
                                (bif (((es12.length : Int) : Int) == 2) then
                                  (runK (evFn Cw d 62 [(AVal.sl true 6 [(AVal.agg [(AVal.int .i64 1), (AVal.int .i64 0), (AVal.int .i64 4), (AVal.int .i64 0), (AVal.sl true 0 [])]), (AVal.agg [(AVal.int .i64 1), (AVal.int .i64 0), (AVal.int .i64 5), (AVal.int .i64 4), (AVal.sl true 0 [])])]), (AVal.int .i64 4), (AVal.int .i64 4), (AVal.sl false 6 [(AVal.agg [(AVal.int .i64 1), (AVal.int .i64 0), (AVal.int .i64 4), (AVal.int .i64 0), (AVal.sl true 0 [])])])] h9) fun r13 h13 =>
                                    (consK r13 fun w14 ws15 =>
                                      (boolK w14 fun bb16 =>
                                        (nilK ws15
                                          (bif bb16 then
                                            (runK (evFn Cw d 62 [(AVal.sl true 6 [(AVal.agg [(AVal.int .i64 1), (AVal.int .i64 0), (AVal.int .i64 4), (AVal.int .i64 0), (AVal.sl true 0 [])]), (AVal.agg [(AVal.int .i64 1), (AVal.int .i64 0), (AVal.int .i64 5), (AVal.int .i64 4), (AVal.sl true 0 [])])]), (AVal.int .i64 5), (AVal.int .i64 4), (AVal.sl false 6 [(AVal.agg [(AVal.int .i64 1), (AVal.int .i64 0), (AVal.int .i64 4), (AVal.int .i64 0), (AVal.sl true 0 [])])])] h13) fun r17 h17 =>
                                              (consK r17 fun w18 ws19 =>
                                                (boolK w18 fun bb20 =>
                                                  (nilK ws19
                                                    (Tr.ret ([(AVal.bool (!bb20))], h17))))))
                                          else
                                            (Tr.ret ([(AVal.bool false)], h13)))))))
                                else
                                  (Tr.ret ([(AVal.bool false)], h9)))))))
                      else
                        (Tr.ret ([(AVal.bool false)], h5)))
                    else
                      Tr.fail)))))
          else
            (Tr.ret ([(AVal.bool false)], h1))))))) := by kernel_rfl
/- f57 strandline/strandlineref30.Chain -/
noncomputable def P57_0 (d k : Nat) (f0 : Bool) (l1 : List AVal) (x2 : Int) (x3 : Int) (h : Heap) : Tr Res :=
  loopPt Cw d 57 [true, false, true, true] [] k ⟨[(0, (EV.one (SV.val (AVal.sl f0 6 l1)))), (1, (EV.one (SV.val (AVal.int .i64 x2)))), (5, (EV.one (SV.val (AVal.int .i64 x3))))], []⟩ h
theorem P57_0_eq (d k : Nat) (f0 : Bool) (l1 : List AVal) (x2 : Int) (x3 : Int) (h : Heap) : P57_0 d (k + 1) f0 l1 x2 x3 h =
  (bif (decide ((x3 : Int) < (l1.length : Int))) then
    (bif (decide ((0 : Int) ≤ x3) && decide ((x3 : Int) < (l1.length : Int))) then
      (optK ((AVal.cells (l1.getD (Int.toNat x3) AVal.undef))[2]?) fun w1 =>
        (intK .i64 w1 fun y2 =>
          (bif ((y2 : Int) == x2) then
            (bif (decide ((0 : Int) ≤ x3) && decide ((x3 : Int) < (l1.length : Int))) then
              (optK ((AVal.cells (l1.getD (Int.toNat x3) AVal.undef))[3]?) fun w3 =>
                (intK .i64 w3 fun y4 =>
                  (bif (decide ((y4 : Int) ≥ x2)) then
                    (Tr.ret ([(AVal.sl true 0 [(AVal.int .i64 x2)])], h))
                  else
                    (bif (decide ((0 : Int) ≤ x3) && decide ((x3 : Int) < (l1.length : Int))) then
                      (optK ((AVal.cells (l1.getD (Int.toNat x3) AVal.undef))[3]?) fun w5 =>
                        (intK .i64 w5 fun y6 =>
                          (runK (evFn Cw d 57 [(AVal.sl f0 6 l1), (AVal.int .i64 y6)] h) fun r7 h7 =>
                            (consK r7 fun w8 ws9 =>
                              (slOK 0 w8 fun es10 =>
                                (nilK ws9
                                  (bif decide (((1 : Nat) + es10.length) * 8 ≤ 140737488355328) then (Tr.ret ([(AVal.sl false 0 ([(AVal.int .i64 x2)] ++ es10))], h7)) else Tr.fail)))))))
                    else
                      Tr.fail))))
            else
              Tr.fail)
          else
            (P57_0 d k f0 l1 x2 (IntKind.i64.wrap (x3 + 1)) h))))
    else
      Tr.fail)
  else
    (Tr.ret ([(AVal.sl true 0 [])], h))) := by kernel_rfl
theorem F57_eq (d : Nat) (f0 : Bool) (l1 : List AVal) (x2 : Int) (h : Heap) : evFn Cw (d + 1) 57 [(AVal.sl f0 6 l1), (AVal.int .i64 x2)] h =
  (P57_0 d rounds f0 l1 x2 0 h) := by kernel_rfl
/- f72 strandline/strandlineref11.Right -/
theorem F72_eq (d : Nat) (x0 : Int) (x1 : Int) (x2 : Int) (x3 : Int) (f4 : Bool) (l5 : List AVal) (h : Heap) : evFn Cw (d + 1) 72 [(AVal.agg [(AVal.int .i64 x0), (AVal.int .i64 x1), (AVal.int .i64 x2), (AVal.int .i64 x3), (AVal.sl f4 0 l5)])] h =
  (bif (decide ((x0 : Int) ≥ 1)) then
    (bif (decide ((x0 : Int) ≤ 9)) then
      (bif (decide ((x1 : Int) ≥ 0)) then
        (bif (decide ((x1 : Int) ≤ 3)) then
          (bif (decide ((x2 : Int) ≥ 1)) then
            (bif (decide ((x2 : Int) ≤ 2147483647)) then
              (bif (decide ((x3 : Int) ≥ 0)) then (Tr.ret ([(AVal.bool (decide ((x3 : Int) < x2)))], h)) else (Tr.ret ([(AVal.bool false)], h)))
            else
              (Tr.ret ([(AVal.bool false)], h)))
          else
            (Tr.ret ([(AVal.bool false)], h)))
        else
          (Tr.ret ([(AVal.bool false)], h)))
      else
        (Tr.ret ([(AVal.bool false)], h)))
    else
      (Tr.ret ([(AVal.bool false)], h)))
  else
    (Tr.ret ([(AVal.bool false)], h))) := by kernel_rfl
/- f61 strandline/strandlineref30.Heads -/
noncomputable def P61_0 (d k : Nat) (f0 : Bool) (l1 : List AVal) (x2 : Int) (c3 : List AVal) (x4 : Int) (x5 : Int) (x6 : Int) (x7 : Int) (h : Heap) : Tr Res :=
  loopPt Cw d 61 [true, false, true, true] [] k ⟨[(0, (EV.one (SV.val (AVal.sl f0 6 l1)))), (3, (EV.one (SV.loc 3 0))), (4, (EV.one (SV.loc 4 0))), (5, (EV.one (SV.val (AVal.int .i64 x2))))], [(3, (Box.plain c3)), (4, (Box.plain [(AVal.int .i64 x4), (AVal.int .i64 x5), (AVal.int .i64 x6), (AVal.int .i64 x7)]))]⟩ h
noncomputable def P61_1 (d n0 k : Nat) (f0 : Bool) (l1 : List AVal) (x2 : Int) (x3 : Int) (c4 : List AVal) (x5 : Int) (x6 : Int) (x7 : Int) (x8 : Int) (h : Heap) : Tr Res :=
  loopPt Cw d 61 [true, false, true, true, true, true, false, true, true, true] [n0] k ⟨[(0, (EV.one (SV.val (AVal.sl f0 6 l1)))), (3, (EV.one (SV.loc 3 0))), (4, (EV.one (SV.loc 4 0))), (5, (EV.one (SV.val (AVal.int .i64 x2)))), (6, (EV.one (SV.val (AVal.int .i64 x3))))], [(3, (Box.plain c4)), (4, (Box.plain [(AVal.int .i64 x5), (AVal.int .i64 x6), (AVal.int .i64 x7), (AVal.int .i64 x8)]))]⟩ h
theorem P61_0_eq (d k : Nat) (f0 : Bool) (l1 : List AVal) (x2 : Int) (c3 : List AVal) (x4 : Int) (x5 : Int) (x6 : Int) (x7 : Int) (h : Heap) : P61_0 d (k + 1) f0 l1 x2 c3 x4 x5 x6 x7 h =
  (bif (decide ((x2 : Int) < 4)) then
    (P61_1 d k rounds f0 l1 x2 0 c3 x4 x5 x6 x7 h)
  else
    (bif decide (0 + 4 ≤ c3.length) then
      (bif ((((c3.drop 0).take 4).length == 4) && true) then
        (bif decide (0 + 4 ≤ ((c3.drop 0).take 4).length) then (Tr.ret ([(AVal.agg ((((c3.drop 0).take 4).drop 0).take 4))], h)) else Tr.fail)
      else
        Tr.fail)
    else
      Tr.fail)) := by kernel_rfl
theorem P61_1_eq (d n0 k : Nat) (f0 : Bool) (l1 : List AVal) (x2 : Int) (x3 : Int) (c4 : List AVal) (x5 : Int) (x6 : Int) (x7 : Int) (x8 : Int) (h : Heap) : P61_1 d n0 (k + 1) f0 l1 x2 x3 c4 x5 x6 x7 x8 h =
  (bif (decide ((x3 : Int) < (l1.length : Int))) then
    (bif (decide ((0 : Int) ≤ x3) && decide ((x3 : Int) < (l1.length : Int))) then
      (optK ((AVal.cells (l1.getD (Int.toNat x3) AVal.undef))[1]?) fun w1 =>
        (intK .i64 w1 fun y2 =>
          (bif ((y2 : Int) == x2) then
            (bif (decide ((0 : Int) ≤ x3) && decide ((x3 : Int) < (l1.length : Int))) then
              (optK ((AVal.cells (l1.getD (Int.toNat x3) AVal.undef))[2]?) fun w3 =>
                (intK .i64 w3 fun y4 =>
                  (bif (decide ((0 : Int) ≤ x2) && decide ((x2 : Int) < 4)) then
                    (bif decide ((0 + ((Int.toNat x2) * 1)) + 1 ≤ c4.length) then
                      (P61_1 d n0 k f0 l1 x2 (IntKind.i64.wrap (x3 + 1)) (c4.set (0 + ((Int.toNat x2) * 1)) (AVal.int .i64 y4)) x5 x6 x7 x8 h)
                    else
                      Tr.fail)
                  else
                    Tr.fail)))
            else
              Tr.fail)
          else
            (P61_1 d n0 k f0 l1 x2 (IntKind.i64.wrap (x3 + 1)) c4 x5 x6 x7 x8 h))))
    else
      Tr.fail)
  else
    (P61_0 d n0 f0 l1 (IntKind.i64.wrap (x2 + 1)) c4 x5 x6 x7 x8 h)) := by kernel_rfl
theorem F61_eq (d : Nat) (f0 : Bool) (l1 : List AVal) (x2 : Int) (x3 : Int) (x4 : Int) (x5 : Int) (h : Heap) : evFn Cw (d + 1) 61 [(AVal.sl f0 6 l1), (AVal.agg [(AVal.int .i64 x2), (AVal.int .i64 x3), (AVal.int .i64 x4), (AVal.int .i64 x5)])] h =
  (P61_0 d rounds f0 l1 0 [(AVal.int .i64 x2), (AVal.int .i64 x3), (AVal.int .i64 x4), (AVal.int .i64 x5)] 0 0 0 0 h) := by kernel_rfl
/- f59 strandline/strandlineref30.Follow -/
noncomputable def P59_0 (d k : Nat) (f0 : Bool) (l1 : List AVal) (x2 : Int) (x3 : Int) (x4 : Int) (x5 : Int) (x6 : Int) (x7 : Int) (h : Heap) : Tr Res :=
  loopPt Cw d 59 [true, false, true, true] [] k ⟨[(0, (EV.one (SV.val (AVal.sl f0 6 l1)))), (1, (EV.one (SV.val (AVal.int .i64 x2)))), (5, (EV.one (SV.loc 5 0))), (7, (EV.one (SV.val (AVal.int .i64 x3))))], [(5, (Box.plain [(AVal.int .i64 x4), (AVal.int .i64 x5), (AVal.int .i64 x6), (AVal.int .i64 x7)]))]⟩ h
theorem P59_0_eq (d k : Nat) (f0 : Bool) (l1 : List AVal) (x2 : Int) (x3 : Int) (x4 : Int) (x5 : Int) (x6 : Int) (x7 : Int) (h : Heap) : P59_0 d (k + 1) f0 l1 x2 x3 x4 x5 x6 x7 h =
  (bif (decide ((x3 : Int) < (l1.length : Int))) then
    (bif (decide ((0 : Int) ≤ x3) && decide ((x3 : Int) < (l1.length : Int))) then
      (aggK 5 (l1.getD (Int.toNat x3) AVal.undef) fun cc1 =>
        (runK (evFn Cw d 72 [(AVal.agg cc1)] h) fun r2 h2 =>
          (consK r2 fun w3 ws4 =>
            (boolK w3 fun bb5 =>
              (nilK ws4
                (bif (!bb5) then
                  (Tr.ret ([(AVal.bool false)], h2))
                else
                  (bif (decide ((0 : Int) ≤ x3) && decide ((x3 : Int) < (l1.length : Int))) then
                    (optK ((AVal.cells (l1.getD (Int.toNat x3) AVal.undef))[2]?) fun w6 =>
                      (intK .i64 w6 fun y7 =>
                        (bif ((y7 : Int) != x2) then
                          (Tr.ret ([(AVal.bool false)], h2))
                        else
                          (bif (decide ((0 : Int) ≤ x3) && decide ((x3 : Int) < (l1.length : Int))) then
                            (optK ((AVal.cells (l1.getD (Int.toNat x3) AVal.undef))[3]?) fun w8 =>
                              (intK .i64 w8 fun y9 =>
                                (bif (decide ((0 : Int) ≤ x3) && decide ((x3 : Int) ≤ (l1.length : Int))) then
                                  (bif (decide ((0 : Int) ≤ x3) && decide ((x3 : Int) < (l1.length : Int))) then
                                    (optK ((AVal.cells (l1.getD (Int.toNat x3) AVal.undef))[1]?) fun w10 =>
                                      (intK .i64 w10 fun y11 =>
                                        (runK (evFn Cw d 61 [(AVal.sl false 6 (Go.Weave.part 0 x3 l1)), (AVal.agg [(AVal.int .i64 x4), (AVal.int .i64 x5), (AVal.int .i64 x6), (AVal.int .i64 x7)])] h2) fun r12 h12 =>
                                          (consK r12 fun w13 ws14 =>
                                            (aggK 4 w13 fun cc15 =>
                                              (nilK ws14
                                                (bif (decide ((0 : Int) ≤ y11) && decide ((y11 : Int) < 4)) then
                                                  (optK (cc15[((Int.toNat y11) * 1)]?) fun w16 =>
                                                    (intK .i64 w16 fun y17 =>
                                                      (bif ((y9 : Int) != y17) then (Tr.ret ([(AVal.bool false)], h12)) else (P59_0 d k f0 l1 (IntKind.i64.wrap (x2 + 1)) (IntKind.i64.wrap (x3 + 1)) x4 x5 x6 x7 h12))))
                                                else
                                                  Tr.fail)))))))
                                  else
                                    Tr.fail)
                                else
                                  Tr.fail)))
                          else
                            Tr.fail))))
                  else
                    Tr.fail)))))))
    else
      Tr.fail)
  else
    (Tr.ret ([(AVal.bool true)], h))) := by kernel_rfl
theorem F59_eq (d : Nat) (f0 : Bool) (l1 : List AVal) (x2 : Int) (x3 : Int) (x4 : Int) (x5 : Int) (x6 : Int) (h : Heap) : evFn Cw (d + 1) 59 [(AVal.sl f0 6 l1), (AVal.int .i64 x2), (AVal.agg [(AVal.int .i64 x3), (AVal.int .i64 x4), (AVal.int .i64 x5), (AVal.int .i64 x6)])] h =
  (P59_0 d rounds f0 l1 x2 0 x3 x4 x5 x6 h) := by kernel_rfl
/- f13 strandline/strandlinelaw30.ListFollows -/
noncomputable def P13_0 (d k : Nat) (l0 : List AVal) (l1 : List AVal) (x2 : Int) (h : Heap) : Tr Res :=
  loopPt Cw d 13 [true, true, true, true, false, true, true] [] k ⟨[(7, (EV.one (SV.own (tokOf 7 0) 0 l0))), (8, (EV.one (SV.own (tokOf 8 0) 0 l1))), (9, (EV.one (SV.val (AVal.int .i64 x2))))], []⟩ h
theorem P13_0_eq (d k : Nat) (l0 : List AVal) (l1 : List AVal) (x2 : Int) (h : Heap) : P13_0 d (k + 1) l0 l1 x2 h =
  (bif (decide ((x2 : Int) < (l0.length : Int))) then
    (bif (decide ((0 : Int) ≤ x2) && decide ((x2 : Int) < (l0.length : Int))) then
      (intK .i64 (l0.getD (Int.toNat x2) AVal.undef) fun y1 =>
        (bif (decide ((0 : Int) ≤ x2) && decide ((x2 : Int) < (l1.length : Int))) then
          (intK .i64 (l1.getD (Int.toNat x2) AVal.undef) fun y2 =>
            (bif ((y1 : Int) != y2) then (Tr.ret ([(AVal.bool false)], h)) else (P13_0 d k l0 l1 (IntKind.i64.wrap (x2 + 1)) h)))
        else
          Tr.fail))
    else
      Tr.fail)
  else
    (runK (evFn Cw d 55 [] h) fun r3 h3 =>
      (consK r3 fun w4 ws5 =>
        (boolK w4 fun bb6 =>
          (nilK ws5
            (Tr.ret ([(AVal.bool bb6)], h3))))))) := by kernel_rfl
theorem F13_eq (d : Nat) (f0 : Bool) (l1 : List AVal) (x2 : Int) (x3 : Int) (x4 : Int) (x5 : Int) (x6 : Int) (x7 : Int) (h : Heap) : evFn Cw (d + 1) 13 [(AVal.sl f0 6 l1), (AVal.agg [(AVal.int .i64 x2), (AVal.int .i64 x3)]), (AVal.agg [(AVal.int .i64 x4), (AVal.int .i64 x5), (AVal.int .i64 x6), (AVal.int .i64 x7)])] h =
  (bif (decide (((l1.length : Int) : Int) > 200)) then
    (runK (evFn Cw d 55 [] h) fun r1 h1 =>
      (consK r1 fun w2 ws3 =>
        (boolK w2 fun bb4 =>
          (nilK ws3
            (Tr.ret ([(AVal.bool bb4)], h1))))))
  else
    (runK (evFn Cw d 56 [(AVal.sl f0 6 l1), (AVal.int .i64 x3)] h) fun r5 h5 =>
      (consK r5 fun w6 ws7 =>
        (slOK 0 w6 fun es8 =>
          (nilK ws7
            (runK (evFn Cw d 57 [(AVal.sl f0 6 l1), (AVal.int .i64 x3)] h5) fun r9 h9 =>
              (consK r9 fun w10 ws11 =>
                (slOK 0 w10 fun es12 =>
                  (nilK ws11
                    (runK (evFn Cw d 58 [(AVal.sl f0 6 l1), (AVal.int .i64 x2), (AVal.agg [(AVal.int .i64 x4), (AVal.int .i64 x5), (AVal.int .i64 x6), (AVal.int .i64 x7)])] h9) fun r13 h13 =>
                      (consK r13 fun w14 ws15 =>
                        (boolK w14 fun bb16 =>
                          (nilK ws15
                            (runK (evFn Cw d 59 [(AVal.sl f0 6 l1), (AVal.int .i64 x2), (AVal.agg [(AVal.int .i64 x4), (AVal.int .i64 x5), (AVal.int .i64 x6), (AVal.int .i64 x7)])] h13) fun r17 h17 =>
                              (consK r17 fun w18 ws19 =>
                                (boolK w18 fun bb20 =>
                                  (nilK ws19
                                    (bif (!(bb16 == bb20)) then
                                      (Tr.ret ([(AVal.bool false)], h17))
                                    else
                                      (runK (evFn Cw d 60 [(AVal.sl f0 6 l1), (AVal.agg [(AVal.int .i64 x4), (AVal.int .i64 x5), (AVal.int .i64 x6), (AVal.int .i64 x7)])] h17) fun r21 h21 =>
                                        (consK r21 fun w22 ws23 =>
                                          (aggK 4 w22 fun cc24 =>
                                            (nilK ws23
                                              (runK (evFn Cw d 61 [(AVal.sl f0 6 l1), (AVal.agg [(AVal.int .i64 x4), (AVal.int .i64 x5), (AVal.int .i64 x6), (AVal.int .i64 x7)])] h21) fun r25 h25 =>
                                                (consK r25 fun w26 ws27 =>
                                                  (aggK 4 w26 fun cc28 =>
                                                    (nilK ws27
                                                      (bif ((arrOk Cw.P 4 3 (AVal.agg cc24)) && (arrOk Cw.P 4 3 (AVal.agg cc28))) then
                                                        (bif (!(eqCells cc24 cc28)) then
                                                          (Tr.ret ([(AVal.bool false)], h25))
                                                        else
                                                          (bif (((es8.length : Int) : Int) != (es12.length : Int)) then (Tr.ret ([(AVal.bool false)], h25)) else (P13_0 d rounds es8 es12 0 h25)))
                                                      else
                                                        Tr.fail))))))))))))))))))))))))))) := by kernel_rfl
/- f63 strandline/strandlineref30.May -/
noncomputable def P63_0 (d k : Nat) (f0 : Bool) (l1 : List AVal) (x2 : Int) (x3 : Int) (f4 : Bool) (l5 : List AVal) (x6 : Int) (x7 : Int) (h : Heap) : Tr Res :=
  loopPt Cw d 63 [true, true, false, true, true] [] k ⟨[(0, (EV.one (SV.val (AVal.sl f0 6 l1)))), (1, (EV.one (SV.val (AVal.int .i64 x2)))), (2, (EV.one (SV.val (AVal.int .i64 x3)))), (3, (EV.one (SV.val (AVal.sl f4 6 l5)))), (9, (EV.one (SV.val (AVal.int .i64 x6)))), (10, (EV.one (SV.val (AVal.int .i64 x7))))], []⟩ h
theorem P63_0_eq (d k : Nat) (f0 : Bool) (l1 : List AVal) (x2 : Int) (x3 : Int) (f4 : Bool) (l5 : List AVal) (x6 : Int) (x7 : Int) (h : Heap) : P63_0 d (k + 1) f0 l1 x2 x3 f4 l5 x6 x7 h =
  (bif (decide ((x7 : Int) < (l1.length : Int))) then
    (bif (decide ((x7 : Int) > 0)) then
      (bif (decide ((0 : Int) ≤ x7) && decide ((x7 : Int) < (l1.length : Int))) then
        (optK ((AVal.cells (l1.getD (Int.toNat x7) AVal.undef))[2]?) fun w1 =>
          (intK .i64 w1 fun y2 =>
            (bif (decide ((0 : Int) ≤ (IntKind.i64.wrap (x7 - 1))) && decide (((IntKind.i64.wrap (x7 - 1)) : Int) < (l1.length : Int))) then
              (optK ((AVal.cells (l1.getD (Int.toNat (IntKind.i64.wrap (x7 - 1))) AVal.undef))[2]?) fun w3 =>
                (intK .i64 w3 fun y4 =>
                  (bif (decide ((y2 : Int) ≤ y4)) then
                    (Tr.ret ([(AVal.bool false)], h))
                  else
                    (bif (decide ((0 : Int) ≤ x7) && decide ((x7 : Int) < (l1.length : Int))) then
                      (optK ((AVal.cells (l1.getD (Int.toNat x7) AVal.undef))[2]?) fun w5 =>
                        (intK .i64 w5 fun y6 =>
                          (bif (decide ((y6 : Int) < x3)) then
                            (P63_0 d k f0 l1 x2 x3 f4 l5 x6 (IntKind.i64.wrap (x7 + 1)) h)
                          else
                            (bif (decide ((x6 : Int) < (l5.length : Int))) then
                              (bif (decide ((0 : Int) ≤ x6) && decide ((x6 : Int) < (l5.length : Int))) then
                                (aggK 5 (l5.getD (Int.toNat x6) AVal.undef) fun cc7 =>
                                  (bif (decide ((0 : Int) ≤ x7) && decide ((x7 : Int) < (l1.length : Int))) then
                                    (aggK 5 (l1.getD (Int.toNat x7) AVal.undef) fun cc8 =>
                                      (runK (evFn Cw d 24 [(AVal.agg cc7), (AVal.agg cc8)] h) fun r9 h9 =>
                                        (consK r9 fun w10 ws11 =>
                                          (boolK w10 fun bb12 =>
                                            (nilK ws11
                                              (bif (!bb12) then
                                                (Tr.ret ([(AVal.bool false)], h9))
                                              else
                                                (bif (decide ((x6 : Int) ≥ (l5.length : Int))) then
                                                  (bif (decide ((0 : Int) ≤ x7) && decide ((x7 : Int) < (l1.length : Int))) then
                                                    (optK ((AVal.cells (l1.getD (Int.toNat x7) AVal.undef))[2]?) fun w13 =>
                                                      (intK .i64 w13 fun y14 =>
                                                        (bif (decide ((y14 : Int) ≤ x2)) then (Tr.ret ([(AVal.bool false)], h9)) else (P63_0 d k f0 l1 x2 x3 f4 l5 (IntKind.i64.wrap (x6 + 1)) (IntKind.i64.wrap (x7 + 1)) h9))))
                                                  else
                                                    Tr.fail)
                                                else
                                                  (P63_0 d k f0 l1 x2 x3 f4 l5 (IntKind.i64.wrap (x6 + 1)) (IntKind.i64.wrap (x7 + 1)) h9))))))))
                                  else
                                    Tr.fail))
                              else
                                Tr.fail)
                            else
                              (bif (decide ((x6 : Int) ≥ (l5.length : Int))) then
                                (bif (decide ((0 : Int) ≤ x7) && decide ((x7 : Int) < (l1.length : Int))) then
                                  (optK ((AVal.cells (l1.getD (Int.toNat x7) AVal.undef))[2]?) fun w15 =>
                                    (intK .i64 w15 fun y16 =>
                                      (bif (decide ((y16 : Int) ≤ x2)) then (Tr.ret ([(AVal.bool false)], h)) else (P63_0 d k f0 l1 x2 x3 f4 l5 (IntKind.i64.wrap (x6 + 1)) (IntKind.i64.wrap (x7 + 1)) h))))
                                else
                                  Tr.fail)
                              else
                                (P63_0 d k f0 l1 x2 x3 f4 l5 (IntKind.i64.wrap (x6 + 1)) (IntKind.i64.wrap (x7 + 1)) h))))))
                    else
                      Tr.fail))))
            else
              Tr.fail)))
      else
        Tr.fail)
    else
      (bif (decide ((0 : Int) ≤ x7) && decide ((x7 : Int) < (l1.length : Int))) then
        (optK ((AVal.cells (l1.getD (Int.toNat x7) AVal.undef))[2]?) fun w17 =>
          (intK .i64 w17 fun y18 =>
            (bif (decide ((y18 : Int) < x3)) then
              (P63_0 d k f0 l1 x2 x3 f4 l5 x6 (IntKind.i64.wrap (x7 + 1)) h)
            else
              (bif (decide ((x6 : Int) < (l5.length : Int))) then
                (bif (decide ((0 : Int) ≤ x6) && decide ((x6 : Int) < (l5.length : Int))) then
                  (aggK 5 (l5.getD (Int.toNat x6) AVal.undef) fun cc19 =>
                    (bif (decide ((0 : Int) ≤ x7) && decide ((x7 : Int) < (l1.length : Int))) then
                      (aggK 5 (l1.getD (Int.toNat x7) AVal.undef) fun cc20 =>
                        (runK (evFn Cw d 24 [(AVal.agg cc19), (AVal.agg cc20)] h) fun r21 h21 =>
                          (consK r21 fun w22 ws23 =>
                            (boolK w22 fun bb24 =>
                              (nilK ws23
                                (bif (!bb24) then
                                  (Tr.ret ([(AVal.bool false)], h21))
                                else
                                  (bif (decide ((x6 : Int) ≥ (l5.length : Int))) then
                                    (bif (decide ((0 : Int) ≤ x7) && decide ((x7 : Int) < (l1.length : Int))) then
                                      (optK ((AVal.cells (l1.getD (Int.toNat x7) AVal.undef))[2]?) fun w25 =>
                                        (intK .i64 w25 fun y26 =>
                                          (bif (decide ((y26 : Int) ≤ x2)) then
                                            (Tr.ret ([(AVal.bool false)], h21))
                                          else
                                            (P63_0 d k f0 l1 x2 x3 f4 l5 (IntKind.i64.wrap (x6 + 1)) (IntKind.i64.wrap (x7 + 1)) h21))))
                                    else
                                      Tr.fail)
                                  else
                                    (P63_0 d k f0 l1 x2 x3 f4 l5 (IntKind.i64.wrap (x6 + 1)) (IntKind.i64.wrap (x7 + 1)) h21))))))))
                    else
                      Tr.fail))
                else
                  Tr.fail)
              else
                (bif (decide ((x6 : Int) ≥ (l5.length : Int))) then
                  (bif (decide ((0 : Int) ≤ x7) && decide ((x7 : Int) < (l1.length : Int))) then
                    (optK ((AVal.cells (l1.getD (Int.toNat x7) AVal.undef))[2]?) fun w27 =>
                      (intK .i64 w27 fun y28 =>
                        (bif (decide ((y28 : Int) ≤ x2)) then (Tr.ret ([(AVal.bool false)], h)) else (P63_0 d k f0 l1 x2 x3 f4 l5 (IntKind.i64.wrap (x6 + 1)) (IntKind.i64.wrap (x7 + 1)) h))))
                  else
                    Tr.fail)
                else
                  (P63_0 d k f0 l1 x2 x3 f4 l5 (IntKind.i64.wrap (x6 + 1)) (IntKind.i64.wrap (x7 + 1)) h))))))
      else
        Tr.fail))
  else
    (Tr.ret ([(AVal.bool (decide ((x6 : Int) ≥ (l5.length : Int))))], h))) := by kernel_rfl
theorem F63_eq (d : Nat) (f0 : Bool) (l1 : List AVal) (x2 : Int) (x3 : Int) (f4 : Bool) (l5 : List AVal) (h : Heap) : evFn Cw (d + 1) 63 [(AVal.sl f0 6 l1), (AVal.int .i64 x2), (AVal.int .i64 x3), (AVal.sl f4 6 l5)] h =
  (P63_0 d rounds f0 l1 x2 x3 f4 l5 0 0 h) := by kernel_rfl
/- f74 strandline/strandlineref11.SameAll -/
noncomputable def P74_0 (d k : Nat) (f0 : Bool) (l1 : List AVal) (f2 : Bool) (l3 : List AVal) (x4 : Int) (h : Heap) : Tr Res :=
  loopPt Cw d 74 [true, true, false, true, true] [] k ⟨[(0, (EV.one (SV.val (AVal.sl f0 6 l1)))), (1, (EV.one (SV.val (AVal.sl f2 6 l3)))), (5, (EV.one (SV.val (AVal.int .i64 x4))))], []⟩ h
theorem P74_0_eq (d k : Nat) (f0 : Bool) (l1 : List AVal) (f2 : Bool) (l3 : List AVal) (x4 : Int) (h : Heap) : P74_0 d (k + 1) f0 l1 f2 l3 x4 h =
  (bif (decide ((x4 : Int) < (l1.length : Int))) then
    (bif (decide ((0 : Int) ≤ x4) && decide ((x4 : Int) < (l1.length : Int))) then
      (aggK 5 (l1.getD (Int.toNat x4) AVal.undef) fun cc1 =>
        (bif (decide ((0 : Int) ≤ x4) && decide ((x4 : Int) < (l3.length : Int))) then
          (aggK 5 (l3.getD (Int.toNat x4) AVal.undef) fun cc2 =>
            (runK (evFn Cw d 24 [(AVal.agg cc1), (AVal.agg cc2)] h) fun r3 h3 =>
              (consK r3 fun w4 ws5 =>
                (boolK w4 fun bb6 =>
                  (nilK ws5
                    (bif (!bb6) then (Tr.ret ([(AVal.bool false)], h3)) else (P74_0 d k f0 l1 f2 l3 (IntKind.i64.wrap (x4 + 1)) h3)))))))
        else
          Tr.fail))
    else
      Tr.fail)
  else
    (Tr.ret ([(AVal.bool true)], h))) := by kernel_rfl
theorem F74_eq (d : Nat) (f0 : Bool) (l1 : List AVal) (f2 : Bool) (l3 : List AVal) (h : Heap) : evFn Cw (d + 1) 74 [(AVal.sl f0 6 l1), (AVal.sl f2 6 l3)] h =
  (bif (((l1.length : Int) : Int) != (l3.length : Int)) then (Tr.ret ([(AVal.bool false)], h)) else (P74_0 d rounds f0 l1 f2 l3 0 h)) := by kernel_rfl
/- f65 strandline/strandlineref30.Prefix -/
theorem F65_eq (d : Nat) (f0 : Bool) (l1 : List AVal) (f2 : Bool) (l3 : List AVal) (h : Heap) : evFn Cw (d + 1) 65 [(AVal.sl f0 6 l1), (AVal.sl f2 6 l3)] h =
  (bif (decide (((l1.length : Int) : Int) ≤ (l3.length : Int))) then
    (bif (decide ((0 : Int) ≤ (l1.length : Int)) && decide (((l1.length : Int) : Int) ≤ (l3.length : Int))) then
      (runK (evFn Cw d 74 [(AVal.sl f0 6 l1), (AVal.sl false 6 (Go.Weave.part 0 (l1.length : Int) l3))] h) fun r1 h1 =>
        (consK r1 fun w2 ws3 =>
          (boolK w2 fun bb4 =>
            (nilK ws3
              (Tr.ret ([(AVal.bool bb4)], h1))))))
    else
      Tr.fail)
  else
    (Tr.ret ([(AVal.bool false)], h))) := by kernel_rfl
/- f14 strandline/strandlinelaw30.ListMays -/
theorem F14_eq (d : Nat) (f0 : Bool) (l1 : List AVal) (f2 : Bool) (l3 : List AVal) (x4 : Int) (x5 : Int) (h : Heap) : evFn Cw (d + 1) 14 [(AVal.sl f0 6 l1), (AVal.sl f2 6 l3), (AVal.agg [(AVal.int .i64 x4), (AVal.int .i64 x5)])] h =
  (bif (decide (((l1.length : Int) : Int) > 200)) then
    (runK (evFn Cw d 55 [] h) fun r1 h1 =>
      (consK r1 fun w2 ws3 =>
        (boolK w2 fun bb4 =>
          (nilK ws3
            (Tr.ret ([(AVal.bool bb4)], h1))))))
  else
    (bif (decide (((l3.length : Int) : Int) > 200)) then
      (runK (evFn Cw d 55 [] h) fun r5 h5 =>
        (consK r5 fun w6 ws7 =>
          (boolK w6 fun bb8 =>
            (nilK ws7
              (Tr.ret ([(AVal.bool bb8)], h5))))))
    else
      (runK (evFn Cw d 62 [(AVal.sl f0 6 l1), (AVal.int .i64 x4), (AVal.int .i64 x5), (AVal.sl f2 6 l3)] h) fun r9 h9 =>
        (consK r9 fun w10 ws11 =>
          (boolK w10 fun bb12 =>
            (nilK ws11
              (runK (evFn Cw d 63 [(AVal.sl f0 6 l1), (AVal.int .i64 x4), (AVal.int .i64 x5), (AVal.sl f2 6 l3)] h9) fun r13 h13 =>
                (consK r13 fun w14 ws15 =>
                  (boolK w14 fun bb16 =>
                    (nilK ws15
                      (bif (bb12 == bb16) then
                        (runK (evFn Cw d 64 [(AVal.sl f2 6 l3), (AVal.sl f0 6 l1)] h13) fun r17 h17 =>
                          (consK r17 fun w18 ws19 =>
                            (boolK w18 fun bb20 =>
                              (nilK ws19
                                (runK (evFn Cw d 65 [(AVal.sl f2 6 l3), (AVal.sl f0 6 l1)] h17) fun r21 h21 =>
                                  (consK r21 fun w22 ws23 =>
                                    (boolK w22 fun bb24 =>
                                      (nilK ws23
                                        (bif (bb20 == bb24) then
                                          (runK (evFn Cw d 55 [] h21) fun r25 h25 =>
                                            (consK r25 fun w26 ws27 =>
                                              (boolK w26 fun bb28 =>
                                                (nilK ws27
                                                  (Tr.ret ([(AVal.bool bb28)], h25))))))
                                        else
                                          (Tr.ret ([(AVal.bool false)], h21)))))))))))
                      else
                        (Tr.ret ([(AVal.bool false)], h13))))))))))))) := by kernel_rfl
end Go.Proofs.Ythebimbdijkiiaa.Wa
