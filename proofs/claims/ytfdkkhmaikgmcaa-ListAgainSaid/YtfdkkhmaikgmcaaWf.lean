/- What the evaluator comes to in these functions. -/
import Derived.Test.YtfdkkhmaikgmcaaW0
import Derived.Test.YtfdkkhmaikgmcaaWvLb
import Derived.KernelRfl
namespace Go.Proofs.Ytfdkkhmaikgmcaa.Wa
open Go Go.Weave
set_option maxRecDepth 100000
set_option linter.unusedVariables false
/- f96 strandline/list.begins[strandline/api.Rec] -/
noncomputable def P96_0 (d k : Nat) (f0 : Bool) (l1 : List AVal) (f2 : Bool) (l3 : List AVal) (x4 : Int) (x5 : Int) (h : Heap) : Tr Res :=
  loopPt Cw d 96 [true, true, false, true, true] [] k ⟨[(0, (EV.one (SV.val (AVal.sl f0 6 l1)))), (1, (EV.one (SV.val (AVal.sl f2 6 l3)))), (2, (EV.one (SV.val (AVal.fn 23 [] [])))), (14, (EV.one (SV.val (AVal.int .i64 x4)))), (15, (EV.one (SV.val (AVal.int .i64 x5))))], []⟩ h
theorem P96_0_eq (d k : Nat) (f0 : Bool) (l1 : List AVal) (f2 : Bool) (l3 : List AVal) (x4 : Int) (x5 : Int) (h : Heap) : P96_0 d (k + 1) f0 l1 f2 l3 x4 x5 h =
  (bif (decide ((x5 : Int) < x4)) then
    (bif (decide ((0 : Int) ≤ x5) && decide ((x5 : Int) < (l1.length : Int))) then
      (aggK 5 (l1.getD (Int.toNat x5) AVal.undef) fun cc1 =>
        (bif (decide ((0 : Int) ≤ x5) && decide ((x5 : Int) < (l3.length : Int))) then
          (aggK 5 (l3.getD (Int.toNat x5) AVal.undef) fun cc2 =>
            (runK (evFn Cw d 23 [(AVal.agg cc1), (AVal.agg cc2)] h) fun r3 h3 =>
              (consK r3 fun w4 ws5 =>
                (boolK w4 fun bb6 =>
                  (nilK ws5
                    (bif (!bb6) then (Tr.ret ([(AVal.bool false)], h3)) else (P96_0 d k f0 l1 f2 l3 x4 (IntKind.i64.wrap (x5 + 1)) h3)))))))
        else
          Tr.fail))
    else
      Tr.fail)
  else
    (Tr.ret ([(AVal.bool true)], h))) := by kernel_rfl
theorem F96_eq (d : Nat) (f0 : Bool) (l1 : List AVal) (f2 : Bool) (l3 : List AVal) (h : Heap) : evFn Cw (d + 1) 96 [(AVal.sl f0 6 l1), (AVal.sl f2 6 l3), (AVal.fn 23 [] [])] h =
  (bif (decide (((l1.length : Int) : Int) > (l3.length : Int))) then (Tr.ret ([(AVal.bool false)], h)) else (P96_0 d rounds f0 l1 f2 l3 (l1.length : Int) 0 h)) := by kernel_rfl
/- f67 strandline/list.Prefix -/
theorem F67_eq (d : Nat) (f0 : Bool) (l1 : List AVal) (f2 : Bool) (l3 : List AVal) (h : Heap) : evFn Cw (d + 1) 67 [(AVal.sl f0 6 l1), (AVal.sl f2 6 l3)] h =
  (runK (evFn Cw d 96 [(AVal.sl f0 6 l1), (AVal.sl f2 6 l3), (AVal.fn 23 [] [])] h) fun r1 h1 =>
    (consK r1 fun w2 ws3 =>
      (boolK w2 fun bb4 =>
        (nilK ws3
          (Tr.ret ([(AVal.bool bb4)], h1)))))) := by kernel_rfl
/- f13 strandline/list.May -/
noncomputable def P13_0 (d k : Nat) (f0 : Bool) (l1 : List AVal) (x2 : Int) (x3 : Int) (f4 : Bool) (l5 : List AVal) (l6 : List AVal) (x7 : Int) (f8 : Bool) (l9 : List AVal) (x10 : Int) (x11 : Int) (h : Heap) : Tr Res :=
  loopPt Cw d 13 [true, true, true, false, true, true] [] k ⟨[(0, (EV.one (SV.val (AVal.sl f0 6 l1)))), (1, (EV.one (SV.val (AVal.int .i64 x2)))), (2, (EV.one (SV.val (AVal.int .i64 x3)))), (3, (EV.one (SV.val (AVal.sl f4 6 l5)))), (9, (EV.one (SV.own (tokOf 9 0) 6 l6))), (10, (EV.one (SV.val (AVal.int .i64 x7)))), (13, (EV.one (SV.val (AVal.sl f8 6 l9)))), (14, (EV.one (SV.val (AVal.int .i64 x10)))), (15, (EV.one (SV.val (AVal.int .i64 x11))))], []⟩ h
theorem P13_0_eq (d k : Nat) (f0 : Bool) (l1 : List AVal) (x2 : Int) (x3 : Int) (f4 : Bool) (l5 : List AVal) (l6 : List AVal) (x7 : Int) (f8 : Bool) (l9 : List AVal) (x10 : Int) (x11 : Int) (h : Heap) : P13_0 d (k + 1) f0 l1 x2 x3 f4 l5 l6 x7 f8 l9 x10 x11 h =
  (bif (decide ((x11 : Int) < x10)) then
    (bif (decide ((0 : Int) ≤ x11) && decide ((x11 : Int) < (l9.length : Int))) then
      (aggK 5 (l9.getD (Int.toNat x11) AVal.undef) fun cc1 =>
        (bif ((cc1.length == 5) && true) then
          (bif (decide ((x11 : Int) > 0)) then
            (bif (decide ((0 : Int) ≤ (IntKind.i64.wrap (x11 - 1))) && decide (((IntKind.i64.wrap (x11 - 1)) : Int) < (l1.length : Int))) then
              (optK ((AVal.cells (l1.getD (Int.toNat (IntKind.i64.wrap (x11 - 1))) AVal.undef))[2]?) fun w2 =>
                (intK .i64 w2 fun y3 =>
                  (optK (cc1[2]?) fun w4 =>
                    (intK .i64 w4 fun y5 =>
                      (bif (decide ((y3 : Int) ≥ y5)) then
                        (Tr.ret ([(AVal.bool false)], h))
                      else
                        (optK (cc1[2]?) fun w6 =>
                          (intK .i64 w6 fun y7 =>
                            (bif (decide ((y7 : Int) < x3)) then
                              (P13_0 d k f0 l1 x2 x3 f4 l5 l6 x7 f8 l9 x10 (IntKind.i64.wrap (x11 + 1)) h)
                            else
                              (bif decide (0 + 5 ≤ cc1.length) then
                                (bif ((((cc1.drop 0).take 5).length == 5) && true) then
                                  (bif decide ((l6.length + (1 : Nat)) * 56 ≤ 140737488355328) then
                                    (optK (cc1[2]?) fun w8 =>
                                      (intK .i64 w8 fun y9 =>
                                        (bif (decide ((y9 : Int) ≤ x2)) then
                                          (P13_0 d k f0 l1 x2 x3 f4 l5 (l6 ++ [(AVal.agg ((cc1.drop 0).take 5))]) ((l6 ++ [(AVal.agg ((cc1.drop 0).take 5))]).length : Int) f8 l9 x10 (IntKind.i64.wrap (x11 + 1)) h)
                                        else
                                          (P13_0 d k f0 l1 x2 x3 f4 l5 (l6 ++ [(AVal.agg ((cc1.drop 0).take 5))]) x7 f8 l9 x10 (IntKind.i64.wrap (x11 + 1)) h))))
                                  else
                                    Tr.fail)
                                else
                                  Tr.fail)
                              else
                                Tr.fail)))))))))
            else
              Tr.fail)
          else
            (optK (cc1[2]?) fun w10 =>
              (intK .i64 w10 fun y11 =>
                (bif (decide ((y11 : Int) < x3)) then
                  (P13_0 d k f0 l1 x2 x3 f4 l5 l6 x7 f8 l9 x10 (IntKind.i64.wrap (x11 + 1)) h)
                else
                  (bif decide (0 + 5 ≤ cc1.length) then
                    (bif ((((cc1.drop 0).take 5).length == 5) && true) then
                      (bif decide ((l6.length + (1 : Nat)) * 56 ≤ 140737488355328) then
                        (optK (cc1[2]?) fun w12 =>
                          (intK .i64 w12 fun y13 =>
                            (bif (decide ((y13 : Int) ≤ x2)) then
                              (P13_0 d k f0 l1 x2 x3 f4 l5 (l6 ++ [(AVal.agg ((cc1.drop 0).take 5))]) ((l6 ++ [(AVal.agg ((cc1.drop 0).take 5))]).length : Int) f8 l9 x10 (IntKind.i64.wrap (x11 + 1)) h)
                            else
                              (P13_0 d k f0 l1 x2 x3 f4 l5 (l6 ++ [(AVal.agg ((cc1.drop 0).take 5))]) x7 f8 l9 x10 (IntKind.i64.wrap (x11 + 1)) h))))
                      else
                        Tr.fail)
                    else
                      Tr.fail)
                  else
                    Tr.fail)))))
        else
          Tr.fail))
    else
      Tr.fail)
  else
    (bif (decide (((l5.length : Int) : Int) ≥ x7)) then
      (runK (evFn Cw d 67 [(AVal.sl f4 6 l5), (AVal.sl false 6 l6)] h) fun r14 h14 =>
        (consK r14 fun w15 ws16 =>
          (boolK w15 fun bb17 =>
            (nilK ws16
              (Tr.ret ([(AVal.bool bb17)], h14))))))
    else
      (Tr.ret ([(AVal.bool false)], h)))) := by kernel_rfl
theorem F13_eq (d : Nat) (f0 : Bool) (l1 : List AVal) (x2 : Int) (x3 : Int) (f4 : Bool) (l5 : List AVal) (h : Heap) : evFn Cw (d + 1) 13 [(AVal.sl f0 6 l1), (AVal.int .i64 x2), (AVal.int .i64 x3), (AVal.sl f4 6 l5)] h =
  (P13_0 d rounds f0 l1 x2 x3 f4 l5 [] 0 f0 l1 (l1.length : Int) 0 h) := by kernel_rfl
/- f68 strandline/list.Follow -/
noncomputable def P68_0 (d k : Nat) (x0 : Int) (f1 : Bool) (l2 : List AVal) (x3 : Int) (x4 : Int) (c5 : List AVal) (h : Heap) : Tr Res :=
  loopPt Cw d 68 [true, false, true, true] [] k ⟨[(1, (EV.one (SV.val (AVal.int .i64 x0)))), (5, (EV.one (SV.loc 5 0))), (9, (EV.one (SV.val (AVal.sl f1 6 l2)))), (10, (EV.one (SV.val (AVal.int .i64 x3)))), (11, (EV.one (SV.val (AVal.int .i64 x4))))], [(5, (Box.plain c5))]⟩ h
theorem P68_0_eq (d k : Nat) (x0 : Int) (f1 : Bool) (l2 : List AVal) (x3 : Int) (x4 : Int) (c5 : List AVal) (h : Heap) : P68_0 d (k + 1) x0 f1 l2 x3 x4 c5 h =
  (bif (decide ((x4 : Int) < x3)) then
    (bif (decide ((0 : Int) ≤ x4) && decide ((x4 : Int) < (l2.length : Int))) then
      (aggK 5 (l2.getD (Int.toNat x4) AVal.undef) fun cc1 =>
        (bif ((cc1.length == 5) && true) then
          (bif decide (0 + 5 ≤ cc1.length) then
            (runK (evFn Cw d 21 [(AVal.agg ((cc1.drop 0).take 5))] h) fun r2 h2 =>
              (consK r2 fun w3 ws4 =>
                (boolK w3 fun bb5 =>
                  (nilK ws4
                    (bif (!bb5) then
                      (Tr.ret ([(AVal.bool false)], h2))
                    else
                      (optK (cc1[2]?) fun w6 =>
                        (intK .i64 w6 fun y7 =>
                          (bif (((IntKind.i64.wrap (y7 - x4)) : Int) != x0) then
                            (Tr.ret ([(AVal.bool false)], h2))
                          else
                            (optK (cc1[3]?) fun w8 =>
                              (intK .i64 w8 fun y9 =>
                                (optK (cc1[1]?) fun w10 =>
                                  (intK .i64 w10 fun y11 =>
                                    (bif (decide ((0 : Int) ≤ y11) && decide ((y11 : Int) < 4)) then
                                      (optK (c5[(0 + ((Int.toNat y11) * 1))]?) fun w12 =>
                                        (intK .i64 w12 fun y13 =>
                                          (bif ((y9 : Int) != y13) then
                                            (Tr.ret ([(AVal.bool false)], h2))
                                          else
                                            (optK (cc1[1]?) fun w14 =>
                                              (intK .i64 w14 fun y15 =>
                                                (optK (cc1[2]?) fun w16 =>
                                                  (intK .i64 w16 fun y17 =>
                                                    (bif (decide ((0 : Int) ≤ y15) && decide ((y15 : Int) < 4)) then
                                                      (bif decide ((0 + ((Int.toNat y15) * 1)) + 1 ≤ c5.length) then
                                                        (P68_0 d k x0 f1 l2 x3 (IntKind.i64.wrap (x4 + 1)) (c5.set (0 + ((Int.toNat y15) * 1)) (AVal.int .i64 y17)) h2)
                                                      else
                                                        Tr.fail)
                                                    else
                                                      Tr.fail))))))))
                                    else
                                      Tr.fail)))))))))))))
          else
            Tr.fail)
        else
          Tr.fail))
    else
      Tr.fail)
  else
    (Tr.ret ([(AVal.bool true)], h))) := by kernel_rfl
theorem F68_eq (d : Nat) (f0 : Bool) (l1 : List AVal) (x2 : Int) (x3 : Int) (x4 : Int) (x5 : Int) (x6 : Int) (h : Heap) : evFn Cw (d + 1) 68 [(AVal.sl f0 6 l1), (AVal.int .i64 x2), (AVal.agg [(AVal.int .i64 x3), (AVal.int .i64 x4), (AVal.int .i64 x5), (AVal.int .i64 x6)])] h =
  (P68_0 d rounds x2 f0 l1 (l1.length : Int) 0 [(AVal.int .i64 x3), (AVal.int .i64 x4), (AVal.int .i64 x5), (AVal.int .i64 x6)] h) := by kernel_rfl
/- f69 strandline/list.Heads -/
noncomputable def P69_0 (d k : Nat) (f0 : Bool) (l1 : List AVal) (x2 : Int) (x3 : Int) (c4 : List AVal) (x5 : Int) (x6 : Int) (x7 : Int) (x8 : Int) (h : Heap) : Tr Res :=
  loopPt Cw d 69 [true, false, true, true] [] k ⟨[(3, (EV.one (SV.loc 3 0))), (4, (EV.one (SV.loc 4 0))), (7, (EV.one (SV.val (AVal.sl f0 6 l1)))), (8, (EV.one (SV.val (AVal.int .i64 x2)))), (9, (EV.one (SV.val (AVal.int .i64 x3))))], [(3, (Box.plain c4)), (4, (Box.plain [(AVal.int .i64 x5), (AVal.int .i64 x6), (AVal.int .i64 x7), (AVal.int .i64 x8)]))]⟩ h
theorem P69_0_eq (d k : Nat) (f0 : Bool) (l1 : List AVal) (x2 : Int) (x3 : Int) (c4 : List AVal) (x5 : Int) (x6 : Int) (x7 : Int) (x8 : Int) (h : Heap) : P69_0 d (k + 1) f0 l1 x2 x3 c4 x5 x6 x7 x8 h =
  (bif (decide ((x3 : Int) < x2)) then
    (bif (decide ((0 : Int) ≤ x3) && decide ((x3 : Int) < (l1.length : Int))) then
      (aggK 5 (l1.getD (Int.toNat x3) AVal.undef) fun cc1 =>
        (bif ((cc1.length == 5) && true) then
          (optK (cc1[1]?) fun w2 =>
            (intK .i64 w2 fun y3 =>
              (bif (decide ((y3 : Int) ≥ 0)) then
                (optK (cc1[1]?) fun w4 =>
                  (intK .i64 w4 fun y5 =>
                    (bif (decide ((y5 : Int) < 4)) then
                      (optK (cc1[1]?) fun w6 =>
                        (intK .i64 w6 fun y7 =>
                          (optK (cc1[2]?) fun w8 =>
                            (intK .i64 w8 fun y9 =>
                              (bif (decide ((0 : Int) ≤ y7) && decide ((y7 : Int) < 4)) then
                                (bif decide ((0 + ((Int.toNat y7) * 1)) + 1 ≤ c4.length) then
                                  (P69_0 d k f0 l1 x2 (IntKind.i64.wrap (x3 + 1)) (c4.set (0 + ((Int.toNat y7) * 1)) (AVal.int .i64 y9)) x5 x6 x7 x8 h)
                                else
                                  Tr.fail)
                              else
                                Tr.fail)))))
                    else
                      (P69_0 d k f0 l1 x2 (IntKind.i64.wrap (x3 + 1)) c4 x5 x6 x7 x8 h))))
              else
                (P69_0 d k f0 l1 x2 (IntKind.i64.wrap (x3 + 1)) c4 x5 x6 x7 x8 h))))
        else
          Tr.fail))
    else
      Tr.fail)
  else
    (bif decide (0 + 4 ≤ c4.length) then
      (bif ((((c4.drop 0).take 4).length == 4) && true) then
        (bif decide (0 + 4 ≤ ((c4.drop 0).take 4).length) then (Tr.ret ([(AVal.agg ((((c4.drop 0).take 4).drop 0).take 4))], h)) else Tr.fail)
      else
        Tr.fail)
    else
      Tr.fail)) := by kernel_rfl
theorem F69_eq (d : Nat) (f0 : Bool) (l1 : List AVal) (x2 : Int) (x3 : Int) (x4 : Int) (x5 : Int) (h : Heap) : evFn Cw (d + 1) 69 [(AVal.sl f0 6 l1), (AVal.agg [(AVal.int .i64 x2), (AVal.int .i64 x3), (AVal.int .i64 x4), (AVal.int .i64 x5)])] h =
  (P69_0 d rounds f0 l1 (l1.length : Int) 0 [(AVal.int .i64 x2), (AVal.int .i64 x3), (AVal.int .i64 x4), (AVal.int .i64 x5)] 0 0 0 0 h) := by kernel_rfl
/- f70 strandline/list.Chain -/
noncomputable def P70_0 (d k : Nat) (f0 : Bool) (l1 : List AVal) (x2 : Int) (m3 : Nat) (x4 : Int) (x5 : Int) (h : Heap) : Tr Res :=
  loopPt Cw d 70 [true, true, false, true, true] [] k ⟨[(0, (EV.one (SV.val (AVal.sl f0 6 l1)))), (1, (EV.one (SV.val (AVal.int .i64 x2)))), (5, (EV.one (SV.val (AVal.map m3)))), (13, (EV.one (SV.val (AVal.int .i64 x4)))), (14, (EV.one (SV.val (AVal.int .i64 x5))))], []⟩ h
noncomputable def P70_1 (d k : Nat) (x0 : Int) (m1 : Nat) (l2 : List AVal) (h : Heap) : Tr Res :=
  loopPt Cw d 70 [true, true, true, true, true] [] k ⟨[(1, (EV.one (SV.val (AVal.int .i64 x0)))), (5, (EV.one (SV.val (AVal.map m1)))), (8, (EV.one (SV.own (tokOf 8 0) 0 l2)))], []⟩ h
theorem P70_0_eq (d k : Nat) (f0 : Bool) (l1 : List AVal) (x2 : Int) (m3 : Nat) (x4 : Int) (x5 : Int) (h : Heap) : P70_0 d (k + 1) f0 l1 x2 m3 x4 x5 h =
  (bif (decide ((x5 : Int) < x4)) then
    (bif (decide ((0 : Int) ≤ (IntKind.i64.wrap ((IntKind.i64.wrap ((l1.length : Int) - 1)) - x5))) && decide (((IntKind.i64.wrap ((IntKind.i64.wrap ((l1.length : Int) - 1)) - x5)) : Int) < (l1.length : Int))) then
      (aggK 5 (l1.getD (Int.toNat (IntKind.i64.wrap ((IntKind.i64.wrap ((l1.length : Int) - 1)) - x5))) AVal.undef) fun cc1 =>
        (bif ((cc1.length == 5) && true) then
          (optK (cc1[2]?) fun w2 =>
            (intK .i64 w2 fun y3 =>
              (optK (cc1[3]?) fun w4 =>
                (intK .i64 w4 fun y5 =>
                  (updK 3 (AVal.map m3) (AVal.int .i64 y3) (AVal.int .i64 y5) h fun h6 =>
                    (P70_0 d k f0 l1 x2 m3 x4 (IntKind.i64.wrap (x5 + 1)) h6))))))
        else
          Tr.fail))
    else
      Tr.fail)
  else
    (P70_1 d rounds x2 m3 [] h)) := by kernel_rfl
theorem P70_1_eq (d k : Nat) (x0 : Int) (m1 : Nat) (l2 : List AVal) (h : Heap) : P70_1 d (k + 1) x0 m1 l2 h =
  (lookK 3 (AVal.int .i64 0) (AVal.map m1) (AVal.int .i64 x0) h fun w1 bb2 =>
    (intK .i64 w1 fun y3 =>
      (bif (!bb2) then
        (Tr.ret ([(AVal.sl false 0 l2)], h))
      else
        (bif decide ((l2.length + (1 : Nat)) * 8 ≤ 140737488355328) then
          (bif (decide ((y3 : Int) ≥ x0)) then (Tr.ret ([(AVal.sl false 0 (l2 ++ [(AVal.int .i64 x0)]))], h)) else (P70_1 d k y3 m1 (l2 ++ [(AVal.int .i64 x0)]) h))
        else
          Tr.fail)))) := by kernel_rfl
theorem F70_eq (d : Nat) (f0 : Bool) (l1 : List AVal) (x2 : Int) (h : Heap) : evFn Cw (d + 1) 70 [(AVal.sl f0 6 l1), (AVal.int .i64 x2)] h =
  (P70_0 d rounds f0 l1 x2 h.objs.length (l1.length : Int) 0 (Heap.push h (Go.Weave.Obj.map 3 [] 0))) := by kernel_rfl
/- f14 strandline/strandlinelaw30.awake -/
theorem F14_eq (d : Nat) (h : Heap) : evFn Cw (d + 1) 14 [] h =
  (runK (evFn Cw d 68 [(AVal.sl true 6 [(AVal.agg [(AVal.int .i64 1), (AVal.int .i64 0), (AVal.int .i64 4), (AVal.int .i64 0), (AVal.sl true 0 [])]), (AVal.agg [(AVal.int .i64 1), (AVal.int .i64 0), (AVal.int .i64 5), (AVal.int .i64 4), (AVal.sl true 0 [])])]), (AVal.int .i64 4), (AVal.agg [(AVal.int .i64 0), (AVal.int .i64 0), (AVal.int .i64 0), (AVal.int .i64 0)])] h) fun r1 h1 =>
    (consK r1 fun w2 ws3 =>
      (boolK w2 fun bb4 =>
        (nilK ws3
          (bif bb4 then
            (runK (evFn Cw d 69 [(AVal.sl true 6 [(AVal.agg [(AVal.int .i64 1), (AVal.int .i64 0), (AVal.int .i64 4), (AVal.int .i64 0), (AVal.sl true 0 [])]), (AVal.agg [(AVal.int .i64 1), (AVal.int .i64 0), (AVal.int .i64 5), (AVal.int .i64 4), (AVal.sl true 0 [])])]), (AVal.agg [(AVal.int .i64 0), (AVal.int .i64 0), (AVal.int .i64 0), (AVal.int .i64 0)])] h1) fun r5 h5 =>
              (consK r5 fun w6 ws7 =>
                (aggK 4 w6 fun cc8 =>
                  (nilK ws7
                    (bif ((arrOk Cw.P 4 3 (AVal.agg cc8)) && true) then
                      (bif (eqCells cc8 [(AVal.int .i64 5), (AVal.int .i64 0), (AVal.int .i64 0), (AVal.int .i64 0)]) then
                        (runK (evFn Cw d 70 [(AVal.sl true 6 [(AVal.agg [(AVal.int .i64 1), (AVal.int .i64 0), (AVal.int .i64 4), (AVal.int .i64 0), (AVal.sl true 0 [])]), (AVal.agg [(AVal.int .i64 1), (AVal.int .i64 0), (AVal.int .i64 5), (AVal.int .i64 4), (AVal.sl true 0 [])])]), (AVal.int .i64 5)] h5) fun r9 h9 =>
                          (consK r9 fun w10 ws11 =>
                            (slOK 0 w10 fun es12 =>
                              (nilK ws11
                                (bif (((es12.length : Int) : Int) == 2) then
                                  (runK (evFn Cw d 13 [(AVal.sl true 6 [(AVal.agg [(AVal.int .i64 1), (AVal.int .i64 0), (AVal.int .i64 4), (AVal.int .i64 0), (AVal.sl true 0 [])]), (AVal.agg [(AVal.int .i64 1), (AVal.int .i64 0), (AVal.int .i64 5), (AVal.int .i64 4), (AVal.sl true 0 [])])]), (AVal.int .i64 4), (AVal.int .i64 4), (AVal.sl false 6 [(AVal.agg [(AVal.int .i64 1), (AVal.int .i64 0), (AVal.int .i64 4), (AVal.int .i64 0), (AVal.sl true 0 [])])])] h9) fun r13 h13 =>
                                    (consK r13 fun w14 ws15 =>
                                      (boolK w14 fun bb16 =>
                                        (nilK ws15
                                          (bif bb16 then
                                            (runK (evFn Cw d 13 [(AVal.sl true 6 [(AVal.agg [(AVal.int .i64 1), (AVal.int .i64 0), (AVal.int .i64 4), (AVal.int .i64 0), (AVal.sl true 0 [])]), (AVal.agg [(AVal.int .i64 1), (AVal.int .i64 0), (AVal.int .i64 5), (AVal.int .i64 4), (AVal.sl true 0 [])])]), (AVal.int .i64 5), (AVal.int .i64 4), (AVal.sl false 6 [(AVal.agg [(AVal.int .i64 1), (AVal.int .i64 0), (AVal.int .i64 4), (AVal.int .i64 0), (AVal.sl true 0 [])])])] h13) fun r17 h17 =>
                                              (consK r17 fun w18 ws19 =>
                                                (boolK w18 fun bb20 =>
                                                  (nilK ws19
                                                    (Tr.ret ([(AVal.bool (!bb20))], h17))))))
                                          else
                                            (Tr.ret ([(AVal.bool false)], h13)))))))
                                else
                                  (Tr.ret ([(AVal.bool false)], h9)))))))
                      else
                        (Tr.ret ([(AVal.bool false)], h5)))
                    else
                      Tr.fail)))))
          else
            (Tr.ret ([(AVal.bool false)], h1))))))) := by kernel_rfl
/- f3 strandline/strandlinelaw30.ListAgain -/
theorem F3_eq (d : Nat) (f0 : Bool) (l1 : List AVal) (f2 : Bool) (l3 : List AVal) (x4 : Int) (x5 : Int) (h : Heap) : evFn Cw (d + 1) 3 [(AVal.sl f0 6 l1), (AVal.sl f2 6 l3), (AVal.agg [(AVal.int .i64 x4), (AVal.int .i64 x5)])] h =
  (bif (decide (((l1.length : Int) : Int) > 200)) then
    (runK (evFn Cw d 14 [] h) fun r1 h1 =>
      (consK r1 fun w2 ws3 =>
        (boolK w2 fun bb4 =>
          (nilK ws3
            (Tr.ret ([(AVal.bool bb4)], h1))))))
  else
    (bif (decide (((l3.length : Int) : Int) > 200)) then
      (runK (evFn Cw d 14 [] h) fun r5 h5 =>
        (consK r5 fun w6 ws7 =>
          (boolK w6 fun bb8 =>
            (nilK ws7
              (Tr.ret ([(AVal.bool bb8)], h5))))))
    else
      (runK (evFn Cw d 13 [(AVal.sl f0 6 l1), (AVal.int .i64 x4), (AVal.int .i64 x5), (AVal.sl f2 6 l3)] h) fun r9 h9 =>
        (consK r9 fun w10 ws11 =>
          (boolK w10 fun bb12 =>
            (nilK ws11
              (bif (!bb12) then
                (runK (evFn Cw d 14 [] h9) fun r13 h13 =>
                  (consK r13 fun w14 ws15 =>
                    (boolK w14 fun bb16 =>
                      (nilK ws15
                        (Tr.ret ([(AVal.bool bb16)], h13))))))
              else
                (bif (((l3.length : Int) : Int) == 0) then
                  (runK (evFn Cw d 14 [] h9) fun r17 h17 =>
                    (consK r17 fun w18 ws19 =>
                      (boolK w18 fun bb20 =>
                        (nilK ws19
                          (Tr.ret ([(AVal.bool bb20)], h17))))))
                else
                  (bif (decide ((0 : Int) ≤ (IntKind.i64.wrap ((l3.length : Int) - 1))) && decide (((IntKind.i64.wrap ((l3.length : Int) - 1)) : Int) < (l3.length : Int))) then
                    (optK ((AVal.cells (l3.getD (Int.toNat (IntKind.i64.wrap ((l3.length : Int) - 1))) AVal.undef))[2]?) fun w21 =>
                      (intK .i64 w21 fun y22 =>
                        (runK (evFn Cw d 13 [(AVal.sl f2 6 l3), (AVal.int .i64 y22), (AVal.int .i64 x5), (AVal.sl f2 6 l3)] h9) fun r23 h23 =>
                          (consK r23 fun w24 ws25 =>
                            (boolK w24 fun bb26 =>
                              (nilK ws25
                                (bif bb26 then
                                  (bif (decide ((0 : Int) ≤ (IntKind.i64.wrap ((l3.length : Int) - 1))) && decide (((IntKind.i64.wrap ((l3.length : Int) - 1)) : Int) ≤ (l3.length : Int))) then
                                    (runK (evFn Cw d 13 [(AVal.sl f2 6 l3), (AVal.int .i64 y22), (AVal.int .i64 x5), (AVal.sl false 6 (Go.Weave.part 0 (IntKind.i64.wrap ((l3.length : Int) - 1)) l3))] h23) fun r27 h27 =>
                                      (consK r27 fun w28 ws29 =>
                                        (boolK w28 fun bb30 =>
                                          (nilK ws29
                                            (bif (!bb30) then
                                              (bif decide ((0 : Int) < (l3.length : Int)) then
                                                (aggK 5 (l3.getD 0 AVal.undef) fun cc31 =>
                                                  (bif decide ((0 : Int) < (l3.length : Int)) then
                                                    (aggK 5 (l3.getD 0 AVal.undef) fun cc32 =>
                                                      (runK (evFn Cw d 15 [(AVal.agg cc31), (AVal.agg cc32)] h27) fun r33 h33 =>
                                                        (consK r33 fun w34 ws35 =>
                                                          (boolK w34 fun bb36 =>
                                                            (nilK ws35
                                                              (bif bb36 then
                                                                (runK (evFn Cw d 14 [] h33) fun r37 h37 =>
                                                                  (consK r37 fun w38 ws39 =>
                                                                    (boolK w38 fun bb40 =>
                                                                      (nilK ws39
                                                                        (Tr.ret ([(AVal.bool bb40)], h37))))))
                                                              else
                                                                (Tr.ret ([(AVal.bool false)], h33))))))))
                                                  else
                                                    Tr.fail))
                                              else
                                                Tr.fail)
                                            else
                                              (Tr.ret ([(AVal.bool false)], h27)))))))
                                  else
                                    Tr.fail)
                                else
                                  (Tr.ret ([(AVal.bool false)], h23)))))))))
                  else
                    Tr.fail))))))))) := by kernel_rfl
end Go.Proofs.Ytfdkkhmaikgmcaa.Wa
