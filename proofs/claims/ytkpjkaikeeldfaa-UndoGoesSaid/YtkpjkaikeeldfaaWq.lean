/- What the evaluator comes to in these functions. -/
import Derived.Test.YtkpjkaikeeldfaaW0
import Derived.Test.YtkpjkaikeeldfaaWvLb
import Derived.KernelRfl
namespace Go.Proofs.Ytkpjkaikeeldfaa.Wa
open Go Go.Weave
set_option maxRecDepth 100000
set_option linter.unusedVariables false
/- f11 strandline/strandlineref42.Bytes -/
noncomputable def P11_0 (d : Nat) (s0 : List UInt8) (b1 : Bool) (b2 : Bool) (s3 : List UInt8) (s4 : List UInt8) (x5 : Int) (l6 : List AVal) (h : Heap) : Tr Res :=
  heldPt Cw d 11 [true, true, true, true] [] ⟨[(1, (EV.one (SV.loc 1 0))), (3, (EV.one (SV.lsl 4))), (4, (EV.one SV.unk))], [(1, (Box.plain [(AVal.str s0), (AVal.bool b1), (AVal.bool b2), (AVal.str s3), (AVal.str s4), (AVal.int .i64 x5)])), (4, (Box.arr 0 l6))]⟩ h
theorem P11_0_eq (d : Nat) (s0 : List UInt8) (b1 : Bool) (b2 : Bool) (s3 : List UInt8) (s4 : List UInt8) (x5 : Int) (l6 : List AVal) (h : Heap) : P11_0 d s0 b1 b2 s3 s4 x5 l6 h =
  (bif b2 then
    (bif decide ((0 : Int) < (l6.length : Int)) then
      (bif decide (0 < l6.length) then
        (intK .u8 (l6.getD 0 AVal.undef) fun y1 =>
          (bif decide ((0 : Int) < (l6.length : Int)) then
            (bif (decide (0 < l6.length) && true) then
              (runK (evFn Cw d 22 [(AVal.sl true 0 [(AVal.sl false 0 (s4.map ofByte))])] h) fun r2 h2 =>
                (consK r2 fun w3 ws4 =>
                  (slOK 0 w3 fun es5 =>
                    (nilK ws4
                      (bif decide (((l6.set 0 (AVal.int .u8 (IntKind.u8.wrap (y1 + 2)))).length + es5.length) * 1 ≤ 140737488355328) then
                        (runK (evFn Cw d 23 [(AVal.sl false 0 ((l6.set 0 (AVal.int .u8 (IntKind.u8.wrap (y1 + 2)))) ++ es5)), (AVal.int .u64 (IntKind.u64.wrap x5))] h2) fun r6 h6 =>
                          (consK r6 fun w7 ws8 =>
                            (slOK 0 w7 fun es9 =>
                              (nilK ws8
                                (Tr.ret ([(AVal.sl false 0 es9)], h6))))))
                      else
                        Tr.fail)))))
            else
              Tr.fail)
          else
            Tr.fail))
      else
        Tr.fail)
    else
      Tr.fail)
  else
    (runK (evFn Cw d 23 [(AVal.sl false 0 l6), (AVal.int .u64 (IntKind.u64.wrap x5))] h) fun r10 h10 =>
      (consK r10 fun w11 ws12 =>
        (slOK 0 w11 fun es13 =>
          (nilK ws12
            (Tr.ret ([(AVal.sl false 0 es13)], h10))))))) := (heldPt_eq _ _ _ _ _ _ _).trans (by kernel_rfl)
theorem F11_eq (d : Nat) (s0 : List UInt8) (b1 : Bool) (b2 : Bool) (s3 : List UInt8) (s4 : List UInt8) (x5 : Int) (h : Heap) : evFn Cw (d + 1) 11 [(AVal.agg [(AVal.str s0), (AVal.bool b1), (AVal.bool b2), (AVal.str s3), (AVal.str s4), (AVal.int .i64 x5)])] h =
  (runK (evFn Cw d 22 [(AVal.sl true 0 [(AVal.sl false 0 (s0.map ofByte))])] h) fun r1 h1 =>
    (consK r1 fun w2 ws3 =>
      (slOK 0 w2 fun es4 =>
        (nilK ws3
          (bif decide (((1 : Nat) + es4.length) * 1 ≤ 140737488355328) then
            (bif b1 then
              (bif decide ((0 : Int) < (([(AVal.int .u8 0)] ++ es4).length : Int)) then
                (bif decide (0 < ([(AVal.int .u8 0)] ++ es4).length) then
                  (intK .u8 (([(AVal.int .u8 0)] ++ es4).getD 0 AVal.undef) fun y5 =>
                    (bif decide ((0 : Int) < (([(AVal.int .u8 0)] ++ es4).length : Int)) then
                      (bif (decide (0 < ([(AVal.int .u8 0)] ++ es4).length) && true) then
                        (runK (evFn Cw d 22 [(AVal.sl true 0 [(AVal.sl false 0 (s3.map ofByte))])] h1) fun r6 h6 =>
                          (consK r6 fun w7 ws8 =>
                            (slOK 0 w7 fun es9 =>
                              (nilK ws8
                                (bif decide (((([(AVal.int .u8 0)] ++ es4).set 0 (AVal.int .u8 (IntKind.u8.wrap (y5 + 1)))).length + es9.length) * 1 ≤ 140737488355328) then
                                  (P11_0 d s0 b1 b2 s3 s4 x5 ((([(AVal.int .u8 0)] ++ es4).set 0 (AVal.int .u8 (IntKind.u8.wrap (y5 + 1)))) ++ es9) h6)
                                else
                                  Tr.fail)))))
                      else
                        Tr.fail)
                    else
                      Tr.fail))
                else
                  Tr.fail)
              else
                Tr.fail)
            else
              (P11_0 d s0 b1 b2 s3 s4 x5 ([(AVal.int .u8 0)] ++ es4) h1))
          else
            Tr.fail))))) := by kernel_rfl
/- f3 strandline/strandlinelaw42.TxEncodes -/
theorem F3_eq (d : Nat) (s0 : List UInt8) (b1 : Bool) (b2 : Bool) (s3 : List UInt8) (s4 : List UInt8) (x5 : Int) (h : Heap) : evFn Cw (d + 1) 3 [(AVal.agg [(AVal.str s0), (AVal.bool b1), (AVal.bool b2), (AVal.str s3), (AVal.str s4), (AVal.int .i64 x5)])] h =
  (runK (evFn Cw d 6 [(AVal.agg [(AVal.str s0), (AVal.bool b1), (AVal.bool b2), (AVal.str s3), (AVal.str s4), (AVal.int .i64 x5)])] h) fun r1 h1 =>
    (consK r1 fun w2 ws3 =>
      (slOK 0 w2 fun es4 =>
        (consK ws3 fun w5 ws6 =>
          (intK .i64 w5 fun y7 =>
            (nilK ws6
              (runK (evFn Cw d 7 [(AVal.agg [(AVal.str s0), (AVal.bool b1), (AVal.bool b2), (AVal.str s3), (AVal.str s4), (AVal.int .i64 x5)])] h1) fun r8 h8 =>
                (consK r8 fun w9 ws10 =>
                  (boolK w9 fun bb11 =>
                    (nilK ws10
                      (runK (evFn Cw d 8 [(AVal.agg [(AVal.str s0), (AVal.bool b1), (AVal.bool b2), (AVal.str s3), (AVal.str s4), (AVal.int .i64 x5)])] h8) fun r12 h12 =>
                        (consK r12 fun w13 ws14 =>
                          (boolK w13 fun bb15 =>
                            (nilK ws14
                              (bif (!(bb11 == bb15)) then
                                (Tr.ret ([(AVal.bool false)], h12))
                              else
                                (runK (evFn Cw d 8 [(AVal.agg [(AVal.str s0), (AVal.bool b1), (AVal.bool b2), (AVal.str s3), (AVal.str s4), (AVal.int .i64 x5)])] h12) fun r16 h16 =>
                                  (consK r16 fun w17 ws18 =>
                                    (boolK w17 fun bb19 =>
                                      (nilK ws18
                                        (bif (!bb19) then
                                          (bif ((y7 : Int) == 13) then
                                            (bif (((es4.length : Int) : Int) == 0) then
                                              (runK (evFn Cw d 9 [] h16) fun r20 h20 =>
                                                (consK r20 fun w21 ws22 =>
                                                  (boolK w21 fun bb23 =>
                                                    (nilK ws22
                                                      (Tr.ret ([(AVal.bool bb23)], h20))))))
                                            else
                                              (Tr.ret ([(AVal.bool false)], h16)))
                                          else
                                            (Tr.ret ([(AVal.bool false)], h16)))
                                        else
                                          (runK (evFn Cw d 10 [(AVal.sl false 0 es4)] h16) fun r24 h24 =>
                                            (consK r24 fun w25 ws26 =>
                                              (aggK 6 w25 fun cc27 =>
                                                (consK ws26 fun w28 ws29 =>
                                                  (intK .i64 w28 fun y30 =>
                                                    (nilK ws29
                                                      (bif ((cc27.length == 6) && true) then
                                                        (bif ((y7 : Int) == 0) then
                                                          (optK (toBytes es4) fun ss31 =>
                                                            (runK (evFn Cw d 11 [(AVal.agg [(AVal.str s0), (AVal.bool b1), (AVal.bool b2), (AVal.str s3), (AVal.str s4), (AVal.int .i64 x5)])] h24) fun r32 h32 =>
                                                              (consK r32 fun w33 ws34 =>
                                                                (slOK 0 w33 fun es35 =>
                                                                  (nilK ws34
                                                                    (optK (toBytes es35) fun ss36 =>
                                                                      (bif (ss31 == ss36) then
                                                                        (bif ((y30 : Int) == 0) then
                                                                          (bif decide (0 + 6 ≤ cc27.length) then
                                                                            (bif ((plainOk Cw.P 23 (AVal.agg ((cc27.drop 0).take 6))) && true) then
                                                                              (bif (eqCells ((cc27.drop 0).take 6) [(AVal.str s0), (AVal.bool b1), (AVal.bool b2), (AVal.str s3), (AVal.str s4), (AVal.int .i64 x5)]) then
                                                                                (runK (evFn Cw d 9 [] h32) fun r37 h37 =>
                                                                                  (consK r37 fun w38 ws39 =>
                                                                                    (boolK w38 fun bb40 =>
                                                                                      (nilK ws39
                                                                                        (Tr.ret ([(AVal.bool bb40)], h37))))))
                                                                              else
                                                                                (Tr.ret ([(AVal.bool false)], h32)))
                                                                            else
                                                                              Tr.fail)
                                                                          else
                                                                            Tr.fail)
                                                                        else
                                                                          (Tr.ret ([(AVal.bool false)], h32)))
                                                                      else
                                                                        (Tr.ret ([(AVal.bool false)], h32)))))))))
                                                        else
                                                          (Tr.ret ([(AVal.bool false)], h24)))
                                                      else
                                                        Tr.fail))))))))))))))))))))))))))) := by kernel_rfl
end Go.Proofs.Ytkpjkaikeeldfaa.Wa
