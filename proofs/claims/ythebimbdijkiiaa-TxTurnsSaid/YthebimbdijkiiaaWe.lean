/- What the evaluator comes to in these functions. -/
import Derived.Test.YthebimbdijkiiaaW0
import Derived.Test.YthebimbdijkiiaaWvLb
import Derived.KernelRfl
namespace Go.Proofs.Ythebimbdijkiiaa.Wa
open Go Go.Weave
set_option maxRecDepth 100000
set_option linter.unusedVariables false
/- f30 strandline/tx.Turn -/
theorem F30_eq (d : Nat) (s0 : List UInt8) (b1 : Bool) (b2 : Bool) (s3 : List UInt8) (s4 : List UInt8) (x5 : Int) (x6 : Int) (h : Heap) : evFn Cw (d + 1) 30 [(AVal.agg [(AVal.str s0), (AVal.bool b1), (AVal.bool b2), (AVal.str s3), (AVal.str s4), (AVal.int .i64 x5)]), (AVal.int .i64 x6)] h =
  (Tr.ret ([(AVal.agg [(AVal.str s0), (AVal.bool b2), (AVal.bool b1), (AVal.str s4), (AVal.str s3), (AVal.int .i64 x6)])], h)) := by kernel_rfl
/- f31 strandline/tx.Op -/
theorem F31_eq (d : Nat) (s0 : List UInt8) (b1 : Bool) (b2 : Bool) (s3 : List UInt8) (s4 : List UInt8) (x5 : Int) (h : Heap) : evFn Cw (d + 1) 31 [(AVal.agg [(AVal.str s0), (AVal.bool b1), (AVal.bool b2), (AVal.str s3), (AVal.str s4), (AVal.int .i64 x5)])] h =
  (bif b2 then
    (Tr.ret ([(AVal.agg [(AVal.int .i64 1), (AVal.str s0), (AVal.str s4)])], h))
  else
    (Tr.ret ([(AVal.agg [(AVal.int .i64 2), (AVal.str s0), (AVal.str [])])], h))) := by kernel_rfl
/- f76 strandline/tx.Right -/
theorem F76_eq (d : Nat) (s0 : List UInt8) (b1 : Bool) (b2 : Bool) (s3 : List UInt8) (s4 : List UInt8) (x5 : Int) (h : Heap) : evFn Cw (d + 1) 76 [(AVal.agg [(AVal.str s0), (AVal.bool b1), (AVal.bool b2), (AVal.str s3), (AVal.str s4), (AVal.int .i64 x5)])] h =
  (bif (decide (((s0.length : Int) : Int) < 1)) then
    (Tr.ret ([(AVal.bool false)], h))
  else
    (bif (decide (((s0.length : Int) : Int) > 24)) then
      (Tr.ret ([(AVal.bool false)], h))
    else
      (bif (decide (((s3.length : Int) : Int) > 128)) then
        (Tr.ret ([(AVal.bool false)], h))
      else
        (bif (decide (((s4.length : Int) : Int) > 128)) then
          (Tr.ret ([(AVal.bool false)], h))
        else
          (bif (!b1) then
            (bif (!(s3 == [])) then
              (Tr.ret ([(AVal.bool false)], h))
            else
              (bif (!b2) then
                (bif (!(s4 == [])) then
                  (Tr.ret ([(AVal.bool false)], h))
                else
                  (bif (decide ((x5 : Int) ≥ 0)) then (Tr.ret ([(AVal.bool (decide ((x5 : Int) ≤ 2147483647)))], h)) else (Tr.ret ([(AVal.bool false)], h))))
              else
                (bif (decide ((x5 : Int) ≥ 0)) then (Tr.ret ([(AVal.bool (decide ((x5 : Int) ≤ 2147483647)))], h)) else (Tr.ret ([(AVal.bool false)], h)))))
          else
            (bif (!b2) then
              (bif (!(s4 == [])) then
                (Tr.ret ([(AVal.bool false)], h))
              else
                (bif (decide ((x5 : Int) ≥ 0)) then (Tr.ret ([(AVal.bool (decide ((x5 : Int) ≤ 2147483647)))], h)) else (Tr.ret ([(AVal.bool false)], h))))
            else
              (bif (decide ((x5 : Int) ≥ 0)) then (Tr.ret ([(AVal.bool (decide ((x5 : Int) ≤ 2147483647)))], h)) else (Tr.ret ([(AVal.bool false)], h))))))))) := by kernel_rfl
/- f67 strandline/tx.Encode -/
noncomputable def P67_0 (d : Nat) (x0 : Int) (l1 : List AVal) (s2 : List UInt8) (b3 : Bool) (b4 : Bool) (s5 : List UInt8) (s6 : List UInt8) (x7 : Int) (h : Heap) : Tr Res :=
  heldPt Cw d 67 [true, true, true, true, true] [] ⟨[(1, (EV.one (SV.loc 1 0))), (4, (EV.one (SV.val (AVal.int .u8 x0)))), (5, (EV.one (SV.own (tokOf 5 0) 0 l1)))], [(1, (Box.plain [(AVal.str s2), (AVal.bool b3), (AVal.bool b4), (AVal.str s5), (AVal.str s6), (AVal.int .i64 x7)]))]⟩ h
theorem P67_0_eq (d : Nat) (x0 : Int) (l1 : List AVal) (s2 : List UInt8) (b3 : Bool) (b4 : Bool) (s5 : List UInt8) (s6 : List UInt8) (x7 : Int) (h : Heap) : P67_0 d x0 l1 s2 b3 b4 s5 s6 x7 h =
  (bif b4 then
    (bif decide ((l1.length + (1 : Nat)) * 24 ≤ 140737488355328) then
      (runK (evFn Cw d 34 [(AVal.sl false 0 (l1 ++ [(AVal.sl false 0 (s6.map ofByte))]))] h) fun r1 h1 =>
        (consK r1 fun w2 ws3 =>
          (slOK 0 w2 fun es4 =>
            (nilK ws3
              (bif decide (((1 : Nat) + es4.length) * 1 ≤ 140737488355328) then
                (runK (evFn Cw d 15 [(AVal.sl false 0 ([(AVal.int .u8 (IntKind.u8.wrap (BitVec.ofInt 8 x0 ||| BitVec.ofInt 8 2).toNat))] ++ es4)), (AVal.int .u64 (IntKind.u64.wrap x7))] h1) fun r5 h5 =>
                  (consK r5 fun w6 ws7 =>
                    (slOK 0 w6 fun es8 =>
                      (nilK ws7
                        (Tr.ret ([(AVal.sl false 0 es8), (AVal.int .i64 0)], h5))))))
              else
                Tr.fail)))))
    else
      Tr.fail)
  else
    (runK (evFn Cw d 34 [(AVal.sl false 0 l1)] h) fun r9 h9 =>
      (consK r9 fun w10 ws11 =>
        (slOK 0 w10 fun es12 =>
          (nilK ws11
            (bif decide (((1 : Nat) + es12.length) * 1 ≤ 140737488355328) then
              (runK (evFn Cw d 15 [(AVal.sl false 0 ([(AVal.int .u8 x0)] ++ es12)), (AVal.int .u64 (IntKind.u64.wrap x7))] h9) fun r13 h13 =>
                (consK r13 fun w14 ws15 =>
                  (slOK 0 w14 fun es16 =>
                    (nilK ws15
                      (Tr.ret ([(AVal.sl false 0 es16), (AVal.int .i64 0)], h13))))))
            else
              Tr.fail)))))) := (heldPt_eq _ _ _ _ _ _ _).trans (by kernel_rfl)
theorem F67_eq (d : Nat) (s0 : List UInt8) (b1 : Bool) (b2 : Bool) (s3 : List UInt8) (s4 : List UInt8) (x5 : Int) (h : Heap) : evFn Cw (d + 1) 67 [(AVal.agg [(AVal.str s0), (AVal.bool b1), (AVal.bool b2), (AVal.str s3), (AVal.str s4), (AVal.int .i64 x5)])] h =
  (runK (evFn Cw d 76 [(AVal.agg [(AVal.str s0), (AVal.bool b1), (AVal.bool b2), (AVal.str s3), (AVal.str s4), (AVal.int .i64 x5)])] h) fun r1 h1 =>
    (consK r1 fun w2 ws3 =>
      (boolK w2 fun bb4 =>
        (nilK ws3
          (bif (!bb4) then
            (Tr.ret ([(AVal.sl true 0 []), (AVal.int .i64 13)], h1))
          else
            (bif b1 then
              (P67_0 d (IntKind.u8.wrap (BitVec.ofInt 8 0 ||| BitVec.ofInt 8 1).toNat) [(AVal.sl false 0 (s0.map ofByte)), (AVal.sl false 0 (s3.map ofByte))] s0 b1 b2 s3 s4 x5 h1)
            else
              (P67_0 d 0 [(AVal.sl false 0 (s0.map ofByte))] s0 b1 b2 s3 s4 x5 h1))))))) := by kernel_rfl
/- f32 strandline/strandlinelaw42.awake -/
theorem F32_eq (d : Nat) (h : Heap) : evFn Cw (d + 1) 32 [] h =
  (runK (evFn Cw d 67 [(AVal.agg [(AVal.str [97]), (AVal.bool false), (AVal.bool true), (AVal.str []), (AVal.str [120]), (AVal.int .i64 0)])] h) fun r1 h1 =>
    (consK r1 fun w2 ws3 =>
      (slOK 0 w2 fun es4 =>
        (consK ws3 fun w5 ws6 =>
          (intK .i64 w5 fun y7 =>
            (nilK ws6
              (bif ((y7 : Int) == 0) then
                (optK (toBytes es4) fun ss8 =>
                  (Tr.ret ([(AVal.bool (ss8 == [2, 1, 97, 1, 120, 0]))], h1)))
              else
                (Tr.ret ([(AVal.bool false)], h1))))))))) := by kernel_rfl
/- f8 strandline/strandlinelaw42.TxTurns -/
theorem F8_eq (d : Nat) (s0 : List UInt8) (b1 : Bool) (b2 : Bool) (s3 : List UInt8) (s4 : List UInt8) (x5 : Int) (x6 : Int) (h : Heap) : evFn Cw (d + 1) 8 [(AVal.agg [(AVal.str s0), (AVal.bool b1), (AVal.bool b2), (AVal.str s3), (AVal.str s4), (AVal.int .i64 x5)]), (AVal.int .i64 x6)] h =
  (runK (evFn Cw d 30 [(AVal.agg [(AVal.str s0), (AVal.bool b1), (AVal.bool b2), (AVal.str s3), (AVal.str s4), (AVal.int .i64 x5)]), (AVal.int .i64 x6)] h) fun r1 h1 =>
    (consK r1 fun w2 ws3 =>
      (aggK 6 w2 fun cc4 =>
        (nilK ws3
          (bif ((cc4.length == 6) && true) then
            (runK (evFn Cw d 31 [(AVal.agg [(AVal.str s0), (AVal.bool b1), (AVal.bool b2), (AVal.str s3), (AVal.str s4), (AVal.int .i64 x5)])] h1) fun r5 h5 =>
              (consK r5 fun w6 ws7 =>
                (aggK 3 w6 fun cc8 =>
                  (nilK ws7
                    (bif ((cc8.length == 3) && true) then
                      (bif decide (0 + 6 ≤ cc4.length) then
                        (bif ((plainOk Cw.P 43 (AVal.agg ((cc4.drop 0).take 6))) && true) then
                          (bif (!(eqCells ((cc4.drop 0).take 6) [(AVal.str s0), (AVal.bool b2), (AVal.bool b1), (AVal.str s4), (AVal.str s3), (AVal.int .i64 x6)])) then
                            (Tr.ret ([(AVal.bool false)], h5))
                          else
                            (bif decide (0 + 6 ≤ cc4.length) then
                              (runK (evFn Cw d 30 [(AVal.agg ((cc4.drop 0).take 6)), (AVal.int .i64 x5)] h5) fun r9 h9 =>
                                (consK r9 fun w10 ws11 =>
                                  (aggK 6 w10 fun cc12 =>
                                    (nilK ws11
                                      (bif ((plainOk Cw.P 43 (AVal.agg cc12)) && true) then
                                        (bif (!(eqCells cc12 [(AVal.str s0), (AVal.bool b1), (AVal.bool b2), (AVal.str s3), (AVal.str s4), (AVal.int .i64 x5)])) then
                                          (Tr.ret ([(AVal.bool false)], h9))
                                        else
                                          (optK (cc8[1]?) fun w13 =>
                                            (strK w13 fun ss14 =>
                                              (bif (!(ss14 == s0)) then
                                                (Tr.ret ([(AVal.bool false)], h9))
                                              else
                                                (bif b2 then
                                                  (optK (cc8[0]?) fun w15 =>
                                                    (intK .i64 w15 fun y16 =>
                                                      (bif ((y16 : Int) == 1) then
                                                        (optK (cc8[2]?) fun w17 =>
                                                          (strK w17 fun ss18 =>
                                                            (bif (ss18 == s4) then
                                                              (runK (evFn Cw d 32 [] h9) fun r19 h19 =>
                                                                (consK r19 fun w20 ws21 =>
                                                                  (boolK w20 fun bb22 =>
                                                                    (nilK ws21
                                                                      (Tr.ret ([(AVal.bool bb22)], h19))))))
                                                            else
                                                              (bif (!b2) then
                                                                (optK (cc8[0]?) fun w23 =>
                                                                  (intK .i64 w23 fun y24 =>
                                                                    (bif ((y24 : Int) == 2) then
                                                                      (optK (cc8[2]?) fun w25 =>
                                                                        (strK w25 fun ss26 =>
                                                                          (bif (ss26 == []) then
                                                                            (runK (evFn Cw d 32 [] h9) fun r27 h27 =>
                                                                              (consK r27 fun w28 ws29 =>
                                                                                (boolK w28 fun bb30 =>
                                                                                  (nilK ws29
                                                                                    (Tr.ret ([(AVal.bool bb30)], h27))))))
                                                                          else
                                                                            (Tr.ret ([(AVal.bool false)], h9)))))
                                                                    else
                                                                      (Tr.ret ([(AVal.bool false)], h9)))))
                                                              else
                                                                (Tr.ret ([(AVal.bool false)], h9))))))
                                                      else
                                                        (bif (!b2) then
                                                          (optK (cc8[0]?) fun w31 =>
                                                            (intK .i64 w31 fun y32 =>
                                                              (bif ((y32 : Int) == 2) then
                                                                (optK (cc8[2]?) fun w33 =>
                                                                  (strK w33 fun ss34 =>
                                                                    (bif (ss34 == []) then
                                                                      (runK (evFn Cw d 32 [] h9) fun r35 h35 =>
                                                                        (consK r35 fun w36 ws37 =>
                                                                          (boolK w36 fun bb38 =>
                                                                            (nilK ws37
                                                                              (Tr.ret ([(AVal.bool bb38)], h35))))))
                                                                    else
                                                                      (Tr.ret ([(AVal.bool false)], h9)))))
                                                              else
                                                                (Tr.ret ([(AVal.bool false)], h9)))))
                                                        else
                                                          (Tr.ret ([(AVal.bool false)], h9))))))
                                                else
                                                  (bif (!b2) then
                                                    (optK (cc8[0]?) fun w39 =>
                                                      (intK .i64 w39 fun y40 =>
                                                        (bif ((y40 : Int) == 2) then
                                                          (optK (cc8[2]?) fun w41 =>
                                                            (strK w41 fun ss42 =>
                                                              (bif (ss42 == []) then
                                                                (runK (evFn Cw d 32 [] h9) fun r43 h43 =>
                                                                  (consK r43 fun w44 ws45 =>
                                                                    (boolK w44 fun bb46 =>
                                                                      (nilK ws45
                                                                        (Tr.ret ([(AVal.bool bb46)], h43))))))
                                                              else
                                                                (Tr.ret ([(AVal.bool false)], h9)))))
                                                        else
                                                          (Tr.ret ([(AVal.bool false)], h9)))))
                                                  else
                                                    (Tr.ret ([(AVal.bool false)], h9))))))))
                                      else
                                        Tr.fail)))))
                            else
                              Tr.fail))
                        else
                          Tr.fail)
                      else
                        Tr.fail)
                    else
                      Tr.fail)))))
          else
            Tr.fail))))) := by kernel_rfl
end Go.Proofs.Ythebimbdijkiiaa.Wa
