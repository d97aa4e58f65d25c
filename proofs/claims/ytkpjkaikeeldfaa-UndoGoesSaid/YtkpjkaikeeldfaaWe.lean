/- What the evaluator comes to in these functions. -/
import Derived.Test.YtkpjkaikeeldfaaW0
import Derived.Test.YtkpjkaikeeldfaaWvLb
import Derived.KernelRfl
namespace Go.Proofs.Ytkpjkaikeeldfaa.Wa
open Go Go.Weave
set_option maxRecDepth 100000
set_option linter.unusedVariables false
/- f7 strandline/tx.Right -/
theorem F7_eq (d : Nat) (s0 : List UInt8) (b1 : Bool) (b2 : Bool) (s3 : List UInt8) (s4 : List UInt8) (x5 : Int) (h : Heap) : evFn Cw (d + 1) 7 [(AVal.agg [(AVal.str s0), (AVal.bool b1), (AVal.bool b2), (AVal.str s3), (AVal.str s4), (AVal.int .i64 x5)])] h =
  (bif (decide (((s0.length : Int) : Int) < 1)) then
    (Tr.ret ([(AVal.bool false)], h))
  else
    (bif (decide (((s0.length : Int) : Int) > 24)) then
      (Tr.ret ([(AVal.bool false)], h))
    else
      (bif (decide (((s3.length : Int) : Int) > 128)) then
        (Tr.ret ([(AVal.bool false)], h))
      else
        (bif (decide (((s4.length : Int) : Int) > 128)) then
          (Tr.ret ([(AVal.bool false)], h))
        else
          (bif (!b1) then
            (bif (!(s3 == [])) then
              (Tr.ret ([(AVal.bool false)], h))
            else
              (bif (!b2) then
                (bif (!(s4 == [])) then
                  (Tr.ret ([(AVal.bool false)], h))
                else
                  (bif (decide ((x5 : Int) ≥ 0)) then (Tr.ret ([(AVal.bool (decide ((x5 : Int) ≤ 2147483647)))], h)) else (Tr.ret ([(AVal.bool false)], h))))
              else
                (bif (decide ((x5 : Int) ≥ 0)) then (Tr.ret ([(AVal.bool (decide ((x5 : Int) ≤ 2147483647)))], h)) else (Tr.ret ([(AVal.bool false)], h)))))
          else
            (bif (!b2) then
              (bif (!(s4 == [])) then
                (Tr.ret ([(AVal.bool false)], h))
              else
                (bif (decide ((x5 : Int) ≥ 0)) then (Tr.ret ([(AVal.bool (decide ((x5 : Int) ≤ 2147483647)))], h)) else (Tr.ret ([(AVal.bool false)], h))))
            else
              (bif (decide ((x5 : Int) ≥ 0)) then (Tr.ret ([(AVal.bool (decide ((x5 : Int) ≤ 2147483647)))], h)) else (Tr.ret ([(AVal.bool false)], h))))))))) := by kernel_rfl
/- f6 strandline/tx.Encode -/
noncomputable def P6_0 (d : Nat) (x0 : Int) (l1 : List AVal) (s2 : List UInt8) (b3 : Bool) (b4 : Bool) (s5 : List UInt8) (s6 : List UInt8) (x7 : Int) (h : Heap) : Tr Res :=
  heldPt Cw d 6 [true, true, true, true, true] [] ⟨[(1, (EV.one (SV.loc 1 0))), (4, (EV.one (SV.val (AVal.int .u8 x0)))), (5, (EV.one (SV.own (tokOf 5 0) 0 l1)))], [(1, (Box.plain [(AVal.str s2), (AVal.bool b3), (AVal.bool b4), (AVal.str s5), (AVal.str s6), (AVal.int .i64 x7)]))]⟩ h
theorem P6_0_eq (d : Nat) (x0 : Int) (l1 : List AVal) (s2 : List UInt8) (b3 : Bool) (b4 : Bool) (s5 : List UInt8) (s6 : List UInt8) (x7 : Int) (h : Heap) : P6_0 d x0 l1 s2 b3 b4 s5 s6 x7 h =
  (bif b4 then
    (bif decide ((l1.length + (1 : Nat)) * 24 ≤ 140737488355328) then
      (runK (evFn Cw d 18 [(AVal.sl false 0 (l1 ++ [(AVal.sl false 0 (s6.map ofByte))]))] h) fun r1 h1 =>
        (consK r1 fun w2 ws3 =>
          (slOK 0 w2 fun es4 =>
            (nilK ws3
              (bif decide (((1 : Nat) + es4.length) * 1 ≤ 140737488355328) then
                (runK (evFn Cw d 19 [(AVal.sl false 0 ([(AVal.int .u8 (IntKind.u8.wrap (BitVec.ofInt 8 x0 ||| BitVec.ofInt 8 2).toNat))] ++ es4)), (AVal.int .u64 (IntKind.u64.wrap x7))] h1) fun r5 h5 =>
                  (consK r5 fun w6 ws7 =>
                    (slOK 0 w6 fun es8 =>
                      (nilK ws7
                        (Tr.ret ([(AVal.sl false 0 es8), (AVal.int .i64 0)], h5))))))
              else
                Tr.fail)))))
    else
      Tr.fail)
  else
    (runK (evFn Cw d 18 [(AVal.sl false 0 l1)] h) fun r9 h9 =>
      (consK r9 fun w10 ws11 =>
        (slOK 0 w10 fun es12 =>
          (nilK ws11
            (bif decide (((1 : Nat) + es12.length) * 1 ≤ 140737488355328) then
              (runK (evFn Cw d 19 [(AVal.sl false 0 ([(AVal.int .u8 x0)] ++ es12)), (AVal.int .u64 (IntKind.u64.wrap x7))] h9) fun r13 h13 =>
                (consK r13 fun w14 ws15 =>
                  (slOK 0 w14 fun es16 =>
                    (nilK ws15
                      (Tr.ret ([(AVal.sl false 0 es16), (AVal.int .i64 0)], h13))))))
            else
              Tr.fail)))))) := (heldPt_eq _ _ _ _ _ _ _).trans (by kernel_rfl)
theorem F6_eq (d : Nat) (s0 : List UInt8) (b1 : Bool) (b2 : Bool) (s3 : List UInt8) (s4 : List UInt8) (x5 : Int) (h : Heap) : evFn Cw (d + 1) 6 [(AVal.agg [(AVal.str s0), (AVal.bool b1), (AVal.bool b2), (AVal.str s3), (AVal.str s4), (AVal.int .i64 x5)])] h =
  (runK (evFn Cw d 7 [(AVal.agg [(AVal.str s0), (AVal.bool b1), (AVal.bool b2), (AVal.str s3), (AVal.str s4), (AVal.int .i64 x5)])] h) fun r1 h1 =>
    (consK r1 fun w2 ws3 =>
      (boolK w2 fun bb4 =>
        (nilK ws3
          (bif (!bb4) then
            (Tr.ret ([(AVal.sl true 0 []), (AVal.int .i64 13)], h1))
          else
            (bif b1 then
              (P6_0 d (IntKind.u8.wrap (BitVec.ofInt 8 0 ||| BitVec.ofInt 8 1).toNat) [(AVal.sl false 0 (s0.map ofByte)), (AVal.sl false 0 (s3.map ofByte))] s0 b1 b2 s3 s4 x5 h1)
            else
              (P6_0 d 0 [(AVal.sl false 0 (s0.map ofByte))] s0 b1 b2 s3 s4 x5 h1))))))) := by kernel_rfl
/- f29 strandline/tx.Turn -/
theorem F29_eq (d : Nat) (s0 : List UInt8) (b1 : Bool) (b2 : Bool) (s3 : List UInt8) (s4 : List UInt8) (x5 : Int) (x6 : Int) (h : Heap) : evFn Cw (d + 1) 29 [(AVal.agg [(AVal.str s0), (AVal.bool b1), (AVal.bool b2), (AVal.str s3), (AVal.str s4), (AVal.int .i64 x5)]), (AVal.int .i64 x6)] h =
  (Tr.ret ([(AVal.agg [(AVal.str s0), (AVal.bool b2), (AVal.bool b1), (AVal.str s4), (AVal.str s3), (AVal.int .i64 x6)])], h)) := by kernel_rfl
/- f8 strandline/strandlineref42.Right -/
theorem F8_eq (d : Nat) (s0 : List UInt8) (b1 : Bool) (b2 : Bool) (s3 : List UInt8) (s4 : List UInt8) (x5 : Int) (h : Heap) : evFn Cw (d + 1) 8 [(AVal.agg [(AVal.str s0), (AVal.bool b1), (AVal.bool b2), (AVal.str s3), (AVal.str s4), (AVal.int .i64 x5)])] h =
  (bif (!(s0 == [])) then
    (bif (decide (((s0.length : Int) : Int) ≤ 24)) then
      (bif (decide (((s3.length : Int) : Int) ≤ 128)) then
        (bif (decide (((s4.length : Int) : Int) ≤ 128)) then
          (bif (decide ((x5 : Int) ≥ 0)) then
            (bif (decide ((x5 : Int) ≤ 2147483647)) then
              (bif b1 then
                (bif b2 then (Tr.ret ([(AVal.bool true)], h)) else (Tr.ret ([(AVal.bool (s4 == []))], h)))
              else
                (bif (s3 == []) then (bif b2 then (Tr.ret ([(AVal.bool true)], h)) else (Tr.ret ([(AVal.bool (s4 == []))], h))) else (Tr.ret ([(AVal.bool false)], h))))
            else
              (Tr.ret ([(AVal.bool false)], h)))
          else
            (Tr.ret ([(AVal.bool false)], h)))
        else
          (Tr.ret ([(AVal.bool false)], h)))
      else
        (Tr.ret ([(AVal.bool false)], h)))
    else
      (Tr.ret ([(AVal.bool false)], h)))
  else
    (Tr.ret ([(AVal.bool false)], h))) := by kernel_rfl
/- f26 strandline/strandlineref42.Decode -/
noncomputable def P26_0 (d : Nat) (f0 : Bool) (l1 : List AVal) (s2 : List UInt8) (b3 : Bool) (b4 : Bool) (s5 : List UInt8) (s6 : List UInt8) (x7 : Int) (s8 : List UInt8) (b9 : Bool) (b10 : Bool) (s11 : List UInt8) (s12 : List UInt8) (x13 : Int) (h : Heap) : Tr Res :=
  heldPt Cw d 26 [true, true, true, true] [] ⟨[(0, (EV.one (SV.val (AVal.sl f0 0 l1)))), (2, (EV.one (SV.loc 2 0))), (4, (EV.one (SV.loc 4 0)))], [(2, (Box.plain [(AVal.str s2), (AVal.bool b3), (AVal.bool b4), (AVal.str s5), (AVal.str s6), (AVal.int .i64 x7)])), (4, (Box.plain [(AVal.str s8), (AVal.bool b9), (AVal.bool b10), (AVal.str s11), (AVal.str s12), (AVal.int .i64 x13)]))]⟩ h
noncomputable def P26_1 (d k : Nat) (f0 : Bool) (l1 : List AVal) (x2 : Int) (l3 : List AVal) (x4 : Int) (s5 : List UInt8) (b6 : Bool) (b7 : Bool) (s8 : List UInt8) (s9 : List UInt8) (x10 : Int) (s11 : List UInt8) (b12 : Bool) (b13 : Bool) (s14 : List UInt8) (s15 : List UInt8) (x16 : Int) (h : Heap) : Tr Res :=
  loopPt Cw d 26 [true, true, true, true, true, true, false, true, true] [] k ⟨[(0, (EV.one (SV.val (AVal.sl f0 0 l1)))), (2, (EV.one (SV.loc 2 0))), (4, (EV.one (SV.loc 4 0))), (5, (EV.one (SV.val (AVal.int .i64 x2)))), (6, (EV.one (SV.own (tokOf 6 0) 0 l3))), (7, (EV.one (SV.val (AVal.int .i64 x4))))], [(2, (Box.plain [(AVal.str s5), (AVal.bool b6), (AVal.bool b7), (AVal.str s8), (AVal.str s9), (AVal.int .i64 x10)])), (4, (Box.plain [(AVal.str s11), (AVal.bool b12), (AVal.bool b13), (AVal.str s14), (AVal.str s15), (AVal.int .i64 x16)]))]⟩ h
theorem P26_0_eq (d : Nat) (f0 : Bool) (l1 : List AVal) (s2 : List UInt8) (b3 : Bool) (b4 : Bool) (s5 : List UInt8) (s6 : List UInt8) (x7 : Int) (s8 : List UInt8) (b9 : Bool) (b10 : Bool) (s11 : List UInt8) (s12 : List UInt8) (x13 : Int) (h : Heap) : P26_0 d f0 l1 s2 b3 b4 s5 s6 x7 s8 b9 b10 s11 s12 x13 h =
  (P26_1 d rounds f0 l1 1 [] 0 s2 b3 b4 s5 s6 x7 s8 b9 b10 s11 s12 x13 h) := (heldPt_eq _ _ _ _ _ _ _).trans (by kernel_rfl)
theorem P26_1_eq (d k : Nat) (f0 : Bool) (l1 : List AVal) (x2 : Int) (l3 : List AVal) (x4 : Int) (s5 : List UInt8) (b6 : Bool) (b7 : Bool) (s8 : List UInt8) (s9 : List UInt8) (x10 : Int) (s11 : List UInt8) (b12 : Bool) (b13 : Bool) (s14 : List UInt8) (s15 : List UInt8) (x16 : Int) (h : Heap) : P26_1 d (k + 1) f0 l1 x2 l3 x4 s5 b6 b7 s8 s9 x10 s11 b12 b13 s14 s15 x16 h =
  (bif (decide ((x4 : Int) < 3)) then
    (bif ((x4 : Int) == 1) then
      (bif (!b12) then
        (bif decide ((l3.length + (1 : Nat)) * 16 ≤ 140737488355328) then
          (P26_1 d k f0 l1 x2 (l3 ++ [(AVal.str [])]) (IntKind.i64.wrap (x4 + 1)) s5 b6 b7 s8 s9 x10 s11 b12 b13 s14 s15 x16 h)
        else
          Tr.fail)
      else
        (bif ((x4 : Int) == 2) then
          (bif (!b13) then
            (bif decide ((l3.length + (1 : Nat)) * 16 ≤ 140737488355328) then
              (P26_1 d k f0 l1 x2 (l3 ++ [(AVal.str [])]) (IntKind.i64.wrap (x4 + 1)) s5 b6 b7 s8 s9 x10 s11 b12 b13 s14 s15 x16 h)
            else
              Tr.fail)
          else
            (bif ((decide ((0 : Int) ≤ x2) && decide ((x2 : Int) ≤ (l1.length : Int))) && decide (((l1.length : Int) : Int) ≤ (l1.length : Int))) then
              (runK (evFn Cw d 30 [(AVal.sl f0 0 (Go.Weave.part x2 (l1.length : Int) l1))] h) fun r1 h1 =>
                (consK r1 fun w2 ws3 =>
                  (slOK 0 w2 fun es4 =>
                    (consK ws3 fun w5 ws6 =>
                      (intK .i64 w5 fun y7 =>
                        (consK ws6 fun w8 ws9 =>
                          (intK .i64 w8 fun y10 =>
                            (nilK ws9
                              (bif ((y10 : Int) != 0) then
                                (Tr.ret ([(AVal.agg [(AVal.str []), (AVal.bool false), (AVal.bool false), (AVal.str []), (AVal.str []), (AVal.int .i64 0)]), (AVal.int .i64 y10)], h1))
                              else
                                (optK (toBytes es4) fun ss11 =>
                                  (bif decide ((l3.length + (1 : Nat)) * 16 ≤ 140737488355328) then
                                    (P26_1 d k f0 l1 (IntKind.i64.wrap (x2 + y7)) (l3 ++ [(AVal.str ss11)]) (IntKind.i64.wrap (x4 + 1)) s5 b6 b7 s8 s9 x10 s11 b12 b13 s14 s15 x16 h1)
                                  else
                                    Tr.fail)))))))))))
            else
              Tr.fail))
        else
          (bif ((decide ((0 : Int) ≤ x2) && decide ((x2 : Int) ≤ (l1.length : Int))) && decide (((l1.length : Int) : Int) ≤ (l1.length : Int))) then
            (runK (evFn Cw d 30 [(AVal.sl f0 0 (Go.Weave.part x2 (l1.length : Int) l1))] h) fun r12 h12 =>
              (consK r12 fun w13 ws14 =>
                (slOK 0 w13 fun es15 =>
                  (consK ws14 fun w16 ws17 =>
                    (intK .i64 w16 fun y18 =>
                      (consK ws17 fun w19 ws20 =>
                        (intK .i64 w19 fun y21 =>
                          (nilK ws20
                            (bif ((y21 : Int) != 0) then
                              (Tr.ret ([(AVal.agg [(AVal.str []), (AVal.bool false), (AVal.bool false), (AVal.str []), (AVal.str []), (AVal.int .i64 0)]), (AVal.int .i64 y21)], h12))
                            else
                              (optK (toBytes es15) fun ss22 =>
                                (bif decide ((l3.length + (1 : Nat)) * 16 ≤ 140737488355328) then
                                  (P26_1 d k f0 l1 (IntKind.i64.wrap (x2 + y18)) (l3 ++ [(AVal.str ss22)]) (IntKind.i64.wrap (x4 + 1)) s5 b6 b7 s8 s9 x10 s11 b12 b13 s14 s15 x16 h12)
                                else
                                  Tr.fail)))))))))))
          else
            Tr.fail)))
    else
      (bif ((x4 : Int) == 2) then
        (bif (!b13) then
          (bif decide ((l3.length + (1 : Nat)) * 16 ≤ 140737488355328) then
            (P26_1 d k f0 l1 x2 (l3 ++ [(AVal.str [])]) (IntKind.i64.wrap (x4 + 1)) s5 b6 b7 s8 s9 x10 s11 b12 b13 s14 s15 x16 h)
          else
            Tr.fail)
        else
          (bif ((decide ((0 : Int) ≤ x2) && decide ((x2 : Int) ≤ (l1.length : Int))) && decide (((l1.length : Int) : Int) ≤ (l1.length : Int))) then
            (runK (evFn Cw d 30 [(AVal.sl f0 0 (Go.Weave.part x2 (l1.length : Int) l1))] h) fun r23 h23 =>
              (consK r23 fun w24 ws25 =>
                (slOK 0 w24 fun es26 =>
                  (consK ws25 fun w27 ws28 =>
                    (intK .i64 w27 fun y29 =>
                      (consK ws28 fun w30 ws31 =>
                        (intK .i64 w30 fun y32 =>
                          (nilK ws31
                            (bif ((y32 : Int) != 0) then
                              (Tr.ret ([(AVal.agg [(AVal.str []), (AVal.bool false), (AVal.bool false), (AVal.str []), (AVal.str []), (AVal.int .i64 0)]), (AVal.int .i64 y32)], h23))
                            else
                              (optK (toBytes es26) fun ss33 =>
                                (bif decide ((l3.length + (1 : Nat)) * 16 ≤ 140737488355328) then
                                  (P26_1 d k f0 l1 (IntKind.i64.wrap (x2 + y29)) (l3 ++ [(AVal.str ss33)]) (IntKind.i64.wrap (x4 + 1)) s5 b6 b7 s8 s9 x10 s11 b12 b13 s14 s15 x16 h23)
                                else
                                  Tr.fail)))))))))))
          else
            Tr.fail))
      else
        (bif ((decide ((0 : Int) ≤ x2) && decide ((x2 : Int) ≤ (l1.length : Int))) && decide (((l1.length : Int) : Int) ≤ (l1.length : Int))) then
          (runK (evFn Cw d 30 [(AVal.sl f0 0 (Go.Weave.part x2 (l1.length : Int) l1))] h) fun r34 h34 =>
            (consK r34 fun w35 ws36 =>
              (slOK 0 w35 fun es37 =>
                (consK ws36 fun w38 ws39 =>
                  (intK .i64 w38 fun y40 =>
                    (consK ws39 fun w41 ws42 =>
                      (intK .i64 w41 fun y43 =>
                        (nilK ws42
                          (bif ((y43 : Int) != 0) then
                            (Tr.ret ([(AVal.agg [(AVal.str []), (AVal.bool false), (AVal.bool false), (AVal.str []), (AVal.str []), (AVal.int .i64 0)]), (AVal.int .i64 y43)], h34))
                          else
                            (optK (toBytes es37) fun ss44 =>
                              (bif decide ((l3.length + (1 : Nat)) * 16 ≤ 140737488355328) then
                                (P26_1 d k f0 l1 (IntKind.i64.wrap (x2 + y40)) (l3 ++ [(AVal.str ss44)]) (IntKind.i64.wrap (x4 + 1)) s5 b6 b7 s8 s9 x10 s11 b12 b13 s14 s15 x16 h34)
                              else
                                Tr.fail)))))))))))
        else
          Tr.fail)))
  else
    (bif ((decide ((0 : Int) ≤ x2) && decide ((x2 : Int) ≤ (l1.length : Int))) && decide (((l1.length : Int) : Int) ≤ (l1.length : Int))) then
      (runK (evFn Cw d 31 [(AVal.sl f0 0 (Go.Weave.part x2 (l1.length : Int) l1))] h) fun r45 h45 =>
        (consK r45 fun w46 ws47 =>
          (intK .u64 w46 fun y48 =>
            (consK ws47 fun w49 ws50 =>
              (intK .i64 w49 fun y51 =>
                (consK ws50 fun w52 ws53 =>
                  (intK .i64 w52 fun y54 =>
                    (nilK ws53
                      (bif ((y54 : Int) != 0) then
                        (Tr.ret ([(AVal.agg [(AVal.str []), (AVal.bool false), (AVal.bool false), (AVal.str []), (AVal.str []), (AVal.int .i64 0)]), (AVal.int .i64 y54)], h45))
                      else
                        (bif decide ((0 : Int) < (l3.length : Int)) then
                          (strK (l3.getD 0 AVal.undef) fun ss55 =>
                            (bif decide ((1 : Int) < (l3.length : Int)) then
                              (strK (l3.getD 1 AVal.undef) fun ss56 =>
                                (bif decide ((2 : Int) < (l3.length : Int)) then
                                  (strK (l3.getD 2 AVal.undef) fun ss57 =>
                                    (bif (decide (((IntKind.i64.wrap (x2 + y51)) : Int) < (l1.length : Int))) then
                                      (Tr.ret ([(AVal.agg [(AVal.str []), (AVal.bool false), (AVal.bool false), (AVal.str []), (AVal.str []), (AVal.int .i64 0)]), (AVal.int .i64 2)], h45))
                                    else
                                      (bif (decide ((y48 : Int) > 2147483647)) then
                                        (Tr.ret ([(AVal.agg [(AVal.str []), (AVal.bool false), (AVal.bool false), (AVal.str []), (AVal.str []), (AVal.int .i64 0)]), (AVal.int .i64 2)], h45))
                                      else
                                        (runK (evFn Cw d 8 [(AVal.agg [(AVal.str ss55), (AVal.bool b12), (AVal.bool b13), (AVal.str ss56), (AVal.str ss57), (AVal.int .i64 (IntKind.i64.wrap y48))])] h45) fun r58 h58 =>
                                          (consK r58 fun w59 ws60 =>
                                            (boolK w59 fun bb61 =>
                                              (nilK ws60
                                                (bif (!bb61) then
                                                  (Tr.ret ([(AVal.agg [(AVal.str []), (AVal.bool false), (AVal.bool false), (AVal.str []), (AVal.str []), (AVal.int .i64 0)]), (AVal.int .i64 2)], h58))
                                                else
                                                  (Tr.ret ([(AVal.agg [(AVal.str ss55), (AVal.bool b12), (AVal.bool b13), (AVal.str ss56), (AVal.str ss57), (AVal.int .i64 (IntKind.i64.wrap y48))]), (AVal.int .i64 0)], h58))))))))))
                                else
                                  Tr.fail))
                            else
                              Tr.fail))
                        else
                          Tr.fail))))))))))
    else
      Tr.fail)) := by kernel_rfl
theorem F26_eq (d : Nat) (f0 : Bool) (l1 : List AVal) (h : Heap) : evFn Cw (d + 1) 26 [(AVal.sl f0 0 l1)] h =
  (bif (((l1.length : Int) : Int) == 0) then
    (Tr.ret ([(AVal.agg [(AVal.str []), (AVal.bool false), (AVal.bool false), (AVal.str []), (AVal.str []), (AVal.int .i64 0)]), (AVal.int .i64 1)], h))
  else
    (bif decide ((0 : Int) < (l1.length : Int)) then
      (intK .u8 (l1.getD 0 AVal.undef) fun y1 =>
        (bif (decide ((y1 : Int) > 3)) then
          (Tr.ret ([(AVal.agg [(AVal.str []), (AVal.bool false), (AVal.bool false), (AVal.str []), (AVal.str []), (AVal.int .i64 0)]), (AVal.int .i64 2)], h))
        else
          (bif decide ((0 : Int) < (l1.length : Int)) then
            (bif decide ((0 : Int) < (l1.length : Int)) then
              (Tr.anyL [
                (intK .u8 (l1.getD 0 AVal.undef) fun y2 =>
                  (sameL 2
                    (intK .u8 (l1.getD 0 AVal.undef) fun y3 =>
                      (P26_0 d f0 l1 [] false false [] [] 0 [] (((Int.tmod y2 2) : Int) == 1) (decide ((y3 : Int) > 1)) [] [] 0 h)))),
                (intK .u8 (l1.getD 0 AVal.undef) fun y2 =>
                  (sameL 2
                    (intK .u8 (l1.getD 0 AVal.undef) fun y3 =>
                      (P26_0 d f0 l1 [] false false [] [] 0 [] (((Int.tmod y3 2) : Int) == 1) (decide ((y2 : Int) > 1)) [] [] 0 h)))),
                (intK .u8 (l1.getD 0 AVal.undef) fun y2 =>
                  (intK .u8 (l1.getD 0 AVal.undef) fun y3 =>
                    (P26_0 d f0 l1 [] false false [] [] 0 [] (((Int.tmod y2 2) : Int) == 1) (decide ((y3 : Int) > 1)) [] [] 0 h)))])
            else
              Tr.fail)
          else
            Tr.fail)))
    else
      Tr.fail)) := by kernel_rfl
/- f20 (*strandline/tx.reader).text -/
theorem F20_eq (d : Nat) (i0 : Nat) (b1 : Bool) (h : Heap) : evFn Cw (d + 1) 20 [(AVal.obj i0 0), (AVal.bool b1)] h =
  (optK (Heap.cell? h i0 1) fun z1 =>
    (intK .i64 (HCell.toA z1) fun y2 =>
      (bif ((y2 : Int) != 0) then
        (Tr.ret ([(AVal.str [])], h))
      else
        (bif (!b1) then
          (Tr.ret ([(AVal.str [])], h))
        else
          (optK (Heap.cell? h i0 0) fun z3 =>
            (slK 0 (HCell.toA z3) fun _ es4 =>
              (runK (evFn Cw d 28 [(AVal.sl false 0 es4)] h) fun r5 h5 =>
                (consK r5 fun w6 ws7 =>
                  (slOK 0 w6 fun es8 =>
                    (consK ws7 fun w9 ws10 =>
                      (intK .i64 w9 fun y11 =>
                        (consK ws10 fun w12 ws13 =>
                          (intK .i64 w12 fun y14 =>
                            (nilK ws13
                              (optK (Heap.cell? h5 i0 1) fun _ =>
                                (optK (Heap.cell? (Heap.setCell h5 i0 1 (HCell.val (AVal.int .i64 y14))) i0 0) fun z15 =>
                                  (slK 0 (HCell.toA z15) fun _ es16 =>
                                    (bif ((decide ((0 : Int) ≤ y11) && decide ((y11 : Int) ≤ (es16.length : Int))) && decide (((es16.length : Int) : Int) ≤ (es16.length : Int))) then
                                      (optK (Heap.cell? (Heap.setCell h5 i0 1 (HCell.val (AVal.int .i64 y14))) i0 0) fun _ =>
                                        (optK (toBytes es8) fun ss17 =>
                                          (Tr.ret ([(AVal.str ss17)], (Heap.setCell (Heap.setCell h5 i0 1 (HCell.val (AVal.int .i64 y14))) i0 0 (HCell.val (AVal.sl false 0 (Go.Weave.part y11 (es16.length : Int) es16))))))))
                                    else
                                      Tr.fail)))))))))))))))))) := by kernel_rfl
/- f10 strandline/tx.Decode -/
noncomputable def P10_0 (d : Nat) (i0 : Nat) (s1 : List UInt8) (b2 : Bool) (b3 : Bool) (s4 : List UInt8) (s5 : List UInt8) (x6 : Int) (s7 : List UInt8) (b8 : Bool) (b9 : Bool) (s10 : List UInt8) (s11 : List UInt8) (x12 : Int) (h : Heap) : Tr Res :=
  heldPt Cw d 10 [true, true, true, true] [] ⟨[(2, (EV.one (SV.loc 2 0))), (4, (EV.one (SV.val (AVal.obj i0 0)))), (5, (EV.one (SV.loc 5 0)))], [(2, (Box.plain [(AVal.str s1), (AVal.bool b2), (AVal.bool b3), (AVal.str s4), (AVal.str s5), (AVal.int .i64 x6)])), (5, (Box.plain [(AVal.str s7), (AVal.bool b8), (AVal.bool b9), (AVal.str s10), (AVal.str s11), (AVal.int .i64 x12)]))]⟩ h
theorem P10_0_eq (d : Nat) (i0 : Nat) (s1 : List UInt8) (b2 : Bool) (b3 : Bool) (s4 : List UInt8) (s5 : List UInt8) (x6 : Int) (s7 : List UInt8) (b8 : Bool) (b9 : Bool) (s10 : List UInt8) (s11 : List UInt8) (x12 : Int) (h : Heap) : P10_0 d i0 s1 b2 b3 s4 s5 x6 s7 b8 b9 s10 s11 x12 h =
  (runK (evFn Cw d 20 [(AVal.obj i0 0), (AVal.bool true)] h) fun r1 h1 =>
    (consK r1 fun w2 ws3 =>
      (strK w2 fun ss4 =>
        (nilK ws3
          (runK (evFn Cw d 20 [(AVal.obj i0 0), (AVal.bool b8)] h1) fun r5 h5 =>
            (consK r5 fun w6 ws7 =>
              (strK w6 fun ss8 =>
                (nilK ws7
                  (runK (evFn Cw d 20 [(AVal.obj i0 0), (AVal.bool b9)] h5) fun r9 h9 =>
                    (consK r9 fun w10 ws11 =>
                      (strK w10 fun ss12 =>
                        (nilK ws11
                          (optK (Heap.cell? h9 i0 1) fun z13 =>
                            (intK .i64 (HCell.toA z13) fun y14 =>
                              (bif ((y14 : Int) != 0) then
                                (sameL 2
                                  (optK (Heap.cell? h9 i0 1) fun z15 =>
                                    (intK .i64 (HCell.toA z15) fun y16 =>
                                      (Tr.ret ([(AVal.agg [(AVal.str []), (AVal.bool false), (AVal.bool false), (AVal.str []), (AVal.str []), (AVal.int .i64 0)]), (AVal.int .i64 y16)], h9)))))
                              else
                                (optK (Heap.cell? h9 i0 0) fun z17 =>
                                  (slK 0 (HCell.toA z17) fun _ es18 =>
                                    (runK (evFn Cw d 21 [(AVal.sl false 0 es18)] h9) fun r19 h19 =>
                                      (consK r19 fun w20 ws21 =>
                                        (intK .u64 w20 fun y22 =>
                                          (consK ws21 fun w23 ws24 =>
                                            (intK .i64 w23 fun y25 =>
                                              (consK ws24 fun w26 ws27 =>
                                                (intK .i64 w26 fun y28 =>
                                                  (nilK ws27
                                                    (bif ((y28 : Int) != 0) then
                                                      (Tr.ret ([(AVal.agg [(AVal.str []), (AVal.bool false), (AVal.bool false), (AVal.str []), (AVal.str []), (AVal.int .i64 0)]), (AVal.int .i64 y28)], h19))
                                                    else
                                                      (optK (Heap.cell? h19 i0 0) fun z29 =>
                                                        (slK 0 (HCell.toA z29) fun _ es30 =>
                                                          (bif (decide ((y25 : Int) < (es30.length : Int))) then
                                                            (Tr.ret ([(AVal.agg [(AVal.str []), (AVal.bool false), (AVal.bool false), (AVal.str []), (AVal.str []), (AVal.int .i64 0)]), (AVal.int .i64 2)], h19))
                                                          else
                                                            (runK (evFn Cw d 7 [(AVal.agg [(AVal.str ss4), (AVal.bool b8), (AVal.bool b9), (AVal.str ss8), (AVal.str ss12), (AVal.int .i64 (IntKind.i64.wrap (if (2147483648 : Int) < y22 then 2147483648 else y22)))])] h19) fun r31 h31 =>
                                                              (consK r31 fun w32 ws33 =>
                                                                (boolK w32 fun bb34 =>
                                                                  (nilK ws33
                                                                    (bif (!bb34) then
                                                                      (Tr.ret ([(AVal.agg [(AVal.str []), (AVal.bool false), (AVal.bool false), (AVal.str []), (AVal.str []), (AVal.int .i64 0)]), (AVal.int .i64 2)], h31))
                                                                    else
                                                                      (Tr.ret ([(AVal.agg [(AVal.str ss4), (AVal.bool b8), (AVal.bool b9), (AVal.str ss8), (AVal.str ss12), (AVal.int .i64 (IntKind.i64.wrap (if (2147483648 : Int) < y22 then 2147483648 else y22)))]), (AVal.int .i64 0)], h31)))))))))))))))))))))))))))))))))))) := (heldPt_eq _ _ _ _ _ _ _).trans (by kernel_rfl)
theorem F10_eq (d : Nat) (f0 : Bool) (l1 : List AVal) (h : Heap) : evFn Cw (d + 1) 10 [(AVal.sl f0 0 l1)] h =
  (bif (((l1.length : Int) : Int) == 0) then
    (Tr.ret ([(AVal.agg [(AVal.str []), (AVal.bool false), (AVal.bool false), (AVal.str []), (AVal.str []), (AVal.int .i64 0)]), (AVal.int .i64 1)], h))
  else
    (bif decide ((0 : Int) < (l1.length : Int)) then
      (intK .u8 (l1.getD 0 AVal.undef) fun y1 =>
        (bif (decide ((y1 : Int) ≥ 4)) then
          (Tr.ret ([(AVal.agg [(AVal.str []), (AVal.bool false), (AVal.bool false), (AVal.str []), (AVal.str []), (AVal.int .i64 0)]), (AVal.int .i64 2)], h))
        else
          (bif (decide ((1 : Int) ≤ (l1.length : Int)) && decide (((l1.length : Int) : Int) ≤ (l1.length : Int))) then
            (bif decide ((0 : Int) < (l1.length : Int)) then
              (bif decide ((0 : Int) < (l1.length : Int)) then
                (Tr.anyL [
                  (intK .u8 (l1.getD 0 AVal.undef) fun y2 =>
                    (sameL 2
                      (intK .u8 (l1.getD 0 AVal.undef) fun y3 =>
                        (P10_0 d h.objs.length [] false false [] [] 0 [] (((IntKind.u8.wrap (BitVec.ofInt 8 y2 &&& BitVec.ofInt 8 1).toNat) : Int) != 0) (((IntKind.u8.wrap (BitVec.ofInt 8 y3 &&& BitVec.ofInt 8 2).toNat) : Int) != 0) [] [] 0 (Heap.push h (Go.Weave.Obj.cells ([(AVal.sl f0 0 (Go.Weave.part 1 (l1.length : Int) l1)), (AVal.int .i64 0)].map HCell.val))))))),
                  (intK .u8 (l1.getD 0 AVal.undef) fun y2 =>
                    (sameL 2
                      (intK .u8 (l1.getD 0 AVal.undef) fun y3 =>
                        (P10_0 d h.objs.length [] false false [] [] 0 [] (((IntKind.u8.wrap (BitVec.ofInt 8 y3 &&& BitVec.ofInt 8 1).toNat) : Int) != 0) (((IntKind.u8.wrap (BitVec.ofInt 8 y2 &&& BitVec.ofInt 8 2).toNat) : Int) != 0) [] [] 0 (Heap.push h (Go.Weave.Obj.cells ([(AVal.sl f0 0 (Go.Weave.part 1 (l1.length : Int) l1)), (AVal.int .i64 0)].map HCell.val))))))),
                  (intK .u8 (l1.getD 0 AVal.undef) fun y2 =>
                    (intK .u8 (l1.getD 0 AVal.undef) fun y3 =>
                      (P10_0 d h.objs.length [] false false [] [] 0 [] (((IntKind.u8.wrap (BitVec.ofInt 8 y2 &&& BitVec.ofInt 8 1).toNat) : Int) != 0) (((IntKind.u8.wrap (BitVec.ofInt 8 y3 &&& BitVec.ofInt 8 2).toNat) : Int) != 0) [] [] 0 (Heap.push h (Go.Weave.Obj.cells ([(AVal.sl f0 0 (Go.Weave.part 1 (l1.length : Int) l1)), (AVal.int .i64 0)].map HCell.val))))))])
              else
                Tr.fail)
            else
              Tr.fail)
          else
            Tr.fail)))
    else
      Tr.fail)) := by kernel_rfl
/- f9 strandline/strandlinelaw42.awake -/
theorem F9_eq (d : Nat) (h : Heap) : evFn Cw (d + 1) 9 [] h =
  (runK (evFn Cw d 6 [(AVal.agg [(AVal.str [97]), (AVal.bool false), (AVal.bool true), (AVal.str []), (AVal.str [120]), (AVal.int .i64 0)])] h) fun r1 h1 =>
    (consK r1 fun w2 ws3 =>
      (slOK 0 w2 fun es4 =>
        (consK ws3 fun w5 ws6 =>
          (intK .i64 w5 fun y7 =>
            (nilK ws6
              (bif ((y7 : Int) == 0) then
                (optK (toBytes es4) fun ss8 =>
                  (Tr.ret ([(AVal.bool (ss8 == [2, 1, 97, 1, 120, 0]))], h1)))
              else
                (Tr.ret ([(AVal.bool false)], h1))))))))) := by kernel_rfl
end Go.Proofs.Ytkpjkaikeeldfaa.Wa
