/- What the evaluator comes to in these functions. -/
import Derived.Test.YtnhhmgcjbnocfaaDoorW0
import Derived.Test.YtnhhmgcjbnocfaaDoorWvLb
import Derived.KernelRfl
namespace Go.Proofs.YtnhhmgcjbnocfaaDoor.Wa
open Go Go.Weave
set_option maxRecDepth 100000
set_option linter.unusedVariables false
/- f13 strandline/point.right -/
noncomputable def P13_0 (d k : Nat) (f0 : Bool) (l1 : List AVal) (f2 : Bool) (l3 : List AVal) (x4 : Int) (x5 : Int) (h : Heap) : Tr Res :=
  loopPt Cw d 13 [true, false, true, true] [] k ⟨[(0, (EV.one (SV.val (AVal.sl f0 3 l1)))), (5, (EV.one (SV.val (AVal.sl f2 3 l3)))), (6, (EV.one (SV.val (AVal.int .i64 x4)))), (7, (EV.one (SV.val (AVal.int .i64 x5))))], []⟩ h
theorem P13_0_eq (d k : Nat) (f0 : Bool) (l1 : List AVal) (f2 : Bool) (l3 : List AVal) (x4 : Int) (x5 : Int) (h : Heap) : P13_0 d (k + 1) f0 l1 f2 l3 x4 x5 h =
  (bif (decide ((x5 : Int) < x4)) then
    (bif (decide ((0 : Int) ≤ x5) && decide ((x5 : Int) < (l3.length : Int))) then
      (aggK 2 (l3.getD (Int.toNat x5) AVal.undef) fun cc1 =>
        (bif ((cc1.length == 2) && true) then
          (optK (cc1[0]?) fun w2 =>
            (strK w2 fun ss3 =>
              (bif (decide (((ss3.length : Int) : Int) < 1)) then
                (Tr.ret ([(AVal.bool false)], h))
              else
                (optK (cc1[0]?) fun w4 =>
                  (strK w4 fun ss5 =>
                    (bif (decide (((ss5.length : Int) : Int) > 24)) then
                      (Tr.ret ([(AVal.bool false)], h))
                    else
                      (optK (cc1[1]?) fun w6 =>
                        (strK w6 fun ss7 =>
                          (bif (decide (((ss7.length : Int) : Int) > 128)) then
                            (Tr.ret ([(AVal.bool false)], h))
                          else
                            (bif (decide ((x5 : Int) > 0)) then
                              (optK (cc1[0]?) fun w8 =>
                                (strK w8 fun ss9 =>
                                  (bif (decide ((0 : Int) ≤ (IntKind.i64.wrap (x5 - 1))) && decide (((IntKind.i64.wrap (x5 - 1)) : Int) < (l1.length : Int))) then
                                    (optK ((AVal.cells (l1.getD (Int.toNat (IntKind.i64.wrap (x5 - 1))) AVal.undef))[0]?) fun w10 =>
                                      (strK w10 fun ss11 =>
                                        (bif ((Go.Op.bytesLess ss9 ss11) || (ss9 == ss11)) then (Tr.ret ([(AVal.bool false)], h)) else (P13_0 d k f0 l1 f2 l3 x4 (IntKind.i64.wrap (x5 + 1)) h))))
                                  else
                                    Tr.fail)))
                            else
                              (P13_0 d k f0 l1 f2 l3 x4 (IntKind.i64.wrap (x5 + 1)) h)))))))))))
        else
          Tr.fail))
    else
      Tr.fail)
  else
    (Tr.ret ([(AVal.bool true)], h))) := by kernel_rfl
theorem F13_eq (d : Nat) (f0 : Bool) (l1 : List AVal) (h : Heap) : evFn Cw (d + 1) 13 [(AVal.sl f0 3 l1)] h =
  (P13_0 d rounds f0 l1 f0 l1 (l1.length : Int) 0 h) := by kernel_rfl
/- f17 strandline/point.Split$1 -/
theorem F17_eq (d : Nat) (i0 : Nat) (i1 : Nat) (h : Heap) : evFn Cw (d + 1) 17 [(AVal.obj i0 0), (AVal.obj i1 0)] h =
  (optK (Heap.cell? h i0 0) fun z1 =>
    (slK 0 (HCell.toA z1) fun _ es2 =>
      (bif (decide (((es2.length : Int) : Int) > 0)) then
        (optK (Heap.cell? h i1 0) fun z3 =>
          (slK 0 (HCell.toA z3) fun _ es4 =>
            (optK (Heap.cell? h i0 0) fun z5 =>
              (slK 0 (HCell.toA z5) fun _ es6 =>
                (bif decide ((es4.length + (1 : Nat)) * 24 ≤ 140737488355328) then
                  (lentK h i1 0 0 es4 fun h7 =>
                    (optK (Heap.cell? h7 i1 0) fun _ =>
                      (optK (Heap.cell? (Heap.setCell h7 i1 0 (HCell.own 0 (es4 ++ [(AVal.sl false 0 es6)]))) i0 0) fun _ =>
                        (Tr.ret ([], (Heap.setCell (Heap.setCell h7 i1 0 (HCell.own 0 (es4 ++ [(AVal.sl false 0 es6)]))) i0 0 (HCell.val (AVal.sl true 0 []))))))))
                else
                  Tr.fail)))))
      else
        (optK (Heap.cell? h i0 0) fun _ =>
          (Tr.ret ([], (Heap.setCell h i0 0 (HCell.val (AVal.sl true 0 []))))))))) := by kernel_rfl
/- f11 strandline/point.Split -/
noncomputable def P11_0 (d k : Nat) (i0 : Nat) (i1 : Nat) (i2 : Nat) (i3 : Nat) (f4 : Bool) (l5 : List AVal) (x6 : Int) (x7 : Int) (h : Heap) : Tr Res :=
  loopPt Cw d 11 [true, true, true, true, true, false, true, true] [] k ⟨[(4, (EV.one (SV.val (AVal.obj i0 0)))), (5, (EV.one (SV.val (AVal.obj i1 0)))), (6, (EV.one (SV.val (AVal.fn 17 [] [(AVal.obj i2 0), (AVal.obj i3 0)])))), (14, (EV.one (SV.val (AVal.sl f4 3 l5)))), (15, (EV.one (SV.val (AVal.int .i64 x6)))), (16, (EV.one (SV.val (AVal.int .i64 x7))))], []⟩ h
theorem P11_0_eq (d k : Nat) (i0 : Nat) (i1 : Nat) (i2 : Nat) (i3 : Nat) (f4 : Bool) (l5 : List AVal) (x6 : Int) (x7 : Int) (h : Heap) : P11_0 d (k + 1) i0 i1 i2 i3 f4 l5 x6 x7 h =
  (bif (decide ((x7 : Int) < x6)) then
    (bif (decide ((0 : Int) ≤ x7) && decide ((x7 : Int) < (l5.length : Int))) then
      (aggK 2 (l5.getD (Int.toNat x7) AVal.undef) fun cc1 =>
        (bif ((cc1.length == 2) && true) then
          (optK (cc1[0]?) fun w2 =>
            (strK w2 fun ss3 =>
              (optK (cc1[1]?) fun w4 =>
                (strK w4 fun ss5 =>
                  (runK (evFn Cw d 18 [(AVal.sl true 0 [(AVal.sl false 0 (ss3.map ofByte)), (AVal.sl false 0 (ss5.map ofByte))])] h) fun r6 h6 =>
                    (consK r6 fun w7 ws8 =>
                      (slOK 0 w7 fun es9 =>
                        (nilK ws8
                          (optK (Heap.cell? h6 i1 0) fun z10 =>
                            (slK 0 (HCell.toA z10) fun _ es11 =>
                              (bif (decide (((IntKind.i64.wrap ((es11.length : Int) + (es9.length : Int))) : Int) > 400)) then
                                (runK (evFn Cw d 17 [(AVal.obj i2 0), (AVal.obj i3 0)] h6) fun r12 h12 =>
                                  (nilK r12
                                    (optK (Heap.cell? h12 i1 0) fun z13 =>
                                      (slK 0 (HCell.toA z13) fun _ es14 =>
                                        (bif decide ((es14.length + es9.length) * 1 ≤ 140737488355328) then
                                          (lentK h12 i1 0 0 es14 fun h15 =>
                                            (optK (Heap.cell? h15 i1 0) fun _ =>
                                              (P11_0 d k i0 i1 i2 i3 f4 l5 x6 (IntKind.i64.wrap (x7 + 1)) (Heap.setCell h15 i1 0 (HCell.own 0 (es14 ++ es9))))))
                                        else
                                          Tr.fail)))))
                              else
                                (optK (Heap.cell? h6 i1 0) fun z16 =>
                                  (slK 0 (HCell.toA z16) fun _ es17 =>
                                    (bif decide ((es17.length + es9.length) * 1 ≤ 140737488355328) then
                                      (lentK h6 i1 0 0 es17 fun h18 =>
                                        (optK (Heap.cell? h18 i1 0) fun _ =>
                                          (P11_0 d k i0 i1 i2 i3 f4 l5 x6 (IntKind.i64.wrap (x7 + 1)) (Heap.setCell h18 i1 0 (HCell.own 0 (es17 ++ es9))))))
                                    else
                                      Tr.fail))))))))))))))
        else
          Tr.fail))
    else
      Tr.fail)
  else
    (runK (evFn Cw d 17 [(AVal.obj i2 0), (AVal.obj i3 0)] h) fun r19 h19 =>
      (nilK r19
        (optK (Heap.cell? h19 i0 0) fun z20 =>
          (slK 0 (HCell.toA z20) fun _ es21 =>
            (Tr.ret ([(AVal.sl false 0 es21), (AVal.int .i64 0)], h19))))))) := by kernel_rfl
theorem F11_eq (d : Nat) (f0 : Bool) (l1 : List AVal) (h : Heap) : evFn Cw (d + 1) 11 [(AVal.sl f0 3 l1)] h =
  (runK (evFn Cw d 13 [(AVal.sl f0 3 l1)] h) fun r1 h1 =>
    (consK r1 fun w2 ws3 =>
      (boolK w2 fun bb4 =>
        (nilK ws3
          (bif (!bb4) then
            (Tr.ret ([(AVal.sl true 0 []), (AVal.int .i64 13)], h1))
          else
            (P11_0 d rounds h1.objs.length ((Heap.push h1 (Go.Weave.Obj.cells [(HCell.val (AVal.sl true 0 []))])).objs.length) ((Heap.push h1 (Go.Weave.Obj.cells [(HCell.val (AVal.sl true 0 []))])).objs.length) h1.objs.length f0 l1 (l1.length : Int) 0 (Heap.push (Heap.push h1 (Go.Weave.Obj.cells [(HCell.val (AVal.sl true 0 []))])) (Go.Weave.Obj.cells [(HCell.val (AVal.sl true 0 []))])))))))) := by kernel_rfl
/- f19 strandline/point.pairs -/
noncomputable def P19_0 (d k : Nat) (l0 : List AVal) (l1 : List AVal) (x2 : Int) (h : Heap) : Tr Res :=
  loopPt Cw d 19 [true, true, true, true, false, true, true] [] k ⟨[(4, (EV.one (SV.own (tokOf 4 0) 0 l0))), (6, (EV.one (SV.own (tokOf 6 0) 3 l1))), (7, (EV.one (SV.val (AVal.int .i64 x2))))], []⟩ h
theorem P19_0_eq (d k : Nat) (l0 : List AVal) (l1 : List AVal) (x2 : Int) (h : Heap) : P19_0 d (k + 1) l0 l1 x2 h =
  (bif (decide ((x2 : Int) < (l0.length : Int))) then
    (bif (decide ((0 : Int) ≤ x2) && decide ((x2 : Int) < (l0.length : Int))) then
      (slK 0 (l0.getD (Int.toNat x2) AVal.undef) fun fl1 es2 =>
        (optK (toBytes es2) fun ss3 =>
          (bif (decide ((0 : Int) ≤ (IntKind.i64.wrap (x2 + 1))) && decide (((IntKind.i64.wrap (x2 + 1)) : Int) < (l0.length : Int))) then
            (slK 0 (l0.getD (Int.toNat (IntKind.i64.wrap (x2 + 1))) AVal.undef) fun fl4 es5 =>
              (optK (toBytes es5) fun ss6 =>
                (bif decide ((l1.length + (1 : Nat)) * 32 ≤ 140737488355328) then
                  (P19_0 d k l0 (l1 ++ [(AVal.agg [(AVal.str ss3), (AVal.str ss6)])]) (IntKind.i64.wrap (x2 + 2)) h)
                else
                  Tr.fail)))
          else
            Tr.fail)))
    else
      Tr.fail)
  else
    (Tr.ret ([(AVal.sl false 3 l1), (AVal.bool true)], h))) := by kernel_rfl
theorem F19_eq (d : Nat) (f0 : Bool) (l1 : List AVal) (h : Heap) : evFn Cw (d + 1) 19 [(AVal.sl f0 0 l1)] h =
  (runK (evFn Cw d 24 [(AVal.sl f0 0 l1)] h) fun r1 h1 =>
    (consK r1 fun w2 ws3 =>
      (slOK 0 w2 fun es4 =>
        (consK ws3 fun w5 ws6 =>
          (intK .i64 w5 fun y7 =>
            (nilK ws6
              (bif ((y7 : Int) != 0) then
                (Tr.ret ([(AVal.sl true 0 []), (AVal.bool false)], h1))
              else
                (bif (((Int.tmod (es4.length : Int) 2) : Int) != 0) then
                  (Tr.ret ([(AVal.sl true 0 []), (AVal.bool false)], h1))
                else
                  (bif (decide (((l1.length : Int) : Int) > 400)) then (Tr.ret ([(AVal.sl true 0 []), (AVal.bool false)], h1)) else (P19_0 d rounds es4 [] 0 h1)))))))))) := by kernel_rfl
/- f25 strandline/crc.four -/
theorem F25_eq (d : Nat) (x0 : Int) (h : Heap) : evFn Cw (d + 1) 25 [(AVal.int .u32 x0)] h =
  (bif (decide ((0 : Int) ≤ (IntKind.u32.wrap (BitVec.ofInt 32 x0 &&& BitVec.ofInt 32 15).toNat)) && decide (((IntKind.u32.wrap (BitVec.ofInt 32 x0 &&& BitVec.ofInt 32 15).toNat) : Int) < 16)) then
    (optK ([(AVal.int .u32 0), (AVal.int .u32 274646895), (AVal.int .u32 549293790), (AVal.int .u32 820201905), (AVal.int .u32 1098587580), (AVal.int .u32 1361435347), (AVal.int .u32 1640403810), (AVal.int .u32 1905808397), (AVal.int .u32 2197175160), (AVal.int .u32 2460548119), (AVal.int .u32 2722870694), (AVal.int .u32 2987750089), (AVal.int .u32 3280807620), (AVal.int .u32 3553878443), (AVal.int .u32 3811616794), (AVal.int .u32 4084100981)][(0 + ((Int.toNat (IntKind.u32.wrap (BitVec.ofInt 32 x0 &&& BitVec.ofInt 32 15).toNat)) * 1))]?) fun w1 =>
      (intK .u32 w1 fun y2 =>
        (Tr.ret ([(AVal.int .u32 (IntKind.u32.wrap (BitVec.ofInt 32 y2 ^^^ BitVec.ofInt 32 (Int.fdiv x0 (2 ^ 4))).toNat))], h))))
  else
    Tr.fail) := by kernel_rfl
/- f20 strandline/crc.More -/
noncomputable def P20_0 (d k : Nat) (x0 : Int) (f1 : Bool) (l2 : List AVal) (x3 : Int) (x4 : Int) (h : Heap) : Tr Res :=
  loopPt Cw d 20 [true, true, false, true, true] [] k ⟨[(5, (EV.one (SV.val (AVal.int .u32 x0)))), (10, (EV.one (SV.val (AVal.sl f1 0 l2)))), (11, (EV.one (SV.val (AVal.int .i64 x3)))), (12, (EV.one (SV.val (AVal.int .i64 x4))))], []⟩ h
theorem P20_0_eq (d k : Nat) (x0 : Int) (f1 : Bool) (l2 : List AVal) (x3 : Int) (x4 : Int) (h : Heap) : P20_0 d (k + 1) x0 f1 l2 x3 x4 h =
  (bif (decide ((x4 : Int) < x3)) then
    (bif (decide ((0 : Int) ≤ x4) && decide ((x4 : Int) < (l2.length : Int))) then
      (intK .u8 (l2.getD (Int.toNat x4) AVal.undef) fun y1 =>
        (runK (evFn Cw d 25 [(AVal.int .u32 (IntKind.u32.wrap (BitVec.ofInt 32 x0 ^^^ BitVec.ofInt 32 (IntKind.u32.wrap y1)).toNat))] h) fun r2 h2 =>
          (consK r2 fun w3 ws4 =>
            (intK .u32 w3 fun y5 =>
              (nilK ws4
                (runK (evFn Cw d 25 [(AVal.int .u32 y5)] h2) fun r6 h6 =>
                  (consK r6 fun w7 ws8 =>
                    (intK .u32 w7 fun y9 =>
                      (nilK ws8
                        (P20_0 d k y9 f1 l2 x3 (IntKind.i64.wrap (x4 + 1)) h6))))))))))
    else
      Tr.fail)
  else
    (Tr.ret ([(AVal.int .u32 (IntKind.u32.wrap (BitVec.ofInt 32 (IntKind.u32.max) ^^^ BitVec.ofInt 32 x0).toNat))], h))) := by kernel_rfl
theorem F20_eq (d : Nat) (x0 : Int) (f1 : Bool) (l2 : List AVal) (h : Heap) : evFn Cw (d + 1) 20 [(AVal.int .u32 x0), (AVal.sl f1 0 l2)] h =
  (P20_0 d rounds (IntKind.u32.wrap (BitVec.ofInt 32 (IntKind.u32.max) ^^^ BitVec.ofInt 32 x0).toNat) f1 l2 (l2.length : Int) 0 h) := by kernel_rfl
/- f12 strandline/point.all -/
noncomputable def P12_0 (d k : Nat) (l0 : List AVal) (f1 : Bool) (l2 : List AVal) (x3 : Int) (x4 : Int) (x5 : Int) (x6 : Int) (x7 : Int) (x8 : Int) (x9 : Int) (x10 : Int) (h : Heap) : Tr Res :=
  loopPt Cw d 12 [true, true, true, false, true, true] [] k ⟨[(3, (EV.one (SV.loc 3 0))), (5, (EV.one (SV.own (tokOf 5 0) 3 l0))), (6, (EV.one (SV.loc 6 0))), (14, (EV.one (SV.val (AVal.sl f1 0 l2)))), (15, (EV.one (SV.val (AVal.int .i64 x3)))), (16, (EV.one (SV.val (AVal.int .i64 x4))))], [(3, (Box.plain [(AVal.int .i64 x5), (AVal.int .i64 x6), (AVal.int .u32 x7)])), (6, (Box.plain [(AVal.int .i64 x8), (AVal.int .i64 x9), (AVal.int .u32 x10)]))]⟩ h
theorem P12_0_eq (d k : Nat) (l0 : List AVal) (f1 : Bool) (l2 : List AVal) (x3 : Int) (x4 : Int) (x5 : Int) (x6 : Int) (x7 : Int) (x8 : Int) (x9 : Int) (x10 : Int) (h : Heap) : P12_0 d (k + 1) l0 f1 l2 x3 x4 x5 x6 x7 x8 x9 x10 h =
  (bif (decide ((x4 : Int) < x3)) then
    (bif (decide ((0 : Int) ≤ x4) && decide ((x4 : Int) < (l2.length : Int))) then
      (slK 0 (l2.getD (Int.toNat x4) AVal.undef) fun fl1 es2 =>
        (runK (evFn Cw d 19 [(AVal.sl fl1 0 es2)] h) fun r3 h3 =>
          (consK r3 fun w4 ws5 =>
            (slOK 3 w4 fun es6 =>
              (consK ws5 fun w7 ws8 =>
                (boolK w7 fun bb9 =>
                  (nilK ws8
                    (bif (!bb9) then
                      (Tr.ret ([(AVal.sl true 0 []), (AVal.agg [(AVal.int .i64 0), (AVal.int .i64 0), (AVal.int .u32 0)]), (AVal.bool false)], h3))
                    else
                      (bif decide ((l0.length + es6.length) * 32 ≤ 140737488355328) then
                        (runK (evFn Cw d 20 [(AVal.int .u32 x10), (AVal.sl fl1 0 es2)] h3) fun r10 h10 =>
                          (consK r10 fun w11 ws12 =>
                            (intK .u32 w11 fun y13 =>
                              (nilK ws12
                                (P12_0 d k (l0 ++ es6) f1 l2 x3 (IntKind.i64.wrap (x4 + 1)) x5 x6 x7 x8 x9 y13 h10)))))
                      else
                        Tr.fail)))))))))
    else
      Tr.fail)
  else
    (Tr.ret ([(AVal.sl false 3 l0), (AVal.agg [(AVal.int .i64 x8), (AVal.int .i64 (l0.length : Int)), (AVal.int .u32 x10)]), (AVal.bool true)], h))) := by kernel_rfl
theorem F12_eq (d : Nat) (f0 : Bool) (l1 : List AVal) (h : Heap) : evFn Cw (d + 1) 12 [(AVal.sl f0 0 l1)] h =
  (P12_0 d rounds [] f0 l1 (l1.length : Int) 0 0 0 0 (l1.length : Int) 0 0 h) := by kernel_rfl
/- f7 strandline/point.Of -/
theorem F7_eq (d : Nat) (f0 : Bool) (l1 : List AVal) (h : Heap) : evFn Cw (d + 1) 7 [(AVal.sl f0 0 l1)] h =
  (runK (evFn Cw d 12 [(AVal.sl f0 0 l1)] h) fun r1 h1 =>
    (consK r1 fun w2 ws3 =>
      (slOK 3 w2 fun es4 =>
        (consK ws3 fun w5 ws6 =>
          (aggK 3 w5 fun cc7 =>
            (consK ws6 fun w8 ws9 =>
              (boolK w8 fun bb10 =>
                (nilK ws9
                  (bif ((cc7.length == 3) && true) then
                    (bif (!bb10) then
                      (Tr.ret ([(AVal.agg [(AVal.int .i64 0), (AVal.int .i64 0), (AVal.int .u32 0)]), (AVal.int .i64 2)], h1))
                    else
                      (bif decide (0 + 3 ≤ cc7.length) then
                        (bif ((((cc7.drop 0).take 3).length == 3) && true) then
                          (bif decide (0 + 3 ≤ ((cc7.drop 0).take 3).length) then (Tr.ret ([(AVal.agg ((((cc7.drop 0).take 3).drop 0).take 3)), (AVal.int .i64 0)], h1)) else Tr.fail)
                        else
                          Tr.fail)
                      else
                        Tr.fail))
                  else
                    Tr.fail))))))))) := by kernel_rfl
/- f4 strandline/strandlinelaw34.awake -/
theorem F4_eq (d : Nat) (h : Heap) : evFn Cw (d + 1) 4 [] h =
  (runK (evFn Cw d 11 [(AVal.sl true 3 [(AVal.agg [(AVal.str [97]), (AVal.str [98])])])] h) fun r1 h1 =>
    (consK r1 fun w2 ws3 =>
      (slK 0 w2 fun fl4 es5 =>
        (consK ws3 fun w6 ws7 =>
          (intK .i64 w6 fun y8 =>
            (nilK ws7
              (runK (evFn Cw d 7 [(AVal.sl fl4 0 es5)] h1) fun r9 h9 =>
                (consK r9 fun w10 ws11 =>
                  (aggK 3 w10 fun cc12 =>
                    (consK ws11 fun w13 ws14 =>
                      (intK .i64 w13 fun y15 =>
                        (nilK ws14
                          (bif ((cc12.length == 3) && true) then
                            (bif ((y8 : Int) == 0) then
                              (bif ((y15 : Int) == 0) then
                                (bif (((es5.length : Int) : Int) == 1) then
                                  (bif decide ((0 : Int) < (es5.length : Int)) then
                                    (slK 0 (es5.getD 0 AVal.undef) fun fl16 es17 =>
                                      (optK (toBytes es17) fun ss18 =>
                                        (bif (ss18 == [1, 97, 1, 98]) then
                                          (optK (cc12[1]?) fun w19 =>
                                            (intK .i64 w19 fun y20 =>
                                              (bif ((y20 : Int) == 1) then (Tr.ret ([(AVal.bool true)], h9)) else (Tr.ret ([(AVal.bool false)], h9)))))
                                        else
                                          (Tr.ret ([(AVal.bool false)], h9)))))
                                  else
                                    Tr.fail)
                                else
                                  (Tr.ret ([(AVal.bool false)], h9)))
                              else
                                (Tr.ret ([(AVal.bool false)], h9)))
                            else
                              (Tr.ret ([(AVal.bool false)], h9)))
                          else
                            Tr.fail))))))))))))) := by kernel_rfl
/- f5 strandline/point.Join -/
theorem F5_eq (d : Nat) (x0 : Int) (x1 : Int) (x2 : Int) (f3 : Bool) (l4 : List AVal) (h : Heap) : evFn Cw (d + 1) 5 [(AVal.agg [(AVal.int .i64 x0), (AVal.int .i64 x1), (AVal.int .u32 x2)]), (AVal.sl f3 0 l4)] h =
  (bif (decide (((l4.length : Int) : Int) < x0)) then
    (Tr.ret ([(AVal.sl true 0 []), (AVal.int .i64 1)], h))
  else
    (runK (evFn Cw d 12 [(AVal.sl f3 0 l4)] h) fun r1 h1 =>
      (consK r1 fun w2 ws3 =>
        (slOK 3 w2 fun es4 =>
          (consK ws3 fun w5 ws6 =>
            (aggK 3 w5 fun cc7 =>
              (consK ws6 fun w8 ws9 =>
                (boolK w8 fun bb10 =>
                  (nilK ws9
                    (bif ((cc7.length == 3) && true) then
                      (bif (!bb10) then
                        (Tr.ret ([(AVal.sl true 0 []), (AVal.int .i64 2)], h1))
                      else
                        (optK (cc7[0]?) fun w11 =>
                          (intK .i64 w11 fun y12 =>
                            (bif ((y12 : Int) != x0) then
                              (Tr.ret ([(AVal.sl true 0 []), (AVal.int .i64 2)], h1))
                            else
                              (optK (cc7[1]?) fun w13 =>
                                (intK .i64 w13 fun y14 =>
                                  (bif ((y14 : Int) != x1) then
                                    (Tr.ret ([(AVal.sl true 0 []), (AVal.int .i64 2)], h1))
                                  else
                                    (runK (evFn Cw d 13 [(AVal.sl false 3 es4)] h1) fun r15 h15 =>
                                      (consK r15 fun w16 ws17 =>
                                        (boolK w16 fun bb18 =>
                                          (nilK ws17
                                            (bif (!bb18) then
                                              (Tr.ret ([(AVal.sl true 0 []), (AVal.int .i64 2)], h15))
                                            else
                                              (optK (cc7[2]?) fun w19 =>
                                                (intK .u32 w19 fun y20 =>
                                                  (bif ((y20 : Int) != x2) then (Tr.ret ([(AVal.sl true 0 []), (AVal.int .i64 3)], h15)) else (Tr.ret ([(AVal.sl false 3 es4), (AVal.int .i64 0)], h15)))))))))))))))))
                    else
                      Tr.fail)))))))))) := by kernel_rfl
/- f8 strandline/strandlineref34.Pairs -/
noncomputable def P8_0 (d k : Nat) (f0 : Bool) (l1 : List AVal) (l2 : List AVal) (x3 : Int) (h : Heap) : Tr Res :=
  loopPt Cw d 8 [true, true, false, true, true] [] k ⟨[(0, (EV.one (SV.val (AVal.sl f0 0 l1)))), (4, (EV.one (SV.own (tokOf 4 0) 3 l2))), (5, (EV.one (SV.val (AVal.int .i64 x3))))], []⟩ h
noncomputable def P8_1 (d n0 k : Nat) (f0 : Bool) (l1 : List AVal) (l2 : List AVal) (x3 : Int) (l4 : List AVal) (x5 : Int) (h : Heap) : Tr Res :=
  loopPt Cw d 8 [true, true, false, true, true, true, true, false, true, true, true, true, true] [n0] k ⟨[(0, (EV.one (SV.val (AVal.sl f0 0 l1)))), (4, (EV.one (SV.own (tokOf 4 0) 3 l2))), (5, (EV.one (SV.val (AVal.int .i64 x3)))), (6, (EV.one (SV.own (tokOf 6 0) 0 l4))), (8, (EV.one (SV.val (AVal.int .i64 x5))))], []⟩ h
theorem P8_0_eq (d k : Nat) (f0 : Bool) (l1 : List AVal) (l2 : List AVal) (x3 : Int) (h : Heap) : P8_0 d (k + 1) f0 l1 l2 x3 h =
  (bif (decide ((x3 : Int) < (l1.length : Int))) then
    (bif (decide ((0 : Int) ≤ x3) && decide ((x3 : Int) < (l1.length : Int))) then
      (slK 0 (l1.getD (Int.toNat x3) AVal.undef) fun fl1 es2 =>
        (runK (evFn Cw d 15 [(AVal.sl fl1 0 es2)] h) fun r3 h3 =>
          (consK r3 fun w4 ws5 =>
            (slOK 0 w4 fun es6 =>
              (consK ws5 fun w7 ws8 =>
                (intK .i64 w7 fun y9 =>
                  (nilK ws8
                    (bif ((y9 : Int) != 0) then
                      (Tr.ret ([(AVal.sl true 0 []), (AVal.bool false)], h3))
                    else
                      (bif (((Int.tmod (es6.length : Int) 2) : Int) == 1) then
                        (Tr.ret ([(AVal.sl true 0 []), (AVal.bool false)], h3))
                      else
                        (bif (decide ((0 : Int) ≤ x3) && decide ((x3 : Int) < (l1.length : Int))) then
                          (slK 0 (l1.getD (Int.toNat x3) AVal.undef) fun fl10 es11 =>
                            (bif (decide (((es11.length : Int) : Int) > 400)) then (Tr.ret ([(AVal.sl true 0 []), (AVal.bool false)], h3)) else (P8_1 d k rounds f0 l1 l2 x3 es6 0 h3)))
                        else
                          Tr.fail))))))))))
    else
      Tr.fail)
  else
    (Tr.ret ([(AVal.sl false 3 l2), (AVal.bool true)], h))) := by kernel_rfl
theorem P8_1_eq (d n0 k : Nat) (f0 : Bool) (l1 : List AVal) (l2 : List AVal) (x3 : Int) (l4 : List AVal) (x5 : Int) (h : Heap) : P8_1 d n0 (k + 1) f0 l1 l2 x3 l4 x5 h =
  (bif (decide (((IntKind.i64.wrap (x5 + 1)) : Int) < (l4.length : Int))) then
    (bif (decide ((0 : Int) ≤ x5) && decide ((x5 : Int) < (l4.length : Int))) then
      (slK 0 (l4.getD (Int.toNat x5) AVal.undef) fun fl1 es2 =>
        (optK (toBytes es2) fun ss3 =>
          (bif (decide ((0 : Int) ≤ (IntKind.i64.wrap (x5 + 1))) && decide (((IntKind.i64.wrap (x5 + 1)) : Int) < (l4.length : Int))) then
            (slK 0 (l4.getD (Int.toNat (IntKind.i64.wrap (x5 + 1))) AVal.undef) fun fl4 es5 =>
              (optK (toBytes es5) fun ss6 =>
                (bif decide ((l2.length + (1 : Nat)) * 32 ≤ 140737488355328) then
                  (P8_1 d n0 k f0 l1 (l2 ++ [(AVal.agg [(AVal.str ss3), (AVal.str ss6)])]) x3 l4 (IntKind.i64.wrap (x5 + 2)) h)
                else
                  Tr.fail)))
          else
            Tr.fail)))
    else
      Tr.fail)
  else
    (P8_0 d n0 f0 l1 l2 (IntKind.i64.wrap (x3 + 1)) h)) := by kernel_rfl
theorem F8_eq (d : Nat) (f0 : Bool) (l1 : List AVal) (h : Heap) : evFn Cw (d + 1) 8 [(AVal.sl f0 0 l1)] h =
  (P8_0 d rounds f0 l1 [] 0 h) := by kernel_rfl
/- f14 strandline/strandlineref34.Right -/
noncomputable def P14_0 (d k : Nat) (f0 : Bool) (l1 : List AVal) (x2 : Int) (h : Heap) : Tr Res :=
  loopPt Cw d 14 [true, false, true, true] [] k ⟨[(0, (EV.one (SV.val (AVal.sl f0 3 l1)))), (3, (EV.one (SV.val (AVal.int .i64 x2))))], []⟩ h
theorem P14_0_eq (d k : Nat) (f0 : Bool) (l1 : List AVal) (x2 : Int) (h : Heap) : P14_0 d (k + 1) f0 l1 x2 h =
  (bif (decide ((x2 : Int) < (l1.length : Int))) then
    (bif (decide ((0 : Int) ≤ x2) && decide ((x2 : Int) < (l1.length : Int))) then
      (optK ((AVal.cells (l1.getD (Int.toNat x2) AVal.undef))[0]?) fun w1 =>
        (strK w1 fun ss2 =>
          (bif (ss2 == []) then
            (Tr.ret ([(AVal.bool false)], h))
          else
            (bif (decide ((0 : Int) ≤ x2) && decide ((x2 : Int) < (l1.length : Int))) then
              (optK ((AVal.cells (l1.getD (Int.toNat x2) AVal.undef))[0]?) fun w3 =>
                (strK w3 fun ss4 =>
                  (bif (decide (((ss4.length : Int) : Int) > 24)) then
                    (Tr.ret ([(AVal.bool false)], h))
                  else
                    (bif (decide ((0 : Int) ≤ x2) && decide ((x2 : Int) < (l1.length : Int))) then
                      (optK ((AVal.cells (l1.getD (Int.toNat x2) AVal.undef))[1]?) fun w5 =>
                        (strK w5 fun ss6 =>
                          (bif (decide (((ss6.length : Int) : Int) > 128)) then
                            (Tr.ret ([(AVal.bool false)], h))
                          else
                            (bif (decide ((x2 : Int) > 0)) then
                              (bif (decide ((0 : Int) ≤ x2) && decide ((x2 : Int) < (l1.length : Int))) then
                                (optK ((AVal.cells (l1.getD (Int.toNat x2) AVal.undef))[0]?) fun w7 =>
                                  (strK w7 fun ss8 =>
                                    (bif (decide ((0 : Int) ≤ (IntKind.i64.wrap (x2 - 1))) && decide (((IntKind.i64.wrap (x2 - 1)) : Int) < (l1.length : Int))) then
                                      (optK ((AVal.cells (l1.getD (Int.toNat (IntKind.i64.wrap (x2 - 1))) AVal.undef))[0]?) fun w9 =>
                                        (strK w9 fun ss10 =>
                                          (bif ((Go.Op.bytesLess ss8 ss10) || (ss8 == ss10)) then (Tr.ret ([(AVal.bool false)], h)) else (P14_0 d k f0 l1 (IntKind.i64.wrap (x2 + 1)) h))))
                                    else
                                      Tr.fail)))
                              else
                                Tr.fail)
                            else
                              (P14_0 d k f0 l1 (IntKind.i64.wrap (x2 + 1)) h)))))
                    else
                      Tr.fail))))
            else
              Tr.fail))))
    else
      Tr.fail)
  else
    (Tr.ret ([(AVal.bool true)], h))) := by kernel_rfl
theorem F14_eq (d : Nat) (f0 : Bool) (l1 : List AVal) (h : Heap) : evFn Cw (d + 1) 14 [(AVal.sl f0 3 l1)] h =
  (P14_0 d rounds f0 l1 0 h) := by kernel_rfl
/- f27 strandline/strandlineref03.Step -/
theorem F27_eq (d : Nat) (x0 : Int) (h : Heap) : evFn Cw (d + 1) 27 [(AVal.int .u32 x0)] h =
  (bif (((Int.tmod x0 2) : Int) == 1) then
    (Tr.ret ([(AVal.int .u32 (IntKind.u32.wrap (BitVec.ofInt 32 (IntKind.u32.wrap (Int.tdiv x0 2)) ^^^ BitVec.ofInt 32 2197175160).toNat))], h))
  else
    (Tr.ret ([(AVal.int .u32 (IntKind.u32.wrap (Int.tdiv x0 2)))], h))) := by kernel_rfl
/- f22 strandline/strandlineref03.More -/
noncomputable def P22_0 (d k : Nat) (f0 : Bool) (l1 : List AVal) (x2 : Int) (x3 : Int) (h : Heap) : Tr Res :=
  loopPt Cw d 22 [true, true, false, true, true] [] k ⟨[(1, (EV.one (SV.val (AVal.sl f0 0 l1)))), (5, (EV.one (SV.val (AVal.int .u32 x2)))), (6, (EV.one (SV.val (AVal.int .i64 x3))))], []⟩ h
noncomputable def P22_1 (d n0 k : Nat) (f0 : Bool) (l1 : List AVal) (x2 : Int) (x3 : Int) (x4 : Int) (h : Heap) : Tr Res :=
  loopPt Cw d 22 [true, true, false, true, true, true, true, false, true, true, true, true] [n0] k ⟨[(1, (EV.one (SV.val (AVal.sl f0 0 l1)))), (5, (EV.one (SV.val (AVal.int .u32 x2)))), (6, (EV.one (SV.val (AVal.int .i64 x3)))), (7, (EV.one (SV.val (AVal.int .i64 x4))))], []⟩ h
theorem P22_0_eq (d k : Nat) (f0 : Bool) (l1 : List AVal) (x2 : Int) (x3 : Int) (h : Heap) : P22_0 d (k + 1) f0 l1 x2 x3 h =
  (bif (decide ((x3 : Int) < (l1.length : Int))) then
    (bif (decide ((0 : Int) ≤ x3) && decide ((x3 : Int) < (l1.length : Int))) then
      (intK .u8 (l1.getD (Int.toNat x3) AVal.undef) fun y1 =>
        (P22_1 d k rounds f0 l1 (IntKind.u32.wrap (BitVec.ofInt 32 x2 ^^^ BitVec.ofInt 32 (IntKind.u32.wrap y1)).toNat) x3 0 h))
    else
      Tr.fail)
  else
    (Tr.ret ([(AVal.int .u32 (IntKind.u32.wrap (4294967295 - x2)))], h))) := by kernel_rfl
theorem P22_1_eq (d n0 k : Nat) (f0 : Bool) (l1 : List AVal) (x2 : Int) (x3 : Int) (x4 : Int) (h : Heap) : P22_1 d n0 (k + 1) f0 l1 x2 x3 x4 h =
  (bif (decide ((x4 : Int) < 8)) then
    (runK (evFn Cw d 27 [(AVal.int .u32 x2)] h) fun r1 h1 =>
      (consK r1 fun w2 ws3 =>
        (intK .u32 w2 fun y4 =>
          (nilK ws3
            (P22_1 d n0 k f0 l1 y4 x3 (IntKind.i64.wrap (x4 + 1)) h1)))))
  else
    (P22_0 d n0 f0 l1 x2 (IntKind.i64.wrap (x3 + 1)) h)) := by kernel_rfl
theorem F22_eq (d : Nat) (x0 : Int) (f1 : Bool) (l2 : List AVal) (h : Heap) : evFn Cw (d + 1) 22 [(AVal.int .u32 x0), (AVal.sl f1 0 l2)] h =
  (P22_0 d rounds f1 l2 (IntKind.u32.wrap (4294967295 - x0)) 0 h) := by kernel_rfl
/- f16 strandline/strandlineref03.Of -/
theorem F16_eq (d : Nat) (f0 : Bool) (l1 : List AVal) (h : Heap) : evFn Cw (d + 1) 16 [(AVal.sl f0 0 l1)] h =
  (runK (evFn Cw d 22 [(AVal.int .u32 0), (AVal.sl f0 0 l1)] h) fun r1 h1 =>
    (consK r1 fun w2 ws3 =>
      (intK .u32 w2 fun y4 =>
        (nilK ws3
          (Tr.ret ([(AVal.int .u32 y4)], h1)))))) := by kernel_rfl
/- f10 strandline/strandlineref34.Of -/
noncomputable def P10_0 (d k : Nat) (f0 : Bool) (l1 : List AVal) (l2 : List AVal) (l3 : List AVal) (x4 : Int) (x5 : Int) (x6 : Int) (x7 : Int) (h : Heap) : Tr Res :=
  loopPt Cw d 10 [true, true, true, false, true, true] [] k ⟨[(0, (EV.one (SV.val (AVal.sl f0 0 l1)))), (2, (EV.one (SV.loc 2 0))), (3, (EV.one (SV.own (tokOf 3 0) 3 l2))), (5, (EV.one (SV.own (tokOf 5 0) 0 l3))), (6, (EV.one (SV.val (AVal.int .i64 x4))))], [(2, (Box.plain [(AVal.int .i64 x5), (AVal.int .i64 x6), (AVal.int .u32 x7)]))]⟩ h
theorem P10_0_eq (d k : Nat) (f0 : Bool) (l1 : List AVal) (l2 : List AVal) (l3 : List AVal) (x4 : Int) (x5 : Int) (x6 : Int) (x7 : Int) (h : Heap) : P10_0 d (k + 1) f0 l1 l2 l3 x4 x5 x6 x7 h =
  (bif (decide ((x4 : Int) < (l1.length : Int))) then
    (bif (decide ((0 : Int) ≤ x4) && decide ((x4 : Int) < (l1.length : Int))) then
      (slK 0 (l1.getD (Int.toNat x4) AVal.undef) fun fl1 es2 =>
        (bif decide ((l3.length + es2.length) * 1 ≤ 140737488355328) then (P10_0 d k f0 l1 l2 (l3 ++ es2) (IntKind.i64.wrap (x4 + 1)) x5 x6 x7 h) else Tr.fail))
    else
      Tr.fail)
  else
    (runK (evFn Cw d 16 [(AVal.sl false 0 l3)] h) fun r3 h3 =>
      (consK r3 fun w4 ws5 =>
        (intK .u32 w4 fun y6 =>
          (nilK ws5
            (Tr.ret ([(AVal.agg [(AVal.int .i64 (l1.length : Int)), (AVal.int .i64 (l2.length : Int)), (AVal.int .u32 y6)])], h3))))))) := by kernel_rfl
theorem F10_eq (d : Nat) (f0 : Bool) (l1 : List AVal) (h : Heap) : evFn Cw (d + 1) 10 [(AVal.sl f0 0 l1)] h =
  (runK (evFn Cw d 8 [(AVal.sl f0 0 l1)] h) fun r1 h1 =>
    (consK r1 fun w2 ws3 =>
      (slOK 3 w2 fun es4 =>
        (consK ws3 fun w5 ws6 =>
          (boolK w5 fun bb7 =>
            (nilK ws6
              (P10_0 d rounds f0 l1 es4 [] 0 0 0 0 h1))))))) := by kernel_rfl
/- f6 strandline/strandlineref34.Join -/
theorem F6_eq (d : Nat) (x0 : Int) (x1 : Int) (x2 : Int) (f3 : Bool) (l4 : List AVal) (h : Heap) : evFn Cw (d + 1) 6 [(AVal.agg [(AVal.int .i64 x0), (AVal.int .i64 x1), (AVal.int .u32 x2)]), (AVal.sl f3 0 l4)] h =
  (bif (decide (((l4.length : Int) : Int) < x0)) then
    (Tr.ret ([(AVal.sl true 0 []), (AVal.int .i64 1)], h))
  else
    (runK (evFn Cw d 8 [(AVal.sl f3 0 l4)] h) fun r1 h1 =>
      (consK r1 fun w2 ws3 =>
        (slOK 3 w2 fun es4 =>
          (consK ws3 fun w5 ws6 =>
            (boolK w5 fun bb7 =>
              (nilK ws6
                (bif (!bb7) then
                  (Tr.ret ([(AVal.sl true 0 []), (AVal.int .i64 2)], h1))
                else
                  (bif (decide (((l4.length : Int) : Int) > x0)) then
                    (Tr.ret ([(AVal.sl true 0 []), (AVal.int .i64 2)], h1))
                  else
                    (bif (((es4.length : Int) : Int) != x1) then
                      (Tr.ret ([(AVal.sl true 0 []), (AVal.int .i64 2)], h1))
                    else
                      (runK (evFn Cw d 14 [(AVal.sl false 3 es4)] h1) fun r8 h8 =>
                        (consK r8 fun w9 ws10 =>
                          (boolK w9 fun bb11 =>
                            (nilK ws10
                              (bif (!bb11) then
                                (Tr.ret ([(AVal.sl true 0 []), (AVal.int .i64 2)], h8))
                              else
                                (runK (evFn Cw d 10 [(AVal.sl f3 0 l4)] h8) fun r12 h12 =>
                                  (consK r12 fun w13 ws14 =>
                                    (aggK 3 w13 fun cc15 =>
                                      (nilK ws14
                                        (optK (cc15[2]?) fun w16 =>
                                          (intK .u32 w16 fun y17 =>
                                            (bif ((y17 : Int) != x2) then (Tr.ret ([(AVal.sl true 0 []), (AVal.int .i64 3)], h12)) else (Tr.ret ([(AVal.sl false 3 es4), (AVal.int .i64 0)], h12)))))))))))))))))))))))) := by kernel_rfl
/- f3 strandline/strandlinelaw34.PointJoins -/
theorem F3_eq (d : Nat) (x0 : Int) (x1 : Int) (x2 : Int) (f3 : Bool) (l4 : List AVal) (h : Heap) : evFn Cw (d + 1) 3 [(AVal.agg [(AVal.int .i64 x0), (AVal.int .i64 x1), (AVal.int .u32 x2)]), (AVal.sl f3 0 l4)] h =
  (bif (decide (((l4.length : Int) : Int) > 60)) then
    (runK (evFn Cw d 4 [] h) fun r1 h1 =>
      (consK r1 fun w2 ws3 =>
        (boolK w2 fun bb4 =>
          (nilK ws3
            (Tr.ret ([(AVal.bool bb4)], h1))))))
  else
    (runK (evFn Cw d 5 [(AVal.agg [(AVal.int .i64 x0), (AVal.int .i64 x1), (AVal.int .u32 x2)]), (AVal.sl f3 0 l4)] h) fun r5 h5 =>
      (consK r5 fun w6 ws7 =>
        (slOK 3 w6 fun es8 =>
          (consK ws7 fun w9 ws10 =>
            (intK .i64 w9 fun y11 =>
              (nilK ws10
                (runK (evFn Cw d 6 [(AVal.agg [(AVal.int .i64 x0), (AVal.int .i64 x1), (AVal.int .u32 x2)]), (AVal.sl f3 0 l4)] h5) fun r12 h12 =>
                  (consK r12 fun w13 ws14 =>
                    (slOK 3 w13 fun es15 =>
                      (consK ws14 fun w16 ws17 =>
                        (intK .i64 w16 fun y18 =>
                          (nilK ws17
                            (runK (evFn Cw d 7 [(AVal.sl f3 0 l4)] h12) fun r19 h19 =>
                              (consK r19 fun w20 ws21 =>
                                (aggK 3 w20 fun cc22 =>
                                  (consK ws21 fun w23 ws24 =>
                                    (intK .i64 w23 fun y25 =>
                                      (nilK ws24
                                        (bif ((cc22.length == 3) && true) then
                                          (runK (evFn Cw d 8 [(AVal.sl f3 0 l4)] h19) fun r26 h26 =>
                                            (consK r26 fun w27 ws28 =>
                                              (slOK 3 w27 fun es29 =>
                                                (consK ws28 fun w30 ws31 =>
                                                  (boolK w30 fun bb32 =>
                                                    (nilK ws31
                                                      (bif (!bb32) then
                                                        (runK (evFn Cw d 9 [(AVal.sl false 3 es8), (AVal.sl false 3 es15)] h26) fun r33 h33 =>
                                                          (consK r33 fun w34 ws35 =>
                                                            (boolK w34 fun bb36 =>
                                                              (nilK ws35
                                                                (bif bb36 then
                                                                  (bif ((y11 : Int) == y18) then
                                                                    (bif ((y25 : Int) == 2) then
                                                                      (bif decide (0 + 3 ≤ cc22.length) then
                                                                        (bif ((plainOk Cw.P 31 (AVal.agg ((cc22.drop 0).take 3))) && true) then
                                                                          (bif (eqCells ((cc22.drop 0).take 3) [(AVal.int .i64 0), (AVal.int .i64 0), (AVal.int .u32 0)]) then
                                                                            (runK (evFn Cw d 4 [] h33) fun r37 h37 =>
                                                                              (consK r37 fun w38 ws39 =>
                                                                                (boolK w38 fun bb40 =>
                                                                                  (nilK ws39
                                                                                    (Tr.ret ([(AVal.bool bb40)], h37))))))
                                                                          else
                                                                            (Tr.ret ([(AVal.bool false)], h33)))
                                                                        else
                                                                          Tr.fail)
                                                                      else
                                                                        Tr.fail)
                                                                    else
                                                                      (Tr.ret ([(AVal.bool false)], h33)))
                                                                  else
                                                                    (Tr.ret ([(AVal.bool false)], h33)))
                                                                else
                                                                  (Tr.ret ([(AVal.bool false)], h33)))))))
                                                      else
                                                        (runK (evFn Cw d 9 [(AVal.sl false 3 es8), (AVal.sl false 3 es15)] h26) fun r41 h41 =>
                                                          (consK r41 fun w42 ws43 =>
                                                            (boolK w42 fun bb44 =>
                                                              (nilK ws43
                                                                (bif bb44 then
                                                                  (bif ((y11 : Int) == y18) then
                                                                    (bif ((y25 : Int) == 0) then
                                                                      (bif decide (0 + 3 ≤ cc22.length) then
                                                                        (runK (evFn Cw d 10 [(AVal.sl f3 0 l4)] h41) fun r45 h45 =>
                                                                          (consK r45 fun w46 ws47 =>
                                                                            (aggK 3 w46 fun cc48 =>
                                                                              (nilK ws47
                                                                                (bif ((plainOk Cw.P 24 (AVal.agg ((cc22.drop 0).take 3))) && (plainOk Cw.P 24 (AVal.agg cc48))) then
                                                                                  (bif (eqCells ((cc22.drop 0).take 3) cc48) then
                                                                                    (runK (evFn Cw d 4 [] h45) fun r49 h49 =>
                                                                                      (consK r49 fun w50 ws51 =>
                                                                                        (boolK w50 fun bb52 =>
                                                                                          (nilK ws51
                                                                                            (Tr.ret ([(AVal.bool bb52)], h49))))))
                                                                                  else
                                                                                    (Tr.ret ([(AVal.bool false)], h45)))
                                                                                else
                                                                                  Tr.fail)))))
                                                                      else
                                                                        Tr.fail)
                                                                    else
                                                                      (Tr.ret ([(AVal.bool false)], h41)))
                                                                  else
                                                                    (Tr.ret ([(AVal.bool false)], h41)))
                                                                else
                                                                  (Tr.ret ([(AVal.bool false)], h41))))))))))))))
                                        else
                                          Tr.fail)))))))))))))))))))) := by kernel_rfl
end Go.Proofs.YtnhhmgcjbnocfaaDoor.Wa
