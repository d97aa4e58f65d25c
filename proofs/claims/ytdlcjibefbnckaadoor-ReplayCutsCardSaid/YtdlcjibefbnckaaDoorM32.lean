/- Texts of this proof, laid together: the evaluator, what it comes to, and the laws. No condition. -/
import Derived.Test.YtdlcjibefbnckaaDoorWvZ
import Derived.Test.YtdlcjibefbnckaaDoorProg
import Derived.KernelRfl
import Derived.Test.YtdlcjibefbnckaaDoorWvLa
import Derived.Test.YtdlcjibefbnckaaDoorWvLb
import Derived.Test.YtdlcjibefbnckaaDoorWvY
import Derived.Test.YtdlcjibefbnckaaDoorWvLc
section
/- What the evaluator is told ahead of each function (nothing of it is trusted). -/
namespace Go.Proofs.YtdlcjibefbnckaaDoor.Wa
open Go Go.Weave
set_option maxRecDepth 100000
set_option linter.unusedVariables false
def annw : FuncId → Ann := fun f => match f with
  | 22 => { keep := [(2, [.plain 1, .own 5 0])], rown := [0] }
  | 36 => { keep := [(3, [.plain 5, .plain 8, .plain 9, .plain 10])] }
  | 24 => { keep := [(2, [.plain 1, .own 5 0])], rown := [0] }
  | 20 => { keep := [(4, [.plain 0, .plain 5, .plain 6, .plain 7])] }
  | 82 => { rown := [0] }
  | 64 => { rown := [0] }
  | 57 => { rown := [0] }
  | 41 => { keep := [(3, [.own 3 0, .plain 6, .plain 7, .plain 8])], rown := [0] }
  | 70 => { keep := [(2, [.plain 0, .own 4 0])], rown := [0] }
  | 48 => { keep := [(3, [.plain 0, .own 4 0, .plain 5])], rown := [0] }
  | 87 => { node := [(10, 5), (14, 5)] }
  | 91 => { node := [(6, 5)] }
  | 92 => { frz := [24], node := [(8, 5), (12, 5)] }
  | 89 => { node := [(15, 5), (20, 5), (27, 5), (32, 5), (39, 5), (44, 5), (48, 5), (51, 5), (57, 5), (60, 5), (74, 5), (79, 5), (88, 5), (93, 5), (98, 5), (104, 5), (107, 5), (113, 5), (116, 5), (120, 5)] }
  | 88 => { frz := [13, 69], node := [(17, 5), (23, 5), (30, 5), (37, 5), (43, 5), (47, 5), (57, 5), (61, 5), (65, 5)] }
  | 90 => { keep := [(1, [.plain 0])], node := [(4, 5), (9, 5)] }
  | 85 => { node := [(9, 5), (15, 5), (21, 5), (28, 5), (34, 5), (38, 5), (46, 5), (51, 5), (56, 5), (61, 5), (65, 5), (71, 5), (75, 5), (79, 5)] }
  | 78 => { keep := [(4, [.plain 1, .plain 7, .plain 8])], node := [(18, 5), (24, 5), (29, 5)] }
  | 55 => { keep := [(3, [.plain 0, .plain 1, .own 5 3, .plain 6])], rown := [0] }
  | 54 => { keep := [(5, [.own 0 3, .plain 1, .plain 2, .own 7 3, .plain 8, .plain 9])], rown := [0] }
  | 15 => { keep := [(4, [.plain 0, .plain 1, .plain 5])] }
  | 68 => { keep := [(6, [.plain 0, .plain 3])], join := [6] }
  | 69 => { loc := [(2, false)] }
  | 56 => { keep := [(4, [.plain 2, .plain 3, .own 9 3, .plain 10, .plain 11])], loc := [(12, false)], rown := [0] }
  | 19 => { keep := [(3, [.plain 0, .plain 3, .plain 7, .plain 8])] }
  | 6 => { loc := [(2, false)] }
  | 37 => { keep := [(3, [.plain 0, .plain 3, .plain 4])] }
  | 21 => { keep := [(3, [.plain 0, .plain 3, .plain 4])] }
  | 7 => { loc := [(2, false)] }
  | 23 => { keep := [(3, [.plain 0, .own 5 0, .plain 8, .plain 9])], rown := [0] }
  | 8 => { loc := [(1, false)], rown := [0] }
  | 25 => { keep := [(3, [.plain 0, .plain 1, .own 5 0, .plain 6])], rown := [0] }
  | 9 => { loc := [(1, false)], rown := [0] }
  | 39 => { keep := [(2, [.plain 0, .plain 5, .plain 6, .plain 7])], loc := [(4, false)] }
  | 26 => { keep := [(7, [.plain 4, .plain 5, .plain 6, .plain 14, .plain 15, .plain 16])], loc := [(8, false)] }
  | 58 => { keep := [(6, [.own 4 0, .own 6 3, .plain 7])], rown := [0] }
  | 59 => { keep := [(3, [.plain 5, .plain 10, .plain 11, .plain 12])] }
  | 42 => { keep := [(4, [.box 3 [], .own 5 3, .box 6 [], .plain 14, .plain 15, .plain 16])], loc := [(3, false), (6, false)], rown := [0] }
  | 27 => { loc := [(2, false), (5, false)] }
  | 10 => { loc := [(3, false)] }
  | 3 => { loc := [(2, false), (5, false), (7, false), (9, false), (11, false)] }
  | 60 => { loc := [(2, false), (7, false)], rown := [0] }
  | 31 => { keep := [(3, [.plain 0, .own 4 3, .plain 5]), (9, [.plain 0, .own 4 3, .plain 5, .own 6 0, .plain 8])], rown := [0] }
  | 49 => { keep := [(2, [.plain 0, .plain 3])] }
  | 77 => { keep := [(3, [.plain 1, .plain 5, .plain 6]), (7, [.plain 1, .plain 5, .plain 6, .plain 7])] }
  | 50 => { keep := [(4, [.plain 0, .box 2 [], .own 3 3, .own 5 0, .plain 6])], loc := [(2, false)] }
  | 32 => { loc := [(2, false)], rown := [0] }
  | 11 => { keep := [(2, [.plain 0, .plain 3])] }
  | 61 => { keep := [(3, [.plain 3, .plain 7, .plain 8, .plain 9])], loc := [(5, false)] }
  | 46 => { loc := [(5, false)] }
  | 75 => { loc := [(1, false)] }
  | 73 => { keep := [(11, [.box 2 [], .box 5 [], .plain 6]), (13, [.box 2 [], .box 5 [], .plain 6])], join := [11, 13], loc := [(2, false), (5, false)] }
  | 74 => { keep := [(2, [.plain 0, .plain 5, .plain 6, .plain 7])], loc := [(4, false)] }
  | 62 => { keep := [(2, [.plain 0, .own 4 4])], loc := [(5, false)], rown := [0] }
  | 63 => { keep := [(3, [.plain 0, .plain 5, .plain 10, .plain 11, .plain 12])], loc := [(7, false)] }
  | 30 => { loc := [(3, false), (6, false)] }
  | 13 => { keep := [(4, [.plain 0, .box 4 [], .plain 6]), (5, [.box 4 [], .plain 6, .plain 20, .plain 21, .plain 22])], join := [4], loc := [(4, false), (8, false)] }
  | 12 => { loc := [(1, false), (3, false)], xs := [6] }
  | 53 => { loc := [(1, false)] }
  | 51 => { keep := [(9, [.plain 0, .box 2 [], .plain 6, .box 8 []])], join := [9], loc := [(2, false), (8, false)] }
  | 52 => { keep := [(2, [.plain 0, .plain 3])] }
  | 33 => { keep := [(3, [.plain 0, .own 4 4, .plain 5])], loc := [(6, false)], rown := [0] }
  | 34 => { keep := [(3, [.plain 0, .plain 1, .plain 6, .plain 7])] }
  | 14 => { keep := [(6, [.plain 0, .box 4 [], .plain 6, .plain 7, .box 8 [], .own 9 0, .plain 10]), (13, [.plain 0, .box 4 [], .plain 6, .plain 7, .box 8 [], .own 9 0, .plain 10]), (19, [.plain 0, .box 4 [], .plain 6, .plain 7, .box 8 [], .own 9 0, .plain 10, .box 13 []]), (27, [.plain 0, .box 4 [], .plain 6, .plain 7, .box 8 [], .own 9 0, .plain 10])], join := [13, 19, 27], loc := [(4, false), (8, false), (13, false)] }
  | 35 => { rown := [0] }
  | 16 => { rown := [0] }
  | 17 => { keep := [(3, [.plain 3, .plain 7, .plain 8, .plain 9])], loc := [(5, false)] }
  | 5 => { keep := [(10, [.plain 0, .plain 9, .plain 10, .plain 11]), (15, [.plain 0, .plain 9, .plain 10, .plain 12]), (19, [.plain 0, .plain 9, .plain 10, .plain 12, .plain 13, .plain 14])], loc := [(5, false), (7, false)] }
  | 4 => { keep := [(8, [.plain 0, .plain 1, .plain 2, .box 7 [], .plain 9, .plain 10]), (14, [.plain 0, .plain 1, .plain 2, .box 7 [], .plain 9, .plain 13]), (21, [.plain 0, .plain 1, .plain 2, .box 7 [], .plain 9, .box 14 [], .plain 15, .own 16 6, .plain 17])], loc := [(7, false), (11, false), (14, false), (18, false), (21, false)] }
  | _ => {}
noncomputable def Cw : Cfg := ⟨Tryd.prog, annw, fun _ => none, fun g => match g with | 0 => some (AVal.elt (AVal.agg [(AVal.int .u32 0), (AVal.int .u32 274646895), (AVal.int .u32 549293790), (AVal.int .u32 820201905), (AVal.int .u32 1098587580), (AVal.int .u32 1361435347), (AVal.int .u32 1640403810), (AVal.int .u32 1905808397), (AVal.int .u32 2197175160), (AVal.int .u32 2460548119), (AVal.int .u32 2722870694), (AVal.int .u32 2987750089), (AVal.int .u32 3280807620), (AVal.int .u32 3553878443), (AVal.int .u32 3811616794), (AVal.int .u32 4084100981)]) true 16 0) | _ => none⟩
@[simp] theorem plain24 (x0 : Int) (x1 : Int) (x2 : Int) : plainOk Cw.P 24 (AVal.agg [AVal.int .i64 x0, AVal.int .i64 x1, AVal.int .u32 x2]) = true := by kernel_rfl
@[simp] theorem plain68 (x0 : List UInt8) (x1 : List UInt8) : plainOk Cw.P 68 (AVal.agg [AVal.str x0, AVal.str x1]) = true := by kernel_rfl
end Go.Proofs.YtdlcjibefbnckaaDoor.Wa
end

section
/- What the evaluator comes to in these functions. -/
namespace Go.Proofs.YtdlcjibefbnckaaDoor.Wa
open Go Go.Weave
set_option maxRecDepth 100000
set_option linter.unusedVariables false
/- f22 strandline/varint.Put -/
noncomputable def P22_0 (d k : Nat) (x0 : Int) (l1 : List AVal) (h : Heap) : Tr Res :=
  loopPt Cw d 22 [true, true, false, true] [] k ⟨[(1, (EV.one (SV.val (AVal.int .u64 x0)))), (5, (EV.one (SV.own (tokOf 5 0) 0 l1)))], []⟩ h
theorem P22_0_eq (d k : Nat) (x0 : Int) (l1 : List AVal) (h : Heap) : P22_0 d (k + 1) x0 l1 h =
  (bif (decide ((x0 : Int) ≥ 128)) then
    (bif decide ((l1.length + (1 : Nat)) * 1 ≤ 140737488355328) then
      (P22_0 d k (Int.fdiv x0 (2 ^ 7)) (l1 ++ [(AVal.int .u8 (IntKind.u8.wrap (BitVec.ofInt 8 (IntKind.u8.wrap x0) ||| BitVec.ofInt 8 128).toNat))]) h)
    else
      Tr.fail)
  else
    (bif decide ((l1.length + (1 : Nat)) * 1 ≤ 140737488355328) then (Tr.ret ([(AVal.sl false 0 (l1 ++ [(AVal.int .u8 (IntKind.u8.wrap x0))]))], h)) else Tr.fail)) := by kernel_rfl
theorem F22_eq (d : Nat) (f0 : Bool) (l1 : List AVal) (x2 : Int) (h : Heap) : evFn Cw (d + 1) 22 [(AVal.sl f0 0 l1), (AVal.int .u64 x2)] h =
  (bif decide (((0 : Nat) + l1.length) * 1 ≤ 140737488355328) then (P22_0 d rounds x2 ([] ++ l1) h) else Tr.fail) := by kernel_rfl
/- f36 strandline/varint.Get -/
noncomputable def P36_0 (d k : Nat) (x0 : Int) (f1 : Bool) (l2 : List AVal) (x3 : Int) (x4 : Int) (h : Heap) : Tr Res :=
  loopPt Cw d 36 [true, true, false, true, true] [] k ⟨[(5, (EV.one (SV.val (AVal.int .u64 x0)))), (8, (EV.one (SV.val (AVal.sl f1 0 l2)))), (9, (EV.one (SV.val (AVal.int .i64 x3)))), (10, (EV.one (SV.val (AVal.int .i64 x4))))], []⟩ h
theorem P36_0_eq (d k : Nat) (x0 : Int) (f1 : Bool) (l2 : List AVal) (x3 : Int) (x4 : Int) (h : Heap) : P36_0 d (k + 1) x0 f1 l2 x3 x4 h =
  (bif (decide ((x4 : Int) < x3)) then
    (bif (decide ((0 : Int) ≤ x4) && decide ((x4 : Int) < (l2.length : Int))) then
      (bif AVal.isInt .u8 (l2.getD (Int.toNat x4) AVal.undef) then
        (bif ((x4 : Int) == 9) then
          (bif (decide (((AVal.toInt (l2.getD (Int.toNat x4) AVal.undef)) : Int) > 1)) then
            (Tr.ret ([(AVal.int .u64 0), (AVal.int .i64 0), (AVal.int .i64 4)], h))
          else
            (bif decide ((IntKind.i64.wrap (7 * x4)) < 0) then
              Tr.fail
            else
              (bif (decide (((AVal.toInt (l2.getD (Int.toNat x4) AVal.undef)) : Int) < 128)) then
                (bif (((AVal.toInt (l2.getD (Int.toNat x4) AVal.undef)) : Int) == 0) then
                  (bif (decide ((x4 : Int) > 0)) then
                    (Tr.ret ([(AVal.int .u64 0), (AVal.int .i64 0), (AVal.int .i64 2)], h))
                  else
                    (Tr.ret ([(AVal.int .u64 (IntKind.u64.wrap (BitVec.ofInt 64 x0 ||| BitVec.ofInt 64 (IntKind.u64.wrap ((IntKind.u64.wrap (IntKind.u8.wrap (BitVec.ofInt 8 (AVal.toInt (l2.getD (Int.toNat x4) AVal.undef)) &&& BitVec.ofInt 8 127).toNat)) * 2 ^ (min (Int.toNat (IntKind.i64.wrap (7 * x4))) 64)))).toNat)), (AVal.int .i64 (IntKind.i64.wrap (x4 + 1))), (AVal.int .i64 0)], h)))
                else
                  (Tr.ret ([(AVal.int .u64 (IntKind.u64.wrap (BitVec.ofInt 64 x0 ||| BitVec.ofInt 64 (IntKind.u64.wrap ((IntKind.u64.wrap (IntKind.u8.wrap (BitVec.ofInt 8 (AVal.toInt (l2.getD (Int.toNat x4) AVal.undef)) &&& BitVec.ofInt 8 127).toNat)) * 2 ^ (min (Int.toNat (IntKind.i64.wrap (7 * x4))) 64)))).toNat)), (AVal.int .i64 (IntKind.i64.wrap (x4 + 1))), (AVal.int .i64 0)], h)))
              else
                (P36_0 d k (IntKind.u64.wrap (BitVec.ofInt 64 x0 ||| BitVec.ofInt 64 (IntKind.u64.wrap ((IntKind.u64.wrap (IntKind.u8.wrap (BitVec.ofInt 8 (AVal.toInt (l2.getD (Int.toNat x4) AVal.undef)) &&& BitVec.ofInt 8 127).toNat)) * 2 ^ (min (Int.toNat (IntKind.i64.wrap (7 * x4))) 64)))).toNat) f1 l2 x3 (IntKind.i64.wrap (x4 + 1)) h))))
        else
          (bif decide ((IntKind.i64.wrap (7 * x4)) < 0) then
            Tr.fail
          else
            (bif (decide (((AVal.toInt (l2.getD (Int.toNat x4) AVal.undef)) : Int) < 128)) then
              (bif (((AVal.toInt (l2.getD (Int.toNat x4) AVal.undef)) : Int) == 0) then
                (bif (decide ((x4 : Int) > 0)) then
                  (Tr.ret ([(AVal.int .u64 0), (AVal.int .i64 0), (AVal.int .i64 2)], h))
                else
                  (Tr.ret ([(AVal.int .u64 (IntKind.u64.wrap (BitVec.ofInt 64 x0 ||| BitVec.ofInt 64 (IntKind.u64.wrap ((IntKind.u64.wrap (IntKind.u8.wrap (BitVec.ofInt 8 (AVal.toInt (l2.getD (Int.toNat x4) AVal.undef)) &&& BitVec.ofInt 8 127).toNat)) * 2 ^ (min (Int.toNat (IntKind.i64.wrap (7 * x4))) 64)))).toNat)), (AVal.int .i64 (IntKind.i64.wrap (x4 + 1))), (AVal.int .i64 0)], h)))
              else
                (Tr.ret ([(AVal.int .u64 (IntKind.u64.wrap (BitVec.ofInt 64 x0 ||| BitVec.ofInt 64 (IntKind.u64.wrap ((IntKind.u64.wrap (IntKind.u8.wrap (BitVec.ofInt 8 (AVal.toInt (l2.getD (Int.toNat x4) AVal.undef)) &&& BitVec.ofInt 8 127).toNat)) * 2 ^ (min (Int.toNat (IntKind.i64.wrap (7 * x4))) 64)))).toNat)), (AVal.int .i64 (IntKind.i64.wrap (x4 + 1))), (AVal.int .i64 0)], h)))
            else
              (P36_0 d k (IntKind.u64.wrap (BitVec.ofInt 64 x0 ||| BitVec.ofInt 64 (IntKind.u64.wrap ((IntKind.u64.wrap (IntKind.u8.wrap (BitVec.ofInt 8 (AVal.toInt (l2.getD (Int.toNat x4) AVal.undef)) &&& BitVec.ofInt 8 127).toNat)) * 2 ^ (min (Int.toNat (IntKind.i64.wrap (7 * x4))) 64)))).toNat) f1 l2 x3 (IntKind.i64.wrap (x4 + 1)) h))))
      else
        Tr.fail)
    else
      Tr.fail)
  else
    (Tr.ret ([(AVal.int .u64 0), (AVal.int .i64 0), (AVal.int .i64 1)], h))) := by kernel_rfl
theorem F36_eq (d : Nat) (f0 : Bool) (l1 : List AVal) (h : Heap) : evFn Cw (d + 1) 36 [(AVal.sl f0 0 l1)] h =
  (P36_0 d rounds 0 f0 l1 (l1.length : Int) 0 h) := by kernel_rfl
/- f24 strandline/strandlineref02.Put -/
noncomputable def P20_0 (d k : Nat) (f0 : Bool) (l1 : List AVal) (x2 : Int) (x3 : Int) (x4 : Int) (h : Heap) : Tr Res :=
  loopPt Cw d 20 [true, true, true, false, true, true] [] k ⟨[(0, (EV.one (SV.val (AVal.sl f0 0 l1)))), (5, (EV.one (SV.val (AVal.int .u64 x2)))), (6, (EV.one (SV.val (AVal.int .u64 x3)))), (7, (EV.one (SV.val (AVal.int .i64 x4))))], []⟩ h
theorem P20_0_eq (d k : Nat) (f0 : Bool) (l1 : List AVal) (x2 : Int) (x3 : Int) (x4 : Int) (h : Heap) : P20_0 d (k + 1) f0 l1 x2 x3 x4 h =
  (bif (decide ((x4 : Int) < (l1.length : Int))) then
    (bif (decide ((0 : Int) ≤ x4) && decide ((x4 : Int) < (l1.length : Int))) then
      (bif AVal.isInt .u8 (l1.getD (Int.toNat x4) AVal.undef) then
        (bif ((x4 : Int) == 9) then
          (bif (decide (((IntKind.u64.wrap (AVal.toInt (l1.getD (Int.toNat x4) AVal.undef))) : Int) > 1)) then
            (Tr.ret ([(AVal.int .u64 0), (AVal.int .i64 0), (AVal.int .i64 4)], h))
          else
            (bif (decide (((IntKind.u64.wrap (AVal.toInt (l1.getD (Int.toNat x4) AVal.undef))) : Int) < 128)) then
              (bif (((IntKind.u64.wrap (AVal.toInt (l1.getD (Int.toNat x4) AVal.undef))) : Int) == 0) then
                (bif (decide ((x4 : Int) > 0)) then
                  (Tr.ret ([(AVal.int .u64 0), (AVal.int .i64 0), (AVal.int .i64 2)], h))
                else
                  (bif (decide (((IntKind.u64.wrap (AVal.toInt (l1.getD (Int.toNat x4) AVal.undef))) : Int) < 128)) then
                    (Tr.ret ([(AVal.int .u64 (IntKind.u64.wrap (x2 + (IntKind.u64.wrap ((Int.tmod (IntKind.u64.wrap (AVal.toInt (l1.getD (Int.toNat x4) AVal.undef))) 128) * x3))))), (AVal.int .i64 (IntKind.i64.wrap (x4 + 1))), (AVal.int .i64 0)], h))
                  else
                    (P20_0 d k f0 l1 (IntKind.u64.wrap (x2 + (IntKind.u64.wrap ((Int.tmod (IntKind.u64.wrap (AVal.toInt (l1.getD (Int.toNat x4) AVal.undef))) 128) * x3)))) (IntKind.u64.wrap (x3 * 128)) (IntKind.i64.wrap (x4 + 1)) h)))
              else
                (bif (decide (((IntKind.u64.wrap (AVal.toInt (l1.getD (Int.toNat x4) AVal.undef))) : Int) < 128)) then
                  (Tr.ret ([(AVal.int .u64 (IntKind.u64.wrap (x2 + (IntKind.u64.wrap ((Int.tmod (IntKind.u64.wrap (AVal.toInt (l1.getD (Int.toNat x4) AVal.undef))) 128) * x3))))), (AVal.int .i64 (IntKind.i64.wrap (x4 + 1))), (AVal.int .i64 0)], h))
                else
                  (P20_0 d k f0 l1 (IntKind.u64.wrap (x2 + (IntKind.u64.wrap ((Int.tmod (IntKind.u64.wrap (AVal.toInt (l1.getD (Int.toNat x4) AVal.undef))) 128) * x3)))) (IntKind.u64.wrap (x3 * 128)) (IntKind.i64.wrap (x4 + 1)) h)))
            else
              (bif (decide (((IntKind.u64.wrap (AVal.toInt (l1.getD (Int.toNat x4) AVal.undef))) : Int) < 128)) then
                (Tr.ret ([(AVal.int .u64 (IntKind.u64.wrap (x2 + (IntKind.u64.wrap ((Int.tmod (IntKind.u64.wrap (AVal.toInt (l1.getD (Int.toNat x4) AVal.undef))) 128) * x3))))), (AVal.int .i64 (IntKind.i64.wrap (x4 + 1))), (AVal.int .i64 0)], h))
              else
                (P20_0 d k f0 l1 (IntKind.u64.wrap (x2 + (IntKind.u64.wrap ((Int.tmod (IntKind.u64.wrap (AVal.toInt (l1.getD (Int.toNat x4) AVal.undef))) 128) * x3)))) (IntKind.u64.wrap (x3 * 128)) (IntKind.i64.wrap (x4 + 1)) h))))
        else
          (bif (decide (((IntKind.u64.wrap (AVal.toInt (l1.getD (Int.toNat x4) AVal.undef))) : Int) < 128)) then
            (bif (((IntKind.u64.wrap (AVal.toInt (l1.getD (Int.toNat x4) AVal.undef))) : Int) == 0) then
              (bif (decide ((x4 : Int) > 0)) then
                (Tr.ret ([(AVal.int .u64 0), (AVal.int .i64 0), (AVal.int .i64 2)], h))
              else
                (bif (decide (((IntKind.u64.wrap (AVal.toInt (l1.getD (Int.toNat x4) AVal.undef))) : Int) < 128)) then
                  (Tr.ret ([(AVal.int .u64 (IntKind.u64.wrap (x2 + (IntKind.u64.wrap ((Int.tmod (IntKind.u64.wrap (AVal.toInt (l1.getD (Int.toNat x4) AVal.undef))) 128) * x3))))), (AVal.int .i64 (IntKind.i64.wrap (x4 + 1))), (AVal.int .i64 0)], h))
                else
                  (P20_0 d k f0 l1 (IntKind.u64.wrap (x2 + (IntKind.u64.wrap ((Int.tmod (IntKind.u64.wrap (AVal.toInt (l1.getD (Int.toNat x4) AVal.undef))) 128) * x3)))) (IntKind.u64.wrap (x3 * 128)) (IntKind.i64.wrap (x4 + 1)) h)))
            else
              (bif (decide (((IntKind.u64.wrap (AVal.toInt (l1.getD (Int.toNat x4) AVal.undef))) : Int) < 128)) then
                (Tr.ret ([(AVal.int .u64 (IntKind.u64.wrap (x2 + (IntKind.u64.wrap ((Int.tmod (IntKind.u64.wrap (AVal.toInt (l1.getD (Int.toNat x4) AVal.undef))) 128) * x3))))), (AVal.int .i64 (IntKind.i64.wrap (x4 + 1))), (AVal.int .i64 0)], h))
              else
                (P20_0 d k f0 l1 (IntKind.u64.wrap (x2 + (IntKind.u64.wrap ((Int.tmod (IntKind.u64.wrap (AVal.toInt (l1.getD (Int.toNat x4) AVal.undef))) 128) * x3)))) (IntKind.u64.wrap (x3 * 128)) (IntKind.i64.wrap (x4 + 1)) h)))
          else
            (bif (decide (((IntKind.u64.wrap (AVal.toInt (l1.getD (Int.toNat x4) AVal.undef))) : Int) < 128)) then
              (Tr.ret ([(AVal.int .u64 (IntKind.u64.wrap (x2 + (IntKind.u64.wrap ((Int.tmod (IntKind.u64.wrap (AVal.toInt (l1.getD (Int.toNat x4) AVal.undef))) 128) * x3))))), (AVal.int .i64 (IntKind.i64.wrap (x4 + 1))), (AVal.int .i64 0)], h))
            else
              (P20_0 d k f0 l1 (IntKind.u64.wrap (x2 + (IntKind.u64.wrap ((Int.tmod (IntKind.u64.wrap (AVal.toInt (l1.getD (Int.toNat x4) AVal.undef))) 128) * x3)))) (IntKind.u64.wrap (x3 * 128)) (IntKind.i64.wrap (x4 + 1)) h))))
      else
        Tr.fail)
    else
      Tr.fail)
  else
    (Tr.ret ([(AVal.int .u64 0), (AVal.int .i64 0), (AVal.int .i64 1)], h))) := by kernel_rfl
theorem F20_eq (d : Nat) (f0 : Bool) (l1 : List AVal) (h : Heap) : evFn Cw (d + 1) 20 [(AVal.sl f0 0 l1)] h =
  (P20_0 d rounds f0 l1 0 1 0 h) := by kernel_rfl
end Go.Proofs.YtdlcjibefbnckaaDoor.Wa
end

section
/- What the functions of the short numbers come to. -/
namespace Go.Proofs.YtdlcjibefbnckaaDoor.Wa
open Go Go.Weave
set_option maxRecDepth 100000
set_option linter.unusedSimpArgs false
set_option linter.unusedVariables false
set_option linter.unusedSectionVars false

def encW (n : Nat) : List UInt8 := if n < 128 then [UInt8.ofNat n] else UInt8.ofNat (n % 128 + 128) :: encW (n / 128)
  termination_by n
  decreasing_by omega
theorem enc_ex : ∃ f : Nat → List UInt8, ∀ n, f n = if n < 128 then [UInt8.ofNat n] else UInt8.ofNat (n % 128 + 128) :: f (n / 128) := ⟨encW, fun n => by rw [encW]⟩
/-- A number's short bytes. (By choice: so that no reduction looks into it.) -/
noncomputable def enc : Nat → List UInt8 := Classical.choose enc_ex
theorem enc_lt {n : Nat} (h : n < 128) : enc n = [UInt8.ofNat n] := by
  have := Classical.choose_spec enc_ex n
  rw [if_pos h] at this; exact this
theorem enc_ge {n : Nat} (h : ¬ n < 128) : enc n = UInt8.ofNat (n % 128 + 128) :: enc (n / 128) := by
  have := Classical.choose_spec enc_ex n
  rw [if_neg h] at this; exact this

theorem enc_length : ∀ (j n : Nat), n < 128 ^ (j + 1) → 1 ≤ (enc n).length ∧ (enc n).length ≤ j + 1
  | 0, n, h => by rw [enc_lt (by simpa using h)]; simp
  | j + 1, n, h => by
    by_cases hn : n < 128
    · rw [enc_lt hn]; simp
    · rw [enc_ge hn]
      have := enc_length j (n / 128) (Nat.div_lt_of_lt_mul (by rw [Nat.pow_succ] at h; omega))
      simp; omega

theorem or128 (m : Nat) (h : m < 256) : m ||| 128 = m % 128 + 128 := by
  have : ∀ m : Fin 256, (m.val ||| 128) = m.val % 128 + 128 := by decide +kernel
  exact this ⟨m, h⟩
theorem and127 (m : Nat) (h : m < 256) : m &&& 127 = m % 128 := by
  have : ∀ m : Fin 256, (m.val &&& 127) = m.val % 128 := by decide +kernel
  exact this ⟨m, h⟩

theorem put_byte (n : Nat) : IntKind.u8.wrap (BitVec.ofInt 8 (IntKind.u8.wrap (n : Int)) ||| BitVec.ofInt 8 128).toNat = ((n % 128 + 128 : Nat) : Int) := by
  have e1 : IntKind.u8.wrap (n : Int) = ((n % 256 : Nat) : Int) := by rw [wrap_u8]; omega
  have e2 : (BitVec.ofInt 8 ((n % 256 : Nat) : Int)).toNat = n % 256 := by simp [BitVec.toNat_ofInt]; omega
  have e3 : (BitVec.ofInt 8 128).toNat = 128 := by decide
  rw [e1, BitVec.toNat_or, e2, e3, or128 _ (by omega), wrap_u8]
  omega

/-- varint.Put's loop. -/
theorem put_loop (d : Nat) (h : Heap) : ∀ (j k n : Nat) (l : List UInt8), n < 128 ^ (j + 1) → j < k → l.length + j + 1 ≤ 140737488355328 →
    Ans (P22_0 d k n (bys l) h) ([.sl false 0 (bys (l ++ enc n))], h) := by
  intro j
  induction j with
  | zero =>
    intro k n l hn hk hl
    obtain ⟨k, rfl⟩ : ∃ m, k = m + 1 := ⟨k - 1, by omega⟩
    have h1 : n < 128 := by simpa using hn
    rw [P22_0_eq, cond_of_not (by simp; omega), cond_of (by simp [bys_length]; omega), enc_lt h1, wrap_u8_id (by omega) (by omega), bys_one n (by omega), ← bys_append]
    exact Ans.ret _
  | succ j ih =>
    intro k n l hn hk hl
    obtain ⟨k, rfl⟩ : ∃ m, k = m + 1 := ⟨k - 1, by omega⟩
    by_cases h1 : n < 128
    · rw [P22_0_eq, cond_of_not (by simp; omega), cond_of (by simp [bys_length]; omega), enc_lt h1, wrap_u8_id (by omega) (by omega), bys_one n (by omega), ← bys_append]
      exact Ans.ret _
    · rw [P22_0_eq, cond_of (by simp; omega), cond_of (by simp [bys_length]; omega), enc_ge h1, put_byte, bys_one _ (by omega), ← bys_append]
      have e : Int.fdiv (n : Int) (2 ^ 7) = ((n / 128 : Nat) : Int) := by
        have : (2 ^ 7 : Int) = 128 := by decide
        rw [this, Int.fdiv_eq_ediv_of_nonneg _ (by omega)]; omega
      rw [e]
      have := ih k (n / 128) (l ++ [UInt8.ofNat (n % 128 + 128)]) (Nat.div_lt_of_lt_mul (by rw [Nat.pow_succ] at hn; omega)) (by omega) (by simp; omega)
      rw [List.append_assoc] at this
      exact this

theorem lt_128_10 {n : Nat} (h : n < 18446744073709551616) : n < 128 ^ (9 + 1) := Nat.lt_trans h (by decide)
theorem rounds_gt (n : Nat) (h : n < 4611686018427387904) : n < rounds := Nat.lt_of_lt_of_le h rounds_ge

theorem put_ok (d : Nat) (f : Bool) (l : List UInt8) (n : Nat) (h : Heap) (hn : n < 18446744073709551616) (hl : l.length ≤ 140737488355000) :
    Ans (evFn Cw (d + 1) 22 [.sl f 0 (bys l), .int .u64 n] h) ([.sl false 0 (bys (l ++ enc n))], h) := by
  rw [F22_eq, cond_of (by simp [bys_length]; omega), List.nil_append]
  exact put_loop d h 9 rounds n l (lt_128_10 hn) (rounds_gt _ (by omega)) (by omega)

/-- The number that bytes begin with: from the i-th byte on. -/
def getF : List UInt8 → Nat → Nat → Nat × Nat × Nat
  | [], _, _ => (0, 0, 1)
  | c :: r, i, acc =>
    if i = 9 ∧ 1 < c.toNat then (0, 0, 4) else
    if c.toNat < 128 then (if c.toNat = 0 ∧ 0 < i then (0, 0, 2) else (acc + c.toNat * 2 ^ (7 * i), i + 1, 0)) else getF r (i + 1) (acc + (c.toNat % 128) * 2 ^ (7 * i))
def tri (x : Nat × Nat × Nat) : List AVal := [.int .u64 x.1, .int .i64 x.2.1, .int .i64 x.2.2]

theorem pow_le {i : Nat} (h : i ≤ 9) : 2 ^ (7 * i) ≤ 9223372036854775808 := by
  have : 2 ^ (7 * i) ≤ 2 ^ 63 := Nat.pow_le_pow_right (by omega) (by omega)
  simpa using this

theorem get_or {acc i c : Nat} (h : acc < 2 ^ (7 * i)) (hi : i ≤ 9) (hc : c < 256) (h9 : i = 9 → c ≤ 1) :
    IntKind.u64.wrap (BitVec.ofInt 64 (acc : Int) ||| BitVec.ofInt 64 (IntKind.u64.wrap ((IntKind.u64.wrap (IntKind.u8.wrap (BitVec.ofInt 8 (c : Int) &&& BitVec.ofInt 8 127).toNat)) * 2 ^ (min (Int.toNat (IntKind.i64.wrap (7 * (i : Int)))) 64)))).toNat
      = ((acc + (c % 128) * 2 ^ (7 * i) : Nat) : Int) ∧ acc + (c % 128) * 2 ^ (7 * i) < 18446744073709551616 := by
  have e1 : (BitVec.ofInt 8 (c : Int)).toNat = c := by simp; omega
  have e2 : (BitVec.ofInt 8 127).toNat = 127 := by decide
  have e3 : IntKind.u8.wrap (BitVec.ofInt 8 (c : Int) &&& BitVec.ofInt 8 127).toNat = ((c % 128 : Nat) : Int) := by
    rw [BitVec.toNat_and, e1, e2, and127 _ hc, wrap_u8]; omega
  have e4 : min (Int.toNat (IntKind.i64.wrap (7 * (i : Int)))) 64 = 7 * i := by rw [wrap_i64_id (by omega) (by omega)]; omega
  have hp := pow_le hi
  have hle : (c % 128) * 2 ^ (7 * i) ≤ 18446744073709551616 - 2 ^ (7 * i) := by
    by_cases h' : i = 9
    · have := h9 h'
      subst h'
      have : c % 128 ≤ 1 := by omega
      have h2 : (c % 128) * 2 ^ (7 * 9) ≤ 1 * 2 ^ (7 * 9) := Nat.mul_le_mul_right _ this
      have h3 : (2 : Nat) ^ (7 * 9) = 9223372036854775808 := by decide
      rw [h3] at h2 ⊢
      omega
    · have h2 : (c % 128) * 2 ^ (7 * i) ≤ 127 * 2 ^ (7 * i) := Nat.mul_le_mul_right _ (by omega)
      have h3 : 2 ^ (7 * i) ≤ 2 ^ 56 := Nat.pow_le_pow_right (by omega) (by omega)
      have h4 : (2 : Nat) ^ 56 = 72057594037927936 := by decide
      rw [h4] at h3
      omega
  have hsum : acc + (c % 128) * 2 ^ (7 * i) < 18446744073709551616 := by omega
  refine ⟨?_, hsum⟩
  rw [e3, e4]
  have e5 : IntKind.u64.wrap ((c % 128 : Nat) : Int) = ((c % 128 : Nat) : Int) := wrap_u64_id (by omega) (by omega)
  have e6 : ((c % 128 : Nat) : Int) * 2 ^ (7 * i) = (((c % 128) * 2 ^ (7 * i) : Nat) : Int) := by rw [Int.natCast_mul, Int.natCast_pow]; rfl
  rw [e5, e6, wrap_u64_id (n := (((c % 128) * 2 ^ (7 * i) : Nat) : Int)) (by omega) (by omega)]
  have e7 : (BitVec.ofInt 64 (acc : Int)).toNat = acc := by simp; omega
  have e8 : (BitVec.ofInt 64 (((c % 128) * 2 ^ (7 * i) : Nat) : Int)).toNat = (c % 128) * 2 ^ (7 * i) := by
    rw [BitVec.toNat_ofInt]
    have : ((2 ^ 64 : Nat) : Int) = 18446744073709551616 := by decide
    rw [this]; omega
  have e9 : acc ||| (c % 128) * 2 ^ (7 * i) = acc + (c % 128) * 2 ^ (7 * i) := by
    rw [Nat.or_comm, Nat.mul_comm (c % 128), Nat.add_comm]
    exact (Nat.two_pow_add_eq_or_of_lt h (c % 128)).symm
  rw [BitVec.toNat_or, e7, e8, e9]
  exact wrap_u64_id (by omega) (by omega)

theorem get_loop (d : Nat) (f : Bool) (h : Heap) : ∀ (r pre : List UInt8) (k acc : Nat), pre.length ≤ 9 → acc < 2 ^ (7 * pre.length) → r.length < k → pre.length + r.length ≤ 140737488355328 →
    Ans (P36_0 d k acc f (bys (pre ++ r)) ((pre ++ r).length : Nat) (pre.length : Nat) h) (tri (getF r pre.length acc), h) := by
  intro r
  induction r with
  | nil =>
    intro pre k acc hi ha hk hb
    obtain ⟨k, rfl⟩ : ∃ m, k = m + 1 := ⟨k - 1, by omega⟩
    rw [P36_0_eq, cond_of_not (by simp)]
    exact Ans.ret _
  | cons c r ih =>
    intro pre k acc hi ha hk hb
    obtain ⟨k, rfl⟩ : ∃ m, k = m + 1 := ⟨k - 1, by omega⟩
    have hc : c.toNat < 256 := c.toNat_lt
    have hlt : pre.length < (pre ++ c :: r).length := by simp
    have hget : (bys (pre ++ c :: r)).getD (Int.toNat (pre.length : Int)) AVal.undef = ofByte c := by
      rw [Int.toNat_natCast, bys_getD hlt]
      congr 1
      simp
    have hneg : decide ((IntKind.i64.wrap (7 * (pre.length : Int))) < 0) = false := by
      rw [wrap_i64_id (by omega) (by omega)]; simp; omega
    have hnext : IntKind.i64.wrap ((pre.length : Int) + 1) = ((pre.length + 1 : Nat) : Int) := by rw [wrap_i64_id (by omega) (by omega)]; omega
    have hrec : (pre.length = 9 → c.toNat ≤ 1) → ¬ c.toNat < 128 → Ans (P36_0 d k ((acc + (c.toNat % 128) * 2 ^ (7 * pre.length) : Nat) : Int) f (bys (pre ++ c :: r)) ((pre ++ c :: r).length : Nat) ((pre.length + 1 : Nat) : Int) h)
        (tri (getF r (pre.length + 1) (acc + (c.toNat % 128) * 2 ^ (7 * pre.length))), h) := fun h9 h128 => by
      have hp : pre.length < 9 := by
        have : pre.length ≠ 9 := fun e => by have := h9 e; omega
        omega
      have e1 : pre ++ c :: r = (pre ++ [c]) ++ r := by simp
      have e2 : (pre ++ [c]).length = pre.length + 1 := by simp
      have := ih (pre ++ [c]) k (acc + (c.toNat % 128) * 2 ^ (7 * pre.length)) (by rw [e2]; omega) (by
        rw [e2, show 7 * (pre.length + 1) = 7 * pre.length + 7 by omega, Nat.pow_add]
        have h3 : (c.toNat % 128) * 2 ^ (7 * pre.length) ≤ 127 * 2 ^ (7 * pre.length) := Nat.mul_le_mul_right _ (by omega)
        have h4 : (2 : Nat) ^ 7 = 128 := by decide
        rw [h4]
        omega) (by simp at hk; omega) (by rw [e2]; simp at hb; omega)
      rw [← e1, e2] at this
      exact this
    rw [P36_0_eq, cond_of (by simp; omega), cond_of (by simp [bys_length]; omega), hget, isInt_ofByte, cond_true, toInt_ofByte, hneg, cond_false, hnext]
    unfold getF
    by_cases h9 : pre.length = 9
    · rw [cond_of (by simp; omega)]
      by_cases h1 : 1 < c.toNat
      · rw [cond_of (by simp; omega), if_pos ⟨h9, h1⟩]; exact Ans.ret _
      · rw [cond_of_not (by simp; omega), if_neg (by omega), (get_or ha hi hc (fun _ => by omega)).1, cond_of (by simp; omega), if_pos (by omega)]
        by_cases h0 : c.toNat = 0
        · rw [cond_of (by simp [h0]), cond_of (by simp; omega), if_pos (by omega)]; exact Ans.ret _
        · rw [cond_of_not (by simp; omega), if_neg (by omega), Nat.mod_eq_of_lt (by omega : c.toNat < 128)]; exact Ans.ret _
    · have hno : pre.length = 9 → c.toNat ≤ 1 := fun e => absurd e h9
      rw [cond_of_not (by simp; omega), if_neg (by omega), (get_or ha hi hc hno).1]
      by_cases h128 : c.toNat < 128
      · rw [cond_of (by simp; omega), if_pos h128]
        by_cases h0 : c.toNat = 0
        · rw [cond_of (by simp [h0])]
          by_cases hz : 0 < pre.length
          · rw [cond_of (by simp; omega), if_pos ⟨h0, hz⟩]; exact Ans.ret _
          · rw [cond_of_not (by rw [decide_eq_false_iff_not]; omega), if_neg (fun e => hz e.2), Nat.mod_eq_of_lt h128]; exact Ans.ret _
        · rw [cond_of_not (by simp; omega), if_neg (fun e => h0 e.1), Nat.mod_eq_of_lt h128]; exact Ans.ret _
      · rw [cond_of_not (by simp; omega), if_neg h128]
        exact hrec hno h128

theorem get_ok (d : Nat) (f : Bool) (l : List UInt8) (h : Heap) (hl : l.length ≤ 140737488355328) : Ans (evFn Cw (d + 1) 36 [.sl f 0 (bys l)] h) (tri (getF l 0 0), h) := by
  rw [F36_eq]
  have := get_loop d f h l [] rounds 0 (by simp) (by simp) (rounds_gt _ (by omega)) (by simpa using hl)
  simpa [bys_length] using this

/-- What is put is got, whatever stands behind. -/
theorem get_enc : ∀ (j n i acc : Nat) (rest : List UInt8), n < 128 ^ (j + 1) → i + j ≤ 9 → (i + j = 9 → n < 2 * 128 ^ j) → (0 < i → 0 < n) → getF (enc n ++ rest) i acc = (acc + n * 2 ^ (7 * i), i + (enc n).length, 0)
  | 0, n, i, acc, rest, hn, hi, h9, h0 => by
    have h1 : n < 128 := by simpa using hn
    have e : (UInt8.ofNat n).toNat = n := by simp; omega
    rw [enc_lt h1]
    simp only [List.singleton_append, getF, e]
    rw [if_neg (by intro ⟨a, b⟩; have := h9 (by omega); omega), if_pos h1, if_neg (by intro ⟨a, b⟩; have := h0 b; omega)]
    simp
  | j + 1, n, i, acc, rest, hn, hi, h9, h0 => by
    by_cases h1 : n < 128
    · have e : (UInt8.ofNat n).toNat = n := by simp; omega
      rw [enc_lt h1]
      simp only [List.singleton_append, getF, e]
      rw [if_neg (by intro ⟨a, b⟩; omega), if_pos h1, if_neg (by intro ⟨a, b⟩; have := h0 b; omega)]
      simp
    · have e : (UInt8.ofNat (n % 128 + 128)).toNat = n % 128 + 128 := by simp; omega
      rw [enc_ge h1]
      simp only [List.cons_append, getF, e]
      rw [if_neg (by intro ⟨a, b⟩; omega), if_neg (by omega)]
      rw [get_enc j (n / 128) (i + 1) _ rest (Nat.div_lt_of_lt_mul (by rw [Nat.pow_succ] at hn; omega)) (by omega) (fun hh => by
        have := h9 (by omega)
        rw [Nat.pow_succ] at this
        exact Nat.div_lt_of_lt_mul (by omega)) (fun _ => by omega)]
      have e2 : (n % 128 + 128) % 128 = n % 128 := by omega
      have e3 : 2 ^ (7 * (i + 1)) = 128 * 2 ^ (7 * i) := by rw [show 7 * (i + 1) = 7 + 7 * i by omega, Nat.pow_add]
      rw [e2, e3]
      have e4 : n = n % 128 + n / 128 * 128 := by omega
      simp only [List.length_cons, Prod.mk.injEq, and_true]
      refine ⟨?_, by omega⟩
      have : n * 2 ^ (7 * i) = (n % 128) * 2 ^ (7 * i) + n / 128 * (128 * 2 ^ (7 * i)) := by
        rw [← Nat.mul_assoc, ← Nat.add_mul]; congr 1
      omega

theorem get_enc0 (n : Nat) (rest : List UInt8) (hn : n < 18446744073709551616) : getF (enc n ++ rest) 0 0 = (n, (enc n).length, 0) := by
  have := get_enc 9 n 0 0 rest (lt_128_10 hn) (by omega) (fun _ => Nat.lt_of_lt_of_le hn (by decide)) (fun h => by omega)
  simpa using this

end Go.Proofs.YtdlcjibefbnckaaDoor.Wa
end

section
/- The number that bytes begin with, as the document has it; and VarintGets. -/
namespace Go.Proofs.YtdlcjibefbnckaaDoor.Wa
open Go Go.Weave
set_option maxRecDepth 100000
set_option linter.unusedSimpArgs false
set_option linter.unusedVariables false
set_option linter.unusedSectionVars false

theorem rget_sum {acc i c : Nat} (h : acc < 2 ^ (7 * i)) (hi : i ≤ 9) (hc : c < 256) (h9 : i = 9 → c ≤ 1) :
    IntKind.u64.wrap ((acc : Int) + (IntKind.u64.wrap ((Int.tmod (c : Int) 128) * ((2 ^ (7 * i) : Nat) : Int)))) = ((acc + (c % 128) * 2 ^ (7 * i) : Nat) : Int) := by
  have hs := (get_or h hi hc h9).2
  have e1 : Int.tmod (c : Int) 128 = ((c % 128 : Nat) : Int) := by rw [Int.tmod_eq_emod_of_nonneg (by omega)]; omega
  have e2 : ((c % 128 : Nat) : Int) * ((2 ^ (7 * i) : Nat) : Int) = (((c % 128) * 2 ^ (7 * i) : Nat) : Int) := by rw [Int.natCast_mul]
  rw [e1, e2, wrap_u64_id (n := (((c % 128) * 2 ^ (7 * i) : Nat) : Int)) (by omega) (by omega), wrap_u64_id (by omega) (by omega)]
  omega

theorem rget_loop (d : Nat) (f : Bool) (h : Heap) : ∀ (r pre : List UInt8) (k acc : Nat), pre.length ≤ 9 → acc < 2 ^ (7 * pre.length) → r.length < k → pre.length + r.length ≤ 140737488355328 →
    Ans (P20_0 d k f (bys (pre ++ r)) acc ((2 ^ (7 * pre.length) : Nat) : Int) (pre.length : Nat) h) (tri (getF r pre.length acc), h) := by
  intro r
  induction r with
  | nil =>
    intro pre k acc hi ha hk hb
    obtain ⟨k, rfl⟩ : ∃ m, k = m + 1 := ⟨k - 1, by omega⟩
    rw [P20_0_eq, cond_of_not (by simp [bys_length])]
    exact Ans.ret _
  | cons c r ih =>
    intro pre k acc hi ha hk hb
    obtain ⟨k, rfl⟩ : ∃ m, k = m + 1 := ⟨k - 1, by omega⟩
    have hc : c.toNat < 256 := c.toNat_lt
    have hlt : pre.length < (pre ++ c :: r).length := by simp
    have hget : (bys (pre ++ c :: r)).getD (Int.toNat (pre.length : Int)) AVal.undef = ofByte c := by
      rw [Int.toNat_natCast, bys_getD hlt]
      congr 1
      simp
    have hw : IntKind.u64.wrap ((c.toNat : Nat) : Int) = ((c.toNat : Nat) : Int) := wrap_u64_id (by omega) (by omega)
    have hnext : IntKind.i64.wrap ((pre.length : Int) + 1) = ((pre.length + 1 : Nat) : Int) := by rw [wrap_i64_id (by omega) (by omega)]; omega
    have hrec : (pre.length = 9 → c.toNat ≤ 1) → ¬ c.toNat < 128 → Ans (P20_0 d k f (bys (pre ++ c :: r)) ((acc + (c.toNat % 128) * 2 ^ (7 * pre.length) : Nat) : Int) (IntKind.u64.wrap (((2 ^ (7 * pre.length) : Nat) : Int) * 128)) ((pre.length + 1 : Nat) : Int) h)
        (tri (getF r (pre.length + 1) (acc + (c.toNat % 128) * 2 ^ (7 * pre.length))), h) := fun h9 h128 => by
      have hp : pre.length < 9 := by
        have : pre.length ≠ 9 := fun e => by have := h9 e; omega
        omega
      have e1 : pre ++ c :: r = (pre ++ [c]) ++ r := by simp
      have e2 : (pre ++ [c]).length = pre.length + 1 := by simp
      have e4 : 2 ^ (7 * (pre.length + 1)) = 2 ^ (7 * pre.length) * 128 := by
        rw [show 7 * (pre.length + 1) = 7 * pre.length + 7 by omega, Nat.pow_add]
      have e5 := pow_le (i := pre.length + 1) (by omega)
      have e6 : IntKind.u64.wrap (((2 ^ (7 * pre.length) : Nat) : Int) * 128) = ((2 ^ (7 * (pre.length + 1)) : Nat) : Int) := by
        rw [e4] at e5 ⊢
        rw [wrap_u64_id (by omega) (by omega)]
        omega
      have := ih (pre ++ [c]) k (acc + (c.toNat % 128) * 2 ^ (7 * pre.length)) (by rw [e2]; omega) (by
        rw [e2, e4]
        have h3 : (c.toNat % 128) * 2 ^ (7 * pre.length) ≤ 127 * 2 ^ (7 * pre.length) := Nat.mul_le_mul_right _ (by omega)
        omega) (by simp at hk; omega) (by rw [e2]; simp at hb; omega)
      rw [← e1, e2] at this
      rw [e6]
      exact this
    rw [P20_0_eq, cond_of (by simp [bys_length]; omega), cond_of (by simp [bys_length]; omega), hget, isInt_ofByte, cond_true, toInt_ofByte, hw, hnext]
    unfold getF
    by_cases h9 : pre.length = 9
    · rw [cond_of (by simp; omega)]
      by_cases h1 : 1 < c.toNat
      · rw [cond_of (by simp; omega), if_pos ⟨h9, h1⟩]; exact Ans.ret _
      · rw [cond_of_not (by simp; omega), if_neg (by omega), rget_sum ha hi hc (fun _ => by omega), cond_of (by simp; omega), if_pos (by omega)]
        by_cases h0 : c.toNat = 0
        · rw [cond_of (by simp [h0]), cond_of (by simp; omega), if_pos (by omega)]; exact Ans.ret _
        · rw [cond_of_not (by simp; omega), if_neg (fun e => h0 e.1), cond_of (by simp; omega), Nat.mod_eq_of_lt (by omega : c.toNat < 128)]; exact Ans.ret _
    · have hno : pre.length = 9 → c.toNat ≤ 1 := fun e => absurd e h9
      rw [cond_of_not (by simp; omega), if_neg (fun e => h9 e.1), rget_sum ha hi hc hno]
      by_cases h128 : c.toNat < 128
      · rw [cond_of (by simp; omega), if_pos h128]
        by_cases h0 : c.toNat = 0
        · rw [cond_of (by simp [h0])]
          by_cases hz : 0 < pre.length
          · rw [cond_of (by rw [decide_eq_true_iff]; omega), if_pos ⟨h0, hz⟩]; exact Ans.ret _
          · rw [cond_of_not (by rw [decide_eq_false_iff_not]; omega), if_neg (fun e => hz e.2), cond_of (by simp; omega), Nat.mod_eq_of_lt h128]; exact Ans.ret _
        · rw [cond_of_not (by simp; omega), if_neg (fun e => h0 e.1), cond_of (by simp; omega), Nat.mod_eq_of_lt h128]; exact Ans.ret _
      · rw [cond_of_not (by simp; omega), if_neg h128, cond_of_not (by simp; omega)]
        exact hrec hno h128

theorem rget_ok (d : Nat) (f : Bool) (l : List UInt8) (h : Heap) (hl : l.length ≤ 140737488355328) : Ans (evFn Cw (d + 1) 20 [.sl f 0 (bys l)] h) (tri (getF l 0 0), h) := by
  rw [F20_eq]
  have := rget_loop d f h l [] rounds 0 (by simp) (by simp) (rounds_gt _ (by omega)) (by simpa using hl)
  simpa using this

/-- What is got: a number that is put by the same bytes; or why there is none. -/
theorem getF_spec : ∀ (r : List UInt8) (i acc : Nat), i ≤ 9 →
    (∃ m, getF r i acc = (acc + m * 2 ^ (7 * i), i + (enc m).length, 0) ∧ r.take (enc m).length = enc m ∧ (enc m).length ≤ r.length ∧ m < 2 * 128 ^ (9 - i) ∧ (0 < i → 0 < m)) ∨
    (∃ e, getF r i acc = (0, 0, e) ∧ (e = 1 ∨ e = 2 ∨ e = 4))
  | [], i, acc, _ => .inr ⟨1, rfl, .inl rfl⟩
  | c :: r, i, acc, hi => by
    have hc : c.toNat < 256 := c.toNat_lt
    unfold getF
    by_cases h9 : i = 9 ∧ 1 < c.toNat
    · rw [if_pos h9]; exact .inr ⟨4, rfl, .inr (.inr rfl)⟩
    · rw [if_neg h9]
      by_cases h128 : c.toNat < 128
      · rw [if_pos h128]
        by_cases h0 : c.toNat = 0 ∧ 0 < i
        · rw [if_pos h0]; exact .inr ⟨2, rfl, .inr (.inl rfl)⟩
        · rw [if_neg h0]
          have e : enc c.toNat = [c] := by rw [enc_lt h128]; simp
          refine .inl ⟨c.toNat, by rw [e]; rfl, by rw [e]; rfl, by rw [e]; simp, ?_, fun hi0 => by
            have : c.toNat ≠ 0 := fun e => h0 ⟨e, hi0⟩
            omega⟩
          by_cases hi9 : i = 9
          · subst hi9
            have : ¬ 1 < c.toNat := fun e => h9 ⟨rfl, e⟩
            simp; omega
          · have h1 : (128 : Nat) ^ 1 ≤ 128 ^ (9 - i) := Nat.pow_le_pow_right (by omega) (by omega)
            simp at h1
            omega
      · rw [if_neg h128]
        have hi9 : i ≠ 9 := fun e => h9 ⟨e, by omega⟩
        rcases getF_spec r (i + 1) (acc + (c.toNat % 128) * 2 ^ (7 * i)) (by omega) with ⟨m, h1, h2, h3, h4, h5⟩ | h
        · left
          have hm := h5 (by omega)
          have e : enc (c.toNat % 128 + 128 * m) = c :: enc m := by
            rw [enc_ge (by omega)]
            have e1 : (c.toNat % 128 + 128 * m) % 128 + 128 = c.toNat := by omega
            have e2 : (c.toNat % 128 + 128 * m) / 128 = m := by omega
            rw [e1, e2]
            simp
          refine ⟨c.toNat % 128 + 128 * m, ?_, by rw [e]; simp [h2], by rw [e]; simp; exact h3, ?_, fun _ => by omega⟩
          · rw [h1, e]
            have e3 : 2 ^ (7 * (i + 1)) = 128 * 2 ^ (7 * i) := by rw [show 7 * (i + 1) = 7 + 7 * i by omega, Nat.pow_add]
            rw [e3]
            simp only [List.length_cons, Prod.mk.injEq, and_true]
            refine ⟨?_, by omega⟩
            rw [Nat.add_mul, Nat.mul_comm 128 m, Nat.mul_assoc]
            omega
          · have e4 : 9 - i = (9 - (i + 1)) + 1 := by omega
            rw [e4, Nat.pow_succ]
            omega
        · exact .inr h

theorem getF_spec0 (l : List UInt8) : (∃ m, getF l 0 0 = (m, (enc m).length, 0) ∧ l.take (enc m).length = enc m ∧ (enc m).length ≤ l.length ∧ m < 18446744073709551616) ∨ (∃ e, getF l 0 0 = (0, 0, e) ∧ (e = 1 ∨ e = 2 ∨ e = 4)) := by
  rcases getF_spec l 0 0 (by omega) with ⟨m, h1, h2, h3, h4, _⟩ | h
  · refine .inl ⟨m, by simpa using h1, h2, h3, Nat.lt_of_lt_of_le h4 (by decide)⟩
  · exact .inr h

end Go.Proofs.YtdlcjibefbnckaaDoor.Wa
end

section
/- All the numbers that bytes are; VarintAll. -/
namespace Go.Proofs.YtdlcjibefbnckaaDoor.Wa
open Go Go.Weave
set_option maxRecDepth 100000
set_option linter.unusedSimpArgs false
set_option linter.unusedVariables false
set_option linter.unusedSectionVars false

theorem get_run {d : Nat} {f : Bool} {l : List UInt8} {h : Heap} {Q : Res → Prop} {tg : Hid Q} (hl : l.length ≤ 140737488355328) :
    Run (evFn Cw (d + 1) 36 [.sl f 0 (bys l)] h) Q tg = Q ([.int .u64 (getF l 0 0).1, .int .i64 (getF l 0 0).2.1, .int .i64 (getF l 0 0).2.2], h) := (get_ok d f l h hl).at
theorem rget_run {d : Nat} {f : Bool} {l : List UInt8} {h : Heap} {Q : Res → Prop} {tg : Hid Q} (hl : l.length ≤ 140737488355328) :
    Run (evFn Cw (d + 1) 20 [.sl f 0 (bys l)] h) Q tg = Q ([.int .u64 (getF l 0 0).1, .int .i64 (getF l 0 0).2.1, .int .i64 (getF l 0 0).2.2], h) := (rget_ok d f l h hl).at
theorem put_run {d : Nat} {f : Bool} {l : List UInt8} {n : Nat} {h : Heap} {Q : Res → Prop} {tg : Hid Q} (hn : n < 18446744073709551616) (hl : l.length ≤ 140737488355000) :
    Run (evFn Cw (d + 1) 22 [.sl f 0 (bys l), .int .u64 n] h) Q tg = Q ([.sl false 0 (bys (l ++ enc n))], h) := (put_ok d f l n h hn hl).at
theorem getF_ok {l : List UInt8} (h : (getF l 0 0).2.2 = 0) : 1 ≤ (getF l 0 0).2.1 ∧ (getF l 0 0).2.1 ≤ l.length ∧ (getF l 0 0).1 < 18446744073709551616 := by
  rcases getF_spec0 l with ⟨m, h1, _, h3, h4⟩ | ⟨e, h1, he⟩
  · rw [h1]; exact ⟨(enc_length 9 m (lt_128_10 h4)).1, h3, h4⟩
  · rw [h1] at h; simp at h; omega

theorem part_drop {l : List UInt8} {k : Nat} : Weave.part (k : Int) ((bys l).length : Int) (bys l) = bys (l.drop k) := by
  rw [part_bys, bys_length]
  congr 1
  simp only [Weave.part, Int.toNat_natCast]
  rw [List.take_of_length_le (by simp)]

theorem e0 : ((0 : Nat) : Int) = 0 := by omega
end Go.Proofs.YtdlcjibefbnckaaDoor.Wa
end

section
/- What the evaluator comes to in these functions. -/
namespace Go.Proofs.YtdlcjibefbnckaaDoor.Wa
open Go Go.Weave
set_option maxRecDepth 100000
set_option linter.unusedVariables false
/- f82 strandline/field.Get -/
theorem F82_eq (d : Nat) (f0 : Bool) (l1 : List AVal) (h : Heap) : evFn Cw (d + 1) 82 [(AVal.sl f0 0 l1)] h =
  (runK (evFn Cw d 36 [(AVal.sl f0 0 l1)] h) fun r1 h1 =>
    (consK r1 fun w2 ws3 =>
      (intK .u64 w2 fun y4 =>
        (consK ws3 fun w5 ws6 =>
          (intK .i64 w5 fun y7 =>
            (consK ws6 fun w8 ws9 =>
              (intK .i64 w8 fun y10 =>
                (nilK ws9
                  (bif ((y10 : Int) != 0) then
                    (Tr.ret ([(AVal.sl true 0 []), (AVal.int .i64 0), (AVal.int .i64 y10)], h1))
                  else
                    (bif (decide ((y4 : Int) > 65536)) then
                      (Tr.ret ([(AVal.sl true 0 []), (AVal.int .i64 0), (AVal.int .i64 5)], h1))
                    else
                      (bif (decide (((IntKind.i64.wrap (y7 + (IntKind.i64.wrap y4))) : Int) > (l1.length : Int))) then
                        (Tr.ret ([(AVal.sl true 0 []), (AVal.int .i64 0), (AVal.int .i64 1)], h1))
                      else
                        (bif ((decide ((0 : Int) ≤ y7) && decide ((y7 : Int) ≤ (IntKind.i64.wrap (y7 + (IntKind.i64.wrap y4))))) && decide (((IntKind.i64.wrap (y7 + (IntKind.i64.wrap y4))) : Int) ≤ (l1.length : Int))) then
                          (bif decide (((IntKind.i64.wrap (y7 + (IntKind.i64.wrap y4))) : Int) = (IntKind.i64.wrap (y7 + (IntKind.i64.wrap y4)))) then
                            (bif decide (((0 : Nat) + (Go.Weave.part y7 (IntKind.i64.wrap (y7 + (IntKind.i64.wrap y4))) l1).length) * 1 ≤ 140737488355328) then
                              (Tr.ret ([(AVal.sl false 0 ([] ++ (Go.Weave.part y7 (IntKind.i64.wrap (y7 + (IntKind.i64.wrap y4))) l1))), (AVal.int .i64 (IntKind.i64.wrap (y7 + (IntKind.i64.wrap y4)))), (AVal.int .i64 0)], h1))
                            else
                              Tr.fail)
                          else
                            Tr.fail)
                        else
                          Tr.fail)))))))))))) := by kernel_rfl
/- f64 strandline/strandlineref04.Get -/
theorem F64_eq (d : Nat) (f0 : Bool) (l1 : List AVal) (h : Heap) : evFn Cw (d + 1) 64 [(AVal.sl f0 0 l1)] h =
  (runK (evFn Cw d 20 [(AVal.sl f0 0 l1)] h) fun r1 h1 =>
    (consK r1 fun w2 ws3 =>
      (intK .u64 w2 fun y4 =>
        (consK ws3 fun w5 ws6 =>
          (intK .i64 w5 fun y7 =>
            (consK ws6 fun w8 ws9 =>
              (intK .i64 w8 fun y10 =>
                (nilK ws9
                  (bif ((y10 : Int) != 0) then
                    (Tr.ret ([(AVal.sl true 0 []), (AVal.int .i64 0), (AVal.int .i64 y10)], h1))
                  else
                    (bif (decide ((y4 : Int) > 65536)) then
                      (Tr.ret ([(AVal.sl true 0 []), (AVal.int .i64 0), (AVal.int .i64 5)], h1))
                    else
                      (bif (decide (((IntKind.i64.wrap y4) : Int) > (IntKind.i64.wrap ((l1.length : Int) - y7)))) then
                        (Tr.ret ([(AVal.sl true 0 []), (AVal.int .i64 0), (AVal.int .i64 1)], h1))
                      else
                        (bif ((decide ((0 : Int) ≤ y7) && decide ((y7 : Int) ≤ (IntKind.i64.wrap (y7 + (IntKind.i64.wrap y4))))) && decide (((IntKind.i64.wrap (y7 + (IntKind.i64.wrap y4))) : Int) ≤ (l1.length : Int))) then
                          (bif decide (((0 : Nat) + (Go.Weave.part y7 (IntKind.i64.wrap (y7 + (IntKind.i64.wrap y4))) l1).length) * 1 ≤ 140737488355328) then
                            (Tr.ret ([(AVal.sl false 0 ([] ++ (Go.Weave.part y7 (IntKind.i64.wrap (y7 + (IntKind.i64.wrap y4))) l1))), (AVal.int .i64 (IntKind.i64.wrap (y7 + (IntKind.i64.wrap y4)))), (AVal.int .i64 0)], h1))
                          else
                            Tr.fail)
                        else
                          Tr.fail)))))))))))) := by kernel_rfl
/- f57 strandline/field.Put -/
noncomputable def P70_0 (d k : Nat) (f0 : Bool) (l1 : List AVal) (l2 : List AVal) (h : Heap) : Tr Res :=
  loopPt Cw d 70 [true, true, false, true] [] k ⟨[(0, (EV.one (SV.val (AVal.sl f0 0 l1)))), (4, (EV.one (SV.own (tokOf 4 0) 0 l2)))], []⟩ h
theorem P70_0_eq (d k : Nat) (f0 : Bool) (l1 : List AVal) (l2 : List AVal) (h : Heap) : P70_0 d (k + 1) f0 l1 l2 h =
  (bif (decide (((l1.length : Int) : Int) > 0)) then
    (runK (evFn Cw d 82 [(AVal.sl f0 0 l1)] h) fun r1 h1 =>
      (consK r1 fun w2 ws3 =>
        (slOK 0 w2 fun es4 =>
          (consK ws3 fun w5 ws6 =>
            (intK .i64 w5 fun y7 =>
              (consK ws6 fun w8 ws9 =>
                (intK .i64 w8 fun y10 =>
                  (nilK ws9
                    (bif ((y10 : Int) != 0) then
                      (Tr.ret ([(AVal.sl true 0 []), (AVal.int .i64 y10)], h1))
                    else
                      (bif ((decide ((0 : Int) ≤ y7) && decide ((y7 : Int) ≤ (l1.length : Int))) && decide (((l1.length : Int) : Int) ≤ (l1.length : Int))) then
                        (bif decide ((l2.length + (1 : Nat)) * 24 ≤ 140737488355328) then
                          (P70_0 d k f0 (Go.Weave.part y7 (l1.length : Int) l1) (l2 ++ [(AVal.sl false 0 es4)]) h1)
                        else
                          Tr.fail)
                      else
                        Tr.fail))))))))))
  else
    (Tr.ret ([(AVal.sl false 0 l2), (AVal.int .i64 0)], h))) := by kernel_rfl
theorem F70_eq (d : Nat) (f0 : Bool) (l1 : List AVal) (h : Heap) : evFn Cw (d + 1) 70 [(AVal.sl f0 0 l1)] h =
  (P70_0 d rounds f0 l1 [] h) := by kernel_rfl
/- f48 strandline/strandlineref04.Unpack -/
noncomputable def P48_0 (d k : Nat) (f0 : Bool) (l1 : List AVal) (l2 : List AVal) (x3 : Int) (h : Heap) : Tr Res :=
  loopPt Cw d 48 [true, true, false, true, true] [] k ⟨[(0, (EV.one (SV.val (AVal.sl f0 0 l1)))), (4, (EV.one (SV.own (tokOf 4 0) 0 l2))), (5, (EV.one (SV.val (AVal.int .i64 x3))))], []⟩ h
theorem P48_0_eq (d k : Nat) (f0 : Bool) (l1 : List AVal) (l2 : List AVal) (x3 : Int) (h : Heap) : P48_0 d (k + 1) f0 l1 l2 x3 h =
  (bif (decide ((x3 : Int) < (l1.length : Int))) then
    (bif ((decide ((0 : Int) ≤ x3) && decide ((x3 : Int) ≤ (l1.length : Int))) && decide (((l1.length : Int) : Int) ≤ (l1.length : Int))) then
      (runK (evFn Cw d 64 [(AVal.sl f0 0 (Go.Weave.part x3 (l1.length : Int) l1))] h) fun r1 h1 =>
        (consK r1 fun w2 ws3 =>
          (slOK 0 w2 fun es4 =>
            (consK ws3 fun w5 ws6 =>
              (intK .i64 w5 fun y7 =>
                (consK ws6 fun w8 ws9 =>
                  (intK .i64 w8 fun y10 =>
                    (nilK ws9
                      (bif ((y10 : Int) != 0) then
                        (Tr.ret ([(AVal.sl true 0 []), (AVal.int .i64 y10)], h1))
                      else
                        (bif decide ((l2.length + (1 : Nat)) * 24 ≤ 140737488355328) then (P48_0 d k f0 l1 (l2 ++ [(AVal.sl false 0 es4)]) (IntKind.i64.wrap (x3 + y7)) h1) else Tr.fail))))))))))
    else
      Tr.fail)
  else
    (Tr.ret ([(AVal.sl false 0 l2), (AVal.int .i64 0)], h))) := by kernel_rfl
theorem F48_eq (d : Nat) (f0 : Bool) (l1 : List AVal) (h : Heap) : evFn Cw (d + 1) 48 [(AVal.sl f0 0 l1)] h =
  (P48_0 d rounds f0 l1 [] 0 h) := by kernel_rfl
end Go.Proofs.YtdlcjibefbnckaaDoor.Wa
end

section
/- Fields: got, put, packed, unpacked; FieldGets, FieldUnpacks, FieldPacks. -/
namespace Go.Proofs.YtdlcjibefbnckaaDoor.Wa
open Go Go.Weave
set_option maxRecDepth 100000
set_option linter.unusedSimpArgs false
set_option linter.unusedVariables false
set_option linter.unusedSectionVars false

/-- The field that bytes begin with. -/
def fgetW (l : List UInt8) : List UInt8 × Nat × Nat :=
  if (getF l 0 0).2.2 ≠ 0 then ([], 0, (getF l 0 0).2.2) else if 65536 < (getF l 0 0).1 then ([], 0, 5) else if l.length < (getF l 0 0).2.1 + (getF l 0 0).1 then ([], 0, 1) else
    ((l.drop (getF l 0 0).2.1).take (getF l 0 0).1, (getF l 0 0).2.1 + (getF l 0 0).1, 0)
theorem fget_ex : ∃ f : List UInt8 → List UInt8 × Nat × Nat, ∀ l, f l = fgetW l := ⟨fgetW, fun _ => rfl⟩
noncomputable def fget : List UInt8 → List UInt8 × Nat × Nat := Classical.choose fget_ex
theorem fget_eq (l : List UInt8) : fget l = fgetW l := Classical.choose_spec fget_ex l

theorem part_mid {l : List UInt8} {k m : Nat} : Weave.part (k : Int) ((k + m : Nat) : Int) (bys l) = bys ((l.drop k).take m) := by
  rw [part_bys]
  congr 1
  simp only [Weave.part, Int.toNat_natCast]
  congr 1
  omega

theorem fget_ok (d : Nat) (f : Bool) (l : List UInt8) (h : Heap) (hl : l.length ≤ 140737488351232) :
    Ans (evFn Cw (d + 2) 82 [.sl f 0 (bys l)] h) ([.sl (decide ((fget l).2.2 ≠ 0)) 0 (bys (fget l).1), .int .i64 (fget l).2.1, .int .i64 (fget l).2.2], h) := by
  refine Run.ans ?_
  rw [F82_eq, fget_eq]
  unfold fgetW
  by_cases he : (getF l 0 0).2.2 = 0
  · have ⟨h1, h2, h3⟩ := getF_ok he
    rw [if_neg (by omega)]
    by_cases hb : 65536 < (getF l 0 0).1
    · rw [if_pos hb]
      simp (disch := (first | assumption | (simp only [Bool.and_eq_true, Bool.and_eq_false_iff, decide_eq_true_eq, decide_eq_false_iff_not, bne_iff_ne, beq_iff_eq, beq_eq_false_iff_ne, bne_eq_false_iff_eq, Bool.not_eq_true', Bool.not_eq_false', bys_length, List.length_append, List.length_cons, List.length_nil, List.length_map, List.length_drop, List.length_take, Int.natCast_add, wrap_i64_eq, wrap_u64, wrap_u8, ne_eq, not_true_eq_false, not_false_eq_true, Nat.zero_add, Nat.mul_one] <;> omega) | omega | (simp; done) | (simp; omega))) only [↓CR, MC, get_run]
      simp [bys_nil]
    · have e1 : IntKind.i64.wrap (((getF l 0 0).1 : Nat) : Int) = (((getF l 0 0).1 : Nat) : Int) := wrap_i64_id (by omega) (by omega)
      have e2 : IntKind.i64.wrap ((((getF l 0 0).2.1 : Nat) : Int) + (((getF l 0 0).1 : Nat) : Int)) = (((getF l 0 0).2.1 + (getF l 0 0).1 : Nat) : Int) := by rw [wrap_i64_id (by omega) (by omega)]; omega
      rw [if_neg hb]
      by_cases hs : l.length < (getF l 0 0).2.1 + (getF l 0 0).1
      · rw [if_pos hs]
        simp (disch := (first | assumption | (simp only [Bool.and_eq_true, Bool.and_eq_false_iff, decide_eq_true_eq, decide_eq_false_iff_not, bne_iff_ne, beq_iff_eq, beq_eq_false_iff_ne, bne_eq_false_iff_eq, Bool.not_eq_true', Bool.not_eq_false', bys_length, List.length_append, List.length_cons, List.length_nil, List.length_map, List.length_drop, List.length_take, Int.natCast_add, wrap_i64_eq, wrap_u64, wrap_u8, ne_eq, not_true_eq_false, not_false_eq_true, Nat.zero_add, Nat.mul_one] <;> omega) | omega | (simp; done) | (simp; omega))) only [↓CR, MC, get_run, e1, e2]
        simp [bys_nil]
      · rw [if_neg hs]
        simp (disch := (first | assumption | (simp only [Bool.and_eq_true, Bool.and_eq_false_iff, decide_eq_true_eq, decide_eq_false_iff_not, bne_iff_ne, beq_iff_eq, beq_eq_false_iff_ne, bne_eq_false_iff_eq, Bool.not_eq_true', Bool.not_eq_false', bys_length, List.length_append, List.length_cons, List.length_nil, List.length_map, List.length_drop, List.length_take, Int.natCast_add, wrap_i64_eq, wrap_u64, wrap_u8, ne_eq, not_true_eq_false, not_false_eq_true, Nat.zero_add, Nat.mul_one] <;> omega) | omega | (simp; done) | (simp; omega))) only [↓CR, MC, get_run, e1, e2, part_mid, List.length_take]
        simp
  · rw [if_pos he]
    simp (disch := (first | assumption | (simp only [Bool.and_eq_true, Bool.and_eq_false_iff, decide_eq_true_eq, decide_eq_false_iff_not, bne_iff_ne, beq_iff_eq, beq_eq_false_iff_ne, bne_eq_false_iff_eq, Bool.not_eq_true', Bool.not_eq_false', bys_length, List.length_append, List.length_cons, List.length_nil, List.length_map, List.length_drop, List.length_take, Int.natCast_add, wrap_i64_eq, wrap_u64, wrap_u8, ne_eq, not_true_eq_false, not_false_eq_true, Nat.zero_add, Nat.mul_one] <;> omega) | omega | (simp; done) | (simp; omega))) only [↓CR, MC, get_run]
    simp [he, bys_nil]

theorem rfget_ok (d : Nat) (f : Bool) (l : List UInt8) (h : Heap) (hl : l.length ≤ 140737488351232) :
    Ans (evFn Cw (d + 2) 64 [.sl f 0 (bys l)] h) ([.sl (decide ((fget l).2.2 ≠ 0)) 0 (bys (fget l).1), .int .i64 (fget l).2.1, .int .i64 (fget l).2.2], h) := by
  refine Run.ans ?_
  rw [F64_eq, fget_eq]
  unfold fgetW
  by_cases he : (getF l 0 0).2.2 = 0
  · have ⟨h1, h2, h3⟩ := getF_ok he
    rw [if_neg (by omega)]
    by_cases hb : 65536 < (getF l 0 0).1
    · rw [if_pos hb]
      simp (disch := (first | assumption | (simp only [Bool.and_eq_true, Bool.and_eq_false_iff, decide_eq_true_eq, decide_eq_false_iff_not, bne_iff_ne, beq_iff_eq, beq_eq_false_iff_ne, bne_eq_false_iff_eq, Bool.not_eq_true', Bool.not_eq_false', bys_length, List.length_append, List.length_cons, List.length_nil, List.length_map, List.length_drop, List.length_take, Int.natCast_add, wrap_i64_eq, wrap_u64, wrap_u8, ne_eq, not_true_eq_false, not_false_eq_true, Nat.zero_add, Nat.mul_one] <;> omega) | omega | (simp; done) | (simp; omega))) only [↓CR, MC, rget_run]
      simp [bys_nil]
    · have e1 : IntKind.i64.wrap (((getF l 0 0).1 : Nat) : Int) = (((getF l 0 0).1 : Nat) : Int) := wrap_i64_id (by omega) (by omega)
      have e2 : IntKind.i64.wrap ((((getF l 0 0).2.1 : Nat) : Int) + (((getF l 0 0).1 : Nat) : Int)) = (((getF l 0 0).2.1 + (getF l 0 0).1 : Nat) : Int) := by rw [wrap_i64_id (by omega) (by omega)]; omega
      rw [if_neg hb]
      by_cases hs : l.length < (getF l 0 0).2.1 + (getF l 0 0).1
      · rw [if_pos hs]
        simp (disch := (first | assumption | (simp only [Bool.and_eq_true, Bool.and_eq_false_iff, decide_eq_true_eq, decide_eq_false_iff_not, bne_iff_ne, beq_iff_eq, beq_eq_false_iff_ne, bne_eq_false_iff_eq, Bool.not_eq_true', Bool.not_eq_false', bys_length, List.length_append, List.length_cons, List.length_nil, List.length_map, List.length_drop, List.length_take, Int.natCast_add, wrap_i64_eq, wrap_u64, wrap_u8, ne_eq, not_true_eq_false, not_false_eq_true, Nat.zero_add, Nat.mul_one] <;> omega) | omega | (simp; done) | (simp; omega))) only [↓CR, MC, rget_run, e1, e2]
        simp [bys_nil]
      · rw [if_neg hs]
        simp (disch := (first | assumption | (simp only [Bool.and_eq_true, Bool.and_eq_false_iff, decide_eq_true_eq, decide_eq_false_iff_not, bne_iff_ne, beq_iff_eq, beq_eq_false_iff_ne, bne_eq_false_iff_eq, Bool.not_eq_true', Bool.not_eq_false', bys_length, List.length_append, List.length_cons, List.length_nil, List.length_map, List.length_drop, List.length_take, Int.natCast_add, wrap_i64_eq, wrap_u64, wrap_u8, ne_eq, not_true_eq_false, not_false_eq_true, Nat.zero_add, Nat.mul_one] <;> omega) | omega | (simp; done) | (simp; omega))) only [↓CR, MC, rget_run, e1, e2, part_mid, List.length_take]
        simp
  · rw [if_pos he]
    simp (disch := (first | assumption | (simp only [Bool.and_eq_true, Bool.and_eq_false_iff, decide_eq_true_eq, decide_eq_false_iff_not, bne_iff_ne, beq_iff_eq, beq_eq_false_iff_ne, bne_eq_false_iff_eq, Bool.not_eq_true', Bool.not_eq_false', bys_length, List.length_append, List.length_cons, List.length_nil, List.length_map, List.length_drop, List.length_take, Int.natCast_add, wrap_i64_eq, wrap_u64, wrap_u8, ne_eq, not_true_eq_false, not_false_eq_true, Nat.zero_add, Nat.mul_one] <;> omega) | omega | (simp; done) | (simp; omega))) only [↓CR, MC, rget_run]
    simp [he, bys_nil]
theorem fget_run {d : Nat} {f : Bool} {l : List UInt8} {h : Heap} {Q : Res → Prop} {tg : Hid Q} (hl : l.length ≤ 140737488351232) :
    Run (evFn Cw (d + 2) 82 [.sl f 0 (bys l)] h) Q tg = Q ([.sl (decide ((fget l).2.2 ≠ 0)) 0 (bys (fget l).1), .int .i64 (fget l).2.1, .int .i64 (fget l).2.2], h) := (fget_ok d f l h hl).at
theorem rfget_run {d : Nat} {f : Bool} {l : List UInt8} {h : Heap} {Q : Res → Prop} {tg : Hid Q} (hl : l.length ≤ 140737488351232) :
    Run (evFn Cw (d + 2) 64 [.sl f 0 (bys l)] h) Q tg = Q ([.sl (decide ((fget l).2.2 ≠ 0)) 0 (bys (fget l).1), .int .i64 (fget l).2.1, .int .i64 (fget l).2.2], h) := (rfget_ok d f l h hl).at

/-- A field's bytes. -/
noncomputable def pk (f : List UInt8) : List UInt8 := if 65536 < f.length then [] else enc f.length ++ f
theorem fget_spec {l : List UInt8} (h : (fget l).2.2 = 0) : (fget l).1.length ≤ 65536 ∧ 1 ≤ (fget l).2.1 ∧ (fget l).2.1 ≤ l.length ∧ l.take (fget l).2.1 = pk (fget l).1 := by
  rw [fget_eq] at h ⊢
  unfold fgetW at h ⊢
  rcases getF_spec0 l with ⟨m, h1, h2, h3, h4⟩ | ⟨e, h1, he⟩
  · rw [h1] at h ⊢
    simp only [ne_eq, not_true_eq_false, if_false] at h ⊢
    split at h
    · simp at h
    · rename_i hm
      rw [if_neg hm]
      split at h
      · simp at h
      · rename_i hs
        rw [if_neg hs]
        have hlen := (enc_length 9 m (lt_128_10 h4)).1
        have e1 : ((l.drop (enc m).length).take m).length = m := by simp; omega
        refine ⟨by rw [e1]; omega, by simp only; omega, by simp only; omega, ?_⟩
        unfold pk
        rw [e1, if_neg hm]
        simp only
        rw [List.take_add, h2]
  · rw [h1] at h
    rw [if_pos (by simp; omega)] at h
    simp at h; omega

/-- Rows of bytes. -/
def flds (l : List (List UInt8)) : List AVal := l.map fun b => .sl false 0 (bys b)
theorem flds_length (l : List (List UInt8)) : (flds l).length = l.length := by simp [flds]
theorem flds_nil : flds [] = [] := of_eq_true (eq_self _)
theorem flds_snoc (l : List (List UInt8)) (n : List UInt8) : flds l ++ [AVal.sl false 0 (bys n)] = flds (l ++ [n]) := by simp [flds]
theorem flds_getD {l : List (List UInt8)} {i : Nat} (h : i < l.length) : (flds l).getD i AVal.undef = .sl false 0 (bys l[i]) := by simp [flds, h]

/-- All fields that bytes are. -/
noncomputable def unpW : Nat → List UInt8 → List (List UInt8) → List (List UInt8) × Nat
  | 0, _, acc => (acc, 0)
  | n + 1, l, acc => if l.length = 0 then (acc, 0) else if (fget l).2.2 = 0 then unpW n (l.drop (fget l).2.1) (acc ++ [(fget l).1]) else ([], (fget l).2.2)
theorem unp_ex : ∃ f : Nat → List UInt8 → List (List UInt8) → List (List UInt8) × Nat, (∀ l acc, f 0 l acc = (acc, 0)) ∧ ∀ n l acc, f (n + 1) l acc = if l.length = 0 then (acc, 0) else if (fget l).2.2 = 0 then f n (l.drop (fget l).2.1) (acc ++ [(fget l).1]) else ([], (fget l).2.2) := ⟨unpW, fun _ _ => rfl, fun _ _ _ => rfl⟩
noncomputable def unpF : Nat → List UInt8 → List (List UInt8) → List (List UInt8) × Nat := Classical.choose unp_ex
theorem unpF_zero (l : List UInt8) (acc : List (List UInt8)) : unpF 0 l acc = (acc, 0) := (Classical.choose_spec unp_ex).1 l acc
theorem unpF_succ (n : Nat) (l : List UInt8) (acc : List (List UInt8)) : unpF (n + 1) l acc = if l.length = 0 then (acc, 0) else if (fget l).2.2 = 0 then unpF n (l.drop (fget l).2.1) (acc ++ [(fget l).1]) else ([], (fget l).2.2) := (Classical.choose_spec unp_ex).2 n l acc

theorem unp_loop (d : Nat) (f : Bool) (h : Heap) : ∀ (n : Nat) (l : List UInt8) (acc : List (List UInt8)) (k : Nat), l.length ≤ n → n < k → acc.length + n ≤ 40000000 →
    Ans (P70_0 (d + 2) k f (bys l) (flds acc) h) ([.sl (decide ((unpF n l acc).2 ≠ 0)) 0 (flds (unpF n l acc).1), .int .i64 (unpF n l acc).2], h) := by
  intro n
  induction n with
  | zero =>
    intro l acc k hl hk hb
    obtain ⟨k, rfl⟩ : ∃ m, k = m + 1 := ⟨k - 1, by omega⟩
    refine Run.ans ?_
    rw [P70_0_eq]
    simp (disch := (first | assumption | (simp only [Bool.and_eq_true, Bool.and_eq_false_iff, decide_eq_true_eq, decide_eq_false_iff_not, bne_iff_ne, beq_iff_eq, beq_eq_false_iff_ne, bne_eq_false_iff_eq, Bool.not_eq_true', Bool.not_eq_false', bys_length, List.length_append, List.length_cons, List.length_nil, List.length_map, List.length_drop, List.length_take, Int.natCast_add, wrap_i64_eq, wrap_u64, wrap_u8, ne_eq, not_true_eq_false, not_false_eq_true, Nat.zero_add, Nat.mul_one] <;> omega) | omega | (simp; done) | (simp; omega))) only [↓CR, MC, unpF_zero]
    simp
  | succ n ih =>
    intro l acc k hl hk hb
    obtain ⟨k, rfl⟩ : ∃ m, k = m + 1 := ⟨k - 1, by omega⟩
    refine Run.ans ?_
    rw [P70_0_eq, unpF_succ]
    by_cases h0 : l.length = 0
    · rw [if_pos h0]
      simp (disch := (first | assumption | (simp only [Bool.and_eq_true, Bool.and_eq_false_iff, decide_eq_true_eq, decide_eq_false_iff_not, bne_iff_ne, beq_iff_eq, beq_eq_false_iff_ne, bne_eq_false_iff_eq, Bool.not_eq_true', Bool.not_eq_false', bys_length, List.length_append, List.length_cons, List.length_nil, List.length_map, List.length_drop, List.length_take, Int.natCast_add, wrap_i64_eq, wrap_u64, wrap_u8, ne_eq, not_true_eq_false, not_false_eq_true, Nat.zero_add, Nat.mul_one] <;> omega) | omega | (simp; done) | (simp; omega))) only [↓CR, MC]
      simp
    · rw [if_neg h0]
      by_cases he : (fget l).2.2 = 0
      · rw [if_pos he]
        have ⟨h1, h2, h3, h4⟩ := fget_spec he
        have := ih (l.drop (fget l).2.1) (acc ++ [(fget l).1]) k (by simp; omega) (by omega) (by simp; omega)
        simp (disch := (first | assumption | (simp only [Bool.and_eq_true, Bool.and_eq_false_iff, decide_eq_true_eq, decide_eq_false_iff_not, bne_iff_ne, beq_iff_eq, beq_eq_false_iff_ne, bne_eq_false_iff_eq, Bool.not_eq_true', Bool.not_eq_false', bys_length, List.length_append, List.length_cons, List.length_nil, List.length_map, List.length_drop, List.length_take, Int.natCast_add, wrap_i64_eq, wrap_u64, wrap_u8, ne_eq, not_true_eq_false, not_false_eq_true, Nat.zero_add, Nat.mul_one] <;> omega) | omega | (simp; done) | (simp; omega))) only [↓CR, MC, fget_run, part_drop, flds_length, flds_snoc, Ans.at this]
      · rw [if_neg he]
        simp (disch := (first | assumption | (simp only [Bool.and_eq_true, Bool.and_eq_false_iff, decide_eq_true_eq, decide_eq_false_iff_not, bne_iff_ne, beq_iff_eq, beq_eq_false_iff_ne, bne_eq_false_iff_eq, Bool.not_eq_true', Bool.not_eq_false', bys_length, List.length_append, List.length_cons, List.length_nil, List.length_map, List.length_drop, List.length_take, Int.natCast_add, wrap_i64_eq, wrap_u64, wrap_u8, ne_eq, not_true_eq_false, not_false_eq_true, Nat.zero_add, Nat.mul_one] <;> omega) | omega | (simp; done) | (simp; omega))) only [↓CR, MC, fget_run]
        simp [he, flds_nil]
theorem runp_loop (d : Nat) (f : Bool) (h : Heap) (l : List UInt8) (hbig : l.length ≤ 40000000) : ∀ (n at_ : Nat) (acc : List (List UInt8)) (k : Nat), l.length ≤ n + at_ → at_ ≤ l.length → n < k → acc.length + n ≤ 40000000 →
    Ans (P48_0 (d + 2) k f (bys l) (flds acc) at_ h) ([.sl (decide ((unpF n (l.drop at_) acc).2 ≠ 0)) 0 (flds (unpF n (l.drop at_) acc).1), .int .i64 (unpF n (l.drop at_) acc).2], h) := by
  intro n
  induction n with
  | zero =>
    intro at_ acc k hl hle hk hb
    obtain ⟨k, rfl⟩ : ∃ m, k = m + 1 := ⟨k - 1, by omega⟩
    refine Run.ans ?_
    rw [P48_0_eq]
    simp (disch := (first | assumption | (simp only [Bool.and_eq_true, Bool.and_eq_false_iff, decide_eq_true_eq, decide_eq_false_iff_not, bne_iff_ne, beq_iff_eq, beq_eq_false_iff_ne, bne_eq_false_iff_eq, Bool.not_eq_true', Bool.not_eq_false', bys_length, List.length_append, List.length_cons, List.length_nil, List.length_map, List.length_drop, List.length_take, Int.natCast_add, wrap_i64_eq, wrap_u64, wrap_u8, ne_eq, not_true_eq_false, not_false_eq_true, Nat.zero_add, Nat.mul_one] <;> omega) | omega | (simp; done) | (simp; omega))) only [↓CR, MC, unpF_zero]
    simp
  | succ n ih =>
    intro at_ acc k hl hle hk hb
    obtain ⟨k, rfl⟩ : ∃ m, k = m + 1 := ⟨k - 1, by omega⟩
    refine Run.ans ?_
    rw [P48_0_eq, unpF_succ]
    by_cases h0 : at_ = l.length
    · rw [if_pos (by simp; omega)]
      simp (disch := (first | assumption | (simp only [Bool.and_eq_true, Bool.and_eq_false_iff, decide_eq_true_eq, decide_eq_false_iff_not, bne_iff_ne, beq_iff_eq, beq_eq_false_iff_ne, bne_eq_false_iff_eq, Bool.not_eq_true', Bool.not_eq_false', bys_length, List.length_append, List.length_cons, List.length_nil, List.length_map, List.length_drop, List.length_take, Int.natCast_add, wrap_i64_eq, wrap_u64, wrap_u8, ne_eq, not_true_eq_false, not_false_eq_true, Nat.zero_add, Nat.mul_one] <;> omega) | omega | (simp; done) | (simp; omega))) only [↓CR, MC]
      simp
    · rw [if_neg (by simp; omega)]
      by_cases he : (fget (l.drop at_)).2.2 = 0
      · rw [if_pos he]
        have ⟨h1, h2, h3, h4⟩ := fget_spec he
        rw [List.length_drop] at h3
        have := ih (at_ + (fget (l.drop at_)).2.1) (acc ++ [(fget (l.drop at_)).1]) k (by omega) (by omega) (by omega) (by simp; omega)
        have e : IntKind.i64.wrap ((at_ : Int) + ((fget (l.drop at_)).2.1 : Int)) = ((at_ + (fget (l.drop at_)).2.1 : Nat) : Int) := by rw [wrap_i64_id (by omega) (by omega)]; omega
        rw [← List.drop_drop] at this
        simp (disch := (first | assumption | (simp only [Bool.and_eq_true, Bool.and_eq_false_iff, decide_eq_true_eq, decide_eq_false_iff_not, bne_iff_ne, beq_iff_eq, beq_eq_false_iff_ne, bne_eq_false_iff_eq, Bool.not_eq_true', Bool.not_eq_false', bys_length, List.length_append, List.length_cons, List.length_nil, List.length_map, List.length_drop, List.length_take, Int.natCast_add, wrap_i64_eq, wrap_u64, wrap_u8, ne_eq, not_true_eq_false, not_false_eq_true, Nat.zero_add, Nat.mul_one] <;> omega) | omega | (simp; done) | (simp; omega))) only [↓CR, MC, rfget_run, part_drop, flds_length, flds_snoc, e, Ans.at this]
      · rw [if_neg he]
        simp (disch := (first | assumption | (simp only [Bool.and_eq_true, Bool.and_eq_false_iff, decide_eq_true_eq, decide_eq_false_iff_not, bne_iff_ne, beq_iff_eq, beq_eq_false_iff_ne, bne_eq_false_iff_eq, Bool.not_eq_true', Bool.not_eq_false', bys_length, List.length_append, List.length_cons, List.length_nil, List.length_map, List.length_drop, List.length_take, Int.natCast_add, wrap_i64_eq, wrap_u64, wrap_u8, ne_eq, not_true_eq_false, not_false_eq_true, Nat.zero_add, Nat.mul_one] <;> omega) | omega | (simp; done) | (simp; omega))) only [↓CR, MC, rfget_run, part_drop]
        simp [he, flds_nil]
noncomputable def unp (l : List UInt8) : List (List UInt8) × Nat := unpF l.length l []
theorem unp_run {d : Nat} {f : Bool} {l : List UInt8} {h : Heap} {Q : Res → Prop} {tg : Hid Q} (hl : l.length ≤ 40000000) :
    Run (evFn Cw (d + 3) 70 [.sl f 0 (bys l)] h) Q tg = Q ([.sl (decide ((unp l).2 ≠ 0)) 0 (flds (unp l).1), .int .i64 (unp l).2], h) := by
  have h1 := unp_loop d f h l.length l [] rounds (by omega) (rounds_gt l.length (by omega)) (by simp; omega)
  rw [flds_nil] at h1
  rw [F70_eq]
  exact h1.at
theorem runp_run {d : Nat} {f : Bool} {l : List UInt8} {h : Heap} {Q : Res → Prop} {tg : Hid Q} (hl : l.length ≤ 40000000) :
    Run (evFn Cw (d + 3) 48 [.sl f 0 (bys l)] h) Q tg = Q ([.sl (decide ((unp l).2 ≠ 0)) 0 (flds (unp l).1), .int .i64 (unp l).2], h) := by
  have h1 := runp_loop d f h l (by omega) l.length 0 [] rounds (by omega) (by omega) (rounds_gt l.length (by omega)) (by simp; omega)
  rw [e0, List.drop_zero, flds_nil] at h1
  rw [F48_eq]
  exact h1.at

theorem unpF_len : ∀ (n : Nat) (l : List UInt8) (acc : List (List UInt8)), (unpF n l acc).1.length ≤ acc.length + n
  | 0, l, acc => by rw [unpF_zero]; simp
  | n + 1, l, acc => by
    rw [unpF_succ]
    split
    · simp
    · split
      · have := unpF_len n (l.drop (fget l).2.1) (acc ++ [(fget l).1])
        simp at this
        omega
      · simp
theorem unp_len (l : List UInt8) : (unp l).1.length ≤ l.length := by
  have := unpF_len l.length l []
  unfold unp
  simpa using this

end Go.Proofs.YtdlcjibefbnckaaDoor.Wa
end

section
/- What the evaluator comes to in these functions. -/
namespace Go.Proofs.YtdlcjibefbnckaaDoor.Wa
open Go Go.Weave
set_option maxRecDepth 100000
set_option linter.unusedVariables false
/- f87 strandline/tree.told[string] -/
theorem F87_eq (d : Nat) (v0 : AVal) (h : Heap) : evFn Cw (d + 1) 87 [v0] h =
  (bif AVal.isPtr v0 then
    (bif (AVal.isNilp v0) then
      (Tr.ret ([(AVal.str []), (AVal.str []), (AVal.bool false)], h))
    else
      (nodeW 5 v0 fun cc1 =>
        (optK (cc1[0]?) fun w2 =>
          (strK w2 fun ss3 =>
            (nodeW 5 v0 fun cc4 =>
              (optK (cc4[1]?) fun w5 =>
                (strK w5 fun ss6 =>
                  (Tr.ret ([(AVal.str ss3), (AVal.str ss6), (AVal.bool true)], h)))))))))
  else
    Tr.fail) := by kernel_rfl
/- f91 (*strandline/tree.node[string]).high -/
theorem F91_eq (d : Nat) (v0 : AVal) (h : Heap) : evFn Cw (d + 1) 91 [v0] h =
  (bif AVal.isPtr v0 then
    (bif (AVal.isNilp v0) then
      (Tr.ret ([(AVal.int .i64 0)], h))
    else
      (nodeW 5 v0 fun cc1 =>
        (optK (cc1[4]?) fun w2 =>
          (intK .i64 w2 fun y3 =>
            (Tr.ret ([(AVal.int .i64 y3)], h))))))
  else
    Tr.fail) := by kernel_rfl
/- f92 (*strandline/tree.node[string]).with -/
theorem F92_eq (d : Nat) (v0 : AVal) (v1 : AVal) (v2 : AVal) (h : Heap) : evFn Cw (d + 1) 92 [v0, v1, v2] h =
  (nodeW 5 v0 fun cc1 =>
    (nodeW 5 v0 fun cc2 =>
      (Tr.anyL [
        (optK (cc1[0]?) fun w3 =>
          (strK w3 fun ss4 =>
            (Tr.anyL [
              (optK (cc2[1]?) fun w5 =>
                (strK w5 fun ss6 =>
                  (runK (evFn Cw d 91 [v1] h) fun r7 h7 =>
                    (consK r7 fun w8 ws9 =>
                      (intK .i64 w8 fun y10 =>
                        (nilK ws9
                          (runK (evFn Cw d 91 [v2] h7) fun r11 h11 =>
                            (consK r11 fun w12 ws13 =>
                              (intK .i64 w12 fun y14 =>
                                (nilK ws13
                                  (bif (((!(AVal.isAgg v1)) && true) && true) then
                                    (bif (((!(AVal.isAgg v2)) && true) && true) then
                                      (Tr.ret ([(AVal.elt (AVal.agg [(AVal.str ss4), (AVal.str ss6), v1, v2, (AVal.int .i64 (IntKind.i64.wrap (1 + (if (y14 : Int) > y10 then y14 else y10))))]) true 5 0)], h11))
                                    else
                                      Tr.fail)
                                  else
                                    Tr.fail))))))))))),
              (runK (evFn Cw d 91 [v1] h) fun r5 h5 =>
                (consK r5 fun w6 ws7 =>
                  (intK .i64 w6 fun y8 =>
                    (nilK ws7
                      (Tr.anyL [
                        (optK (cc2[1]?) fun w9 =>
                          (strK w9 fun ss10 =>
                            (runK (evFn Cw d 91 [v2] h5) fun r11 h11 =>
                              (consK r11 fun w12 ws13 =>
                                (intK .i64 w12 fun y14 =>
                                  (nilK ws13
                                    (bif (((!(AVal.isAgg v1)) && true) && true) then
                                      (bif (((!(AVal.isAgg v2)) && true) && true) then
                                        (Tr.ret ([(AVal.elt (AVal.agg [(AVal.str ss4), (AVal.str ss10), v1, v2, (AVal.int .i64 (IntKind.i64.wrap (1 + (if (y14 : Int) > y8 then y14 else y8))))]) true 5 0)], h11))
                                      else
                                        Tr.fail)
                                    else
                                      Tr.fail))))))),
                        (runK (evFn Cw d 91 [v2] h5) fun r9 h9 =>
                          (consK r9 fun w10 ws11 =>
                            (intK .i64 w10 fun y12 =>
                              (nilK ws11
                                (optK (cc2[1]?) fun w13 =>
                                  (strK w13 fun ss14 =>
                                    (bif (((!(AVal.isAgg v1)) && true) && true) then
                                      (bif (((!(AVal.isAgg v2)) && true) && true) then
                                        (Tr.ret ([(AVal.elt (AVal.agg [(AVal.str ss4), (AVal.str ss14), v1, v2, (AVal.int .i64 (IntKind.i64.wrap (1 + (if (y12 : Int) > y8 then y12 else y8))))]) true 5 0)], h9))
                                      else
                                        Tr.fail)
                                    else
                                      Tr.fail)))))))])))))]))),
        (optK (cc2[1]?) fun w3 =>
          (strK w3 fun ss4 =>
            (Tr.anyL [
              (optK (cc1[0]?) fun w5 =>
                (strK w5 fun ss6 =>
                  (runK (evFn Cw d 91 [v1] h) fun r7 h7 =>
                    (consK r7 fun w8 ws9 =>
                      (intK .i64 w8 fun y10 =>
                        (nilK ws9
                          (runK (evFn Cw d 91 [v2] h7) fun r11 h11 =>
                            (consK r11 fun w12 ws13 =>
                              (intK .i64 w12 fun y14 =>
                                (nilK ws13
                                  (bif (((!(AVal.isAgg v1)) && true) && true) then
                                    (bif (((!(AVal.isAgg v2)) && true) && true) then
                                      (Tr.ret ([(AVal.elt (AVal.agg [(AVal.str ss6), (AVal.str ss4), v1, v2, (AVal.int .i64 (IntKind.i64.wrap (1 + (if (y14 : Int) > y10 then y14 else y10))))]) true 5 0)], h11))
                                    else
                                      Tr.fail)
                                  else
                                    Tr.fail))))))))))),
              (runK (evFn Cw d 91 [v1] h) fun r5 h5 =>
                (consK r5 fun w6 ws7 =>
                  (intK .i64 w6 fun y8 =>
                    (nilK ws7
                      (Tr.anyL [
                        (optK (cc1[0]?) fun w9 =>
                          (strK w9 fun ss10 =>
                            (runK (evFn Cw d 91 [v2] h5) fun r11 h11 =>
                              (consK r11 fun w12 ws13 =>
                                (intK .i64 w12 fun y14 =>
                                  (nilK ws13
                                    (bif (((!(AVal.isAgg v1)) && true) && true) then
                                      (bif (((!(AVal.isAgg v2)) && true) && true) then
                                        (Tr.ret ([(AVal.elt (AVal.agg [(AVal.str ss10), (AVal.str ss4), v1, v2, (AVal.int .i64 (IntKind.i64.wrap (1 + (if (y14 : Int) > y8 then y14 else y8))))]) true 5 0)], h11))
                                      else
                                        Tr.fail)
                                    else
                                      Tr.fail))))))),
                        (runK (evFn Cw d 91 [v2] h5) fun r9 h9 =>
                          (consK r9 fun w10 ws11 =>
                            (intK .i64 w10 fun y12 =>
                              (nilK ws11
                                (optK (cc1[0]?) fun w13 =>
                                  (strK w13 fun ss14 =>
                                    (bif (((!(AVal.isAgg v1)) && true) && true) then
                                      (bif (((!(AVal.isAgg v2)) && true) && true) then
                                        (Tr.ret ([(AVal.elt (AVal.agg [(AVal.str ss14), (AVal.str ss4), v1, v2, (AVal.int .i64 (IntKind.i64.wrap (1 + (if (y12 : Int) > y8 then y12 else y8))))]) true 5 0)], h9))
                                      else
                                        Tr.fail)
                                    else
                                      Tr.fail)))))))])))))]))),
        (runK (evFn Cw d 91 [v1] h) fun r3 h3 =>
          (consK r3 fun w4 ws5 =>
            (intK .i64 w4 fun y6 =>
              (nilK ws5
                (Tr.anyL [
                  (optK (cc1[0]?) fun w7 =>
                    (strK w7 fun ss8 =>
                      (Tr.anyL [
                        (optK (cc2[1]?) fun w9 =>
                          (strK w9 fun ss10 =>
                            (runK (evFn Cw d 91 [v2] h3) fun r11 h11 =>
                              (consK r11 fun w12 ws13 =>
                                (intK .i64 w12 fun y14 =>
                                  (nilK ws13
                                    (bif (((!(AVal.isAgg v1)) && true) && true) then
                                      (bif (((!(AVal.isAgg v2)) && true) && true) then
                                        (Tr.ret ([(AVal.elt (AVal.agg [(AVal.str ss8), (AVal.str ss10), v1, v2, (AVal.int .i64 (IntKind.i64.wrap (1 + (if (y14 : Int) > y6 then y14 else y6))))]) true 5 0)], h11))
                                      else
                                        Tr.fail)
                                    else
                                      Tr.fail))))))),
                        (runK (evFn Cw d 91 [v2] h3) fun r9 h9 =>
                          (consK r9 fun w10 ws11 =>
                            (intK .i64 w10 fun y12 =>
                              (nilK ws11
                                (optK (cc2[1]?) fun w13 =>
                                  (strK w13 fun ss14 =>
                                    (bif (((!(AVal.isAgg v1)) && true) && true) then
                                      (bif (((!(AVal.isAgg v2)) && true) && true) then
                                        (Tr.ret ([(AVal.elt (AVal.agg [(AVal.str ss8), (AVal.str ss14), v1, v2, (AVal.int .i64 (IntKind.i64.wrap (1 + (if (y12 : Int) > y6 then y12 else y6))))]) true 5 0)], h9))
                                      else
                                        Tr.fail)
                                    else
                                      Tr.fail)))))))]))),
                  (optK (cc2[1]?) fun w7 =>
                    (strK w7 fun ss8 =>
                      (Tr.anyL [
                        (optK (cc1[0]?) fun w9 =>
                          (strK w9 fun ss10 =>
                            (runK (evFn Cw d 91 [v2] h3) fun r11 h11 =>
                              (consK r11 fun w12 ws13 =>
                                (intK .i64 w12 fun y14 =>
                                  (nilK ws13
                                    (bif (((!(AVal.isAgg v1)) && true) && true) then
                                      (bif (((!(AVal.isAgg v2)) && true) && true) then
                                        (Tr.ret ([(AVal.elt (AVal.agg [(AVal.str ss10), (AVal.str ss8), v1, v2, (AVal.int .i64 (IntKind.i64.wrap (1 + (if (y14 : Int) > y6 then y14 else y6))))]) true 5 0)], h11))
                                      else
                                        Tr.fail)
                                    else
                                      Tr.fail))))))),
                        (runK (evFn Cw d 91 [v2] h3) fun r9 h9 =>
                          (consK r9 fun w10 ws11 =>
                            (intK .i64 w10 fun y12 =>
                              (nilK ws11
                                (optK (cc1[0]?) fun w13 =>
                                  (strK w13 fun ss14 =>
                                    (bif (((!(AVal.isAgg v1)) && true) && true) then
                                      (bif (((!(AVal.isAgg v2)) && true) && true) then
                                        (Tr.ret ([(AVal.elt (AVal.agg [(AVal.str ss14), (AVal.str ss8), v1, v2, (AVal.int .i64 (IntKind.i64.wrap (1 + (if (y12 : Int) > y6 then y12 else y6))))]) true 5 0)], h9))
                                      else
                                        Tr.fail)
                                    else
                                      Tr.fail)))))))]))),
                  (runK (evFn Cw d 91 [v2] h3) fun r7 h7 =>
                    (consK r7 fun w8 ws9 =>
                      (intK .i64 w8 fun y10 =>
                        (nilK ws9
                          (Tr.anyL [
                            (optK (cc1[0]?) fun w11 =>
                              (strK w11 fun ss12 =>
                                (optK (cc2[1]?) fun w13 =>
                                  (strK w13 fun ss14 =>
                                    (bif (((!(AVal.isAgg v1)) && true) && true) then
                                      (bif (((!(AVal.isAgg v2)) && true) && true) then
                                        (Tr.ret ([(AVal.elt (AVal.agg [(AVal.str ss12), (AVal.str ss14), v1, v2, (AVal.int .i64 (IntKind.i64.wrap (1 + (if (y10 : Int) > y6 then y10 else y6))))]) true 5 0)], h7))
                                      else
                                        Tr.fail)
                                    else
                                      Tr.fail))))),
                            (optK (cc2[1]?) fun w11 =>
                              (strK w11 fun ss12 =>
                                (optK (cc1[0]?) fun w13 =>
                                  (strK w13 fun ss14 =>
                                    (bif (((!(AVal.isAgg v1)) && true) && true) then
                                      (bif (((!(AVal.isAgg v2)) && true) && true) then
                                        (Tr.ret ([(AVal.elt (AVal.agg [(AVal.str ss14), (AVal.str ss12), v1, v2, (AVal.int .i64 (IntKind.i64.wrap (1 + (if (y10 : Int) > y6 then y10 else y6))))]) true 5 0)], h7))
                                      else
                                        Tr.fail)
                                    else
                                      Tr.fail)))))])))))])))))]))) := by kernel_rfl
/- f89 (*strandline/tree.node[string]).level -/
theorem F89_eq (d : Nat) (v0 : AVal) (v1 : AVal) (v2 : AVal) (h : Heap) : evFn Cw (d + 1) 89 [v0, v1, v2] h =
  (runK (evFn Cw d 91 [v1] h) fun r1 h1 =>
    (consK r1 fun w2 ws3 =>
      (intK .i64 w2 fun y4 =>
        (nilK ws3
          (runK (evFn Cw d 91 [v2] h1) fun r5 h5 =>
            (consK r5 fun w6 ws7 =>
              (intK .i64 w6 fun y8 =>
                (nilK ws7
                  (bif (decide ((y4 : Int) > (IntKind.i64.wrap (y8 + 1)))) then
                    (nodeW 5 v1 fun cc9 =>
                      (optK (cc9[2]?) fun w10 =>
                        (nodeW 5 v1 fun cc11 =>
                          (optK (cc11[3]?) fun w12 =>
                            (runK (evFn Cw d 91 [w10] h5) fun r13 h13 =>
                              (consK r13 fun w14 ws15 =>
                                (intK .i64 w14 fun y16 =>
                                  (nilK ws15
                                    (runK (evFn Cw d 91 [w12] h13) fun r17 h17 =>
                                      (consK r17 fun w18 ws19 =>
                                        (intK .i64 w18 fun y20 =>
                                          (nilK ws19
                                            (bif (decide ((y16 : Int) ≥ y20)) then
                                              (nodeW 5 v1 fun cc21 =>
                                                (optK (cc21[2]?) fun w22 =>
                                                  (nodeW 5 v1 fun cc23 =>
                                                    (optK (cc23[3]?) fun w24 =>
                                                      (runK (evFn Cw d 92 [v0, w24, v2] h17) fun r25 h25 =>
                                                        (consK r25 fun w26 ws27 =>
                                                          (nilK ws27
                                                            (runK (evFn Cw d 92 [v1, w22, w26] h25) fun r28 h28 =>
                                                              (consK r28 fun w29 ws30 =>
                                                                (nilK ws30
                                                                  (Tr.ret ([w29], h28))))))))))))
                                            else
                                              (nodeW 5 v1 fun cc31 =>
                                                (optK (cc31[3]?) fun w32 =>
                                                  (nodeW 5 v1 fun cc33 =>
                                                    (optK (cc33[2]?) fun w34 =>
                                                      (nodeW 5 v1 fun cc35 =>
                                                        (optK (cc35[3]?) fun w36 =>
                                                          (nodeW 5 w36 fun cc37 =>
                                                            (optK (cc37[2]?) fun w38 =>
                                                              (nodeW 5 v1 fun cc39 =>
                                                                (optK (cc39[3]?) fun w40 =>
                                                                  (nodeW 5 w40 fun cc41 =>
                                                                    (optK (cc41[3]?) fun w42 =>
                                                                      (runK (evFn Cw d 92 [v1, w34, w38] h17) fun r43 h43 =>
                                                                        (consK r43 fun w44 ws45 =>
                                                                          (nilK ws45
                                                                            (runK (evFn Cw d 92 [v0, w42, v2] h43) fun r46 h46 =>
                                                                              (consK r46 fun w47 ws48 =>
                                                                                (nilK ws48
                                                                                  (runK (evFn Cw d 92 [w32, w44, w47] h46) fun r49 h49 =>
                                                                                    (consK r49 fun w50 ws51 =>
                                                                                      (nilK ws51
                                                                                        (Tr.ret ([w50], h49))))))))))))))))))))))))))))))))))))
                  else
                    (runK (evFn Cw d 91 [v2] h5) fun r52 h52 =>
                      (consK r52 fun w53 ws54 =>
                        (intK .i64 w53 fun y55 =>
                          (nilK ws54
                            (runK (evFn Cw d 91 [v1] h52) fun r56 h56 =>
                              (consK r56 fun w57 ws58 =>
                                (intK .i64 w57 fun y59 =>
                                  (nilK ws58
                                    (bif (decide ((y55 : Int) > (IntKind.i64.wrap (y59 + 1)))) then
                                      (nodeW 5 v2 fun cc60 =>
                                        (optK (cc60[3]?) fun w61 =>
                                          (nodeW 5 v2 fun cc62 =>
                                            (optK (cc62[2]?) fun w63 =>
                                              (runK (evFn Cw d 91 [w61] h56) fun r64 h64 =>
                                                (consK r64 fun w65 ws66 =>
                                                  (intK .i64 w65 fun y67 =>
                                                    (nilK ws66
                                                      (runK (evFn Cw d 91 [w63] h64) fun r68 h68 =>
                                                        (consK r68 fun w69 ws70 =>
                                                          (intK .i64 w69 fun y71 =>
                                                            (nilK ws70
                                                              (bif (decide ((y67 : Int) ≥ y71)) then
                                                                (nodeW 5 v2 fun cc72 =>
                                                                  (optK (cc72[2]?) fun w73 =>
                                                                    (nodeW 5 v2 fun cc74 =>
                                                                      (optK (cc74[3]?) fun w75 =>
                                                                        (runK (evFn Cw d 92 [v0, v1, w73] h68) fun r76 h76 =>
                                                                          (consK r76 fun w77 ws78 =>
                                                                            (nilK ws78
                                                                              (runK (evFn Cw d 92 [v2, w77, w75] h76) fun r79 h79 =>
                                                                                (consK r79 fun w80 ws81 =>
                                                                                  (nilK ws81
                                                                                    (Tr.ret ([w80], h79))))))))))))
                                                              else
                                                                (nodeW 5 v2 fun cc82 =>
                                                                  (optK (cc82[2]?) fun w83 =>
                                                                    (nodeW 5 v2 fun cc84 =>
                                                                      (optK (cc84[2]?) fun w85 =>
                                                                        (nodeW 5 w85 fun cc86 =>
                                                                          (optK (cc86[2]?) fun w87 =>
                                                                            (nodeW 5 v2 fun cc88 =>
                                                                              (optK (cc88[2]?) fun w89 =>
                                                                                (nodeW 5 w89 fun cc90 =>
                                                                                  (optK (cc90[3]?) fun w91 =>
                                                                                    (nodeW 5 v2 fun cc92 =>
                                                                                      (optK (cc92[3]?) fun w93 =>
                                                                                        (runK (evFn Cw d 92 [v0, v1, w87] h68) fun r94 h94 =>
                                                                                          (consK r94 fun w95 ws96 =>
                                                                                            (nilK ws96
                                                                                              (runK (evFn Cw d 92 [v2, w91, w93] h94) fun r97 h97 =>
                                                                                                (consK r97 fun w98 ws99 =>
                                                                                                  (nilK ws99
                                                                                                    (runK (evFn Cw d 92 [w83, w95, w98] h97) fun r100 h100 =>
                                                                                                      (consK r100 fun w101 ws102 =>
                                                                                                        (nilK ws102
                                                                                                          (Tr.ret ([w101], h100))))))))))))))))))))))))))))))))))))
                                    else
                                      (runK (evFn Cw d 92 [v0, v1, v2] h56) fun r103 h103 =>
                                        (consK r103 fun w104 ws105 =>
                                          (nilK ws105
                                            (Tr.ret ([w104], h103))))))))))))))))))))))) := by kernel_rfl
/- f88 (*strandline/tree.node[string]).put -/
theorem F88_eq (d : Nat) (v0 : AVal) (s1 : List UInt8) (s2 : List UInt8) (h : Heap) : evFn Cw (d + 1) 88 [v0, (AVal.str s1), (AVal.str s2)] h =
  (bif AVal.isPtr v0 then
    (bif (AVal.isNilp v0) then
      (Tr.ret ([(AVal.elt (AVal.agg [(AVal.str s1), (AVal.str s2), AVal.nilp, AVal.nilp, (AVal.int .i64 1)]) true 5 0)], h))
    else
      (nodeW 5 v0 fun cc1 =>
        (optK (cc1[0]?) fun w2 =>
          (strK w2 fun ss3 =>
            (bif (Go.Op.bytesLess s1 ss3) then
              (nodeW 5 v0 fun cc4 =>
                (optK (cc4[2]?) fun w5 =>
                  (nodeW 5 v0 fun cc6 =>
                    (optK (cc6[3]?) fun w7 =>
                      (runK (evFn Cw d 88 [w5, (AVal.str s1), (AVal.str s2)] h) fun r8 h8 =>
                        (consK r8 fun w9 ws10 =>
                          (nilK ws10
                            (runK (evFn Cw d 89 [v0, w9, w7] h8) fun r11 h11 =>
                              (consK r11 fun w12 ws13 =>
                                (nilK ws13
                                  (Tr.ret ([w12], h11))))))))))))
            else
              (nodeW 5 v0 fun cc14 =>
                (optK (cc14[0]?) fun w15 =>
                  (strK w15 fun ss16 =>
                    (bif (!((Go.Op.bytesLess s1 ss16) || (s1 == ss16))) then
                      (nodeW 5 v0 fun cc17 =>
                        (optK (cc17[2]?) fun w18 =>
                          (nodeW 5 v0 fun cc19 =>
                            (optK (cc19[3]?) fun w20 =>
                              (runK (evFn Cw d 88 [w20, (AVal.str s1), (AVal.str s2)] h) fun r21 h21 =>
                                (consK r21 fun w22 ws23 =>
                                  (nilK ws23
                                    (runK (evFn Cw d 89 [v0, w18, w22] h21) fun r24 h24 =>
                                      (consK r24 fun w25 ws26 =>
                                        (nilK ws26
                                          (Tr.ret ([w25], h24))))))))))))
                    else
                      (nodeW 5 v0 fun cc27 =>
                        (nodeW 5 v0 fun cc28 =>
                          (nodeW 5 v0 fun cc29 =>
                            (Tr.anyL [
                              (optK (cc27[2]?) fun w30 =>
                                (Tr.anyL [
                                  (optK (cc28[3]?) fun w31 =>
                                    (optK (cc29[4]?) fun w32 =>
                                      (intK .i64 w32 fun y33 =>
                                        (bif (((!(AVal.isAgg w30)) && true) && true) then
                                          (bif (((!(AVal.isAgg w31)) && true) && true) then
                                            (Tr.ret ([(AVal.elt (AVal.agg [(AVal.str s1), (AVal.str s2), w30, w31, (AVal.int .i64 y33)]) true 5 0)], h))
                                          else
                                            Tr.fail)
                                        else
                                          Tr.fail)))),
                                  (optK (cc29[4]?) fun w31 =>
                                    (intK .i64 w31 fun y32 =>
                                      (optK (cc28[3]?) fun w33 =>
                                        (bif (((!(AVal.isAgg w30)) && true) && true) then
                                          (bif (((!(AVal.isAgg w33)) && true) && true) then
                                            (Tr.ret ([(AVal.elt (AVal.agg [(AVal.str s1), (AVal.str s2), w30, w33, (AVal.int .i64 y32)]) true 5 0)], h))
                                          else
                                            Tr.fail)
                                        else
                                          Tr.fail))))])),
                              (optK (cc28[3]?) fun w30 =>
                                (Tr.anyL [
                                  (optK (cc27[2]?) fun w31 =>
                                    (optK (cc29[4]?) fun w32 =>
                                      (intK .i64 w32 fun y33 =>
                                        (bif (((!(AVal.isAgg w31)) && true) && true) then
                                          (bif (((!(AVal.isAgg w30)) && true) && true) then
                                            (Tr.ret ([(AVal.elt (AVal.agg [(AVal.str s1), (AVal.str s2), w31, w30, (AVal.int .i64 y33)]) true 5 0)], h))
                                          else
                                            Tr.fail)
                                        else
                                          Tr.fail)))),
                                  (optK (cc29[4]?) fun w31 =>
                                    (intK .i64 w31 fun y32 =>
                                      (optK (cc27[2]?) fun w33 =>
                                        (bif (((!(AVal.isAgg w33)) && true) && true) then
                                          (bif (((!(AVal.isAgg w30)) && true) && true) then
                                            (Tr.ret ([(AVal.elt (AVal.agg [(AVal.str s1), (AVal.str s2), w33, w30, (AVal.int .i64 y32)]) true 5 0)], h))
                                          else
                                            Tr.fail)
                                        else
                                          Tr.fail))))])),
                              (optK (cc29[4]?) fun w30 =>
                                (intK .i64 w30 fun y31 =>
                                  (Tr.anyL [
                                    (optK (cc27[2]?) fun w32 =>
                                      (optK (cc28[3]?) fun w33 =>
                                        (bif (((!(AVal.isAgg w32)) && true) && true) then
                                          (bif (((!(AVal.isAgg w33)) && true) && true) then
                                            (Tr.ret ([(AVal.elt (AVal.agg [(AVal.str s1), (AVal.str s2), w32, w33, (AVal.int .i64 y31)]) true 5 0)], h))
                                          else
                                            Tr.fail)
                                        else
                                          Tr.fail))),
                                    (optK (cc28[3]?) fun w32 =>
                                      (optK (cc27[2]?) fun w33 =>
                                        (bif (((!(AVal.isAgg w33)) && true) && true) then
                                          (bif (((!(AVal.isAgg w32)) && true) && true) then
                                            (Tr.ret ([(AVal.elt (AVal.agg [(AVal.str s1), (AVal.str s2), w33, w32, (AVal.int .i64 y31)]) true 5 0)], h))
                                          else
                                            Tr.fail)
                                        else
                                          Tr.fail)))])))])))))))))))))
  else
    Tr.fail) := by kernel_rfl
/- f90 (*strandline/tree.node[string]).least -/
noncomputable def P90_0 (d k : Nat) (v0 : AVal) (h : Heap) : Tr Res :=
  loopPt Cw d 90 [true, false, true] [] k ⟨[(0, (EV.one (SV.val v0)))], []⟩ h
theorem P90_0_eq (d k : Nat) (v0 : AVal) (h : Heap) : P90_0 d (k + 1) v0 h =
  (nodeW 5 v0 fun cc1 =>
    (optK (cc1[2]?) fun w2 =>
      (bif AVal.isPtr w2 then
        (bif (!(AVal.isNilp w2)) then
          (nodeW 5 v0 fun cc3 =>
            (optK (cc3[2]?) fun w4 =>
              (P90_0 d k w4 h)))
        else
          (Tr.ret ([v0], h)))
      else
        Tr.fail))) := by kernel_rfl
theorem F90_eq (d : Nat) (v0 : AVal) (h : Heap) : evFn Cw (d + 1) 90 [v0] h =
  (P90_0 d rounds v0 h) := by kernel_rfl
/- f85 (*strandline/tree.node[string]).without -/
theorem F85_eq (d : Nat) (v0 : AVal) (s1 : List UInt8) (h : Heap) : evFn Cw (d + 1) 85 [v0, (AVal.str s1)] h =
  (nodeW 5 v0 fun cc1 =>
    (optK (cc1[0]?) fun w2 =>
      (strK w2 fun ss3 =>
        (bif (Go.Op.bytesLess s1 ss3) then
          (nodeW 5 v0 fun cc4 =>
            (optK (cc4[2]?) fun w5 =>
              (nodeW 5 v0 fun cc6 =>
                (optK (cc6[3]?) fun w7 =>
                  (runK (evFn Cw d 85 [w5, (AVal.str s1)] h) fun r8 h8 =>
                    (consK r8 fun w9 ws10 =>
                      (nilK ws10
                        (runK (evFn Cw d 89 [v0, w9, w7] h8) fun r11 h11 =>
                          (consK r11 fun w12 ws13 =>
                            (nilK ws13
                              (Tr.ret ([w12], h11))))))))))))
        else
          (nodeW 5 v0 fun cc14 =>
            (optK (cc14[0]?) fun w15 =>
              (strK w15 fun ss16 =>
                (bif (!((Go.Op.bytesLess s1 ss16) || (s1 == ss16))) then
                  (nodeW 5 v0 fun cc17 =>
                    (optK (cc17[2]?) fun w18 =>
                      (nodeW 5 v0 fun cc19 =>
                        (optK (cc19[3]?) fun w20 =>
                          (runK (evFn Cw d 85 [w20, (AVal.str s1)] h) fun r21 h21 =>
                            (consK r21 fun w22 ws23 =>
                              (nilK ws23
                                (runK (evFn Cw d 89 [v0, w18, w22] h21) fun r24 h24 =>
                                  (consK r24 fun w25 ws26 =>
                                    (nilK ws26
                                      (Tr.ret ([w25], h24))))))))))))
                else
                  (nodeW 5 v0 fun cc27 =>
                    (optK (cc27[2]?) fun w28 =>
                      (bif AVal.isPtr w28 then
                        (bif (AVal.isNilp w28) then
                          (nodeW 5 v0 fun cc29 =>
                            (optK (cc29[3]?) fun w30 =>
                              (Tr.ret ([w30], h))))
                        else
                          (nodeW 5 v0 fun cc31 =>
                            (optK (cc31[3]?) fun w32 =>
                              (bif AVal.isPtr w32 then
                                (bif (AVal.isNilp w32) then
                                  (nodeW 5 v0 fun cc33 =>
                                    (optK (cc33[2]?) fun w34 =>
                                      (Tr.ret ([w34], h))))
                                else
                                  (nodeW 5 v0 fun cc35 =>
                                    (optK (cc35[3]?) fun w36 =>
                                      (runK (evFn Cw d 90 [w36] h) fun r37 h37 =>
                                        (consK r37 fun w38 ws39 =>
                                          (nilK ws39
                                            (nodeW 5 v0 fun cc40 =>
                                              (optK (cc40[2]?) fun w41 =>
                                                (nodeW 5 v0 fun cc42 =>
                                                  (optK (cc42[3]?) fun w43 =>
                                                    (nodeW 5 w38 fun cc44 =>
                                                      (optK (cc44[0]?) fun w45 =>
                                                        (strK w45 fun ss46 =>
                                                          (runK (evFn Cw d 85 [w43, (AVal.str ss46)] h37) fun r47 h47 =>
                                                            (consK r47 fun w48 ws49 =>
                                                              (nilK ws49
                                                                (runK (evFn Cw d 89 [w38, w41, w48] h47) fun r50 h50 =>
                                                                  (consK r50 fun w51 ws52 =>
                                                                    (nilK ws52
                                                                      (Tr.ret ([w51], h50)))))))))))))))))))))
                              else
                                Tr.fail))))
                      else
                        Tr.fail))))))))))) := by kernel_rfl
/- f45 strandline/tree.New[string] -/
theorem F45_eq (d : Nat) (h : Heap) : evFn Cw (d + 1) 45 [] h =
  (Tr.ret ([(AVal.obj h.objs.length 0)], (Heap.push h (Go.Weave.Obj.cells ([AVal.nilp, (AVal.int .i64 0)].map HCell.val))))) := by kernel_rfl
/- f78 (*strandline/tree.Tree[string]).Seek -/
noncomputable def P78_0 (d k : Nat) (s0 : List UInt8) (v1 : AVal) (v2 : AVal) (h : Heap) : Tr Res :=
  loopPt Cw d 78 [true, true, false, true, true, true, true] [] k ⟨[(1, (EV.one (SV.val (AVal.str s0)))), (7, (EV.one (SV.val v1))), (8, (EV.one (SV.val v2)))], []⟩ h
theorem P78_0_eq (d k : Nat) (s0 : List UInt8) (v1 : AVal) (v2 : AVal) (h : Heap) : P78_0 d (k + 1) s0 v1 v2 h =
  (bif AVal.isPtr v2 then
    (bif (!(AVal.isNilp v2)) then
      (nodeW 5 v2 fun cc1 =>
        (optK (cc1[0]?) fun w2 =>
          (strK w2 fun ss3 =>
            (bif (Go.Op.bytesLess ss3 s0) then
              (nodeW 5 v2 fun cc4 =>
                (optK (cc4[3]?) fun w5 =>
                  (P78_0 d k s0 v1 w5 h)))
            else
              (nodeW 5 v2 fun cc6 =>
                (optK (cc6[2]?) fun w7 =>
                  (P78_0 d k s0 v2 w7 h)))))))
    else
      (runK (evFn Cw d 87 [v1] h) fun r8 h8 =>
        (consK r8 fun w9 ws10 =>
          (strK w9 fun ss11 =>
            (consK ws10 fun w12 ws13 =>
              (strK w12 fun ss14 =>
                (consK ws13 fun w15 ws16 =>
                  (boolK w15 fun bb17 =>
                    (nilK ws16
                      (Tr.ret ([(AVal.str ss11), (AVal.str ss14), (AVal.bool bb17)], h8)))))))))))
  else
    Tr.fail) := by kernel_rfl
theorem F78_eq (d : Nat) (i0 : Nat) (s1 : List UInt8) (h : Heap) : evFn Cw (d + 1) 78 [(AVal.obj i0 0), (AVal.str s1)] h =
  (optK (Heap.cell? h i0 0) fun z1 =>
    (P78_0 d rounds s1 AVal.nilp (HCell.toA z1) h)) := by kernel_rfl
/- f81 (*strandline/tree.Tree[string]).Get -/
theorem F81_eq (d : Nat) (i0 : Nat) (s1 : List UInt8) (h : Heap) : evFn Cw (d + 1) 81 [(AVal.obj i0 0), (AVal.str s1)] h =
  (runK (evFn Cw d 78 [(AVal.obj i0 0), (AVal.str s1)] h) fun r1 h1 =>
    (consK r1 fun w2 ws3 =>
      (strK w2 fun ss4 =>
        (consK ws3 fun w5 ws6 =>
          (strK w5 fun ss7 =>
            (consK ws6 fun w8 ws9 =>
              (boolK w8 fun bb10 =>
                (nilK ws9
                  (bif (!bb10) then
                    (Tr.ret ([(AVal.str []), (AVal.bool false)], h1))
                  else
                    (bif (!(ss4 == s1)) then (Tr.ret ([(AVal.str []), (AVal.bool false)], h1)) else (Tr.ret ([(AVal.str ss7), (AVal.bool true)], h1)))))))))))) := by kernel_rfl
/- f83 (*strandline/tree.Tree[string]).Put -/
theorem F83_eq (d : Nat) (i0 : Nat) (s1 : List UInt8) (s2 : List UInt8) (h : Heap) : evFn Cw (d + 1) 83 [(AVal.obj i0 0), (AVal.str s1), (AVal.str s2)] h =
  (runK (evFn Cw d 81 [(AVal.obj i0 0), (AVal.str s1)] h) fun r1 h1 =>
    (consK r1 fun w2 ws3 =>
      (strK w2 fun ss4 =>
        (consK ws3 fun w5 ws6 =>
          (boolK w5 fun bb7 =>
            (nilK ws6
              (optK (Heap.cell? h1 i0 0) fun z8 =>
                (runK (evFn Cw d 88 [(HCell.toA z8), (AVal.str s1), (AVal.str s2)] h1) fun r9 h9 =>
                  (consK r9 fun w10 ws11 =>
                    (nilK ws11
                      (bif (AVal.isAgg w10) then
                        Tr.fail
                      else
                        (optK (Heap.cell? h9 i0 0) fun _ =>
                          (bif (!bb7) then
                            (optK (Heap.cell? (Heap.setCell h9 i0 0 (HCell.val w10)) i0 1) fun z12 =>
                              (intK .i64 (HCell.toA z12) fun y13 =>
                                (optK (Heap.cell? (Heap.setCell h9 i0 0 (HCell.val w10)) i0 1) fun _ =>
                                  (Tr.ret ([(AVal.str ss4), (AVal.bool bb7)], (Heap.setCell (Heap.setCell h9 i0 0 (HCell.val w10)) i0 1 (HCell.val (AVal.int .i64 (IntKind.i64.wrap (y13 + 1))))))))))
                          else
                            (Tr.ret ([(AVal.str ss4), (AVal.bool bb7)], (Heap.setCell h9 i0 0 (HCell.val w10))))))))))))))))) := by kernel_rfl
/- f76 (*strandline/tree.Tree[string]).Delete -/
theorem F76_eq (d : Nat) (i0 : Nat) (s1 : List UInt8) (h : Heap) : evFn Cw (d + 1) 76 [(AVal.obj i0 0), (AVal.str s1)] h =
  (runK (evFn Cw d 81 [(AVal.obj i0 0), (AVal.str s1)] h) fun r1 h1 =>
    (consK r1 fun w2 ws3 =>
      (strK w2 fun ss4 =>
        (consK ws3 fun w5 ws6 =>
          (boolK w5 fun bb7 =>
            (nilK ws6
              (bif bb7 then
                (optK (Heap.cell? h1 i0 0) fun z8 =>
                  (runK (evFn Cw d 85 [(HCell.toA z8), (AVal.str s1)] h1) fun r9 h9 =>
                    (consK r9 fun w10 ws11 =>
                      (nilK ws11
                        (bif (AVal.isAgg w10) then
                          Tr.fail
                        else
                          (optK (Heap.cell? h9 i0 0) fun _ =>
                            (optK (Heap.cell? (Heap.setCell h9 i0 0 (HCell.val w10)) i0 1) fun z12 =>
                              (intK .i64 (HCell.toA z12) fun y13 =>
                                (optK (Heap.cell? (Heap.setCell h9 i0 0 (HCell.val w10)) i0 1) fun _ =>
                                  (Tr.ret ([(AVal.str ss4), (AVal.bool bb7)], (Heap.setCell (Heap.setCell h9 i0 0 (HCell.val w10)) i0 1 (HCell.val (AVal.int .i64 (IntKind.i64.wrap (y13 - 1))))))))))))))))
              else
                (Tr.ret ([(AVal.str ss4), (AVal.bool bb7)], h1))))))))) := by kernel_rfl
/- f44 (*strandline/tree.Tree[string]).Len -/
theorem F44_eq (d : Nat) (i0 : Nat) (h : Heap) : evFn Cw (d + 1) 44 [(AVal.obj i0 0)] h =
  (optK (Heap.cell? h i0 1) fun z1 =>
    (intK .i64 (HCell.toA z1) fun y2 =>
      (Tr.ret ([(AVal.int .i64 y2)], h)))) := by kernel_rfl
/- f55 strandline/strandlineref31.Delete -/
noncomputable def P55_0 (d k : Nat) (f0 : Bool) (l1 : List AVal) (s2 : List UInt8) (l3 : List AVal) (x4 : Int) (h : Heap) : Tr Res :=
  loopPt Cw d 55 [true, true, false, true, true] [] k ⟨[(0, (EV.one (SV.val (AVal.sl f0 3 l1)))), (1, (EV.one (SV.val (AVal.str s2)))), (5, (EV.one (SV.own (tokOf 5 0) 3 l3))), (6, (EV.one (SV.val (AVal.int .i64 x4))))], []⟩ h
theorem P55_0_eq (d k : Nat) (f0 : Bool) (l1 : List AVal) (s2 : List UInt8) (l3 : List AVal) (x4 : Int) (h : Heap) : P55_0 d (k + 1) f0 l1 s2 l3 x4 h =
  (bif (decide ((x4 : Int) < (l1.length : Int))) then
    (bif (decide ((0 : Int) ≤ x4) && decide ((x4 : Int) < (l1.length : Int))) then
      (optK ((AVal.cells (l1.getD (Int.toNat x4) AVal.undef))[0]?) fun w1 =>
        (strK w1 fun ss2 =>
          (bif (!(ss2 == s2)) then
            (bif (decide ((0 : Int) ≤ x4) && decide ((x4 : Int) < (l1.length : Int))) then
              (aggK 2 (l1.getD (Int.toNat x4) AVal.undef) fun cc3 =>
                (bif ((cc3.length == 2) && true) then
                  (bif decide ((l3.length + (1 : Nat)) * 32 ≤ 140737488355328) then (P55_0 d k f0 l1 s2 (l3 ++ [(AVal.agg cc3)]) (IntKind.i64.wrap (x4 + 1)) h) else Tr.fail)
                else
                  Tr.fail))
            else
              Tr.fail)
          else
            (P55_0 d k f0 l1 s2 l3 (IntKind.i64.wrap (x4 + 1)) h))))
    else
      Tr.fail)
  else
    (Tr.ret ([(AVal.sl false 3 l3)], h))) := by kernel_rfl
theorem F55_eq (d : Nat) (f0 : Bool) (l1 : List AVal) (s2 : List UInt8) (h : Heap) : evFn Cw (d + 1) 55 [(AVal.sl f0 3 l1), (AVal.str s2)] h =
  (P55_0 d rounds f0 l1 s2 [] 0 h) := by kernel_rfl
noncomputable def P54_0 (d k : Nat) (l0 : List AVal) (s1 : List UInt8) (s2 : List UInt8) (l3 : List AVal) (b4 : Bool) (x5 : Int) (h : Heap) : Tr Res :=
  loopPt Cw d 54 [true, true, true, true, false, true, true] [] k ⟨[(0, (EV.one (SV.own (tokOf 0 0) 3 l0))), (1, (EV.one (SV.val (AVal.str s1)))), (2, (EV.one (SV.val (AVal.str s2)))), (7, (EV.one (SV.own (tokOf 7 0) 3 l3))), (8, (EV.one (SV.val (AVal.bool b4)))), (9, (EV.one (SV.val (AVal.int .i64 x5))))], []⟩ h
theorem P54_0_eq (d k : Nat) (l0 : List AVal) (s1 : List UInt8) (s2 : List UInt8) (l3 : List AVal) (b4 : Bool) (x5 : Int) (h : Heap) : P54_0 d (k + 1) l0 s1 s2 l3 b4 x5 h =
  (bif (decide ((x5 : Int) < (l0.length : Int))) then
    (bif (!b4) then
      (bif (decide ((0 : Int) ≤ x5) && decide ((x5 : Int) < (l0.length : Int))) then
        (optK ((AVal.cells (l0.getD (Int.toNat x5) AVal.undef))[0]?) fun w1 =>
          (strK w1 fun ss2 =>
            (bif (!((Go.Op.bytesLess ss2 s1) || (ss2 == s1))) then
              (bif decide ((l3.length + (1 : Nat)) * 32 ≤ 140737488355328) then
                (bif (decide ((0 : Int) ≤ x5) && decide ((x5 : Int) < (l0.length : Int))) then
                  (aggK 2 (l0.getD (Int.toNat x5) AVal.undef) fun cc3 =>
                    (bif ((cc3.length == 2) && true) then
                      (bif decide (((l3 ++ [(AVal.agg [(AVal.str s1), (AVal.str s2)])]).length + (1 : Nat)) * 32 ≤ 140737488355328) then
                        (P54_0 d k l0 s1 s2 ((l3 ++ [(AVal.agg [(AVal.str s1), (AVal.str s2)])]) ++ [(AVal.agg cc3)]) true (IntKind.i64.wrap (x5 + 1)) h)
                      else
                        Tr.fail)
                    else
                      Tr.fail))
                else
                  Tr.fail)
              else
                Tr.fail)
            else
              (bif (decide ((0 : Int) ≤ x5) && decide ((x5 : Int) < (l0.length : Int))) then
                (aggK 2 (l0.getD (Int.toNat x5) AVal.undef) fun cc4 =>
                  (bif ((cc4.length == 2) && true) then
                    (bif decide ((l3.length + (1 : Nat)) * 32 ≤ 140737488355328) then (P54_0 d k l0 s1 s2 (l3 ++ [(AVal.agg cc4)]) b4 (IntKind.i64.wrap (x5 + 1)) h) else Tr.fail)
                  else
                    Tr.fail))
              else
                Tr.fail))))
      else
        Tr.fail)
    else
      (bif (decide ((0 : Int) ≤ x5) && decide ((x5 : Int) < (l0.length : Int))) then
        (aggK 2 (l0.getD (Int.toNat x5) AVal.undef) fun cc5 =>
          (bif ((cc5.length == 2) && true) then
            (bif decide ((l3.length + (1 : Nat)) * 32 ≤ 140737488355328) then (P54_0 d k l0 s1 s2 (l3 ++ [(AVal.agg cc5)]) b4 (IntKind.i64.wrap (x5 + 1)) h) else Tr.fail)
          else
            Tr.fail))
      else
        Tr.fail))
  else
    (bif (!b4) then
      (bif decide ((l3.length + (1 : Nat)) * 32 ≤ 140737488355328) then (Tr.ret ([(AVal.sl false 3 (l3 ++ [(AVal.agg [(AVal.str s1), (AVal.str s2)])]))], h)) else Tr.fail)
    else
      (Tr.ret ([(AVal.sl false 3 l3)], h)))) := by kernel_rfl
theorem F54_eq (d : Nat) (f0 : Bool) (l1 : List AVal) (s2 : List UInt8) (s3 : List UInt8) (h : Heap) : evFn Cw (d + 1) 54 [(AVal.sl f0 3 l1), (AVal.str s2), (AVal.str s3)] h =
  (runK (evFn Cw d 55 [(AVal.sl f0 3 l1), (AVal.str s2)] h) fun r1 h1 =>
    (consK r1 fun w2 ws3 =>
      (slOK 3 w2 fun es4 =>
        (nilK ws3
          (P54_0 d rounds es4 s2 s3 [] false 0 h1))))) := by kernel_rfl
noncomputable def P15_0 (d k : Nat) (f0 : Bool) (l1 : List AVal) (f2 : Bool) (l3 : List AVal) (x4 : Int) (h : Heap) : Tr Res :=
  loopPt Cw d 15 [true, true, false, true, true] [] k ⟨[(0, (EV.one (SV.val (AVal.sl f0 3 l1)))), (1, (EV.one (SV.val (AVal.sl f2 3 l3)))), (5, (EV.one (SV.val (AVal.int .i64 x4))))], []⟩ h
theorem P15_0_eq (d k : Nat) (f0 : Bool) (l1 : List AVal) (f2 : Bool) (l3 : List AVal) (x4 : Int) (h : Heap) : P15_0 d (k + 1) f0 l1 f2 l3 x4 h =
  (bif (decide ((x4 : Int) < (l1.length : Int))) then
    (bif (decide ((0 : Int) ≤ x4) && decide ((x4 : Int) < (l1.length : Int))) then
      (aggK 2 (l1.getD (Int.toNat x4) AVal.undef) fun cc1 =>
        (bif (decide ((0 : Int) ≤ x4) && decide ((x4 : Int) < (l3.length : Int))) then
          (aggK 2 (l3.getD (Int.toNat x4) AVal.undef) fun cc2 =>
            (bif ((plainOk Cw.P 68 (AVal.agg cc1)) && (plainOk Cw.P 68 (AVal.agg cc2))) then
              (bif (!(eqCells cc1 cc2)) then (Tr.ret ([(AVal.bool false)], h)) else (P15_0 d k f0 l1 f2 l3 (IntKind.i64.wrap (x4 + 1)) h))
            else
              Tr.fail))
        else
          Tr.fail))
    else
      Tr.fail)
  else
    (Tr.ret ([(AVal.bool true)], h))) := by kernel_rfl
theorem F15_eq (d : Nat) (f0 : Bool) (l1 : List AVal) (f2 : Bool) (l3 : List AVal) (h : Heap) : evFn Cw (d + 1) 15 [(AVal.sl f0 3 l1), (AVal.sl f2 3 l3)] h =
  (bif (((l1.length : Int) : Int) != (l3.length : Int)) then (Tr.ret ([(AVal.bool false)], h)) else (P15_0 d rounds f0 l1 f2 l3 0 h)) := by kernel_rfl
end Go.Proofs.YtdlcjibefbnckaaDoor.Wa
end

section
/- The program's plain types, as Lean's. -/
namespace Go.Weave
structure Rec where
  kind : Int
  chain : Int
  lsn : Int
  prev : Int
  full : Bool
  data : List UInt8
def Rec.C (r : Rec) : List AVal := [.int .i64 r.kind, .int .i64 r.chain, .int .i64 r.lsn, .int .i64 r.prev, .sl r.full 0 (bys r.data)]
def Rec.A (r : Rec) : AVal := .agg r.C
def i64ok (n : Int) : Prop := -9223372036854775808 ≤ n ∧ n ≤ 9223372036854775807
def Rec.ok (r : Rec) : Prop := i64ok r.kind ∧ i64ok r.chain ∧ i64ok r.lsn ∧ i64ok r.prev ∧ r.data.length ≤ 140737488351232 ∧ r.full = false
structure Change where
  key : List UInt8
  was : Bool
  is : Bool
  old : List UInt8
  new : List UInt8
  next : Int
def Change.C (c : Change) : List AVal := [.str c.key, .bool c.was, .bool c.is, .str c.old, .str c.new, .int .i64 c.next]
def Change.A (c : Change) : AVal := .agg c.C
def Change.ok (c : Change) : Prop := c.key.length ≤ 140737488351232 ∧ True ∧ True ∧ c.old.length ≤ 140737488351232 ∧ c.new.length ≤ 140737488351232 ∧ i64ok c.next
structure KOp where
  kind : Int
  key : List UInt8
  val : List UInt8
def KOp.C (o : KOp) : List AVal := [.int .i64 o.kind, .str o.key, .str o.val]
def KOp.A (o : KOp) : AVal := .agg o.C
def KOp.ok (o : KOp) : Prop := i64ok o.kind ∧ o.key.length ≤ 140737488351232 ∧ o.val.length ≤ 140737488351232
structure KPair where
  key : List UInt8
  val : List UInt8
def KPair.C (o : KPair) : List AVal := [.str o.key, .str o.val]
def KPair.A (o : KPair) : AVal := .agg o.C
def KPair.ok (o : KPair) : Prop := o.key.length ≤ 140737488351232 ∧ o.val.length ≤ 140737488351232
structure IPlace where
  seq : Int
  at' : Int
  deriving DecidableEq
def IPlace.C (o : IPlace) : List AVal := [.int .i64 o.seq, .int .i64 o.at']
def IPlace.A (o : IPlace) : AVal := .agg o.C
def IPlace.ok (o : IPlace) : Prop := i64ok o.seq ∧ i64ok o.at'
structure Act26 where
  kind : Int
  chain : Int
  at' : IPlace
  n : Int
def Act26.C (a : Act26) : List AVal := [.int .u64 a.kind, .int .i64 a.chain, .int .i64 a.at'.seq, .int .i64 a.at'.at', .int .i64 a.n]
def Act26.A (a : Act26) : AVal := .agg a.C
def Act26.ok (a : Act26) : Prop := (0 ≤ a.kind ∧ a.kind ≤ 18446744073709551615) ∧ i64ok a.chain ∧ a.at'.ok ∧ i64ok a.n
structure Act32 where
  kind : Int
  key : List UInt8
def Act32.C (a : Act32) : List AVal := [.int .u64 a.kind, .str a.key]
def Act32.A (a : Act32) : AVal := .agg a.C
def Act32.ok (a : Act32) : Prop := (0 ≤ a.kind ∧ a.kind ≤ 18446744073709551615) ∧ a.key.length ≤ 140737488351232
structure Act43 where
  drop : Bool
  who : Int
  key : List UInt8
def Act43.C (a : Act43) : List AVal := [.bool a.drop, .int .i64 a.who, .str a.key]
def Act43.A (a : Act43) : AVal := .agg a.C
def Act43.ok (a : Act43) : Prop := True ∧ i64ok a.who ∧ a.key.length ≤ 140737488351232
structure RPoint where
  pieces : Int
  pairs : Int
  sum : Int
def RPoint.C (a : RPoint) : List AVal := [.int .i64 a.pieces, .int .i64 a.pairs, .int .u32 a.sum]
def RPoint.A (a : RPoint) : AVal := .agg a.C
def RPoint.ok (a : RPoint) : Prop := i64ok a.pieces ∧ i64ok a.pairs ∧ (0 ≤ a.sum ∧ a.sum ≤ 4294967295)
end Go.Weave
end

section
/- Balanced trees of texts, as plain Lean. -/
namespace Go.Weave
set_option maxRecDepth 100000
set_option linter.unusedSimpArgs false
set_option linter.unusedVariables false
set_option linter.unusedSectionVars false

/-! ### The order of texts -/
abbrev blt (a b : List UInt8) : Bool := Go.Op.bytesLess a b
theorem blt_irr : ∀ a : List UInt8, blt a a = false
  | [] => rfl
  | a :: x => by
    have := blt_irr x
    simp only [blt] at this
    simp [blt, Go.Op.bytesLess, this]
theorem blt_trans : ∀ {a b c : List UInt8}, blt a b = true → blt b c = true → blt a c = true
  | [], [], _, h, _ => by simp [blt, Go.Op.bytesLess] at h
  | [], _ :: _, [], _, h => by simp [blt, Go.Op.bytesLess] at h
  | [], _ :: _, _ :: _, _, _ => rfl
  | _ :: _, [], _, h, _ => by simp [blt, Go.Op.bytesLess] at h
  | _ :: _, _ :: _, [], _, h => by simp [blt, Go.Op.bytesLess] at h
  | a :: x, b :: y, c :: z, h1, h2 => by
    have ih := fun h1 h2 => blt_trans (a := x) (b := y) (c := z) h1 h2
    simp only [blt] at ih
    simp only [blt, Go.Op.bytesLess, Bool.or_eq_true, decide_eq_true_eq, Bool.and_eq_true, beq_iff_eq] at h1 h2 ⊢
    rcases h1 with h1 | ⟨h1, h1'⟩ <;> rcases h2 with h2 | ⟨h2, h2'⟩
    · exact .inl (UInt8.lt_trans h1 h2)
    · subst h2; exact .inl h1
    · subst h1; exact .inl h2
    · subst h1; subst h2; exact .inr ⟨rfl, ih h1' h2'⟩
theorem blt_tri : ∀ {a b : List UInt8}, blt a b = false → blt b a = false → a = b
  | [], [], _, _ => rfl
  | [], _ :: _, h, _ => by simp [blt, Go.Op.bytesLess] at h
  | _ :: _, [], _, h => by simp [blt, Go.Op.bytesLess] at h
  | a :: x, b :: y, h1, h2 => by
    simp only [blt, Go.Op.bytesLess, Bool.or_eq_false_iff, decide_eq_false_iff_not, Bool.and_eq_false_iff, beq_eq_false_iff_ne] at h1 h2
    have hab : a = b := by
      have h3 := h1.1; have h4 := h2.1
      exact UInt8.le_antisymm (UInt8.not_lt.1 h4) (UInt8.not_lt.1 h3)
    subst hab
    have e : x = y := blt_tri (by simpa [blt] using h1.2) (by simpa [blt] using h2.2)
    rw [e]
theorem blt_asym {a b : List UInt8} (h : blt a b = true) : blt b a = false := by
  cases hb : blt b a
  · rfl
  · have := blt_trans h hb
    rw [blt_irr] at this; simp at this
theorem blt_ne {a b : List UInt8} (h : blt a b = true) : a ≠ b := fun e => by rw [e, blt_irr] at h; simp at h

/-! ### Sorted pairs -/
def Srt (l : List KPair) : Prop := l.Pairwise fun a b => blt a.key b.key = true
def lput (k v : List UInt8) (l : List KPair) : List KPair := l.filter (fun p => blt p.key k) ++ ⟨k, v⟩ :: l.filter (fun p => blt k p.key)
def ldel (k : List UInt8) (l : List KPair) : List KPair := l.filter (fun p => p.key != k)
def lget (k : List UInt8) (l : List KPair) : Option KPair := l.find? (fun p => p.key == k)
def lseek (k : List UInt8) (l : List KPair) : Option KPair := l.find? (fun p => !blt p.key k)
theorem filter_none {p : KPair → Bool} {l : List KPair} (h : ∀ x ∈ l, p x = false) : l.filter p = [] := by
  rw [List.filter_eq_nil_iff]; intro x hx; rw [h x hx]; simp
theorem filter_all {p : KPair → Bool} {l : List KPair} (h : ∀ x ∈ l, p x = true) : l.filter p = l := List.filter_eq_self.2 h
theorem Srt.mid {a b : List KPair} {p : KPair} (h : Srt (a ++ p :: b)) : Srt a ∧ Srt b ∧ (∀ x ∈ a, blt x.key p.key = true) ∧ (∀ x ∈ b, blt p.key x.key = true) := by
  obtain ⟨h1, h2, h3⟩ := List.pairwise_append.1 h
  obtain ⟨h4, h5⟩ := List.pairwise_cons.1 h2
  exact ⟨h1, h5, fun x hx => h3 x hx p (by simp), h4⟩
theorem lput_lt {a b : List KPair} {p : KPair} {k v : List UInt8} (h : Srt (a ++ p :: b)) (hk : blt k p.key = true) : lput k v (a ++ p :: b) = lput k v a ++ p :: b := by
  obtain ⟨_, _, h3, h4⟩ := h.mid
  have e1 : (p :: b).filter (fun q => blt q.key k) = [] := filter_none fun x hx => by
    rcases List.mem_cons.1 hx with rfl | hx
    · exact blt_asym hk
    · exact blt_asym (blt_trans hk (h4 x hx))
  have e2 : (p :: b).filter (fun q => blt k q.key) = p :: b := filter_all fun x hx => by
    rcases List.mem_cons.1 hx with rfl | hx
    · exact hk
    · exact blt_trans hk (h4 x hx)
  unfold lput
  rw [List.filter_append, List.filter_append, e1, e2]
  simp
theorem lput_gt {a b : List KPair} {p : KPair} {k v : List UInt8} (h : Srt (a ++ p :: b)) (hk : blt p.key k = true) : lput k v (a ++ p :: b) = a ++ p :: lput k v b := by
  obtain ⟨_, _, h3, h4⟩ := h.mid
  have e1 : a.filter (fun q => blt q.key k) = a := filter_all fun x hx => blt_trans (h3 x hx) hk
  have e2 : a.filter (fun q => blt k q.key) = [] := filter_none fun x hx => blt_asym (blt_trans (h3 x hx) hk)
  unfold lput
  rw [List.filter_append, List.filter_append, e1, e2, List.filter_cons, List.filter_cons, if_pos hk, if_neg (by rw [blt_asym hk]; simp)]
  simp
theorem lput_eq {a b : List KPair} {k v w : List UInt8} (h : Srt (a ++ ⟨k, w⟩ :: b)) : lput k v (a ++ ⟨k, w⟩ :: b) = a ++ ⟨k, v⟩ :: b := by
  obtain ⟨_, _, h3, h4⟩ := h.mid
  have e1 : a.filter (fun q => blt q.key k) = a := filter_all fun x hx => h3 x hx
  have e2 : a.filter (fun q => blt k q.key) = [] := filter_none fun x hx => blt_asym (h3 x hx)
  have e3 : b.filter (fun q => blt q.key k) = [] := filter_none fun x hx => blt_asym (h4 x hx)
  have e4 : b.filter (fun q => blt k q.key) = b := filter_all fun x hx => h4 x hx
  unfold lput
  rw [List.filter_append, List.filter_append, e1, e2, List.filter_cons, List.filter_cons, if_neg (by simp [blt_irr]), if_neg (by simp [blt_irr]), e3, e4]
  simp
theorem ldel_none {k : List UInt8} {l : List KPair} (h : ∀ x ∈ l, x.key ≠ k) : ldel k l = l := filter_all fun x hx => by simpa using h x hx
theorem ldel_lt {a b : List KPair} {p : KPair} {k : List UInt8} (h : Srt (a ++ p :: b)) (hk : blt k p.key = true) : ldel k (a ++ p :: b) = ldel k a ++ p :: b := by
  obtain ⟨_, _, h3, h4⟩ := h.mid
  have e : ldel k (p :: b) = p :: b := ldel_none fun x hx => by
    rcases List.mem_cons.1 hx with rfl | hx
    · exact (blt_ne hk).symm
    · exact (blt_ne (blt_trans hk (h4 x hx))).symm
  unfold ldel at e ⊢
  rw [List.filter_append, e]
theorem ldel_gt {a b : List KPair} {p : KPair} {k : List UInt8} (h : Srt (a ++ p :: b)) (hk : blt p.key k = true) : ldel k (a ++ p :: b) = a ++ p :: ldel k b := by
  obtain ⟨_, _, h3, h4⟩ := h.mid
  have e : ldel k a = a := ldel_none fun x hx => blt_ne (blt_trans (h3 x hx) hk)
  unfold ldel at e ⊢
  rw [List.filter_append, e, List.filter_cons, if_pos (by simpa using blt_ne hk)]
theorem ldel_eq {a b : List KPair} {p : KPair} (h : Srt (a ++ p :: b)) : ldel p.key (a ++ p :: b) = a ++ b := by
  obtain ⟨_, _, h3, h4⟩ := h.mid
  have e1 : ldel p.key a = a := ldel_none fun x hx => blt_ne (h3 x hx)
  have e2 : ldel p.key b = b := ldel_none fun x hx => (blt_ne (h4 x hx)).symm
  unfold ldel at e1 e2 ⊢
  rw [List.filter_append, e1, List.filter_cons, if_neg (by simp), e2]
theorem Srt.put {k v : List UInt8} {l : List KPair} (h : Srt l) : Srt (lput k v l) := by
  unfold lput
  refine List.pairwise_append.2 ⟨h.sublist List.filter_sublist, List.pairwise_cons.2 ⟨fun x hx => (List.mem_filter.1 hx).2, h.sublist List.filter_sublist⟩, fun x hx y hy => ?_⟩
  have h1 := (List.mem_filter.1 hx).2
  rcases List.mem_cons.1 hy with rfl | hy
  · exact h1
  · exact blt_trans h1 (List.mem_filter.1 hy).2
theorem Srt.del {k : List UInt8} {l : List KPair} (h : Srt l) : Srt (ldel k l) := h.sublist List.filter_sublist

/-! ### Trees -/
inductive Nd where
  | nil
  | node (k v : List UInt8) (l r : Nd) (h : Int)
def Nd.A : Nd → AVal
  | .nil => .nilp
  | .node k v l r h => .elt (.agg [.str k, .str v, l.A, r.A, .int .i64 h]) true 5 0
def Nd.high : Nd → Int
  | .nil => 0
  | .node _ _ _ _ h => h
def Nd.toL : Nd → List KPair
  | .nil => []
  | .node k v l r _ => l.toL ++ ⟨k, v⟩ :: r.toL
def Nd.dep : Nd → Nat
  | .nil => 0
  | .node _ _ l r _ => 1 + max l.dep r.dep
def Nd.Avl : Nd → Prop
  | .nil => True
  | .node _ _ l r h => l.Avl ∧ r.Avl ∧ h = 1 + max l.high r.high ∧ l.high - r.high ≤ 1 ∧ r.high - l.high ≤ 1
def Nd.mk (k v : List UInt8) (l r : Nd) : Nd := .node k v l r (1 + max l.high r.high)
def Nd.level (k v : List UInt8) (l r : Nd) : Nd :=
  if l.high > r.high + 1 then
    match l with
    | .node lk lv ll lr _ => if ll.high ≥ lr.high then .mk lk lv ll (.mk k v lr r) else
        (match lr with
        | .node rk rv rl rr _ => .mk rk rv (.mk lk lv ll rl) (.mk k v rr r)
        | .nil => .mk k v l r)
    | .nil => .mk k v l r
  else if r.high > l.high + 1 then
    match r with
    | .node rk rv rl rr _ => if rr.high ≥ rl.high then .mk rk rv (.mk k v l rl) rr else
        (match rl with
        | .node lk lv ll lr _ => .mk lk lv (.mk k v l ll) (.mk rk rv lr rr)
        | .nil => .mk k v l r)
    | .nil => .mk k v l r
  else .mk k v l r
def Nd.put (k v : List UInt8) : Nd → Nd
  | .nil => .node k v .nil .nil 1
  | .node k' v' l r h => if blt k k' then .level k' v' (l.put k v) r else if blt k' k then .level k' v' l (r.put k v) else .node k v l r h
def Nd.least (k v : List UInt8) : Nd → List UInt8 × List UInt8
  | .nil => (k, v)
  | .node k' v' l _ _ => l.least k' v'
def Nd.without (k : List UInt8) : Nd → Nd
  | .nil => .nil
  | .node k' v' l r h => if blt k k' then .level k' v' (l.without k) r else if blt k' k then .level k' v' l (r.without k) else
      match l, r with
      | .nil, r => r
      | l, .nil => l
      | l, .node rk rv rl rr rh => .level (rl.least rk rv).1 (rl.least rk rv).2 l ((Nd.node rk rv rl rr rh).without (rl.least rk rv).1)

theorem Nd.toL_node (k v : List UInt8) (l r : Nd) (h : Int) : (Nd.node k v l r h).toL = l.toL ++ ⟨k, v⟩ :: r.toL := rfl
theorem Nd.toL_mk (k v : List UInt8) (l r : Nd) : (Nd.mk k v l r).toL = l.toL ++ ⟨k, v⟩ :: r.toL := rfl
theorem Nd.toL_level (k v : List UInt8) (l r : Nd) : (Nd.level k v l r).toL = l.toL ++ ⟨k, v⟩ :: r.toL := by
  unfold Nd.level
  split
  · split
    · split
      · simp [Nd.toL_mk, Nd.toL]
      · split
        · simp [Nd.toL_mk, Nd.toL]
        · rfl
    · rfl
  · split
    · split
      · split
        · simp [Nd.toL_mk, Nd.toL]
        · split
          · simp [Nd.toL_mk, Nd.toL]
          · rfl
      · rfl
    · rfl
theorem Nd.high_node (k v : List UInt8) (l r : Nd) (h : Int) : (Nd.node k v l r h).high = h := rfl
theorem Nd.high_nil : Nd.nil.high = 0 := rfl
theorem Nd.Avl.high_nn : ∀ {t : Nd}, t.Avl → 0 ≤ t.high
  | .nil, _ => Int.le_refl _
  | .node _ _ l r _, h => by
    have h1 := Nd.Avl.high_nn h.1
    have h2 := h.2.2.1
    simp only [Nd.high_node]; omega
theorem Nd.Avl.mk {k v : List UInt8} {l r : Nd} (hl : l.Avl) (hr : r.Avl) (h1 : l.high - r.high ≤ 1) (h2 : r.high - l.high ≤ 1) : (Nd.mk k v l r).Avl := ⟨hl, hr, rfl, h1, h2⟩
theorem Nd.high_mk (k v : List UInt8) (l r : Nd) : (Nd.mk k v l r).high = 1 + max l.high r.high := rfl
theorem Nd.level_avl {k v : List UInt8} {l r : Nd} (hl : l.Avl) (hr : r.Avl) (h1 : l.high - r.high ≤ 2) (h2 : r.high - l.high ≤ 2) :
    (Nd.level k v l r).Avl ∧ max l.high r.high ≤ (Nd.level k v l r).high ∧ (Nd.level k v l r).high ≤ 1 + max l.high r.high ∧ (l.high - r.high ≤ 1 → r.high - l.high ≤ 1 → (Nd.level k v l r).high = 1 + max l.high r.high) := by
  unfold Nd.level
  split
  · rename_i c1
    split
    · rename_i lk lv ll lr lh
      obtain ⟨a1, a2, a3, a4, a5⟩ := hl
      simp only [Nd.high_node, Nd.high_nil] at c1 h1 h2
      split
      · rename_i c2
        refine ⟨.mk a1 (.mk a2 hr ?_ ?_) ?_ ?_, ?_, ?_, ?_⟩ <;> (try simp only [Nd.high_mk, Nd.high_node]) <;> omega
      · rename_i c2
        split
        · rename_i rk rv rl rr rh
          obtain ⟨b1, b2, b3, b4, b5⟩ := a2
          simp only [Nd.high_node, Nd.high_nil] at c2 a3 a4 a5
          refine ⟨.mk (.mk a1 b1 ?_ ?_) (.mk b2 hr ?_ ?_) ?_ ?_, ?_, ?_, ?_⟩ <;> (try simp only [Nd.high_mk, Nd.high_node]) <;> omega
        · have := Nd.Avl.high_nn a1
          simp only [Nd.high_node, Nd.high_nil] at c2
          omega
    · have := Nd.Avl.high_nn hr
      simp only [Nd.high_node, Nd.high_nil] at c1
      omega
  · rename_i c1
    split
    · rename_i c2
      split
      · rename_i rk rv rl rr rh
        obtain ⟨a1, a2, a3, a4, a5⟩ := hr
        simp only [Nd.high_node, Nd.high_nil] at c1 c2 h1 h2
        split
        · rename_i c3
          refine ⟨.mk (.mk hl a1 ?_ ?_) a2 ?_ ?_, ?_, ?_, ?_⟩ <;> (try simp only [Nd.high_mk, Nd.high_node]) <;> omega
        · rename_i c3
          split
          · rename_i lk lv ll lr lh
            obtain ⟨b1, b2, b3, b4, b5⟩ := a1
            simp only [Nd.high_node, Nd.high_nil] at c3 a3 a4 a5
            refine ⟨.mk (.mk hl b1 ?_ ?_) (.mk b2 a2 ?_ ?_) ?_ ?_, ?_, ?_, ?_⟩ <;> (try simp only [Nd.high_mk, Nd.high_node]) <;> omega
          · have := Nd.Avl.high_nn a2
            simp only [Nd.high_node, Nd.high_nil] at c3
            omega
      · have := Nd.Avl.high_nn hl
        simp only [Nd.high_node, Nd.high_nil] at c2
        omega
    · rename_i c2
      refine ⟨.mk hl hr ?_ ?_, ?_, ?_, ?_⟩ <;> (try simp only [Nd.high_mk]) <;> first | omega | (intro _ _; trivial)
theorem Nd.put_avl {k v : List UInt8} : ∀ {t : Nd}, t.Avl → (t.put k v).Avl ∧ t.high ≤ (t.put k v).high ∧ (t.put k v).high ≤ t.high + 1
  | .nil, _ => by simp [Nd.put, Nd.Avl, Nd.high]
  | .node k' v' l r h, a => by
    obtain ⟨a1, a2, a3, a4, a5⟩ := a
    unfold Nd.put
    split
    · obtain ⟨b1, b2, b3⟩ := Nd.put_avl (k := k) (v := v) a1
      obtain ⟨c1, c2, c3, c4⟩ := Nd.level_avl (k := k') (v := v') b1 a2 (by omega) (by omega)
      refine ⟨c1, ?_, ?_⟩ <;> simp only [Nd.high_node] <;> omega
    · split
      · obtain ⟨b1, b2, b3⟩ := Nd.put_avl (k := k) (v := v) a2
        obtain ⟨c1, c2, c3, c4⟩ := Nd.level_avl (k := k') (v := v') a1 b1 (by omega) (by omega)
        refine ⟨c1, ?_, ?_⟩ <;> simp only [Nd.high_node] <;> omega
      · refine ⟨⟨a1, a2, a3, a4, a5⟩, ?_, ?_⟩ <;> simp only [Nd.high_node] <;> omega
theorem Nd.put_toL {k v : List UInt8} : ∀ {t : Nd}, Srt t.toL → (t.put k v).toL = lput k v t.toL
  | .nil, _ => rfl
  | .node k' v' l r h, hs => by
    unfold Nd.put
    rw [Nd.toL_node] at hs ⊢
    obtain ⟨s1, s2, _, _⟩ := hs.mid
    split
    · rename_i c
      rw [Nd.toL_level, Nd.put_toL s1]
      exact (lput_lt hs c).symm
    · rename_i c
      split
      · rename_i c2
        rw [Nd.toL_level, Nd.put_toL s2]
        exact (lput_gt hs c2).symm
      · rename_i c2
        have e : k = k' := blt_tri (by simpa using c) (by simpa using c2)
        subst e
        exact (lput_eq hs).symm
theorem Nd.least_toL : ∀ {t : Nd} {k v : List UInt8} (b : List KPair), ∃ rest, t.toL ++ ⟨k, v⟩ :: b = ⟨(t.least k v).1, (t.least k v).2⟩ :: rest
  | .nil, k, v, b => ⟨b, rfl⟩
  | .node k' v' l r h, k, v, b => by
    obtain ⟨rest, e⟩ := Nd.least_toL (t := l) (k := k') (v := v') (r.toL ++ ⟨k, v⟩ :: b)
    refine ⟨rest, ?_⟩
    rw [Nd.toL_node]; unfold Nd.least
    rw [← e]; simp
theorem Nd.without_ok {k : List UInt8} : ∀ {t : Nd}, t.Avl → Srt t.toL → (∃ p ∈ t.toL, p.key = k) → (t.without k).Avl ∧ t.high - 1 ≤ (t.without k).high ∧ (t.without k).high ≤ t.high ∧ (t.without k).toL = ldel k t.toL
  | .nil, _, _, h => by obtain ⟨p, hp, _⟩ := h; simp [Nd.toL] at hp
  | .node k' v' l r h, a, hs, hk => by
    obtain ⟨a1, a2, a3, a4, a5⟩ := a
    rw [Nd.toL_node] at hs ⊢
    simp only [Nd.toL_node] at hk
    obtain ⟨s1, s2, s3, s4⟩ := hs.mid
    unfold Nd.without
    split
    · rename_i c
      have hk1 : ∃ p ∈ l.toL, p.key = k := by
        obtain ⟨p, hp, e⟩ := hk
        rcases List.mem_append.1 hp with hp | hp
        · exact ⟨p, hp, e⟩
        · rcases List.mem_cons.1 hp with rfl | hp
          · subst e; rw [blt_irr] at c; simp at c
          · have := blt_asym (s4 p hp)
            rw [e] at this
            rw [this] at c; simp at c
      obtain ⟨b1, b2, b3, b4⟩ := Nd.without_ok a1 s1 hk1
      obtain ⟨c1, c2, c3, c4⟩ := Nd.level_avl (k := k') (v := v') b1 a2 (by omega) (by omega)
      refine ⟨c1, ?_, ?_, ?_⟩
      · simp only [Nd.high_node]; omega
      · simp only [Nd.high_node]; omega
      · rw [Nd.toL_level, b4]; exact (ldel_lt hs c).symm
    · rename_i c
      split
      · rename_i c2
        have hk1 : ∃ p ∈ r.toL, p.key = k := by
          obtain ⟨p, hp, e⟩ := hk
          rcases List.mem_append.1 hp with hp | hp
          · have := blt_asym (s3 p hp)
            rw [e] at this
            rw [this] at c2; simp at c2
          · rcases List.mem_cons.1 hp with rfl | hp
            · subst e; rw [blt_irr] at c2; simp at c2
            · exact ⟨p, hp, e⟩
        obtain ⟨b1, b2, b3, b4⟩ := Nd.without_ok a2 s2 hk1
        obtain ⟨c1, c2', c3, c4⟩ := Nd.level_avl (k := k') (v := v') a1 b1 (by omega) (by omega)
        refine ⟨c1, ?_, ?_, ?_⟩
        · simp only [Nd.high_node]; omega
        · simp only [Nd.high_node]; omega
        · rw [Nd.toL_level, b4]; exact (ldel_gt hs c2).symm
      · rename_i c2
        have e : k = k' := blt_tri (by simpa using c) (by simpa using c2)
        subst e
        have hd : ldel k (l.toL ++ ⟨k, v'⟩ :: r.toL) = l.toL ++ r.toL := ldel_eq (p := ⟨k, v'⟩) hs
        rw [hd]
        split
        · refine ⟨a2, ?_, ?_, rfl⟩ <;> (have h0 := Nd.high_nil; have h2 := a2.high_nn; rw [Nd.high_node]; omega)
        · refine ⟨a1, ?_, ?_, by simp [Nd.toL]⟩ <;> (have h0 := Nd.high_nil; have h2 := a1.high_nn; rw [Nd.high_node]; omega)
        · rename_i rk rv rl rr rh _
          obtain ⟨rest, hrest⟩ := Nd.least_toL (t := rl) (k := rk) (v := rv) rr.toL
          have hR : (Nd.node rk rv rl rr rh).toL = ⟨(rl.least rk rv).1, (rl.least rk rv).2⟩ :: rest := hrest
          obtain ⟨b1, b2, b3, b4⟩ := Nd.without_ok (k := (rl.least rk rv).1) a2 s2 ⟨_, by rw [hR]; exact List.mem_cons_self, rfl⟩
          obtain ⟨c1, c2', c3, c4⟩ := Nd.level_avl (k := (rl.least rk rv).1) (v := (rl.least rk rv).2) a1 b1 (by omega) (by omega)
          refine ⟨c1, ?_, ?_, ?_⟩
          · simp only [Nd.high_node, Nd.high_nil] at *; omega
          · simp only [Nd.high_node, Nd.high_nil] at *; omega
          · rw [Nd.toL_level, b4, hR]
            rw [hR] at s2
            have := ldel_eq (a := []) (p := ⟨(rl.least rk rv).1, (rl.least rk rv).2⟩) (b := rest) s2
            simp only [List.nil_append] at this
            rw [this]
theorem Nd.dep_le : ∀ t : Nd, t.dep ≤ t.toL.length
  | .nil => Nat.le_refl _
  | .node k v l r h => by
    have h1 := Nd.dep_le l
    have h2 := Nd.dep_le r
    simp only [Nd.dep, Nd.toL, List.length_append, List.length_cons]
    omega
theorem Nd.Avl.high_le : ∀ {t : Nd}, t.Avl → t.high ≤ t.toL.length
  | .nil, _ => Int.le_refl _
  | .node k v l r h, a => by
    have h1 := Nd.Avl.high_le a.1
    have h2 := Nd.Avl.high_le a.2.1
    have h3 := a.2.2.1
    simp only [Nd.high_node, Nd.toL, List.length_append, List.length_cons]
    omega
def Nd.kv : Nd → Option KPair
  | .nil => none
  | .node k v _ _ _ => some ⟨k, v⟩
theorem rounds_gt' {n : Nat} (h : n < 4611686018427387904) : n < rounds := Nat.lt_of_lt_of_le h rounds_ge
end Go.Weave
end

section
/- Balanced trees: what the program's nodes do. -/
namespace Go.Proofs.YtdlcjibefbnckaaDoor.Wa
open Go Go.Weave
set_option maxRecDepth 100000
set_option linter.unusedSimpArgs false
set_option linter.unusedVariables false
set_option linter.unusedSectionVars false

theorem Heap.put_self' {h : Heap} {i : Nat} {o : Weave.Obj} (hm : h.objs[i]? = some o) : h.put i o = h := by
  obtain ⟨l⟩ := h
  simp only [Heap.put]
  congr 1
  apply List.ext_getElem?
  intro j
  rw [List.getElem?_set]
  split
  · rename_i e
    subst e
    split
    · exact hm.symm
    · rename_i hl
      rw [List.getElem?_eq_none (by omega)]
  · rfl
theorem A_nil : Nd.nil.A = .nilp := of_eq_true (eq_self _)
theorem isPtr_A (t : Nd) : AVal.isPtr t.A = true := by cases t <;> exact of_eq_true (eq_self _)
theorem isAgg_A (t : Nd) : AVal.isAgg t.A = false := by cases t <;> exact of_eq_true (eq_self _)
theorem isNilp_node (k v : List UInt8) (l r : Nd) (h : Int) : AVal.isNilp (Nd.node k v l r h).A = false := of_eq_true (eq_self _)
theorem at_nodeN {k v : List UInt8} {l r : Nd} {x : Int} {K : List AVal → Tr Res} {Q : Res → Prop} {tg : Hid Q} : Run (nodeW 5 (Nd.node k v l r x).A K) Q tg = Run (K [.str k, .str v, l.A, r.A, .int .i64 x]) Q ⟨⟩ := at_nodeW
theorem high_run {d : Nat} {t : Nd} {h : Heap} {Q : Res → Prop} {tg : Hid Q} : Run (evFn Cw (d + 1) 91 [t.A] h) Q tg = Q ([.int .i64 t.high], h) := by
  rw [F91_eq]
  cases t
  · simp (disch := (first | assumption | (simp only [Bool.and_eq_true, Bool.and_eq_false_iff, decide_eq_true_eq, decide_eq_false_iff_not, bne_iff_ne, beq_iff_eq, beq_eq_false_iff_ne, bne_eq_false_iff_eq, Bool.not_eq_true', Bool.not_eq_false', bys_length, List.length_append, List.length_cons, List.length_nil, List.length_map, List.length_drop, List.length_take, Int.natCast_add, wrap_i64_eq, wrap_u64, wrap_u8, ne_eq, not_true_eq_false, not_false_eq_true, Nat.zero_add, Nat.mul_one] <;> omega) | omega | (simp; done) | (simp; omega))) only [↓CR, MC, ↓PR, MR, A_nil, isPtr_nilp, isNilp_nilp]
    rfl
  · simp (disch := (first | assumption | (simp only [Bool.and_eq_true, Bool.and_eq_false_iff, decide_eq_true_eq, decide_eq_false_iff_not, bne_iff_ne, beq_iff_eq, beq_eq_false_iff_ne, bne_eq_false_iff_eq, Bool.not_eq_true', Bool.not_eq_false', bys_length, List.length_append, List.length_cons, List.length_nil, List.length_map, List.length_drop, List.length_take, Int.natCast_add, wrap_i64_eq, wrap_u64, wrap_u8, ne_eq, not_true_eq_false, not_false_eq_true, Nat.zero_add, Nat.mul_one] <;> omega) | omega | (simp; done) | (simp; omega))) only [↓CR, MC, ↓PR, MR, isPtr_A, at_nodeN, isNilp_node]
    rfl
theorem with_run {d : Nat} {k v : List UInt8} {a b l r : Nd} {x : Int} {h : Heap} {Q : Res → Prop} {tg : Hid Q} (hl : 0 ≤ l.high ∧ l.high ≤ 2000000) (hr : 0 ≤ r.high ∧ r.high ≤ 2000000) :
    Run (evFn Cw (d + 2) 92 [(Nd.node k v a b x).A, l.A, r.A] h) Q tg = Q ([(Nd.mk k v l r).A], h) := by
  have e : IntKind.i64.wrap (1 + (if r.high > l.high then r.high else l.high)) = 1 + max l.high r.high := by
    rw [wrap_i64_id (by split <;> omega) (by split <;> omega)]
    split <;> omega
  rw [F92_eq]
  simp (disch := (first | assumption | (simp only [Bool.and_eq_true, Bool.and_eq_false_iff, decide_eq_true_eq, decide_eq_false_iff_not, bne_iff_ne, beq_iff_eq, beq_eq_false_iff_ne, bne_eq_false_iff_eq, Bool.not_eq_true', Bool.not_eq_false', bys_length, List.length_append, List.length_cons, List.length_nil, List.length_map, List.length_drop, List.length_take, Int.natCast_add, wrap_i64_eq, wrap_u64, wrap_u8, ne_eq, not_true_eq_false, not_false_eq_true, Nat.zero_add, Nat.mul_one] <;> omega) | omega | (simp; done) | (simp; omega))) only [↓CR, MC, ↓PR, MR, at_nodeN, high_run, isAgg_A, e, Bool.not_false, Bool.and_true]
  rfl
theorem level_run {d : Nat} {k v : List UInt8} {a b l r : Nd} {x : Int} {h : Heap} {Q : Res → Prop} {tg : Hid Q} (hl : l.Avl) (hr : r.Avl) (bl : l.high ≤ 1000000) (br : r.high ≤ 1000000) :
    Run (evFn Cw (d + 3) 89 [(Nd.node k v a b x).A, l.A, r.A] h) Q tg = Q ([(Nd.level k v l r).A], h) := by
  have nl := hl.high_nn
  have nr := hr.high_nn
  have e1 : IntKind.i64.wrap (r.high + 1) = r.high + 1 := wrap_i64_id (by omega) (by omega)
  have e2 : IntKind.i64.wrap (l.high + 1) = l.high + 1 := wrap_i64_id (by omega) (by omega)
  rw [F89_eq]
  unfold Nd.level
  by_cases c1 : l.high > r.high + 1
  · rw [if_pos c1]
    cases l with
    | nil => rw [Nd.high_nil] at c1; omega
    | node lk lv ll lr lh =>
      obtain ⟨a1, a2, a3, a4, a5⟩ := hl
      have n1 := a1.high_nn
      have n2 := a2.high_nn
      simp only [Nd.high_node] at c1 bl nl e2 ⊢
      by_cases c2 : ll.high ≥ lr.high
      · rw [if_pos c2]
        have b1 : 0 ≤ (Nd.mk k v lr r).high ∧ (Nd.mk k v lr r).high ≤ 2000000 := by rw [Nd.high_mk]; omega
        have w1 := fun (Q : Res → Prop) (tg : Hid Q) => with_run (d := d) (k := k) (v := v) (a := a) (b := b) (l := lr) (r := r) (x := x) (h := h) (Q := Q) (tg := tg) (by omega) (by omega)
        have w2 := fun (Q : Res → Prop) (tg : Hid Q) => with_run (d := d) (k := lk) (v := lv) (a := ll) (b := lr) (l := ll) (r := Nd.mk k v lr r) (x := lh) (h := h) (Q := Q) (tg := tg) (by omega) b1
        simp (disch := (first | assumption | (simp only [Bool.and_eq_true, Bool.and_eq_false_iff, decide_eq_true_eq, decide_eq_false_iff_not, bne_iff_ne, beq_iff_eq, beq_eq_false_iff_ne, bne_eq_false_iff_eq, Bool.not_eq_true', Bool.not_eq_false', bys_length, List.length_append, List.length_cons, List.length_nil, List.length_map, List.length_drop, List.length_take, Int.natCast_add, wrap_i64_eq, wrap_u64, wrap_u8, ne_eq, not_true_eq_false, not_false_eq_true, Nat.zero_add, Nat.mul_one] <;> omega) | omega | (simp; done) | (simp; omega))) only [↓CR, MC, ↓PR, MR, high_run, Nd.high_node, e1, at_nodeN, w1, w2]
      · rw [if_neg c2]
        cases lr with
        | nil => rw [Nd.high_nil] at c2; omega
        | node rk rv rl rr rh =>
          obtain ⟨b1, b2, b3, b4, b5⟩ := a2
          have n3 := b1.high_nn
          have n4 := b2.high_nn
          simp only [Nd.high_node] at c2 a3 a4 a5 n2
          have b1' : 0 ≤ (Nd.mk lk lv ll rl).high ∧ (Nd.mk lk lv ll rl).high ≤ 2000000 := by rw [Nd.high_mk]; omega
          have b2' : 0 ≤ (Nd.mk k v rr r).high ∧ (Nd.mk k v rr r).high ≤ 2000000 := by rw [Nd.high_mk]; omega
          have w1 := fun (Q : Res → Prop) (tg : Hid Q) => with_run (d := d) (k := lk) (v := lv) (a := ll) (b := .node rk rv rl rr rh) (l := ll) (r := rl) (x := lh) (h := h) (Q := Q) (tg := tg) (by omega) (by omega)
          have w2 := fun (Q : Res → Prop) (tg : Hid Q) => with_run (d := d) (k := k) (v := v) (a := a) (b := b) (l := rr) (r := r) (x := x) (h := h) (Q := Q) (tg := tg) (by omega) (by omega)
          have w3 := fun (Q : Res → Prop) (tg : Hid Q) => with_run (d := d) (k := rk) (v := rv) (a := rl) (b := rr) (l := Nd.mk lk lv ll rl) (r := Nd.mk k v rr r) (x := rh) (h := h) (Q := Q) (tg := tg) b1' b2'
          have hh : Nd.high (.node rk rv rl rr rh) = rh := rfl
          simp (disch := (first | assumption | (simp only [Bool.and_eq_true, Bool.and_eq_false_iff, decide_eq_true_eq, decide_eq_false_iff_not, bne_iff_ne, beq_iff_eq, beq_eq_false_iff_ne, bne_eq_false_iff_eq, Bool.not_eq_true', Bool.not_eq_false', bys_length, List.length_append, List.length_cons, List.length_nil, List.length_map, List.length_drop, List.length_take, Int.natCast_add, wrap_i64_eq, wrap_u64, wrap_u8, ne_eq, not_true_eq_false, not_false_eq_true, Nat.zero_add, Nat.mul_one] <;> omega) | omega | (simp; done) | (simp; omega))) only [↓CR, MC, ↓PR, MR, high_run, Nd.high_node, e1, at_nodeN, w1, w2, w3]
  · rw [if_neg c1]
    by_cases c2 : r.high > l.high + 1
    · rw [if_pos c2]
      cases r with
      | nil => rw [Nd.high_nil] at c2; omega
      | node rk rv rl rr rh =>
        obtain ⟨a1, a2, a3, a4, a5⟩ := hr
        have n1 := a1.high_nn
        have n2 := a2.high_nn
        simp only [Nd.high_node] at c1 c2 br nr e1 ⊢
        by_cases c3 : rr.high ≥ rl.high
        · rw [if_pos c3]
          have b1 : 0 ≤ (Nd.mk k v l rl).high ∧ (Nd.mk k v l rl).high ≤ 2000000 := by rw [Nd.high_mk]; omega
          have w1 := fun (Q : Res → Prop) (tg : Hid Q) => with_run (d := d) (k := k) (v := v) (a := a) (b := b) (l := l) (r := rl) (x := x) (h := h) (Q := Q) (tg := tg) (by omega) (by omega)
          have w2 := fun (Q : Res → Prop) (tg : Hid Q) => with_run (d := d) (k := rk) (v := rv) (a := rl) (b := rr) (l := Nd.mk k v l rl) (r := rr) (x := rh) (h := h) (Q := Q) (tg := tg) b1 (by omega)
          simp (disch := (first | assumption | (simp only [Bool.and_eq_true, Bool.and_eq_false_iff, decide_eq_true_eq, decide_eq_false_iff_not, bne_iff_ne, beq_iff_eq, beq_eq_false_iff_ne, bne_eq_false_iff_eq, Bool.not_eq_true', Bool.not_eq_false', bys_length, List.length_append, List.length_cons, List.length_nil, List.length_map, List.length_drop, List.length_take, Int.natCast_add, wrap_i64_eq, wrap_u64, wrap_u8, ne_eq, not_true_eq_false, not_false_eq_true, Nat.zero_add, Nat.mul_one] <;> omega) | omega | (simp; done) | (simp; omega))) only [↓CR, MC, ↓PR, MR, high_run, Nd.high_node, e1, e2, at_nodeN, w1, w2]
        · rw [if_neg c3]
          cases rl with
          | nil => rw [Nd.high_nil] at c3; omega
          | node lk lv ll lr lh =>
            obtain ⟨b1, b2, b3, b4, b5⟩ := a1
            have n3 := b1.high_nn
            have n4 := b2.high_nn
            simp only [Nd.high_node] at c3 a3 a4 a5 n1
            have b1' : 0 ≤ (Nd.mk k v l ll).high ∧ (Nd.mk k v l ll).high ≤ 2000000 := by rw [Nd.high_mk]; omega
            have b2' : 0 ≤ (Nd.mk rk rv lr rr).high ∧ (Nd.mk rk rv lr rr).high ≤ 2000000 := by rw [Nd.high_mk]; omega
            have w1 := fun (Q : Res → Prop) (tg : Hid Q) => with_run (d := d) (k := k) (v := v) (a := a) (b := b) (l := l) (r := ll) (x := x) (h := h) (Q := Q) (tg := tg) (by omega) (by omega)
            have w2 := fun (Q : Res → Prop) (tg : Hid Q) => with_run (d := d) (k := rk) (v := rv) (a := .node lk lv ll lr lh) (b := rr) (l := lr) (r := rr) (x := rh) (h := h) (Q := Q) (tg := tg) (by omega) (by omega)
            have w3 := fun (Q : Res → Prop) (tg : Hid Q) => with_run (d := d) (k := lk) (v := lv) (a := ll) (b := lr) (l := Nd.mk k v l ll) (r := Nd.mk rk rv lr rr) (x := lh) (h := h) (Q := Q) (tg := tg) b1' b2'
            simp (disch := (first | assumption | (simp only [Bool.and_eq_true, Bool.and_eq_false_iff, decide_eq_true_eq, decide_eq_false_iff_not, bne_iff_ne, beq_iff_eq, beq_eq_false_iff_ne, bne_eq_false_iff_eq, Bool.not_eq_true', Bool.not_eq_false', bys_length, List.length_append, List.length_cons, List.length_nil, List.length_map, List.length_drop, List.length_take, Int.natCast_add, wrap_i64_eq, wrap_u64, wrap_u8, ne_eq, not_true_eq_false, not_false_eq_true, Nat.zero_add, Nat.mul_one] <;> omega) | omega | (simp; done) | (simp; omega))) only [↓CR, MC, ↓PR, MR, high_run, Nd.high_node, e1, e2, at_nodeN, w1, w2, w3]
    · rw [if_neg c2]
      have w1 := fun (Q : Res → Prop) (tg : Hid Q) => with_run (d := d) (k := k) (v := v) (a := a) (b := b) (l := l) (r := r) (x := x) (h := h) (Q := Q) (tg := tg) (by omega) (by omega)
      simp (disch := (first | assumption | (simp only [Bool.and_eq_true, Bool.and_eq_false_iff, decide_eq_true_eq, decide_eq_false_iff_not, bne_iff_ne, beq_iff_eq, beq_eq_false_iff_ne, bne_eq_false_iff_eq, Bool.not_eq_true', Bool.not_eq_false', bys_length, List.length_append, List.length_cons, List.length_nil, List.length_map, List.length_drop, List.length_take, Int.natCast_add, wrap_i64_eq, wrap_u64, wrap_u8, ne_eq, not_true_eq_false, not_false_eq_true, Nat.zero_add, Nat.mul_one] <;> omega) | omega | (simp; done) | (simp; omega))) only [↓CR, MC, ↓PR, MR, high_run, e1, e2, w1]

theorem put_nd : ∀ (t : Nd) (d : Nat), t.dep + 6 ≤ d → t.Avl → t.high ≤ 900000 → ∀ (k v : List UInt8) (h : Heap) (Q : Res → Prop) (tg : Hid Q),
    Run (evFn Cw d 88 [t.A, .str k, .str v] h) Q tg = Q ([(t.put k v).A], h) := by
  intro t
  induction t with
  | nil =>
    intro d hd _ _ k v h Q tg
    obtain ⟨d, rfl⟩ : ∃ e, d = e + 6 := ⟨d - 6, by omega⟩
    rw [F88_eq]
    simp (disch := (first | assumption | (simp only [Bool.and_eq_true, Bool.and_eq_false_iff, decide_eq_true_eq, decide_eq_false_iff_not, bne_iff_ne, beq_iff_eq, beq_eq_false_iff_ne, bne_eq_false_iff_eq, Bool.not_eq_true', Bool.not_eq_false', bys_length, List.length_append, List.length_cons, List.length_nil, List.length_map, List.length_drop, List.length_take, Int.natCast_add, wrap_i64_eq, wrap_u64, wrap_u8, ne_eq, not_true_eq_false, not_false_eq_true, Nat.zero_add, Nat.mul_one] <;> omega) | omega | (simp; done) | (simp; omega))) only [↓CR, MC, ↓PR, MR, A_nil, isPtr_nilp, isNilp_nilp]
    rfl
  | node k' v' l r x ihl ihr =>
    intro d hd ha hb k v h Q tg
    obtain ⟨d, rfl⟩ : ∃ e, d = e + 4 := ⟨d - 4, by omega⟩
    have ha' := ha
    obtain ⟨a1, a2, a3, a4, a5⟩ := ha
    simp only [Nd.high_node] at hb
    have n1 := a1.high_nn
    have n2 := a2.high_nn
    have q1 := ihl (d + 3) (by simp only [Nd.dep] at hd; omega) a1 (by omega) k v h
    have q2 := ihr (d + 3) (by simp only [Nd.dep] at hd; omega) a2 (by omega) k v h
    have ⟨p1, p2, p3⟩ := Nd.put_avl (k := k) (v := v) a1
    have ⟨p4, p5, p6⟩ := Nd.put_avl (k := k) (v := v) a2
    have w1 := fun (Q : Res → Prop) (tg : Hid Q) => level_run (d := d) (k := k') (v := v') (a := l) (b := r) (l := l.put k v) (r := r) (x := x) (h := h) (Q := Q) (tg := tg) p1 a2 (by omega) (by omega)
    have w2 := fun (Q : Res → Prop) (tg : Hid Q) => level_run (d := d) (k := k') (v := v') (a := l) (b := r) (l := l) (r := r.put k v) (x := x) (h := h) (Q := Q) (tg := tg) a1 p4 (by omega) (by omega)
    rw [F88_eq]
    unfold Nd.put
    by_cases c1 : blt k k' = true
    · have c1' : Go.Op.bytesLess k k' = true := c1
      rw [if_pos c1]
      simp (disch := (first | assumption | (simp only [Bool.and_eq_true, Bool.and_eq_false_iff, decide_eq_true_eq, decide_eq_false_iff_not, bne_iff_ne, beq_iff_eq, beq_eq_false_iff_ne, bne_eq_false_iff_eq, Bool.not_eq_true', Bool.not_eq_false', bys_length, List.length_append, List.length_cons, List.length_nil, List.length_map, List.length_drop, List.length_take, Int.natCast_add, wrap_i64_eq, wrap_u64, wrap_u8, ne_eq, not_true_eq_false, not_false_eq_true, Nat.zero_add, Nat.mul_one] <;> omega) | omega | (simp; done) | (simp; omega))) only [↓CR, MC, ↓PR, MR, isPtr_A, isNilp_node, at_nodeN, c1', q1, w1]
    · have c1' : Go.Op.bytesLess k k' = false := by simpa using c1
      rw [if_neg c1]
      by_cases c2 : blt k' k = true
      · have c2' : (k == k') = false := by simpa using (blt_ne c2).symm
        rw [if_pos c2]
        simp (disch := (first | assumption | (simp only [Bool.and_eq_true, Bool.and_eq_false_iff, decide_eq_true_eq, decide_eq_false_iff_not, bne_iff_ne, beq_iff_eq, beq_eq_false_iff_ne, bne_eq_false_iff_eq, Bool.not_eq_true', Bool.not_eq_false', bys_length, List.length_append, List.length_cons, List.length_nil, List.length_map, List.length_drop, List.length_take, Int.natCast_add, wrap_i64_eq, wrap_u64, wrap_u8, ne_eq, not_true_eq_false, not_false_eq_true, Nat.zero_add, Nat.mul_one] <;> omega) | omega | (simp; done) | (simp; omega))) only [↓CR, MC, ↓PR, MR, isPtr_A, isNilp_node, at_nodeN, c1', c2', Bool.or_false, Bool.not_false, q2, w2]
      · have e : k = k' := blt_tri (by simpa using c1) (by simpa using c2)
        subst e
        rw [if_neg c2]
        have e2 : (k == k) = true := by simp
        simp (disch := (first | assumption | (simp only [Bool.and_eq_true, Bool.and_eq_false_iff, decide_eq_true_eq, decide_eq_false_iff_not, bne_iff_ne, beq_iff_eq, beq_eq_false_iff_ne, bne_eq_false_iff_eq, Bool.not_eq_true', Bool.not_eq_false', bys_length, List.length_append, List.length_cons, List.length_nil, List.length_map, List.length_drop, List.length_take, Int.natCast_add, wrap_i64_eq, wrap_u64, wrap_u8, ne_eq, not_true_eq_false, not_false_eq_true, Nat.zero_add, Nat.mul_one] <;> omega) | omega | (simp; done) | (simp; omega))) only [↓CR, MC, ↓PR, MR, isPtr_A, isNilp_node, at_nodeN, c1', e2, Bool.or_true, Bool.not_true, isAgg_A, Bool.not_false, Bool.and_true]
        rfl
theorem least_loop (d : Nat) (h : Heap) : ∀ (l : Nd) (k v : List UInt8) (r : Nd) (x : Int) (n : Nat), l.dep < n → ∃ a b y, ∀ (Q : Res → Prop) (tg : Hid Q),
    Run (P90_0 d n (Nd.node k v l r x).A h) Q tg = Q ([(Nd.node (l.least k v).1 (l.least k v).2 a b y).A], h) := by
  intro l
  induction l with
  | nil =>
    intro k v r x n hn
    obtain ⟨n, rfl⟩ : ∃ e, n = e + 1 := ⟨n - 1, by omega⟩
    refine ⟨.nil, r, x, fun Q tg => ?_⟩
    rw [P90_0_eq]
    simp (disch := (first | assumption | (simp only [Bool.and_eq_true, Bool.and_eq_false_iff, decide_eq_true_eq, decide_eq_false_iff_not, bne_iff_ne, beq_iff_eq, beq_eq_false_iff_ne, bne_eq_false_iff_eq, Bool.not_eq_true', Bool.not_eq_false', bys_length, List.length_append, List.length_cons, List.length_nil, List.length_map, List.length_drop, List.length_take, Int.natCast_add, wrap_i64_eq, wrap_u64, wrap_u8, ne_eq, not_true_eq_false, not_false_eq_true, Nat.zero_add, Nat.mul_one] <;> omega) | omega | (simp; done) | (simp; omega))) only [↓CR, MC, ↓PR, MR, at_nodeN, A_nil, isPtr_nilp, isNilp_nilp]
    rfl
  | node k' v' l' r' x' ih _ =>
    intro k v r x n hn
    obtain ⟨n, rfl⟩ : ∃ e, n = e + 1 := ⟨n - 1, by omega⟩
    obtain ⟨a, b, y, q⟩ := ih k' v' r' x' n (by simp only [Nd.dep] at hn; omega)
    refine ⟨a, b, y, fun Q tg => ?_⟩
    rw [P90_0_eq]
    simp (disch := (first | assumption | (simp only [Bool.and_eq_true, Bool.and_eq_false_iff, decide_eq_true_eq, decide_eq_false_iff_not, bne_iff_ne, beq_iff_eq, beq_eq_false_iff_ne, bne_eq_false_iff_eq, Bool.not_eq_true', Bool.not_eq_false', bys_length, List.length_append, List.length_cons, List.length_nil, List.length_map, List.length_drop, List.length_take, Int.natCast_add, wrap_i64_eq, wrap_u64, wrap_u8, ne_eq, not_true_eq_false, not_false_eq_true, Nat.zero_add, Nat.mul_one] <;> omega) | omega | (simp; done) | (simp; omega))) only [↓CR, MC, ↓PR, MR, at_nodeN, isPtr_A, isNilp_node, q]
    rfl
theorem least_run (d : Nat) (h : Heap) (l : Nd) (k v : List UInt8) (r : Nd) (x : Int) (hl : l.dep ≤ 1000000) : ∃ a b y, ∀ (Q : Res → Prop) (tg : Hid Q),
    Run (evFn Cw (d + 1) 90 [(Nd.node k v l r x).A] h) Q tg = Q ([(Nd.node (l.least k v).1 (l.least k v).2 a b y).A], h) := by
  obtain ⟨a, b, y, q⟩ := least_loop d h l k v r x rounds (rounds_gt' (by omega))
  refine ⟨a, b, y, fun Q tg => ?_⟩
  rw [F90_eq]
  exact q Q tg
theorem without_nd : ∀ (t : Nd) (d : Nat), t.dep + 6 ≤ d → t.dep ≤ 1000000 → t.Avl → t.high ≤ 900000 → Srt t.toL → ∀ (k : List UInt8), (∃ p ∈ t.toL, p.key = k) → ∀ (h : Heap) (Q : Res → Prop) (tg : Hid Q),
    Run (evFn Cw d 85 [t.A, .str k] h) Q tg = Q ([(t.without k).A], h) := by
  intro t
  induction t with
  | nil =>
    intro d hd _ _ _ _ k hk
    obtain ⟨p, hp, _⟩ := hk
    simp [Nd.toL] at hp
  | node k' v' l r x ihl ihr =>
    intro d hd hdep ha hb hs k hk h Q tg
    obtain ⟨d, rfl⟩ : ∃ e, d = e + 4 := ⟨d - 4, by omega⟩
    obtain ⟨a1, a2, a3, a4, a5⟩ := ha
    simp only [Nd.high_node] at hb
    have n1 := a1.high_nn
    have n2 := a2.high_nn
    simp only [Nd.dep] at hd hdep
    rw [Nd.toL_node] at hs
    simp only [Nd.toL_node] at hk
    obtain ⟨s1, s2, s3, s4⟩ := hs.mid
    rw [F85_eq]
    unfold Nd.without
    by_cases c1 : blt k k' = true
    · have c1' : Go.Op.bytesLess k k' = true := c1
      rw [if_pos c1]
      have hk1 : ∃ p ∈ l.toL, p.key = k := by
        obtain ⟨p, hp, e⟩ := hk
        rcases List.mem_append.1 hp with hp | hp
        · exact ⟨p, hp, e⟩
        · rcases List.mem_cons.1 hp with rfl | hp
          · subst e; rw [blt_irr] at c1; simp at c1
          · have := blt_asym (s4 p hp)
            rw [e] at this
            rw [this] at c1; simp at c1
      obtain ⟨b1, b2, b3, b4⟩ := Nd.without_ok a1 s1 hk1
      have q1 := ihl (d + 3) (by omega) (by omega) a1 (by omega) s1 k hk1 h
      have w1 := fun (Q : Res → Prop) (tg : Hid Q) => level_run (d := d) (k := k') (v := v') (a := l) (b := r) (l := l.without k) (r := r) (x := x) (h := h) (Q := Q) (tg := tg) b1 a2 (by omega) (by omega)
      simp (disch := (first | assumption | (simp only [Bool.and_eq_true, Bool.and_eq_false_iff, decide_eq_true_eq, decide_eq_false_iff_not, bne_iff_ne, beq_iff_eq, beq_eq_false_iff_ne, bne_eq_false_iff_eq, Bool.not_eq_true', Bool.not_eq_false', bys_length, List.length_append, List.length_cons, List.length_nil, List.length_map, List.length_drop, List.length_take, Int.natCast_add, wrap_i64_eq, wrap_u64, wrap_u8, ne_eq, not_true_eq_false, not_false_eq_true, Nat.zero_add, Nat.mul_one] <;> omega) | omega | (simp; done) | (simp; omega))) only [↓CR, MC, ↓PR, MR, at_nodeN, c1', q1, w1]
    · have c1' : Go.Op.bytesLess k k' = false := by simpa using c1
      rw [if_neg c1]
      by_cases c2 : blt k' k = true
      · have c2' : (k == k') = false := by simpa using (blt_ne c2).symm
        rw [if_pos c2]
        have hk1 : ∃ p ∈ r.toL, p.key = k := by
          obtain ⟨p, hp, e⟩ := hk
          rcases List.mem_append.1 hp with hp | hp
          · have := blt_asym (s3 p hp)
            rw [e] at this
            rw [this] at c2; simp at c2
          · rcases List.mem_cons.1 hp with rfl | hp
            · subst e; rw [blt_irr] at c2; simp at c2
            · exact ⟨p, hp, e⟩
        obtain ⟨b1, b2, b3, b4⟩ := Nd.without_ok a2 s2 hk1
        have q1 := ihr (d + 3) (by omega) (by omega) a2 (by omega) s2 k hk1 h
        have w1 := fun (Q : Res → Prop) (tg : Hid Q) => level_run (d := d) (k := k') (v := v') (a := l) (b := r) (l := l) (r := r.without k) (x := x) (h := h) (Q := Q) (tg := tg) a1 b1 (by omega) (by omega)
        simp (disch := (first | assumption | (simp only [Bool.and_eq_true, Bool.and_eq_false_iff, decide_eq_true_eq, decide_eq_false_iff_not, bne_iff_ne, beq_iff_eq, beq_eq_false_iff_ne, bne_eq_false_iff_eq, Bool.not_eq_true', Bool.not_eq_false', bys_length, List.length_append, List.length_cons, List.length_nil, List.length_map, List.length_drop, List.length_take, Int.natCast_add, wrap_i64_eq, wrap_u64, wrap_u8, ne_eq, not_true_eq_false, not_false_eq_true, Nat.zero_add, Nat.mul_one] <;> omega) | omega | (simp; done) | (simp; omega))) only [↓CR, MC, ↓PR, MR, at_nodeN, c1', c2', Bool.or_false, Bool.not_false, q1, w1]
      · have e : k = k' := blt_tri (by simpa using c1) (by simpa using c2)
        subst e
        rw [if_neg c2]
        have e2 : (k == k) = true := by simp
        cases l with
        | nil =>
          simp (disch := (first | assumption | (simp only [Bool.and_eq_true, Bool.and_eq_false_iff, decide_eq_true_eq, decide_eq_false_iff_not, bne_iff_ne, beq_iff_eq, beq_eq_false_iff_ne, bne_eq_false_iff_eq, Bool.not_eq_true', Bool.not_eq_false', bys_length, List.length_append, List.length_cons, List.length_nil, List.length_map, List.length_drop, List.length_take, Int.natCast_add, wrap_i64_eq, wrap_u64, wrap_u8, ne_eq, not_true_eq_false, not_false_eq_true, Nat.zero_add, Nat.mul_one] <;> omega) | omega | (simp; done) | (simp; omega))) only [↓CR, MC, ↓PR, MR, at_nodeN, c1', e2, Bool.or_true, Bool.not_true, A_nil, isPtr_nilp, isNilp_nilp]
        | node lk lv ll lr lh =>
          cases r with
          | nil =>
            simp (disch := (first | assumption | (simp only [Bool.and_eq_true, Bool.and_eq_false_iff, decide_eq_true_eq, decide_eq_false_iff_not, bne_iff_ne, beq_iff_eq, beq_eq_false_iff_ne, bne_eq_false_iff_eq, Bool.not_eq_true', Bool.not_eq_false', bys_length, List.length_append, List.length_cons, List.length_nil, List.length_map, List.length_drop, List.length_take, Int.natCast_add, wrap_i64_eq, wrap_u64, wrap_u8, ne_eq, not_true_eq_false, not_false_eq_true, Nat.zero_add, Nat.mul_one] <;> omega) | omega | (simp; done) | (simp; omega))) only [↓CR, MC, ↓PR, MR, at_nodeN, c1', e2, Bool.or_true, Bool.not_true, isPtr_A, isNilp_node, A_nil, isPtr_nilp, isNilp_nilp]
          | node rk rv rl rr rh =>
            simp only [Nd.dep] at hd hdep
            obtain ⟨a, b, y, ql⟩ := least_run (d + 2) h rl rk rv rr rh (by omega)
            obtain ⟨rest, hrest⟩ := Nd.least_toL (t := rl) (k := rk) (v := rv) rr.toL
            have hR : (Nd.node rk rv rl rr rh).toL = ⟨(rl.least rk rv).1, (rl.least rk rv).2⟩ :: rest := hrest
            have hmem : ∃ p ∈ (Nd.node rk rv rl rr rh).toL, p.key = (rl.least rk rv).1 := ⟨_, by rw [hR]; exact List.mem_cons_self, rfl⟩
            obtain ⟨b1, b2, b3, b4⟩ := Nd.without_ok (k := (rl.least rk rv).1) a2 s2 hmem
            have q1 := ihr (d + 3) (by simp only [Nd.dep]; omega) (by simp only [Nd.dep]; omega) a2 (by omega) s2 (rl.least rk rv).1 hmem h
            have w1 := fun (Q : Res → Prop) (tg : Hid Q) => level_run (d := d) (k := (rl.least rk rv).1) (v := (rl.least rk rv).2) (a := a) (b := b) (l := .node lk lv ll lr lh) (r := (Nd.node rk rv rl rr rh).without (rl.least rk rv).1) (x := y) (h := h) (Q := Q) (tg := tg) a1 b1 (by omega) (by omega)
            simp (disch := (first | assumption | (simp only [Bool.and_eq_true, Bool.and_eq_false_iff, decide_eq_true_eq, decide_eq_false_iff_not, bne_iff_ne, beq_iff_eq, beq_eq_false_iff_ne, bne_eq_false_iff_eq, Bool.not_eq_true', Bool.not_eq_false', bys_length, List.length_append, List.length_cons, List.length_nil, List.length_map, List.length_drop, List.length_take, Int.natCast_add, wrap_i64_eq, wrap_u64, wrap_u8, ne_eq, not_true_eq_false, not_false_eq_true, Nat.zero_add, Nat.mul_one] <;> omega) | omega | (simp; done) | (simp; omega))) only [↓CR, MC, ↓PR, MR, at_nodeN, c1', e2, Bool.or_true, Bool.not_true, isPtr_A, isNilp_node, ql, q1, w1]

/-! ### Looks -/
def tellK : Option KPair → List AVal
  | none => [.str [], .str [], .bool false]
  | some p => [.str p.key, .str p.val, .bool true]
theorem told_run {d : Nat} {t : Nd} {h : Heap} {Q : Res → Prop} {tg : Hid Q} : Run (evFn Cw (d + 1) 87 [t.A] h) Q tg = Q (tellK t.kv, h) := by
  rw [F87_eq]
  cases t
  · simp (disch := (first | assumption | (simp only [Bool.and_eq_true, Bool.and_eq_false_iff, decide_eq_true_eq, decide_eq_false_iff_not, bne_iff_ne, beq_iff_eq, beq_eq_false_iff_ne, bne_eq_false_iff_eq, Bool.not_eq_true', Bool.not_eq_false', bys_length, List.length_append, List.length_cons, List.length_nil, List.length_map, List.length_drop, List.length_take, Int.natCast_add, wrap_i64_eq, wrap_u64, wrap_u8, ne_eq, not_true_eq_false, not_false_eq_true, Nat.zero_add, Nat.mul_one] <;> omega) | omega | (simp; done) | (simp; omega))) only [↓CR, MC, ↓PR, MR, A_nil, isPtr_nilp, isNilp_nilp]
    rfl
  · simp (disch := (first | assumption | (simp only [Bool.and_eq_true, Bool.and_eq_false_iff, decide_eq_true_eq, decide_eq_false_iff_not, bne_iff_ne, beq_iff_eq, beq_eq_false_iff_ne, bne_eq_false_iff_eq, Bool.not_eq_true', Bool.not_eq_false', bys_length, List.length_append, List.length_cons, List.length_nil, List.length_map, List.length_drop, List.length_take, Int.natCast_add, wrap_i64_eq, wrap_u64, wrap_u8, ne_eq, not_true_eq_false, not_false_eq_true, Nat.zero_add, Nat.mul_one] <;> omega) | omega | (simp; done) | (simp; omega))) only [↓CR, MC, ↓PR, MR, isPtr_A, isNilp_node, at_nodeN]
    rfl
theorem seek_find {s : List UInt8} {a b : List KPair} {p : KPair} (hs : Srt (a ++ p :: b)) : lseek s (a ++ p :: b) = if blt p.key s then lseek s b else (lseek s a).or (some p) := by
  obtain ⟨_, _, h3, _⟩ := hs.mid
  unfold lseek
  rw [List.find?_append, List.find?_cons]
  by_cases c : blt p.key s = true
  · rw [if_pos c]
    have : List.find? (fun q => !blt q.key s) a = none := by
      rw [List.find?_eq_none]
      intro x hx
      simp [blt_trans (h3 x hx) c]
    rw [this, c]; rfl
  · have c' : blt p.key s = false := by simpa using c
    rw [if_neg c, c']; rfl
theorem seek_loop (d : Nat) (h : Heap) (s : List UInt8) : ∀ (t best : Nd) (n : Nat), t.dep < n → Srt t.toL → ∀ (Q : Res → Prop) (tg : Hid Q),
    Run (P78_0 (d + 1) n s best.A t.A h) Q tg = Q (tellK ((lseek s t.toL).or best.kv), h) := by
  intro t
  induction t with
  | nil =>
    intro best n hn _ Q tg
    obtain ⟨n, rfl⟩ : ∃ e, n = e + 1 := ⟨n - 1, by omega⟩
    have e : (lseek s Nd.nil.toL).or best.kv = best.kv := of_eq_true (eq_self _)
    rw [P78_0_eq, e]
    cases hb : best.kv <;> simp (disch := (first | assumption | (simp only [Bool.and_eq_true, Bool.and_eq_false_iff, decide_eq_true_eq, decide_eq_false_iff_not, bne_iff_ne, beq_iff_eq, beq_eq_false_iff_ne, bne_eq_false_iff_eq, Bool.not_eq_true', Bool.not_eq_false', bys_length, List.length_append, List.length_cons, List.length_nil, List.length_map, List.length_drop, List.length_take, Int.natCast_add, wrap_i64_eq, wrap_u64, wrap_u8, ne_eq, not_true_eq_false, not_false_eq_true, Nat.zero_add, Nat.mul_one] <;> omega) | omega | (simp; done) | (simp; omega))) only [↓CR, MC, ↓PR, MR, A_nil, isPtr_nilp, isNilp_nilp, told_run, hb, tellK]
  | node k v l r x ihl ihr =>
    intro best n hn hs Q tg
    obtain ⟨n, rfl⟩ : ∃ e, n = e + 1 := ⟨n - 1, by omega⟩
    simp only [Nd.dep] at hn
    rw [Nd.toL_node] at hs ⊢
    obtain ⟨s1, s2, _, _⟩ := hs.mid
    rw [seek_find hs, P78_0_eq]
    by_cases c : blt k s = true
    · have c' : Go.Op.bytesLess k s = true := c
      rw [if_pos c]
      simp (disch := (first | assumption | (simp only [Bool.and_eq_true, Bool.and_eq_false_iff, decide_eq_true_eq, decide_eq_false_iff_not, bne_iff_ne, beq_iff_eq, beq_eq_false_iff_ne, bne_eq_false_iff_eq, Bool.not_eq_true', Bool.not_eq_false', bys_length, List.length_append, List.length_cons, List.length_nil, List.length_map, List.length_drop, List.length_take, Int.natCast_add, wrap_i64_eq, wrap_u64, wrap_u8, ne_eq, not_true_eq_false, not_false_eq_true, Nat.zero_add, Nat.mul_one] <;> omega) | omega | (simp; done) | (simp; omega))) only [↓CR, MC, ↓PR, MR, isPtr_A, isNilp_node, Bool.not_false, at_nodeN, c']
      exact ihr best n (by omega) s2 Q ⟨⟩
    · have c' : Go.Op.bytesLess k s = false := by simpa using c
      rw [if_neg c]
      simp (disch := (first | assumption | (simp only [Bool.and_eq_true, Bool.and_eq_false_iff, decide_eq_true_eq, decide_eq_false_iff_not, bne_iff_ne, beq_iff_eq, beq_eq_false_iff_ne, bne_eq_false_iff_eq, Bool.not_eq_true', Bool.not_eq_false', bys_length, List.length_append, List.length_cons, List.length_nil, List.length_map, List.length_drop, List.length_take, Int.natCast_add, wrap_i64_eq, wrap_u64, wrap_u8, ne_eq, not_true_eq_false, not_false_eq_true, Nat.zero_add, Nat.mul_one] <;> omega) | omega | (simp; done) | (simp; omega))) only [↓CR, MC, ↓PR, MR, isPtr_A, isNilp_node, Bool.not_false, at_nodeN, c']
      refine (ihl (.node k v l r x) n (by omega) s1 Q ⟨⟩).trans ?_
      cases hl : lseek s l.toL <;> rfl
end Go.Proofs.YtdlcjibefbnckaaDoor.Wa
end

section
/- Sorted lists of pairs, by the reference; trees, by the program. -/
namespace Go.Proofs.YtdlcjibefbnckaaDoor.Wa
open Go Go.Weave
set_option maxRecDepth 100000
set_option linter.unusedSimpArgs false
set_option linter.unusedVariables false
set_option linter.unusedSectionVars false

def prs (l : List KPair) : List AVal := l.map KPair.A
theorem prs_length (l : List KPair) : (prs l).length = l.length := by simp [prs]
theorem prs_nil : prs [] = [] := of_eq_true (eq_self _)
theorem prs_getD {l : List KPair} {i : Nat} (h : i < l.length) : (prs l).getD i AVal.undef = .agg [.str l[i].key, .str l[i].val] := by simp [prs, h, KPair.A, KPair.C]
theorem prs_snoc (l : List KPair) (k v : List UInt8) : prs l ++ [.agg [.str k, .str v]] = prs (l ++ [⟨k, v⟩]) := by simp [prs, KPair.A, KPair.C]
theorem str_beq_self (a : List UInt8) : (a == a) = true := by simp

/-! ### What is told of a pair that there may be -/
def oKey : Option KPair → List UInt8 | none => [] | some p => p.key
def oVal : Option KPair → List UInt8 | none => [] | some p => p.val
theorem tellK_eq (o : Option KPair) : tellK o = [.str (oKey o), .str (oVal o), .bool o.isSome] := by cases o <;> rfl

theorem lget_cons (k : List UInt8) (p : KPair) (l : List KPair) : lget k (p :: l) = if p.key = k then some p else lget k l := by
  unfold lget
  rw [List.find?_cons]
  by_cases h : p.key = k
  · have : (p.key == k) = true := by simp [h]
    rw [this, if_pos h]
  · have : (p.key == k) = false := by simpa using h
    rw [this, if_neg h]
theorem lseek_cons (k : List UInt8) (p : KPair) (l : List KPair) : lseek k (p :: l) = if blt p.key k then lseek k l else some p := by
  unfold lseek
  rw [List.find?_cons]
  cases h : blt p.key k <;> rfl
theorem ldel_cons (k : List UInt8) (p : KPair) (l : List KPair) : ldel k (p :: l) = if p.key = k then ldel k l else p :: ldel k l := by
  unfold ldel
  rw [List.filter_cons]
  by_cases h : p.key = k
  · rw [if_neg (by simp [h]), if_pos h]
  · rw [if_pos (by simpa using h), if_neg h]
/-- A key is found where seeking stops. -/
theorem lget_seek {k : List UInt8} : ∀ {l : List KPair}, Srt l → lget k l = if oKey (lseek k l) = k ∧ (lseek k l).isSome = true then lseek k l else none
  | [], _ => by simp [lget, lseek]
  | p :: l, hs => by
    have ⟨h1, h2⟩ := List.pairwise_cons.1 hs
    rw [lget_cons, lseek_cons]
    by_cases c : blt p.key k = true
    · rw [if_neg (blt_ne c), if_pos c]
      exact lget_seek h2
    · rw [if_neg c]
      by_cases e : p.key = k
      · rw [if_pos e, if_pos ⟨e, rfl⟩]
      · rw [if_neg e, if_neg (fun h => e h.1)]
        unfold lget
        rw [List.find?_eq_none]
        intro x hx
        have h3 : blt k p.key = true := by
          cases hh : blt k p.key
          · exact absurd (blt_tri (by simpa using c) hh) e
          · rfl
        have := blt_ne (blt_trans h3 (h1 x hx))
        simpa using this.symm
theorem lget_mem {k : List UInt8} {l : List KPair} (h : (lget k l).isSome = true) : ∃ p ∈ l, p.key = k := by
  cases hp : lget k l with
  | none => rw [hp] at h; simp at h
  | some p =>
    unfold lget at hp
    exact ⟨p, List.mem_of_find?_eq_some hp, by simpa using List.find?_some hp⟩
theorem lget_none {k : List UInt8} {l : List KPair} (h : (lget k l).isSome = false) : ∀ p ∈ l, p.key ≠ k := by
  have : lget k l = none := by cases hp : lget k l <;> simp_all
  unfold lget at this
  rw [List.find?_eq_none] at this
  intro p hp e
  exact this p hp (by simp [e])
theorem ldel_len {k : List UInt8} {l : List KPair} (hs : Srt l) (h : (lget k l).isSome = true) : (ldel k l).length + 1 = l.length := by
  obtain ⟨p, hp, e⟩ := lget_mem h
  obtain ⟨a, b, rfl⟩ := List.append_of_mem hp
  subst e
  rw [ldel_eq hs]; simp; omega
theorem lput_len_new {k v : List UInt8} : ∀ {l : List KPair}, Srt l → (lget k l).isSome = false → (lput k v l).length = l.length + 1 := by
  intro l hs h
  have h0 := lget_none h
  have : ∀ l : List KPair, (∀ p ∈ l, p.key ≠ k) → (l.filter (fun p => blt p.key k)).length + (l.filter (fun p => blt k p.key)).length = l.length := by
    intro l
    induction l with
    | nil => intro _; rfl
    | cons p l ih =>
      intro h
      have ih := ih fun q hq => h q (List.mem_cons_of_mem _ hq)
      have hp := h p List.mem_cons_self
      rw [List.filter_cons, List.filter_cons]
      by_cases c : blt p.key k = true
      · rw [if_pos c, if_neg (by rw [blt_asym c]; simp)]
        simp only [List.length_cons]; omega
      · have c2 : blt k p.key = true := by
          cases hh : blt k p.key
          · exact absurd (blt_tri (by simpa using c) hh) hp
          · rfl
        rw [if_neg c, if_pos c2]
        simp only [List.length_cons]; omega
  unfold lput
  rw [List.length_append, List.length_cons]
  have := this l h0
  omega
theorem lput_len_old {k v : List UInt8} {l : List KPair} (hs : Srt l) (h : (lget k l).isSome = true) : (lput k v l).length = l.length := by
  obtain ⟨⟨pk, pv⟩, hp, e⟩ := lget_mem h
  obtain ⟨a, b, rfl⟩ := List.append_of_mem hp
  simp only at e
  subst e
  rw [lput_eq hs]; simp

/-! ### The reference's lists -/
theorem rdel31_loop (d : Nat) (f : Bool) (s : List UInt8) (h : Heap) (l : List KPair) (hl : l.length ≤ 1000000) (Q : Res → Prop) : ∀ (n i k : Nat) (acc : List KPair) (tg : Hid Q), acc.length ≤ i → l.length = i + n → n < k →
    Run (P55_0 d k f (prs l) s (prs acc) i h) Q tg = Q ([.sl false 3 (prs (acc ++ ldel s (l.drop i)))], h) := by
  intro n
  induction n with
  | zero =>
    intro i k acc tg ha hi hk
    obtain ⟨k, rfl⟩ : ∃ m, k = m + 1 := ⟨k - 1, by omega⟩
    have hd : l.drop i = [] := List.drop_eq_nil_of_le (by omega)
    have hb : acc ++ ldel s [] = acc := by simp [ldel]
    rw [P55_0_eq, hd, hb]
    simp (disch := (first | assumption | (simp only [Bool.and_eq_true, Bool.and_eq_false_iff, decide_eq_true_eq, decide_eq_false_iff_not, bne_iff_ne, beq_iff_eq, beq_eq_false_iff_ne, bne_eq_false_iff_eq, Bool.not_eq_true', Bool.not_eq_false', bys_length, List.length_append, List.length_cons, List.length_nil, List.length_map, List.length_drop, List.length_take, Int.natCast_add, wrap_i64_eq, wrap_u64, wrap_u8, ne_eq, not_true_eq_false, not_false_eq_true, Nat.zero_add, Nat.mul_one] <;> omega) | omega | (simp; done) | (simp; omega))) only [↓CR, MC, ↓PR, MR, prs_length]
  | succ n ih =>
    intro i k acc tg ha hi hk
    obtain ⟨k, rfl⟩ : ∃ m, k = m + 1 := ⟨k - 1, by omega⟩
    have h1 : i < l.length := by omega
    have e1 := succ_wrap (i := i) (by omega)
    rw [P55_0_eq, List.drop_eq_getElem_cons h1, ldel_cons]
    by_cases c : l[i].key = s
    · have c' : (l[i].key == s) = true := by simp [c]
      have ih' := fun tg => ih (i + 1) k acc tg (by omega) (by omega) (by omega)
      rw [if_pos c]
      simp (disch := (first | assumption | (simp only [Bool.and_eq_true, Bool.and_eq_false_iff, decide_eq_true_eq, decide_eq_false_iff_not, bne_iff_ne, beq_iff_eq, beq_eq_false_iff_ne, bne_eq_false_iff_eq, Bool.not_eq_true', Bool.not_eq_false', bys_length, List.length_append, List.length_cons, List.length_nil, List.length_map, List.length_drop, List.length_take, Int.natCast_add, wrap_i64_eq, wrap_u64, wrap_u8, ne_eq, not_true_eq_false, not_false_eq_true, Nat.zero_add, Nat.mul_one] <;> omega) | omega | (simp; done) | (simp; omega))) only [↓CR, MC, ↓PR, MR, prs_length, prs_getD h1, c', Bool.not_true, e1, ih']
    · have c' : (l[i].key == s) = false := by simpa using c
      have ih' := fun tg => ih (i + 1) k (acc ++ [l[i]]) tg (by simp; omega) (by omega) (by omega)
      have ea : prs acc ++ [.agg [.str l[i].key, .str l[i].val]] = prs (acc ++ [l[i]]) := prs_snoc acc l[i].key l[i].val
      rw [if_neg c]
      simp (disch := (first | assumption | (simp only [Bool.and_eq_true, Bool.and_eq_false_iff, decide_eq_true_eq, decide_eq_false_iff_not, bne_iff_ne, beq_iff_eq, beq_eq_false_iff_ne, bne_eq_false_iff_eq, Bool.not_eq_true', Bool.not_eq_false', bys_length, List.length_append, List.length_cons, List.length_nil, List.length_map, List.length_drop, List.length_take, Int.natCast_add, wrap_i64_eq, wrap_u64, wrap_u8, ne_eq, not_true_eq_false, not_false_eq_true, Nat.zero_add, Nat.mul_one] <;> omega) | omega | (simp; done) | (simp; omega))) only [↓CR, MC, ↓PR, MR, prs_length, prs_getD h1, c', Bool.not_false, e1, ea, ih']
      simp
theorem rdel31_run {d : Nat} {f : Bool} {l : List KPair} {s : List UInt8} {h : Heap} {Q : Res → Prop} {tg : Hid Q} (hl : l.length ≤ 1000000) :
    Run (evFn Cw (d + 1) 55 [.sl f 3 (prs l), .str s] h) Q tg = Q ([.sl false 3 (prs (ldel s l))], h) := by
  rw [F55_eq]
  have := rdel31_loop d f s h l hl Q l.length 0 rounds [] ⟨⟩ (by simp) (by omega) (rounds_gt' (by omega))
  rw [e0, prs_nil] at this
  exact this
def insF (k v : List UInt8) : Bool → List KPair → List KPair
  | true, l => l
  | false, [] => [⟨k, v⟩]
  | false, p :: l => if blt k p.key then ⟨k, v⟩ :: p :: l else p :: insF k v false l
theorem insF_lput {k v : List UInt8} : ∀ {l : List KPair}, Srt l → (∀ p ∈ l, p.key ≠ k) → insF k v false l = lput k v l
  | [], _, _ => rfl
  | p :: l, hs, hk => by
    have ⟨h1, h2⟩ := List.pairwise_cons.1 hs
    unfold insF
    by_cases c : blt k p.key = true
    · rw [if_pos c]
      have := lput_lt (a := []) (p := p) (b := l) (k := k) (v := v) hs c
      simp only [List.nil_append] at this
      rw [this]; rfl
    · have c2 : blt p.key k = true := by
        cases hh : blt p.key k
        · exact absurd (blt_tri hh (by simpa using c)) (hk p List.mem_cons_self)
        · rfl
      rw [if_neg c]
      have := lput_gt (a := []) (p := p) (b := l) (k := k) (v := v) hs c2
      simp only [List.nil_append] at this
      rw [this, insF_lput h2 fun q hq => hk q (List.mem_cons_of_mem _ hq)]
theorem lput_ldel (k v : List UInt8) (l : List KPair) : lput k v (ldel k l) = lput k v l := by
  unfold lput ldel
  rw [List.filter_filter, List.filter_filter]
  congr 1
  · refine List.filter_congr fun x _ => ?_
    cases h : blt x.key k
    · simp
    · simpa using blt_ne h
  · congr 1
    refine List.filter_congr fun x _ => ?_
    cases h : blt k x.key
    · simp
    · simpa using (blt_ne h).symm
theorem rput31_loop (d : Nat) (s v : List UInt8) (h : Heap) (l : List KPair) (hl : l.length ≤ 1000000) (Q : Res → Prop) : ∀ (n i k : Nat) (b : Bool) (acc : List KPair) (tg : Hid Q), acc.length ≤ i + b.toNat → l.length = i + n → n < k →
    Run (P54_0 d k (prs l) s v (prs acc) b i h) Q tg = Q ([.sl false 3 (prs (acc ++ insF s v b (l.drop i)))], h) := by
  intro n
  induction n with
  | zero =>
    intro i k b acc tg ha hi hk
    obtain ⟨k, rfl⟩ : ∃ m, k = m + 1 := ⟨k - 1, by omega⟩
    have hd : l.drop i = [] := List.drop_eq_nil_of_le (by omega)
    rw [P54_0_eq, hd]
    cases b <;> simp only [Bool.toNat_false, Bool.toNat_true] at ha
    · simp (disch := (first | assumption | (simp only [Bool.and_eq_true, Bool.and_eq_false_iff, decide_eq_true_eq, decide_eq_false_iff_not, bne_iff_ne, beq_iff_eq, beq_eq_false_iff_ne, bne_eq_false_iff_eq, Bool.not_eq_true', Bool.not_eq_false', bys_length, List.length_append, List.length_cons, List.length_nil, List.length_map, List.length_drop, List.length_take, Int.natCast_add, wrap_i64_eq, wrap_u64, wrap_u8, ne_eq, not_true_eq_false, not_false_eq_true, Nat.zero_add, Nat.mul_one] <;> omega) | omega | (simp; done) | (simp; omega))) only [↓CR, MC, ↓PR, MR, prs_length, Bool.not_false, prs_snoc]
      rfl
    · have hb : acc ++ insF s v true [] = acc := by simp [insF]
      rw [hb]
      simp (disch := (first | assumption | (simp only [Bool.and_eq_true, Bool.and_eq_false_iff, decide_eq_true_eq, decide_eq_false_iff_not, bne_iff_ne, beq_iff_eq, beq_eq_false_iff_ne, bne_eq_false_iff_eq, Bool.not_eq_true', Bool.not_eq_false', bys_length, List.length_append, List.length_cons, List.length_nil, List.length_map, List.length_drop, List.length_take, Int.natCast_add, wrap_i64_eq, wrap_u64, wrap_u8, ne_eq, not_true_eq_false, not_false_eq_true, Nat.zero_add, Nat.mul_one] <;> omega) | omega | (simp; done) | (simp; omega))) only [↓CR, MC, ↓PR, MR, prs_length, Bool.not_true]
  | succ n ih =>
    intro i k b acc tg ha hi hk
    obtain ⟨k, rfl⟩ : ∃ m, k = m + 1 := ⟨k - 1, by omega⟩
    have h1 : i < l.length := by omega
    have e1 := succ_wrap (i := i) (by omega)
    have ea : ∀ acc, prs acc ++ [.agg [.str l[i].key, .str l[i].val]] = prs (acc ++ [l[i]]) := fun acc => prs_snoc acc l[i].key l[i].val
    rw [P54_0_eq, List.drop_eq_getElem_cons h1]
    cases b <;> simp only [Bool.toNat_false, Bool.toNat_true] at ha
    · unfold insF
      by_cases c : blt s l[i].key = true
      · have c1 : Go.Op.bytesLess l[i].key s = false := blt_asym c
        have c2 : (l[i].key == s) = false := by simpa using (blt_ne c).symm
        have ih' := fun tg => ih (i + 1) k true (acc ++ [⟨s, v⟩] ++ [l[i]]) tg (by simp; omega) (by omega) (by omega)
        rw [if_pos c]
        simp (disch := (first | assumption | (simp only [Bool.and_eq_true, Bool.and_eq_false_iff, decide_eq_true_eq, decide_eq_false_iff_not, bne_iff_ne, beq_iff_eq, beq_eq_false_iff_ne, bne_eq_false_iff_eq, Bool.not_eq_true', Bool.not_eq_false', bys_length, List.length_append, List.length_cons, List.length_nil, List.length_map, List.length_drop, List.length_take, Int.natCast_add, wrap_i64_eq, wrap_u64, wrap_u8, ne_eq, not_true_eq_false, not_false_eq_true, Nat.zero_add, Nat.mul_one] <;> omega) | omega | (simp; done) | (simp; omega))) only [↓CR, MC, ↓PR, MR, prs_length, prs_getD h1, Bool.not_false, c1, c2, Bool.or_false, e1, prs_snoc, ea, ih']
        simp [insF]
      · have ih' := fun tg => ih (i + 1) k false (acc ++ [l[i]]) tg (by simp; omega) (by omega) (by omega)
        rw [if_neg c]
        have c3 : (Go.Op.bytesLess l[i].key s || (l[i].key == s)) = true := by
          cases hh : blt l[i].key s
          · have := blt_tri hh (by simpa using c)
            simp [this]
          · have : Go.Op.bytesLess l[i].key s = true := hh
            simp [this]
        simp (disch := (first | assumption | (simp only [Bool.and_eq_true, Bool.and_eq_false_iff, decide_eq_true_eq, decide_eq_false_iff_not, bne_iff_ne, beq_iff_eq, beq_eq_false_iff_ne, bne_eq_false_iff_eq, Bool.not_eq_true', Bool.not_eq_false', bys_length, List.length_append, List.length_cons, List.length_nil, List.length_map, List.length_drop, List.length_take, Int.natCast_add, wrap_i64_eq, wrap_u64, wrap_u8, ne_eq, not_true_eq_false, not_false_eq_true, Nat.zero_add, Nat.mul_one] <;> omega) | omega | (simp; done) | (simp; omega))) only [↓CR, MC, ↓PR, MR, prs_length, prs_getD h1, Bool.not_false, c3, Bool.not_true, e1, ea, ih']
        simp
    · have ih' := fun tg => ih (i + 1) k true (acc ++ [l[i]]) tg (by simp; omega) (by omega) (by omega)
      simp (disch := (first | assumption | (simp only [Bool.and_eq_true, Bool.and_eq_false_iff, decide_eq_true_eq, decide_eq_false_iff_not, bne_iff_ne, beq_iff_eq, beq_eq_false_iff_ne, bne_eq_false_iff_eq, Bool.not_eq_true', Bool.not_eq_false', bys_length, List.length_append, List.length_cons, List.length_nil, List.length_map, List.length_drop, List.length_take, Int.natCast_add, wrap_i64_eq, wrap_u64, wrap_u8, ne_eq, not_true_eq_false, not_false_eq_true, Nat.zero_add, Nat.mul_one] <;> omega) | omega | (simp; done) | (simp; omega))) only [↓CR, MC, ↓PR, MR, prs_length, prs_getD h1, Bool.not_true, e1, ea, ih']
      simp [insF]
theorem rput31_run {d : Nat} {f : Bool} {l : List KPair} {s v : List UInt8} {h : Heap} {Q : Res → Prop} {tg : Hid Q} (hs : Srt l) (hl : l.length ≤ 900000) :
    Run (evFn Cw (d + 2) 54 [.sl f 3 (prs l), .str s, .str v] h) Q tg = Q ([.sl false 3 (prs (lput s v l))], h) := by
  have hlen : (ldel s l).length ≤ l.length := List.length_filter_le _ _
  have := rput31_loop (d + 1) s v h (ldel s l) (by omega) Q (ldel s l).length 0 rounds false [] ⟨⟩ (by simp) (by omega) (rounds_gt' (by omega))
  rw [e0, prs_nil, List.drop_zero, List.nil_append, insF_lput hs.del (fun p hp => by simpa using (List.mem_filter.1 hp).2), lput_ldel] at this
  rw [F54_eq]
  simp (disch := (first | assumption | (simp only [Bool.and_eq_true, Bool.and_eq_false_iff, decide_eq_true_eq, decide_eq_false_iff_not, bne_iff_ne, beq_iff_eq, beq_eq_false_iff_ne, bne_eq_false_iff_eq, Bool.not_eq_true', Bool.not_eq_false', bys_length, List.length_append, List.length_cons, List.length_nil, List.length_map, List.length_drop, List.length_take, Int.natCast_add, wrap_i64_eq, wrap_u64, wrap_u8, ne_eq, not_true_eq_false, not_false_eq_true, Nat.zero_add, Nat.mul_one] <;> omega) | omega | (simp; done) | (simp; omega))) only [↓CR, MC, ↓PR, MR, rdel31_run, this]
theorem same31_loop (d : Nat) (f g : Bool) (h : Heap) (l : List KPair) (hl : l.length ≤ 1000000) (Q : Res → Prop) : ∀ (n i k : Nat) (tg : Hid Q), l.length = i + n → n < k →
    Run (P15_0 d k f (prs l) g (prs l) i h) Q tg = Q ([.bool true], h) := by
  intro n
  induction n with
  | zero =>
    intro i k tg hi hk
    obtain ⟨k, rfl⟩ : ∃ m, k = m + 1 := ⟨k - 1, by omega⟩
    rw [P15_0_eq]
    simp (disch := (first | assumption | (simp only [Bool.and_eq_true, Bool.and_eq_false_iff, decide_eq_true_eq, decide_eq_false_iff_not, bne_iff_ne, beq_iff_eq, beq_eq_false_iff_ne, bne_eq_false_iff_eq, Bool.not_eq_true', Bool.not_eq_false', bys_length, List.length_append, List.length_cons, List.length_nil, List.length_map, List.length_drop, List.length_take, Int.natCast_add, wrap_i64_eq, wrap_u64, wrap_u8, ne_eq, not_true_eq_false, not_false_eq_true, Nat.zero_add, Nat.mul_one] <;> omega) | omega | (simp; done) | (simp; omega))) only [↓CR, MC, ↓PR, MR, prs_length]
  | succ n ih =>
    intro i k tg hi hk
    obtain ⟨k, rfl⟩ : ∃ m, k = m + 1 := ⟨k - 1, by omega⟩
    have h1 : i < l.length := by omega
    have e1 := succ_wrap (i := i) (by omega)
    have ih' := fun tg => ih (i + 1) k tg (by omega) (by omega)
    rw [P15_0_eq]
    simp (disch := (first | assumption | (simp only [Bool.and_eq_true, Bool.and_eq_false_iff, decide_eq_true_eq, decide_eq_false_iff_not, bne_iff_ne, beq_iff_eq, beq_eq_false_iff_ne, bne_eq_false_iff_eq, Bool.not_eq_true', Bool.not_eq_false', bys_length, List.length_append, List.length_cons, List.length_nil, List.length_map, List.length_drop, List.length_take, Int.natCast_add, wrap_i64_eq, wrap_u64, wrap_u8, ne_eq, not_true_eq_false, not_false_eq_true, Nat.zero_add, Nat.mul_one] <;> omega) | omega | (simp; done) | (simp; omega))) only [↓CR, MC, ↓PR, MR, prs_length, prs_getD h1, plain68, Bool.and_self, str_beq_self, Bool.not_true, e1, ih']
theorem same31_run {d : Nat} {f g : Bool} {l : List KPair} {h : Heap} {Q : Res → Prop} {tg : Hid Q} (hl : l.length ≤ 1000000) :
    Run (evFn Cw (d + 1) 15 [.sl f 3 (prs l), .sl g 3 (prs l)] h) Q tg = Q ([.bool true], h) := by
  have := same31_loop d f g h l hl Q l.length 0 rounds ⟨⟩ (by omega) (rounds_gt' (by omega))
  rw [e0] at this
  rw [F15_eq]
  simp (disch := (first | assumption | (simp only [Bool.and_eq_true, Bool.and_eq_false_iff, decide_eq_true_eq, decide_eq_false_iff_not, bne_iff_ne, beq_iff_eq, beq_eq_false_iff_ne, bne_eq_false_iff_eq, Bool.not_eq_true', Bool.not_eq_false', bys_length, List.length_append, List.length_cons, List.length_nil, List.length_map, List.length_drop, List.length_take, Int.natCast_add, wrap_i64_eq, wrap_u64, wrap_u8, ne_eq, not_true_eq_false, not_false_eq_true, Nat.zero_add, Nat.mul_one] <;> omega) | omega | (simp; done) | (simp; omega))) only [↓CR, MC, ↓PR, MR, prs_length, this]
end Go.Proofs.YtdlcjibefbnckaaDoor.Wa
end

section
/- Trees: what the program does with them; TreePlays. -/
namespace Go.Proofs.YtdlcjibefbnckaaDoor.Wa
open Go Go.Weave
set_option maxRecDepth 100000
set_option linter.unusedSimpArgs false
set_option linter.unusedVariables false
set_option linter.unusedSectionVars false

def trT (t : Nd) : Weave.Obj := .cells [HCell.val t.A, HCell.val (.int .i64 t.toL.length)]
structure TOk' (t : Nd) : Prop where
  avl : t.Avl
  srt : Srt t.toL
  len : t.toL.length ≤ 31000
theorem trT_root {h : Heap} {i : Nat} {t : Nd} (hm : h.objs[i]? = some (trT t)) : h.cell? i 0 = some (HCell.val t.A) := by rw [Heap.cell_at hm]; rfl
theorem trT_n {h : Heap} {i : Nat} {t : Nd} (hm : h.objs[i]? = some (trT t)) : h.cell? i 1 = some (HCell.val (.int .i64 t.toL.length)) := by rw [Heap.cell_at hm]; rfl
theorem TOk'.put {t : Nd} (ok : TOk' t) (k v : List UInt8) (hl : t.toL.length ≤ 30999) : TOk' (t.put k v) ∧ (t.put k v).toL = lput k v t.toL := by
  have e := Nd.put_toL (k := k) (v := v) ok.srt
  refine ⟨⟨(Nd.put_avl ok.avl).1, by rw [e]; exact ok.srt.put, ?_⟩, e⟩
  rw [e]
  cases hg : (lget k t.toL).isSome
  · rw [lput_len_new ok.srt hg]; omega
  · rw [lput_len_old ok.srt hg]; omega
theorem TOk'.del {t : Nd} (ok : TOk' t) {k : List UInt8} (hk : (lget k t.toL).isSome = true) : TOk' (t.without k) ∧ (t.without k).toL = ldel k t.toL := by
  obtain ⟨a1, _, _, a4⟩ := Nd.without_ok ok.avl ok.srt (lget_mem hk)
  refine ⟨⟨a1, by rw [a4]; exact ok.srt.del, ?_⟩, a4⟩
  rw [a4]
  exact Nat.le_trans (List.length_filter_le _ _) ok.len

theorem tseek_run {d i : Nat} {t : Nd} {s : List UInt8} {h : Heap} {Q : Res → Prop} {tg : Hid Q} (ok : TOk' t) (hm : h.objs[i]? = some (trT t)) :
    Run (evFn Cw (d + 2) 78 [.obj i 0, .str s] h) Q tg = Q ([.str (oKey (lseek s t.toL)), .str (oVal (lseek s t.toL)), .bool (lseek s t.toL).isSome], h) := by
  have hl := ok.len
  have hd := Nd.dep_le t
  have := seek_loop d h s t .nil rounds (rounds_gt' (by omega)) ok.srt Q ⟨⟩
  have e : (lseek s t.toL).or Nd.nil.kv = lseek s t.toL := by cases lseek s t.toL <;> rfl
  rw [e, tellK_eq, A_nil] at this
  rw [F78_eq]
  simp (disch := (first | assumption | (simp only [Bool.and_eq_true, Bool.and_eq_false_iff, decide_eq_true_eq, decide_eq_false_iff_not, bne_iff_ne, beq_iff_eq, beq_eq_false_iff_ne, bne_eq_false_iff_eq, Bool.not_eq_true', Bool.not_eq_false', bys_length, List.length_append, List.length_cons, List.length_nil, List.length_map, List.length_drop, List.length_take, Int.natCast_add, wrap_i64_eq, wrap_u64, wrap_u8, ne_eq, not_true_eq_false, not_false_eq_true, Nat.zero_add, Nat.mul_one] <;> omega) | omega | (simp; done) | (simp; omega))) only [↓CR, MC, ↓PR, MR, trT_root hm, this]
theorem tget_run {d i : Nat} {t : Nd} {s : List UInt8} {h : Heap} {Q : Res → Prop} {tg : Hid Q} (ok : TOk' t) (hm : h.objs[i]? = some (trT t)) :
    Run (evFn Cw (d + 3) 81 [.obj i 0, .str s] h) Q tg = Q ([.str (oVal (lget s t.toL)), .bool (lget s t.toL).isSome], h) := by
  have hs := fun (Q : Res → Prop) (tg : Hid Q) => tseek_run (d := d) (s := s) (Q := Q) (tg := tg) ok hm
  rw [F81_eq, lget_seek ok.srt]
  cases h1 : (lseek s t.toL).isSome
  · rw [h1] at hs
    rw [if_neg (by simp)]
    simp (disch := (first | assumption | (simp only [Bool.and_eq_true, Bool.and_eq_false_iff, decide_eq_true_eq, decide_eq_false_iff_not, bne_iff_ne, beq_iff_eq, beq_eq_false_iff_ne, bne_eq_false_iff_eq, Bool.not_eq_true', Bool.not_eq_false', bys_length, List.length_append, List.length_cons, List.length_nil, List.length_map, List.length_drop, List.length_take, Int.natCast_add, wrap_i64_eq, wrap_u64, wrap_u8, ne_eq, not_true_eq_false, not_false_eq_true, Nat.zero_add, Nat.mul_one] <;> omega) | omega | (simp; done) | (simp; omega))) only [↓CR, MC, ↓PR, MR, hs, Bool.not_false]
    rfl
  · rw [h1] at hs
    by_cases h2 : oKey (lseek s t.toL) = s
    · have h2' : (oKey (lseek s t.toL) == s) = true := by simp [h2]
      rw [if_pos ⟨h2, rfl⟩]
      simp (disch := (first | assumption | (simp only [Bool.and_eq_true, Bool.and_eq_false_iff, decide_eq_true_eq, decide_eq_false_iff_not, bne_iff_ne, beq_iff_eq, beq_eq_false_iff_ne, bne_eq_false_iff_eq, Bool.not_eq_true', Bool.not_eq_false', bys_length, List.length_append, List.length_cons, List.length_nil, List.length_map, List.length_drop, List.length_take, Int.natCast_add, wrap_i64_eq, wrap_u64, wrap_u8, ne_eq, not_true_eq_false, not_false_eq_true, Nat.zero_add, Nat.mul_one] <;> omega) | omega | (simp; done) | (simp; omega))) only [↓CR, MC, ↓PR, MR, hs, Bool.not_true, h2']
      rw [h1]
    · have h2' : (oKey (lseek s t.toL) == s) = false := by simpa using h2
      rw [if_neg (by simp [h2])]
      simp (disch := (first | assumption | (simp only [Bool.and_eq_true, Bool.and_eq_false_iff, decide_eq_true_eq, decide_eq_false_iff_not, bne_iff_ne, beq_iff_eq, beq_eq_false_iff_ne, bne_eq_false_iff_eq, Bool.not_eq_true', Bool.not_eq_false', bys_length, List.length_append, List.length_cons, List.length_nil, List.length_map, List.length_drop, List.length_take, Int.natCast_add, wrap_i64_eq, wrap_u64, wrap_u8, ne_eq, not_true_eq_false, not_false_eq_true, Nat.zero_add, Nat.mul_one] <;> omega) | omega | (simp; done) | (simp; omega))) only [↓CR, MC, ↓PR, MR, hs, Bool.not_true, h2', Bool.not_false]
      rfl
theorem tput_run {d i : Nat} {t : Nd} {k v : List UInt8} {h : Heap} {Q : Res → Prop} {tg : Hid Q} (ok : TOk' t) (hl : t.toL.length ≤ 30999) (hm : h.objs[i]? = some (trT t)) (hd : 31010 ≤ d) :
    Run (evFn Cw d 83 [.obj i 0, .str k, .str v] h) Q tg = Q ([.str (oVal (lget k t.toL)), .bool (lget k t.toL).isSome], h.put i (trT (t.put k v))) := by
  have hdp := Nd.dep_le t
  have hh := ok.avl.high_le
  have hlen := ok.len
  obtain ⟨d, rfl⟩ : ∃ e, d = e + 4 := ⟨d - 4, by omega⟩
  have hg := fun (Q : Res → Prop) (tg : Hid Q) => tget_run (d := d) (s := k) (Q := Q) (tg := tg) ok hm
  have hp := put_nd t (d + 3) (by omega) ok.avl (by omega) k v h
  have e := (ok.put k v hl).2
  have s1 : h.setCell i 0 (HCell.val (t.put k v).A) = h.put i (.cells [HCell.val (t.put k v).A, HCell.val (.int .i64 t.toL.length)]) := by rw [Heap.set_at hm]; rfl
  have hm2 : (h.put i (.cells [HCell.val (t.put k v).A, HCell.val (.int .i64 t.toL.length)])).objs[i]? = some (.cells [HCell.val (t.put k v).A, HCell.val (.int .i64 t.toL.length)]) := Heap.put_get hm
  have c2 : (h.put i (.cells [HCell.val (t.put k v).A, HCell.val (.int .i64 t.toL.length)])).cell? i 1 = some (HCell.val (.int .i64 t.toL.length)) := by rw [Heap.cell_at hm2]; rfl
  have e1 : IntKind.i64.wrap ((t.toL.length : Int) + 1) = ((t.toL.length + 1 : Nat) : Int) := succ_wrap (by omega)
  rw [F83_eq]
  cases h1 : (lget k t.toL).isSome
  · have e2 : (t.put k v).toL.length = t.toL.length + 1 := by rw [e, lput_len_new ok.srt h1]
    have s2 : (h.put i (.cells [HCell.val (t.put k v).A, HCell.val (.int .i64 t.toL.length)])).setCell i 1 (HCell.val (.int .i64 ((t.toL.length + 1 : Nat) : Int))) = h.put i (trT (t.put k v)) := by
      rw [Heap.set_at hm2, Heap.put_put]; unfold trT; rw [e2]; rfl
    simp (disch := (first | assumption | (simp only [Bool.and_eq_true, Bool.and_eq_false_iff, decide_eq_true_eq, decide_eq_false_iff_not, bne_iff_ne, beq_iff_eq, beq_eq_false_iff_ne, bne_eq_false_iff_eq, Bool.not_eq_true', Bool.not_eq_false', bys_length, List.length_append, List.length_cons, List.length_nil, List.length_map, List.length_drop, List.length_take, Int.natCast_add, wrap_i64_eq, wrap_u64, wrap_u8, ne_eq, not_true_eq_false, not_false_eq_true, Nat.zero_add, Nat.mul_one] <;> omega) | omega | (simp; done) | (simp; omega))) only [↓CR, MC, ↓PR, MR, hg, h1, trT_root hm, hp, isAgg_A, s1, c2, e1, s2, Bool.not_false]
  · have e2 : (t.put k v).toL.length = t.toL.length := by rw [e, lput_len_old ok.srt h1]
    have s2 : h.put i (.cells [HCell.val (t.put k v).A, HCell.val (.int .i64 t.toL.length)]) = h.put i (trT (t.put k v)) := by unfold trT; rw [e2]
    rw [s2] at s1
    simp (disch := (first | assumption | (simp only [Bool.and_eq_true, Bool.and_eq_false_iff, decide_eq_true_eq, decide_eq_false_iff_not, bne_iff_ne, beq_iff_eq, beq_eq_false_iff_ne, bne_eq_false_iff_eq, Bool.not_eq_true', Bool.not_eq_false', bys_length, List.length_append, List.length_cons, List.length_nil, List.length_map, List.length_drop, List.length_take, Int.natCast_add, wrap_i64_eq, wrap_u64, wrap_u8, ne_eq, not_true_eq_false, not_false_eq_true, Nat.zero_add, Nat.mul_one] <;> omega) | omega | (simp; done) | (simp; omega))) only [↓CR, MC, ↓PR, MR, hg, h1, trT_root hm, hp, isAgg_A, s1, Bool.not_true]
theorem tdel_run {d i : Nat} {t : Nd} {k : List UInt8} {h : Heap} {Q : Res → Prop} {tg : Hid Q} (ok : TOk' t) (hm : h.objs[i]? = some (trT t)) (hd : 31010 ≤ d) :
    Run (evFn Cw d 76 [.obj i 0, .str k] h) Q tg = Q ([.str (oVal (lget k t.toL)), .bool (lget k t.toL).isSome], h.put i (trT (if (lget k t.toL).isSome then t.without k else t))) := by
  have hdp := Nd.dep_le t
  have hh := ok.avl.high_le
  have hlen := ok.len
  obtain ⟨d, rfl⟩ : ∃ e, d = e + 4 := ⟨d - 4, by omega⟩
  have hg := fun (Q : Res → Prop) (tg : Hid Q) => tget_run (d := d) (s := k) (Q := Q) (tg := tg) ok hm
  rw [F76_eq]
  cases h1 : (lget k t.toL).isSome
  · rw [if_neg (by simp), Heap.put_self' hm]
    simp (disch := (first | assumption | (simp only [Bool.and_eq_true, Bool.and_eq_false_iff, decide_eq_true_eq, decide_eq_false_iff_not, bne_iff_ne, beq_iff_eq, beq_eq_false_iff_ne, bne_eq_false_iff_eq, Bool.not_eq_true', Bool.not_eq_false', bys_length, List.length_append, List.length_cons, List.length_nil, List.length_map, List.length_drop, List.length_take, Int.natCast_add, wrap_i64_eq, wrap_u64, wrap_u8, ne_eq, not_true_eq_false, not_false_eq_true, Nat.zero_add, Nat.mul_one] <;> omega) | omega | (simp; done) | (simp; omega))) only [↓CR, MC, ↓PR, MR, hg, h1]
  · rw [if_pos rfl]
    have e := (ok.del h1).2
    have hp := without_nd t (d + 3) (by omega) (by omega) ok.avl (by omega) ok.srt k (lget_mem h1) h
    have s1 : h.setCell i 0 (HCell.val (t.without k).A) = h.put i (.cells [HCell.val (t.without k).A, HCell.val (.int .i64 t.toL.length)]) := by rw [Heap.set_at hm]; rfl
    have hm2 : (h.put i (.cells [HCell.val (t.without k).A, HCell.val (.int .i64 t.toL.length)])).objs[i]? = some (.cells [HCell.val (t.without k).A, HCell.val (.int .i64 t.toL.length)]) := Heap.put_get hm
    have c2 : (h.put i (.cells [HCell.val (t.without k).A, HCell.val (.int .i64 t.toL.length)])).cell? i 1 = some (HCell.val (.int .i64 t.toL.length)) := by rw [Heap.cell_at hm2]; rfl
    have e3 := ldel_len ok.srt h1
    have e1 : IntKind.i64.wrap ((t.toL.length : Int) - 1) = (((t.without k).toL.length : Nat) : Int) := by rw [wrap_i64_id (by omega) (by omega), e]; omega
    have s2 : (h.put i (.cells [HCell.val (t.without k).A, HCell.val (.int .i64 t.toL.length)])).setCell i 1 (HCell.val (.int .i64 (((t.without k).toL.length : Nat) : Int))) = h.put i (trT (t.without k)) := by
      rw [Heap.set_at hm2, Heap.put_put]; rfl
    simp (disch := (first | assumption | (simp only [Bool.and_eq_true, Bool.and_eq_false_iff, decide_eq_true_eq, decide_eq_false_iff_not, bne_iff_ne, beq_iff_eq, beq_eq_false_iff_ne, bne_eq_false_iff_eq, Bool.not_eq_true', Bool.not_eq_false', bys_length, List.length_append, List.length_cons, List.length_nil, List.length_map, List.length_drop, List.length_take, Int.natCast_add, wrap_i64_eq, wrap_u64, wrap_u8, ne_eq, not_true_eq_false, not_false_eq_true, Nat.zero_add, Nat.mul_one] <;> omega) | omega | (simp; done) | (simp; omega))) only [↓CR, MC, ↓PR, MR, hg, h1, trT_root hm, hp, isAgg_A, s1, c2, e1, s2]
theorem tlen_run {d i : Nat} {t : Nd} {h : Heap} {Q : Res → Prop} {tg : Hid Q} (hm : h.objs[i]? = some (trT t)) :
    Run (evFn Cw (d + 1) 44 [.obj i 0] h) Q tg = Q ([.int .i64 t.toL.length], h) := by
  rw [F44_eq]
  simp (disch := (first | assumption | (simp only [Bool.and_eq_true, Bool.and_eq_false_iff, decide_eq_true_eq, decide_eq_false_iff_not, bne_iff_ne, beq_iff_eq, beq_eq_false_iff_ne, bne_eq_false_iff_eq, Bool.not_eq_true', Bool.not_eq_false', bys_length, List.length_append, List.length_cons, List.length_nil, List.length_map, List.length_drop, List.length_take, Int.natCast_add, wrap_i64_eq, wrap_u64, wrap_u8, ne_eq, not_true_eq_false, not_false_eq_true, Nat.zero_add, Nat.mul_one] <;> omega) | omega | (simp; done) | (simp; omega))) only [↓CR, MC, ↓PR, MR, trT_n hm]
theorem tnew_run {d : Nat} {h : Heap} {Q : Res → Prop} {tg : Hid Q} : Run (evFn Cw (d + 1) 45 [] h) Q tg = Q ([.obj h.objs.length 0], h.push (trT .nil)) := by
  rw [F45_eq]
  simp (disch := (first | assumption | (simp only [Bool.and_eq_true, Bool.and_eq_false_iff, decide_eq_true_eq, decide_eq_false_iff_not, bne_iff_ne, beq_iff_eq, beq_eq_false_iff_ne, bne_eq_false_iff_eq, Bool.not_eq_true', Bool.not_eq_false', bys_length, List.length_append, List.length_cons, List.length_nil, List.length_map, List.length_drop, List.length_take, Int.natCast_add, wrap_i64_eq, wrap_u64, wrap_u8, ne_eq, not_true_eq_false, not_false_eq_true, Nat.zero_add, Nat.mul_one] <;> omega) | omega | (simp; done) | (simp; omega))) only [↓CR, MC, ↓PR, MR]
  rfl

/-! ### All of a tree -/
/-- The variable in which pairs are gathered. -/
def pvO (o : Weave.Obj) (l : List KPair) : Prop := (o = .cells [HCell.val (.sl true 3 [])] ∧ l = []) ∨ o = .cells [HCell.own 3 (prs l)]
theorem pvO.cell {o : Weave.Obj} {l : List KPair} (ho : pvO o l) {h : Heap} {i : Nat} (hm : h.objs[i]? = some o) : ∃ c, h.cell? i 0 = some c ∧ ∃ f, c.toA = .sl f 3 (prs l) := by
  rcases ho with ⟨rfl, rfl⟩ | rfl
  · exact ⟨_, by rw [Heap.cell_at hm]; rfl, true, rfl⟩
  · exact ⟨_, by rw [Heap.cell_at hm]; rfl, false, rfl⟩

/-! ### How many keys a balanced tree has at least -/
/-! ### A tree tells what a list does -/
end Go.Proofs.YtdlcjibefbnckaaDoor.Wa
end

section
/- TreePlays. -/
namespace Go.Proofs.YtdlcjibefbnckaaDoor.Wa
open Go Go.Weave
set_option maxRecDepth 100000
set_option linter.unusedSimpArgs false
set_option linter.unusedVariables false
set_option linter.unusedSectionVars false

def kops (l : List KOp) : List AVal := l.map fun x => KOp.A x
theorem kops_length (l : List KOp) : (kops l).length = l.length := by simp [kops]
theorem kops_getD {l : List KOp} {i : Nat} (h : i < l.length) : (kops l).getD i AVal.undef = .agg [.int .i64 l[i].kind, .str l[i].key, .str l[i].val] := by simp [kops, h, KOp.A, KOp.C]
theorem ldel_len_le (k : List UInt8) (l : List KPair) : (ldel k l).length ≤ l.length := List.length_filter_le _ _
theorem lput_len_le {k v : List UInt8} {l : List KPair} (hs : Srt l) : (lput k v l).length ≤ l.length + 1 := by
  cases h : (lget k l).isSome
  · rw [lput_len_new hs h]; omega
  · rw [lput_len_old hs h]; omega
end Go.Proofs.YtdlcjibefbnckaaDoor.Wa
end

section
/- TreeClones. -/
namespace Go.Proofs.YtdlcjibefbnckaaDoor.Wa
open Go Go.Weave
set_option maxRecDepth 100000
set_option linter.unusedSimpArgs false
set_option linter.unusedVariables false
set_option linter.unusedSectionVars false

/-! ### A tree that is nil -/
/-! ### Each ends when it is told -/
def cl (most : Int) : Nat → Int → Bool × Int
  | 0, c => (true, c)
  | m + 1, c => if c + 1 < most then cl most m (c + 1) else (false, c + 1)
end Go.Proofs.YtdlcjibefbnckaaDoor.Wa
end

section
/- What the evaluator comes to in these functions. -/
namespace Go.Proofs.YtdlcjibefbnckaaDoor.Wa
open Go Go.Weave
set_option maxRecDepth 100000
set_option linter.unusedVariables false
/- f66 strandline/cursor.New -/
theorem F66_eq (d : Nat) (i0 : Nat) (h : Heap) : evFn Cw (d + 1) 66 [(AVal.obj i0 0)] h =
  (Tr.ret ([(AVal.obj h.objs.length 0)], (Heap.push h (Go.Weave.Obj.cells ([(AVal.obj i0 0), (AVal.int .i64 0), (AVal.str [])].map HCell.val))))) := by kernel_rfl
/- f79 (*strandline/cursor.Cursor).to -/
theorem F79_eq (d : Nat) (i0 : Nat) (s1 : List UInt8) (b2 : Bool) (x3 : Int) (h : Heap) : evFn Cw (d + 1) 79 [(AVal.obj i0 0), (AVal.str s1), (AVal.bool b2), (AVal.int .i64 x3)] h =
  (optK (Heap.cell? h i0 1) fun _ =>
    (optK (Heap.cell? (Heap.setCell h i0 1 (HCell.val (AVal.int .i64 x3))) i0 2) fun _ =>
      (bif b2 then
        (optK (Heap.cell? (Heap.setCell (Heap.setCell h i0 1 (HCell.val (AVal.int .i64 x3))) i0 2 (HCell.val (AVal.str []))) i0 1) fun _ =>
          (optK (Heap.cell? (Heap.setCell (Heap.setCell (Heap.setCell h i0 1 (HCell.val (AVal.int .i64 x3))) i0 2 (HCell.val (AVal.str []))) i0 1 (HCell.val (AVal.int .i64 1))) i0 2) fun _ =>
            (Tr.ret ([(AVal.bool b2)], (Heap.setCell (Heap.setCell (Heap.setCell (Heap.setCell h i0 1 (HCell.val (AVal.int .i64 x3))) i0 2 (HCell.val (AVal.str []))) i0 1 (HCell.val (AVal.int .i64 1))) i0 2 (HCell.val (AVal.str s1)))))))
      else
        (Tr.ret ([(AVal.bool b2)], (Heap.setCell (Heap.setCell h i0 1 (HCell.val (AVal.int .i64 x3))) i0 2 (HCell.val (AVal.str [])))))))) := by kernel_rfl
/- f67 (*strandline/cursor.Cursor).Seek -/
theorem F67_eq (d : Nat) (i0 : Nat) (s1 : List UInt8) (h : Heap) : evFn Cw (d + 1) 67 [(AVal.obj i0 0), (AVal.str s1)] h =
  (optK (Heap.cell? h i0 0) fun z1 =>
    (runK (evFn Cw d 78 [(HCell.toA z1), (AVal.str s1)] h) fun r2 h2 =>
      (consK r2 fun w3 ws4 =>
        (strK w3 fun ss5 =>
          (consK ws4 fun w6 ws7 =>
            (strK w6 fun ss8 =>
              (consK ws7 fun w9 ws10 =>
                (boolK w9 fun bb11 =>
                  (nilK ws10
                    (runK (evFn Cw d 79 [(AVal.obj i0 0), (AVal.str ss5), (AVal.bool bb11), (AVal.int .i64 2)] h2) fun r12 h12 =>
                      (consK r12 fun w13 ws14 =>
                        (boolK w13 fun bb15 =>
                          (nilK ws14
                            (Tr.ret ([(AVal.bool bb15)], h12))))))))))))))) := by kernel_rfl
/- f68 (*strandline/cursor.Cursor).Next -/
noncomputable def P68_0 (d : Nat) (i0 : Nat) (s1 : List UInt8) (h : Heap) : Tr Res :=
  heldPt Cw d 68 [true, true, true, true] [] ⟨[(0, (EV.one (SV.val (AVal.obj i0 0)))), (3, (EV.one (SV.val (AVal.str s1))))], []⟩ h
theorem P68_0_eq (d : Nat) (i0 : Nat) (s1 : List UInt8) (h : Heap) : P68_0 d i0 s1 h =
  (optK (Heap.cell? h i0 0) fun z1 =>
    (runK (evFn Cw d 78 [(HCell.toA z1), (AVal.str s1)] h) fun r2 h2 =>
      (consK r2 fun w3 ws4 =>
        (strK w3 fun ss5 =>
          (consK ws4 fun w6 ws7 =>
            (strK w6 fun ss8 =>
              (consK ws7 fun w9 ws10 =>
                (boolK w9 fun bb11 =>
                  (nilK ws10
                    (runK (evFn Cw d 79 [(AVal.obj i0 0), (AVal.str ss5), (AVal.bool bb11), (AVal.int .i64 2)] h2) fun r12 h12 =>
                      (consK r12 fun w13 ws14 =>
                        (boolK w13 fun bb15 =>
                          (nilK ws14
                            (Tr.ret ([(AVal.bool bb15)], h12))))))))))))))) := (heldPt_eq _ _ _ _ _ _ _).trans (by kernel_rfl)
theorem F68_eq (d : Nat) (i0 : Nat) (h : Heap) : evFn Cw (d + 1) 68 [(AVal.obj i0 0)] h =
  (optK (Heap.cell? h i0 1) fun z1 =>
    (intK .i64 (HCell.toA z1) fun y2 =>
      (bif ((y2 : Int) == 2) then
        (Tr.ret ([(AVal.bool false)], h))
      else
        (optK (Heap.cell? h i0 1) fun z3 =>
          (intK .i64 (HCell.toA z3) fun y4 =>
            (bif ((y4 : Int) == 1) then
              (optK (Heap.cell? h i0 2) fun z5 =>
                (strK (HCell.toA z5) fun ss6 =>
                  (bif decide (ss6.length + [0].length ≤ 140737488355328) then (P68_0 d i0 (ss6 ++ [0]) h) else Tr.fail)))
            else
              (P68_0 d i0 [] h))))))) := by kernel_rfl
/- f80 (*strandline/cursor.Cursor).On -/
theorem F80_eq (d : Nat) (i0 : Nat) (h : Heap) : evFn Cw (d + 1) 80 [(AVal.obj i0 0)] h =
  (optK (Heap.cell? h i0 1) fun z1 =>
    (intK .i64 (HCell.toA z1) fun y2 =>
      (Tr.ret ([(AVal.bool ((y2 : Int) == 1))], h)))) := by kernel_rfl
/- f69 (*strandline/cursor.Cursor).Pair -/
theorem F69_eq (d : Nat) (i0 : Nat) (h : Heap) : evFn Cw (d + 1) 69 [(AVal.obj i0 0)] h =
  (runK (evFn Cw d 80 [(AVal.obj i0 0)] h) fun r1 h1 =>
    (consK r1 fun w2 ws3 =>
      (boolK w2 fun bb4 =>
        (nilK ws3
          (bif (!bb4) then
            (Tr.ret ([(AVal.agg [(AVal.str []), (AVal.str [])]), (AVal.bool false)], h1))
          else
            (optK (Heap.cell? h1 i0 0) fun z5 =>
              (optK (Heap.cell? h1 i0 2) fun z6 =>
                (strK (HCell.toA z6) fun ss7 =>
                  (runK (evFn Cw d 81 [(HCell.toA z5), (AVal.str ss7)] h1) fun r8 h8 =>
                    (consK r8 fun w9 ws10 =>
                      (strK w9 fun ss11 =>
                        (consK ws10 fun w12 ws13 =>
                          (boolK w12 fun bb14 =>
                            (nilK ws13
                              (bif (!bb14) then
                                (Tr.ret ([(AVal.agg [(AVal.str []), (AVal.str [])]), (AVal.bool false)], h8))
                              else
                                (optK (Heap.cell? h8 i0 2) fun z15 =>
                                  (strK (HCell.toA z15) fun ss16 =>
                                    (Tr.ret ([(AVal.agg [(AVal.str ss16), (AVal.str ss11)]), (AVal.bool true)], h8))))))))))))))))))) := by kernel_rfl
/- f56 strandline/cursor.Range -/
noncomputable def P56_0 (d k : Nat) (s0 : List UInt8) (x1 : Int) (l2 : List AVal) (v3 : AVal) (b4 : Bool) (h : Heap) : Tr Res :=
  loopPt Cw d 56 [true, true, true, false, true, true] [] k ⟨[(2, (EV.one (SV.val (AVal.str s0)))), (3, (EV.one (SV.val (AVal.int .i64 x1)))), (9, (EV.one (SV.own (tokOf 9 0) 3 l2))), (10, (EV.one (SV.val v3))), (11, (EV.one (SV.val (AVal.bool b4))))], []⟩ h
theorem P56_0_eq (d k : Nat) (s0 : List UInt8) (x1 : Int) (l2 : List AVal) (v3 : AVal) (b4 : Bool) (h : Heap) : P56_0 d (k + 1) s0 x1 l2 v3 b4 h =
  (bif b4 then
    (bif (decide (((l2.length : Int) : Int) < x1)) then
      (runK (evFn Cw d 69 [v3] h) fun r1 h1 =>
        (consK r1 fun w2 ws3 =>
          (aggK 2 w2 fun cc4 =>
            (consK ws3 fun w5 ws6 =>
              (boolK w5 fun bb7 =>
                (nilK ws6
                  (bif ((cc4.length == 2) && true) then
                    (bif (!(s0 == [])) then
                      (optK (cc4[0]?) fun w8 =>
                        (strK w8 fun ss9 =>
                          (bif (!(Go.Op.bytesLess ss9 s0)) then
                            (Tr.ret ([(AVal.sl false 3 l2)], h1))
                          else
                            (bif decide (0 + 2 ≤ cc4.length) then
                              (bif ((((cc4.drop 0).take 2).length == 2) && true) then
                                (bif decide ((l2.length + (1 : Nat)) * 32 ≤ 140737488355328) then
                                  (runK (evFn Cw d 68 [v3] h1) fun r10 h10 =>
                                    (consK r10 fun w11 ws12 =>
                                      (boolK w11 fun bb13 =>
                                        (nilK ws12
                                          (P56_0 d k s0 x1 (l2 ++ [(AVal.agg ((cc4.drop 0).take 2))]) v3 bb13 h10)))))
                                else
                                  Tr.fail)
                              else
                                Tr.fail)
                            else
                              Tr.fail))))
                    else
                      (bif decide (0 + 2 ≤ cc4.length) then
                        (bif ((((cc4.drop 0).take 2).length == 2) && true) then
                          (bif decide ((l2.length + (1 : Nat)) * 32 ≤ 140737488355328) then
                            (runK (evFn Cw d 68 [v3] h1) fun r14 h14 =>
                              (consK r14 fun w15 ws16 =>
                                (boolK w15 fun bb17 =>
                                  (nilK ws16
                                    (P56_0 d k s0 x1 (l2 ++ [(AVal.agg ((cc4.drop 0).take 2))]) v3 bb17 h14)))))
                          else
                            Tr.fail)
                        else
                          Tr.fail)
                      else
                        Tr.fail))
                  else
                    Tr.fail)))))))
    else
      (Tr.ret ([(AVal.sl false 3 l2)], h)))
  else
    (Tr.ret ([(AVal.sl false 3 l2)], h))) := by kernel_rfl
theorem F56_eq (d : Nat) (i0 : Nat) (s1 : List UInt8) (s2 : List UInt8) (x3 : Int) (h : Heap) : evFn Cw (d + 1) 56 [(AVal.obj i0 0), (AVal.str s1), (AVal.str s2), (AVal.int .i64 x3)] h =
  (runK (evFn Cw d 66 [(AVal.obj i0 0)] h) fun r1 h1 =>
    (consK r1 fun w2 ws3 =>
      (nilK ws3
        (runK (evFn Cw d 67 [w2, (AVal.str s1)] h1) fun r4 h4 =>
          (consK r4 fun w5 ws6 =>
            (boolK w5 fun bb7 =>
              (nilK ws6
                (P56_0 d rounds s2 x3 [] w2 bb7 h4)))))))) := by kernel_rfl
end Go.Proofs.YtdlcjibefbnckaaDoor.Wa
end

section
/- Cursors. -/
namespace Go.Proofs.YtdlcjibefbnckaaDoor.Wa
open Go Go.Weave
set_option maxRecDepth 100000
set_option linter.unusedSimpArgs false
set_option linter.unusedVariables false
set_option linter.unusedSectionVars false

/-! ### Neighbours in a sorted list -/
theorem blt_next : ∀ (a k : List UInt8), blt a (k ++ [0]) = !(blt k a)
  | [], [] => rfl
  | [], _ :: _ => rfl
  | a :: x, [] => by
    cases x <;> simp [blt, Go.Op.bytesLess]
  | a :: x, b :: y => by
    have ih := blt_next x y
    simp only [blt] at ih
    simp only [blt, List.cons_append, Go.Op.bytesLess, ih]
    rcases Nat.lt_trichotomy a.toNat b.toNat with h | h | h
    · have h1 : a < b := UInt8.lt_iff_toNat_lt.2 h
      have h2 : ¬ b < a := fun h' => by have := UInt8.lt_iff_toNat_lt.1 h'; omega
      have h3 : (b == a) = false := by simp only [beq_eq_false_iff_ne]; intro e; subst e; omega
      simp [h1, h2, h3]
    · have h1 : a = b := UInt8.toNat_inj.1 h
      subst h1
      simp
    · have h1 : b < a := UInt8.lt_iff_toNat_lt.2 h
      have h2 : ¬ a < b := fun h' => by have := UInt8.lt_iff_toNat_lt.1 h'; omega
      have h3 : (a == b) = false := by simp only [beq_eq_false_iff_ne]; intro e; subst e; omega
      simp [h1, h2, h3]
theorem lseek_skip {s : List UInt8} : ∀ {a b : List KPair}, (∀ p ∈ a, blt p.key s = true) → lseek s (a ++ b) = lseek s b
  | [], _, _ => rfl
  | p :: a, b, h => by
    rw [List.cons_append, lseek_cons, if_pos (h p List.mem_cons_self)]
    exact lseek_skip fun q hq => h q (List.mem_cons_of_mem _ hq)
/-- The next one. -/
theorem lseek_succ {a b : List KPair} {p : KPair} (hs : Srt (a ++ p :: b)) : lseek (p.key ++ [0]) (a ++ p :: b) = b.head? := by
  obtain ⟨_, h2, h3, h4⟩ := hs.mid
  rw [lseek_skip fun q hq => by rw [blt_next, blt_asym (h3 q hq)]; rfl, lseek_cons, if_pos (by rw [blt_next, blt_irr]; rfl)]
  cases b with
  | nil => rfl
  | cons q b =>
    rw [lseek_cons, if_neg (by rw [blt_next, h4 q List.mem_cons_self]; simp)]
    rfl
theorem lget_at {a b : List KPair} {p : KPair} (hs : Srt (a ++ p :: b)) : lget p.key (a ++ p :: b) = some p := by
  obtain ⟨_, h2, h3, h4⟩ := hs.mid
  unfold lget
  rw [List.find?_append]
  have : List.find? (fun q => q.key == p.key) a = none := by
    rw [List.find?_eq_none]
    intro x hx
    simpa using blt_ne (h3 x hx)
  rw [this]; simp

/-! ### Cursors -/
def curO (tp : AVal) (w : Int) (k : List UInt8) : Weave.Obj := .cells [HCell.val tp, HCell.val (.int .i64 w), HCell.val (.str k)]
theorem cur_t {h : Heap} {i : Nat} {tp : AVal} {w : Int} {k : List UInt8} (hm : h.objs[i]? = some (curO tp w k)) : h.cell? i 0 = some (HCell.val tp) := by rw [Heap.cell_at hm]; rfl
theorem cur_w {h : Heap} {i : Nat} {tp : AVal} {w : Int} {k : List UInt8} (hm : h.objs[i]? = some (curO tp w k)) : h.cell? i 1 = some (HCell.val (.int .i64 w)) := by rw [Heap.cell_at hm]; rfl
theorem cur_k {h : Heap} {i : Nat} {tp : AVal} {w : Int} {k : List UInt8} (hm : h.objs[i]? = some (curO tp w k)) : h.cell? i 2 = some (HCell.val (.str k)) := by rw [Heap.cell_at hm]; rfl
theorem cur_sw {h : Heap} {i : Nat} {tp : AVal} {w w' : Int} {k : List UInt8} (hm : h.objs[i]? = some (curO tp w k)) : h.setCell i 1 (HCell.val (.int .i64 w')) = h.put i (curO tp w' k) := by rw [Heap.set_at hm]; rfl
theorem cur_sk {h : Heap} {i : Nat} {tp : AVal} {w : Int} {k k' : List UInt8} (hm : h.objs[i]? = some (curO tp w k)) : h.setCell i 2 (HCell.val (.str k')) = h.put i (curO tp w k') := by rw [Heap.set_at hm]; rfl
def curTo (tp : AVal) (o : Option KPair) (e : Int) : Weave.Obj := curO tp (if o.isSome then 1 else e) (oKey o)
theorem to_run {d i : Nat} {tp : AVal} {w e : Int} {k : List UInt8} {o : Option KPair} {h : Heap} {Q : Res → Prop} {tg : Hid Q} (hm : h.objs[i]? = some (curO tp w k)) :
    Run (evFn Cw (d + 1) 79 [.obj i 0, .str (oKey o), .bool o.isSome, .int .i64 e] h) Q tg = Q ([.bool o.isSome], h.put i (curTo tp o e)) := by
  have m1 : (h.put i (curO tp e k)).objs[i]? = some (curO tp e k) := Heap.put_get hm
  have m2 : (h.put i (curO tp e [])).objs[i]? = some (curO tp e []) := Heap.put_get hm
  have m3 : (h.put i (curO tp 1 [])).objs[i]? = some (curO tp 1 []) := Heap.put_get hm
  have s1 := cur_sw (w' := e) hm
  have s2 := cur_sk (k' := []) m1
  have s3 := cur_sw (w' := 1) m2
  have s4 := cur_sk (k' := oKey o) m3
  rw [Heap.put_put] at s2 s3 s4
  rw [F79_eq]
  cases o with
  | none => simp (disch := (first | assumption | (simp only [Bool.and_eq_true, Bool.and_eq_false_iff, decide_eq_true_eq, decide_eq_false_iff_not, bne_iff_ne, beq_iff_eq, beq_eq_false_iff_ne, bne_eq_false_iff_eq, Bool.not_eq_true', Bool.not_eq_false', bys_length, List.length_append, List.length_cons, List.length_nil, List.length_map, List.length_drop, List.length_take, Int.natCast_add, wrap_i64_eq, wrap_u64, wrap_u8, ne_eq, not_true_eq_false, not_false_eq_true, Nat.zero_add, Nat.mul_one] <;> omega) | omega | (simp; done) | (simp; omega))) only [↓CR, MC, ↓PR, MR, cur_w hm, s1, cur_k m1, s2, Option.isSome_none]; rfl
  | some p => simp (disch := (first | assumption | (simp only [Bool.and_eq_true, Bool.and_eq_false_iff, decide_eq_true_eq, decide_eq_false_iff_not, bne_iff_ne, beq_iff_eq, beq_eq_false_iff_ne, bne_eq_false_iff_eq, Bool.not_eq_true', Bool.not_eq_false', bys_length, List.length_append, List.length_cons, List.length_nil, List.length_map, List.length_drop, List.length_take, Int.natCast_add, wrap_i64_eq, wrap_u64, wrap_u8, ne_eq, not_true_eq_false, not_false_eq_true, Nat.zero_add, Nat.mul_one] <;> omega) | omega | (simp; done) | (simp; omega))) only [↓CR, MC, ↓PR, MR, cur_w hm, s1, cur_k m1, s2, Option.isSome_some, cur_w m2, s3, cur_k m3, s4]; rfl

theorem cnew_run {d ti : Nat} {h : Heap} {Q : Res → Prop} {tg : Hid Q} : Run (evFn Cw (d + 1) 66 [.obj ti 0] h) Q tg = Q ([.obj h.objs.length 0], h.push (curO (.obj ti 0) 0 [])) := (at_eq (F66_eq _ _ _)).trans at_ret
theorem con_run {d i : Nat} {tp : AVal} {w : Int} {k : List UInt8} {h : Heap} {Q : Res → Prop} {tg : Hid Q} (hm : h.objs[i]? = some (curO tp w k)) :
    Run (evFn Cw (d + 1) 80 [.obj i 0] h) Q tg = Q ([.bool (w == 1)], h) := by
  rw [F80_eq]
  simp (disch := (first | assumption | (simp only [Bool.and_eq_true, Bool.and_eq_false_iff, decide_eq_true_eq, decide_eq_false_iff_not, bne_iff_ne, beq_iff_eq, beq_eq_false_iff_ne, bne_eq_false_iff_eq, Bool.not_eq_true', Bool.not_eq_false', bys_length, List.length_append, List.length_cons, List.length_nil, List.length_map, List.length_drop, List.length_take, Int.natCast_add, wrap_i64_eq, wrap_u64, wrap_u8, ne_eq, not_true_eq_false, not_false_eq_true, Nat.zero_add, Nat.mul_one] <;> omega) | omega | (simp; done) | (simp; omega))) only [↓CR, MC, ↓PR, MR, cur_w hm]
theorem cseek_run {d i ti : Nat} {t : Nd} {w : Int} {k s : List UInt8} {h : Heap} {Q : Res → Prop} {tg : Hid Q} (ok : TOk' t) (hm : h.objs[i]? = some (curO (.obj ti 0) w k)) (ht : h.objs[ti]? = some (trT t)) :
    Run (evFn Cw (d + 3) 67 [.obj i 0, .str s] h) Q tg = Q ([.bool (lseek s t.toL).isSome], h.put i (curTo (.obj ti 0) (lseek s t.toL) 2)) := by
  have r := fun (Q : Res → Prop) (tg : Hid Q) => tseek_run (d := d) (s := s) (Q := Q) (tg := tg) ok ht
  have q := fun (Q : Res → Prop) (tg : Hid Q) => to_run (d := d + 1) (e := 2) (o := lseek s t.toL) (Q := Q) (tg := tg) hm
  rw [F67_eq]
  simp (disch := (first | assumption | (simp only [Bool.and_eq_true, Bool.and_eq_false_iff, decide_eq_true_eq, decide_eq_false_iff_not, bne_iff_ne, beq_iff_eq, beq_eq_false_iff_ne, bne_eq_false_iff_eq, Bool.not_eq_true', Bool.not_eq_false', bys_length, List.length_append, List.length_cons, List.length_nil, List.length_map, List.length_drop, List.length_take, Int.natCast_add, wrap_i64_eq, wrap_u64, wrap_u8, ne_eq, not_true_eq_false, not_false_eq_true, Nat.zero_add, Nat.mul_one] <;> omega) | omega | (simp; done) | (simp; omega))) only [↓CR, MC, ↓PR, MR, cur_t hm, r, q]
theorem cnext_run {d i ti : Nat} {t : Nd} {w : Int} {k : List UInt8} {h : Heap} {Q : Res → Prop} {tg : Hid Q} (ok : TOk' t) (hm : h.objs[i]? = some (curO (.obj ti 0) w k)) (ht : h.objs[ti]? = some (trT t)) (hw : w ≠ 2) (hk : k.length ≤ 140737488351232) :
    Run (evFn Cw (d + 3) 68 [.obj i 0] h) Q tg = Q ([.bool (lseek (if w = 1 then k ++ [0] else []) t.toL).isSome], h.put i (curTo (.obj ti 0) (lseek (if w = 1 then k ++ [0] else []) t.toL) 2)) := by
  have e : (w == 2) = false := by simpa using hw
  have ez : [(0 : UInt8)].length = 1 := rfl
  have r := fun (s : List UInt8) (Q : Res → Prop) (tg : Hid Q) => tseek_run (d := d) (s := s) (Q := Q) (tg := tg) ok ht
  have q := fun (s : List UInt8) (Q : Res → Prop) (tg : Hid Q) => to_run (d := d + 1) (e := 2) (o := lseek s t.toL) (Q := Q) (tg := tg) hm
  rw [F68_eq]
  by_cases h1 : w = 1
  · have e1 : (w == 1) = true := by simp [h1]
    rw [if_pos h1]
    simp (disch := (first | assumption | (simp only [Bool.and_eq_true, Bool.and_eq_false_iff, decide_eq_true_eq, decide_eq_false_iff_not, bne_iff_ne, beq_iff_eq, beq_eq_false_iff_ne, bne_eq_false_iff_eq, Bool.not_eq_true', Bool.not_eq_false', bys_length, List.length_append, List.length_cons, List.length_nil, List.length_map, List.length_drop, List.length_take, Int.natCast_add, wrap_i64_eq, wrap_u64, wrap_u8, ne_eq, not_true_eq_false, not_false_eq_true, Nat.zero_add, Nat.mul_one] <;> omega) | omega | (simp; done) | (simp; omega))) only [↓CR, MC, ↓PR, MR, cur_w hm, e, e1, cur_k hm, ez, P68_0_eq, cur_t hm, r, q]
  · have e1 : (w == 1) = false := by simpa using h1
    rw [if_neg h1]
    simp (disch := (first | assumption | (simp only [Bool.and_eq_true, Bool.and_eq_false_iff, decide_eq_true_eq, decide_eq_false_iff_not, bne_iff_ne, beq_iff_eq, beq_eq_false_iff_ne, bne_eq_false_iff_eq, Bool.not_eq_true', Bool.not_eq_false', bys_length, List.length_append, List.length_cons, List.length_nil, List.length_map, List.length_drop, List.length_take, Int.natCast_add, wrap_i64_eq, wrap_u64, wrap_u8, ne_eq, not_true_eq_false, not_false_eq_true, Nat.zero_add, Nat.mul_one] <;> omega) | omega | (simp; done) | (simp; omega))) only [↓CR, MC, ↓PR, MR, cur_w hm, e, e1, P68_0_eq, cur_t hm, r, q]
theorem cpair_run {d i ti : Nat} {t : Nd} {w : Int} {k : List UInt8} {h : Heap} {Q : Res → Prop} {tg : Hid Q} (ok : TOk' t) (hm : h.objs[i]? = some (curO (.obj ti 0) w k)) (ht : h.objs[ti]? = some (trT t)) :
    Run (evFn Cw (d + 4) 69 [.obj i 0] h) Q tg = Q (if w = 1 ∧ (lget k t.toL).isSome = true then [.agg [.str k, .str (oVal (lget k t.toL))], .bool true] else [.agg [.str [], .str []], .bool false], h) := by
  have r := fun (Q : Res → Prop) (tg : Hid Q) => con_run (d := d + 2) (Q := Q) (tg := tg) hm
  have g := fun (Q : Res → Prop) (tg : Hid Q) => tget_run (d := d) (s := k) (Q := Q) (tg := tg) ok ht
  rw [F69_eq]
  by_cases h1 : w = 1
  · have e1 : (w == 1) = true := by simp [h1]
    cases hg : (lget k t.toL).isSome
    · rw [if_neg (by simp)]
      rw [hg] at g
      simp (disch := (first | assumption | (simp only [Bool.and_eq_true, Bool.and_eq_false_iff, decide_eq_true_eq, decide_eq_false_iff_not, bne_iff_ne, beq_iff_eq, beq_eq_false_iff_ne, bne_eq_false_iff_eq, Bool.not_eq_true', Bool.not_eq_false', bys_length, List.length_append, List.length_cons, List.length_nil, List.length_map, List.length_drop, List.length_take, Int.natCast_add, wrap_i64_eq, wrap_u64, wrap_u8, ne_eq, not_true_eq_false, not_false_eq_true, Nat.zero_add, Nat.mul_one] <;> omega) | omega | (simp; done) | (simp; omega))) only [↓CR, MC, ↓PR, MR, r, e1, Bool.not_true, cur_t hm, cur_k hm, g, Bool.not_false]
    · rw [if_pos ⟨h1, rfl⟩]
      rw [hg] at g
      simp (disch := (first | assumption | (simp only [Bool.and_eq_true, Bool.and_eq_false_iff, decide_eq_true_eq, decide_eq_false_iff_not, bne_iff_ne, beq_iff_eq, beq_eq_false_iff_ne, bne_eq_false_iff_eq, Bool.not_eq_true', Bool.not_eq_false', bys_length, List.length_append, List.length_cons, List.length_nil, List.length_map, List.length_drop, List.length_take, Int.natCast_add, wrap_i64_eq, wrap_u64, wrap_u8, ne_eq, not_true_eq_false, not_false_eq_true, Nat.zero_add, Nat.mul_one] <;> omega) | omega | (simp; done) | (simp; omega))) only [↓CR, MC, ↓PR, MR, r, e1, Bool.not_true, cur_t hm, cur_k hm, g]
  · have e1 : (w == 1) = false := by simpa using h1
    rw [if_neg (fun h => h1 h.1)]
    simp (disch := (first | assumption | (simp only [Bool.and_eq_true, Bool.and_eq_false_iff, decide_eq_true_eq, decide_eq_false_iff_not, bne_iff_ne, beq_iff_eq, beq_eq_false_iff_ne, bne_eq_false_iff_eq, Bool.not_eq_true', Bool.not_eq_false', bys_length, List.length_append, List.length_cons, List.length_nil, List.length_map, List.length_drop, List.length_take, Int.natCast_add, wrap_i64_eq, wrap_u64, wrap_u8, ne_eq, not_true_eq_false, not_false_eq_true, Nat.zero_add, Nat.mul_one] <;> omega) | omega | (simp; done) | (simp; omega))) only [↓CR, MC, ↓PR, MR, r, e1, Bool.not_false]

/-! ### Back -/
/-- What is as it was, but one object. -/
structure Heap.but (h h' : Heap) (i : Nat) : Prop where
  len : h.objs.length ≤ h'.objs.length
  old : ∀ j, j ≠ i → j < h.objs.length → h'.objs[j]? = h.objs[j]?
theorem Heap.but.get {h h' : Heap} {i j : Nat} (e : Heap.but h h' i) (hj : j ≠ i) {o : Weave.Obj} (hm : h.objs[j]? = some o) : h'.objs[j]? = some o := by rw [e.old j hj (Heap.lt_of hm)]; exact hm
/-! ### Cursors of nothing -/
/-! ### Ranges -/
def inTo (to : List UInt8) (k : List UInt8) : Bool := (to == []) || blt k to
/-- By the reference. -/
def rngR (fr to : List UInt8) (most : Int) : List KPair → List KPair → List KPair
  | [], acc => acc
  | p :: l, acc => if (acc.length : Int) < most then (if (!blt p.key fr && inTo to p.key) = true then rngR fr to most l (acc ++ [p]) else rngR fr to most l acc) else acc
/-- By a cursor. -/
def rngC (to : List UInt8) (most : Int) : List KPair → List KPair → List KPair
  | [], acc => acc
  | p :: l, acc => if (acc.length : Int) < most then (if inTo to p.key = true then rngC to most l (acc ++ [p]) else acc) else acc
theorem rngR_out {fr to : List UInt8} {most : Int} : ∀ {l acc : List KPair}, (∀ p ∈ l, inTo to p.key = false) → rngR fr to most l acc = acc
  | [], _, _ => rfl
  | p :: l, acc, h => by
    unfold rngR
    rw [h p List.mem_cons_self]
    simp only [Bool.and_false, Bool.false_eq_true, if_false]
    split
    · exact rngR_out fun q hq => h q (List.mem_cons_of_mem _ hq)
    · rfl
theorem rngR_in {fr to : List UInt8} {most : Int} : ∀ {l acc : List KPair}, Srt l → (∀ p ∈ l, blt p.key fr = false) → rngR fr to most l acc = rngC to most l acc
  | [], _, _, _ => rfl
  | p :: l, acc, hs, h => by
    have ⟨h1, h2⟩ := List.pairwise_cons.1 hs
    unfold rngR rngC
    rw [h p List.mem_cons_self]
    simp only [Bool.not_false, Bool.true_and]
    split
    · split
      · exact rngR_in h2 fun q hq => h q (List.mem_cons_of_mem _ hq)
      · rename_i c
        refine rngR_out fun q hq => ?_
        unfold inTo at c ⊢
        simp only [Bool.or_eq_true, not_or, Bool.not_eq_true] at c
        rw [c.1, Bool.false_or]
        cases hb : blt q.key to
        · rfl
        · have := blt_trans (h1 q hq) hb
          rw [this] at c; simp at c
    · rfl
theorem rngR_skip {fr to : List UInt8} {most : Int} : ∀ {a b acc : List KPair}, (∀ p ∈ a, blt p.key fr = true) → rngR fr to most (a ++ b) acc = rngR fr to most b acc
  | [], _, _, _ => rfl
  | p :: a, b, acc, h => by
    rw [List.cons_append]
    conv => lhs; unfold rngR
    rw [h p List.mem_cons_self]
    simp only [Bool.not_true, Bool.false_and, Bool.false_eq_true, if_false]
    split
    · exact rngR_skip fun q hq => h q (List.mem_cons_of_mem _ hq)
    · rename_i c
      cases b with
      | nil => rfl
      | cons q b => unfold rngR; rw [if_neg c]
theorem split_at (fr : List UInt8) : ∀ {l : List KPair}, Srt l → ∃ a b, l = a ++ b ∧ (∀ p ∈ a, blt p.key fr = true) ∧ (∀ p ∈ b, blt p.key fr = false)
  | [], _ => ⟨[], [], rfl, by simp, by simp⟩
  | p :: l, hs => by
    have ⟨h1, h2⟩ := List.pairwise_cons.1 hs
    by_cases c : blt p.key fr = true
    · obtain ⟨a, b, e, ha, hb⟩ := split_at fr h2
      exact ⟨p :: a, b, by rw [e]; rfl, fun q hq => (List.mem_cons.1 hq).elim (fun e => e ▸ c) (ha q), hb⟩
    · refine ⟨[], p :: l, rfl, by simp, fun q hq => ?_⟩
      rcases List.mem_cons.1 hq with rfl | hq
      · simpa using c
      · cases hb : blt q.key fr
        · rfl
        · exact absurd (blt_trans (h1 q hq) hb) c
/-! ### A cursor at a place -/
theorem cut_at {l : List KPair} {n : Nat} (h : n < l.length) : l = l.take n ++ l[n] :: l.drop (n + 1) := by
  rw [← List.drop_eq_getElem_cons h, List.take_append_drop]
theorem next_at' {l : List KPair} (hs : Srt l) {n : Nat} (hn : n < l.length) : lseek (l[n].key ++ [0]) l = l[n + 1]? := by
  have hc := cut_at hn
  have := lseek_succ (a := l.take n) (p := l[n]) (b := l.drop (n + 1)) (by rw [← hc]; exact hs)
  rw [← hc] at this
  rw [this, List.head?_drop]
theorem get_at {l : List KPair} (hs : Srt l) {n : Nat} (hn : n < l.length) : lget l[n].key l = some l[n] := by
  have hc := cut_at hn
  have := lget_at (a := l.take n) (p := l[n]) (b := l.drop (n + 1)) (by rw [← hc]; exact hs)
  rw [← hc] at this
  exact this
theorem curTo_some (tp : AVal) (p : KPair) (e : Int) : curTo tp (some p) e = curO tp 1 p.key := rfl
theorem isSome_some' (p : KPair) : (some p).isSome = true := rfl
theorem isSome_none' : (none : Option KPair).isSome = false := rfl
theorem crange_loop (d i ti : Nat) (to : List UInt8) (most : Int) (t : Nd) (ok : TOk' t) (hlk : ∀ p ∈ t.toL, p.key.length ≤ 140737488351232) (hti : ti ≠ i) : ∀ (n j k : Nat) (acc : List KPair) (h : Heap), t.toL.length = j + n → n < k → acc.length ≤ j →
    h.objs[i]? = some (curTo (.obj ti 0) t.toL[j]? 2) → h.objs[ti]? = some (trT t) → ∃ h', Heap.but h h' i ∧ ∀ (Q : Res → Prop) (tg : Hid Q),
      Run (P56_0 (d + 4) k to most (prs acc) (.obj i 0) t.toL[j]?.isSome h) Q tg = Q ([.sl false 3 (prs (rngC to most (t.toL.drop j) acc))], h') := by
  intro n
  induction n with
  | zero =>
    intro j k acc h hj hk ha hm ht
    obtain ⟨k, rfl⟩ : ∃ m, k = m + 1 := ⟨k - 1, by omega⟩
    have hd : t.toL.drop j = [] := List.drop_eq_nil_of_le (by omega)
    have hn : t.toL[j]? = none := List.getElem?_eq_none (by omega)
    refine ⟨h, ⟨Nat.le_refl _, fun _ _ _ => rfl⟩, fun Q tg => ?_⟩
    rw [P56_0_eq, hd, hn]
    simp (disch := (first | assumption | (simp only [Bool.and_eq_true, Bool.and_eq_false_iff, decide_eq_true_eq, decide_eq_false_iff_not, bne_iff_ne, beq_iff_eq, beq_eq_false_iff_ne, bne_eq_false_iff_eq, Bool.not_eq_true', Bool.not_eq_false', bys_length, List.length_append, List.length_cons, List.length_nil, List.length_map, List.length_drop, List.length_take, Int.natCast_add, wrap_i64_eq, wrap_u64, wrap_u8, ne_eq, not_true_eq_false, not_false_eq_true, Nat.zero_add, Nat.mul_one] <;> omega) | omega | (simp; done) | (simp; omega))) only [↓CR, MC, ↓PR, MR, isSome_none']
    rfl
  | succ n ih =>
    intro j k acc h hj hk ha hm ht
    obtain ⟨k, rfl⟩ : ∃ m, k = m + 1 := ⟨k - 1, by omega⟩
    have hlen := ok.len
    have h1 : j < t.toL.length := by omega
    have hn : t.toL[j]? = some t.toL[j] := List.getElem?_eq_getElem h1
    rw [hn, curTo_some] at hm
    rw [hn, List.drop_eq_getElem_cons h1]
    unfold rngC
    have hg := get_at ok.srt h1
    have rp := fun (Q : Res → Prop) (tg : Hid Q) => cpair_run (d := d) (Q := Q) (tg := tg) ok hm ht
    rw [hg] at rp
    simp only [isSome_some', and_self, if_true] at rp
    have ev : oVal (some t.toL[j]) = t.toL[j].val := rfl
    rw [ev] at rp
    by_cases c0 : (acc.length : Int) < most
    · have rn := fun (Q : Res → Prop) (tg : Hid Q) => cnext_run (d := d + 1) (Q := Q) (tg := tg) ok hm ht (by decide) (hlk _ (List.getElem_mem h1))
      have en := next_at' ok.srt h1
      simp only [if_true] at rn
      rw [en] at rn
      have ea : prs acc ++ [.agg [.str t.toL[j].key, .str t.toL[j].val]] = prs (acc ++ [t.toL[j]]) := prs_snoc acc t.toL[j].key t.toL[j].val
      obtain ⟨h', E, r⟩ := ih (j + 1) k (acc ++ [t.toL[j]]) (h.put i (curTo (.obj ti 0) t.toL[j + 1]? 2)) (by omega) (by omega) (by simp; omega) (Heap.put_get hm) (by rw [Heap.put_ne (Ne.symm hti)]; exact ht)
      rw [if_pos c0]
      have E' : Heap.but h h' i := ⟨by have := E.len; rw [Heap.put_len] at this; exact this, fun q hq hl => by rw [E.old q hq (by rw [Heap.put_len]; exact hl), Heap.put_ne (Ne.symm hq)]⟩
      cases c2 : (to == [])
      · unfold inTo
        rw [c2, Bool.false_or]
        cases c3 : blt t.toL[j].key to
        · have c3' : Go.Op.bytesLess t.toL[j].key to = false := c3
          refine ⟨h, ⟨Nat.le_refl _, fun _ _ _ => rfl⟩, fun Q tg => ?_⟩
          rw [P56_0_eq, if_neg (by simp)]
          simp (disch := (first | assumption | (simp only [Bool.and_eq_true, Bool.and_eq_false_iff, decide_eq_true_eq, decide_eq_false_iff_not, bne_iff_ne, beq_iff_eq, beq_eq_false_iff_ne, bne_eq_false_iff_eq, Bool.not_eq_true', Bool.not_eq_false', bys_length, List.length_append, List.length_cons, List.length_nil, List.length_map, List.length_drop, List.length_take, Int.natCast_add, wrap_i64_eq, wrap_u64, wrap_u8, ne_eq, not_true_eq_false, not_false_eq_true, Nat.zero_add, Nat.mul_one] <;> omega) | omega | (simp; done) | (simp; omega))) only [↓CR, MC, ↓PR, MR, isSome_some', prs_length, c0, rp, c2, Bool.not_false, c3']
        · have c3' : Go.Op.bytesLess t.toL[j].key to = true := c3
          refine ⟨h', E', fun Q tg => ?_⟩
          rw [P56_0_eq, if_pos rfl]
          simp (disch := (first | assumption | (simp only [Bool.and_eq_true, Bool.and_eq_false_iff, decide_eq_true_eq, decide_eq_false_iff_not, bne_iff_ne, beq_iff_eq, beq_eq_false_iff_ne, bne_eq_false_iff_eq, Bool.not_eq_true', Bool.not_eq_false', bys_length, List.length_append, List.length_cons, List.length_nil, List.length_map, List.length_drop, List.length_take, Int.natCast_add, wrap_i64_eq, wrap_u64, wrap_u8, ne_eq, not_true_eq_false, not_false_eq_true, Nat.zero_add, Nat.mul_one] <;> omega) | omega | (simp; done) | (simp; omega))) only [↓CR, MC, ↓PR, MR, isSome_some', prs_length, c0, rp, c2, Bool.not_false, c3', Bool.not_true, ea, rn, r]
      · unfold inTo
        rw [c2, Bool.true_or, if_pos rfl]
        refine ⟨h', E', fun Q tg => ?_⟩
        rw [P56_0_eq]
        simp (disch := (first | assumption | (simp only [Bool.and_eq_true, Bool.and_eq_false_iff, decide_eq_true_eq, decide_eq_false_iff_not, bne_iff_ne, beq_iff_eq, beq_eq_false_iff_ne, bne_eq_false_iff_eq, Bool.not_eq_true', Bool.not_eq_false', bys_length, List.length_append, List.length_cons, List.length_nil, List.length_map, List.length_drop, List.length_take, Int.natCast_add, wrap_i64_eq, wrap_u64, wrap_u8, ne_eq, not_true_eq_false, not_false_eq_true, Nat.zero_add, Nat.mul_one] <;> omega) | omega | (simp; done) | (simp; omega))) only [↓CR, MC, ↓PR, MR, isSome_some', prs_length, c0, rp, c2, Bool.not_true, ea, rn, r]
    · rw [if_neg c0]
      refine ⟨h, ⟨Nat.le_refl _, fun _ _ _ => rfl⟩, fun Q tg => ?_⟩
      rw [P56_0_eq]
      simp (disch := (first | assumption | (simp only [Bool.and_eq_true, Bool.and_eq_false_iff, decide_eq_true_eq, decide_eq_false_iff_not, bne_iff_ne, beq_iff_eq, beq_eq_false_iff_ne, bne_eq_false_iff_eq, Bool.not_eq_true', Bool.not_eq_false', bys_length, List.length_append, List.length_cons, List.length_nil, List.length_map, List.length_drop, List.length_take, Int.natCast_add, wrap_i64_eq, wrap_u64, wrap_u8, ne_eq, not_true_eq_false, not_false_eq_true, Nat.zero_add, Nat.mul_one] <;> omega) | omega | (simp; done) | (simp; omega))) only [↓CR, MC, ↓PR, MR, isSome_some', prs_length, c0]
theorem crange_run (d ti : Nat) (fr to : List UInt8) (most : Int) (t : Nd) (ok : TOk' t) (hlk : ∀ p ∈ t.toL, p.key.length ≤ 140737488351232) (h : Heap) (ht : h.objs[ti]? = some (trT t)) :
    ∃ h', h.ext h' ∧ ∀ (Q : Res → Prop) (tg : Hid Q), Run (evFn Cw (d + 5) 56 [.obj ti 0, .str fr, .str to, .int .i64 most] h) Q tg = Q ([.sl false 3 (prs (rngR fr to most t.toL []))], h') := by
  have hlt := Heap.lt_of ht
  have hlen := ok.len
  obtain ⟨a, b, e, ha, hb⟩ := split_at fr ok.srt
  have hbs : Srt b := by have := ok.srt; rw [e] at this; exact (List.pairwise_append.1 this).2.1
  have er : rngR fr to most t.toL [] = rngC to most (t.toL.drop a.length) [] := by
    have : t.toL.drop a.length = b := by rw [e]; simp
    rw [this, ← rngR_in hbs hb]
    conv => lhs; rw [e]
    exact rngR_skip ha
  have es : lseek fr t.toL = t.toL[a.length]? := by
    rw [e, lseek_skip ha, List.getElem?_append_right (Nat.le_refl _), Nat.sub_self]
    cases b with
    | nil => rfl
    | cons p b => rw [lseek_cons, if_neg (by rw [hb p List.mem_cons_self]; simp)]; rfl
  have E1 := Heap.ext.push h (curO (.obj ti 0) 0 [])
  have m1 := Heap.push_new h (curO (.obj ti 0) 0 [])
  have rs := fun (Q : Res → Prop) (tg : Hid Q) => cseek_run (d := d + 1) (s := fr) (Q := Q) (tg := tg) ok m1 (E1.get ht)
  rw [es] at rs
  have hal : a.length ≤ t.toL.length := by rw [e]; simp
  obtain ⟨h', E, r⟩ := crange_loop d h.objs.length ti to most t ok hlk (by omega) (t.toL.length - a.length) a.length rounds [] ((h.push (curO (.obj ti 0) 0 [])).put h.objs.length (curTo (.obj ti 0) t.toL[a.length]? 2)) (by omega) (rounds_gt' (by omega)) (by simp) (Heap.put_get m1) (by rw [Heap.put_ne (by omega)]; exact E1.get ht)
  refine ⟨h', ⟨?_, fun j hj => ?_⟩, fun Q tg => ?_⟩
  · have := E.len; rw [Heap.put_len, Heap.push_len] at this; omega
  · rw [E.old j (by omega) (by rw [Heap.put_len, Heap.push_len]; omega), Heap.put_ne (by omega), Heap.push_old hj]
  · rw [prs_nil] at r
    rw [F56_eq, er]
    simp (disch := (first | assumption | (simp only [Bool.and_eq_true, Bool.and_eq_false_iff, decide_eq_true_eq, decide_eq_false_iff_not, bne_iff_ne, beq_iff_eq, beq_eq_false_iff_ne, bne_eq_false_iff_eq, Bool.not_eq_true', Bool.not_eq_false', bys_length, List.length_append, List.length_cons, List.length_nil, List.length_map, List.length_drop, List.length_take, Int.natCast_add, wrap_i64_eq, wrap_u64, wrap_u8, ne_eq, not_true_eq_false, not_false_eq_true, Nat.zero_add, Nat.mul_one] <;> omega) | omega | (simp; done) | (simp; omega))) only [↓CR, MC, ↓PR, MR, cnew_run, rs, r]
end Go.Proofs.YtdlcjibefbnckaaDoor.Wa
end
