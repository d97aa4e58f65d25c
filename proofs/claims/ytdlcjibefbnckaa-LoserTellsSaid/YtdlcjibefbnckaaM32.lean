/- Texts of this proof, laid together: the evaluator, what it comes to, and the laws. No condition. -/
import Derived.Test.YtdlcjibefbnckaaWvZ
import Derived.Test.YtdlcjibefbnckaaProg
import Derived.KernelRfl
import Derived.Test.YtdlcjibefbnckaaWvLa
import Derived.Test.YtdlcjibefbnckaaWvLb
import Derived.Test.YtdlcjibefbnckaaWvY
import Derived.Test.YtdlcjibefbnckaaWvLc
section
/- What the evaluator is told ahead of each function (nothing of it is trusted). -/
namespace Go.Proofs.Ytdlcjibefbnckaa.Wa
open Go Go.Weave
set_option maxRecDepth 100000
set_option linter.unusedVariables false
def annw : FuncId → Ann := fun f => match f with
  | 134 => { keep := [(3, [.plain 5, .plain 8, .plain 9, .plain 10])] }
  | 105 => { keep := [(2, [.plain 1, .own 5 0])], rown := [0] }
  | 114 => { keep := [(4, [.plain 0, .plain 5, .plain 6, .plain 7])] }
  | 142 => { rown := [0] }
  | 113 => { rown := [0] }
  | 104 => { keep := [(3, [.plain 0, .own 3 0, .plain 4])], rown := [0] }
  | 135 => { loc := [(1, false)] }
  | 121 => { loc := [(1, false), (2, false)] }
  | 115 => { loc := [(1, false)] }
  | 95 => { keep := [(6, [.plain 0, .box 2 [], .box 4 []]), (9, [.plain 0, .box 2 [], .box 4 [], .plain 5, .own 6 0, .plain 7])], join := [6], loc := [(2, false), (4, false)] }
  | 120 => { keep := [(7, [.box 2 [], .plain 4, .box 5 []])], join := [7], loc := [(2, false), (5, false)] }
  | 93 => { keep := [(6, [.box 1 [], .plain 3, .box 4 []])], join := [6], loc := [(1, false)], xs := [4], rown := [0] }
  | 99 => { node := [(10, 5), (14, 5)] }
  | 118 => { node := [(6, 5)] }
  | 119 => { frz := [24], node := [(8, 5), (12, 5)] }
  | 101 => { node := [(15, 5), (20, 5), (27, 5), (32, 5), (39, 5), (44, 5), (48, 5), (51, 5), (57, 5), (60, 5), (74, 5), (79, 5), (88, 5), (93, 5), (98, 5), (104, 5), (107, 5), (113, 5), (116, 5), (120, 5)] }
  | 82 => { frz := [13, 69], node := [(17, 5), (23, 5), (30, 5), (37, 5), (43, 5), (47, 5), (57, 5), (61, 5), (65, 5)] }
  | 102 => { keep := [(1, [.plain 0])], node := [(4, 5), (9, 5)] }
  | 83 => { node := [(9, 5), (15, 5), (21, 5), (28, 5), (34, 5), (38, 5), (46, 5), (51, 5), (56, 5), (61, 5), (65, 5), (71, 5), (75, 5), (79, 5)] }
  | 100 => { node := [(9, 5), (17, 5), (21, 5), (28, 5)] }
  | 75 => { keep := [(4, [.plain 1, .plain 7, .plain 8])], node := [(18, 5), (24, 5), (29, 5)] }
  | 77 => { keep := [(4, [.plain 1, .plain 7, .plain 8])], node := [(18, 5), (24, 5), (29, 5)] }
  | 26 => { keep := [(2, [.plain 0, .plain 1, .plain 6])] }
  | 24 => { keep := [(3, [.plain 0, .plain 1, .own 5 3, .plain 6])], rown := [0] }
  | 22 => { keep := [(5, [.own 0 3, .plain 1, .plain 2, .own 7 3, .plain 8, .plain 9])], rown := [0] }
  | 80 => { keep := [(2, [.plain 0, .plain 1, .box 4 [], .plain 6])], loc := [(4, false)] }
  | 36 => { keep := [(4, [.plain 0, .plain 1, .plain 5])] }
  | 15 => { keep := [(6, [.plain 0, .plain 3])], join := [6] }
  | 25 => { loc := [(2, false)] }
  | 88 => { keep := [(4, [.plain 2, .plain 3, .own 9 3, .plain 10, .plain 11])], loc := [(12, false)], rown := [0] }
  | 39 => { keep := [(3, [.plain 0, .plain 1, .plain 2, .plain 3, .own 9 3, .plain 10])], rown := [0] }
  | 12 => { keep := [(7, [.plain 2, .box 3 [], .plain 4])], join := [7], loc := [(3, false)] }
  | 16 => { keep := [(2, [.plain 1, .box 2 [], .box 4 [], .plain 5])], loc := [(2, false), (4, false)] }
  | 18 => { keep := [(2, [.plain 1, .box 2 [], .box 4 [], .plain 5])], loc := [(2, false), (4, false)] }
  | 20 => { loc := [(3, false), (6, false), (7, false)] }
  | 3 => { keep := [(7, [.plain 0, .plain 3, .plain 4, .box 5 [], .own 6 3, .plain 7]), (27, [.plain 0, .plain 3, .plain 4, .box 5 [], .own 6 3, .plain 7, .plain 8, .plain 9])], join := [27], loc := [(5, false), (10, false)] }
  | 84 => { loc := [(1, false)] }
  | 30 => { keep := [(3, [.plain 0, .plain 5, .plain 10, .plain 11, .plain 12])], loc := [(7, false)] }
  | 38 => { rown := [0] }
  | 37 => { rown := [0] }
  | 44 => { keep := [(5, [.plain 5, .plain 6, .plain 7, .plain 8, .plain 9])] }
  | 40 => { loc := [(1, false)] }
  | 31 => { keep := [(3, [.plain 0, .plain 1, .plain 6, .plain 7])] }
  | 35 => { keep := [(3, [.plain 0, .plain 3, .plain 4])] }
  | 41 => { keep := [(3, [.plain 0, .own 3 4, .plain 4]), (8, [.plain 0, .own 3 4, .plain 4, .own 5 4, .plain 6, .plain 7]), (13, [.plain 0, .own 3 4, .plain 4, .own 5 4, .plain 6, .plain 7])], join := [13], rown := [0] }
  | 4 => { keep := [(12, [.plain 0, .plain 7, .own 15 4, .plain 16])], loc := [(4, false)] }
  | 50 => { keep := [(3, [.plain 0, .own 3 3, .plain 4])], rown := [0] }
  | 51 => { keep := [(3, [.plain 3, .plain 7, .plain 8, .plain 9])], loc := [(5, false)] }
  | 53 => { keep := [(4, [.plain 0, .plain 1, .own 5 3, .own 6 4, .plain 7])], rown := [0] }
  | 52 => { keep := [(4, [.plain 0, .plain 1, .plain 5])] }
  | 7 => { keep := [(9, [.own 5 3, .plain 7, .plain 8, .plain 9, .plain 10])] }
  | 131 => { keep := [(4, [.plain 0, .plain 2])], join := [4] }
  | 132 => { keep := [(4, [.plain 0, .plain 2]), (7, [.plain 0, .plain 2])], join := [4, 7] }
  | 116 => { keep := [(2, [.plain 0, .plain 1, .plain 2, .plain 3, .plain 8, .plain 9]), (10, [.plain 0, .plain 1, .plain 2, .plain 3, .plain 8, .plain 9, .plain 10]), (15, [.plain 0, .plain 1, .plain 2, .plain 3, .plain 8, .plain 9, .plain 10, .plain 11, .plain 12]), (17, [.plain 0, .plain 1, .plain 2, .plain 3, .plain 8, .plain 9, .plain 10, .plain 11])], join := [10, 15, 17] }
  | 62 => { keep := [(3, [.plain 0, .own 5 0, .plain 11, .plain 12, .plain 13])] }
  | 61 => { keep := [(3, [.plain 0, .plain 1, .own 6 3, .plain 7])], rown := [0] }
  | 67 => { keep := [(2, [.plain 0, .plain 1, .plain 5])] }
  | 9 => { keep := [(6, [.plain 0, .plain 3, .plain 4, .plain 5]), (17, [.plain 0, .plain 3, .plain 4, .plain 5]), (20, [.plain 0, .plain 3, .plain 4, .plain 5, .plain 10]), (25, [.plain 0, .plain 3, .plain 4, .plain 5, .plain 11]), (32, [.plain 0, .plain 3, .plain 4, .plain 5, .plain 11, .own 12 0, .plain 15])], join := [17] }
  | 45 => { keep := [(2, [.plain 0, .plain 3])] }
  | 98 => { keep := [(4, [.plain 0, .plain 1, .plain 12, .plain 13])] }
  | 48 => { keep := [(3, [.plain 0, .plain 1, .plain 5, .plain 6])] }
  | 6 => { keep := [(9, [.plain 0, .own 5 0, .plain 6])] }
  | 70 => { keep := [(4, [.plain 3, .own 4 0, .plain 10, .plain 11, .plain 12]), (7, [.plain 3, .own 4 0, .plain 10, .plain 11, .plain 12, .plain 16, .plain 17, .plain 18])], loc := [(8, false)], rown := [0] }
  | 71 => { keep := [(3, [.plain 0, .own 3 3, .plain 4]), (6, [.plain 0, .own 3 3, .plain 4, .plain 5])], rown := [0] }
  | 73 => { keep := [(3, [.plain 0, .plain 1, .plain 2]), (5, [.plain 0, .plain 1, .plain 2]), (6, [.plain 0, .plain 2, .plain 7])], join := [3, 5] }
  | 11 => { keep := [(7, [.plain 0, .own 7 0, .own 8 3, .plain 9]), (13, [.own 8 3, .own 10 3, .plain 11])] }
  | 54 => { keep := [(2, [.plain 0, .plain 3])] }
  | 108 => { loc := [(5, false)] }
  | 111 => { loc := [(3, false)] }
  | 94 => { keep := [(2, [.plain 2, .plain 3, .plain 5])], join := [2], frz := [2, 3], fns := [(106, 1), (107, 3), (109, 3), (110, 3), (112, 3)] }
  | 56 => { keep := [(3, [.box 2 [], .plain 4, .plain 9, .plain 10, .plain 11])], loc := [(2, false), (6, false)] }
  | 58 => { keep := [(3, [.own 3 0, .plain 7, .plain 8])], loc := [(1, false)], rown := [0] }
  | 55 => { loc := [(1, false)] }
  | 96 => { loc := [(3, false)] }
  | 57 => { keep := [(3, [.plain 0, .box 2 [], .plain 4, .plain 5]), (15, [.plain 0, .box 2 [], .plain 4, .plain 5, .box 6 []])], join := [15], loc := [(2, false), (6, false), (7, false)] }
  | 8 => { keep := [(8, [.box 3 [], .box 5 [], .plain 7]), (15, [.box 5 [], .own 8 0, .plain 9, .plain 10])], loc := [(3, false), (5, false)] }
  | _ => {}
noncomputable def Cw : Cfg := ⟨Try.prog, annw, fun _ => none, fun _ => none⟩
@[simp] theorem plain43 (x0 : List UInt8) (x1 : List UInt8) : plainOk Cw.P 43 (AVal.agg [AVal.str x0, AVal.str x1]) = true := by kernel_rfl
@[simp] theorem plain63 (x0 : Int) (x1 : List UInt8) (x2 : List UInt8) : plainOk Cw.P 63 (AVal.agg [AVal.int .i64 x0, AVal.str x1, AVal.str x2]) = true := by kernel_rfl
@[simp] theorem arr4_3 (x0 : Int) (x1 : Int) (x2 : Int) (x3 : Int) : arrOk Cw.P 4 3 (AVal.agg [AVal.int .i64 x0, AVal.int .i64 x1, AVal.int .i64 x2, AVal.int .i64 x3]) = true := by kernel_rfl
end Go.Proofs.Ytdlcjibefbnckaa.Wa
end

section
/- What the evaluator comes to in these functions. -/
namespace Go.Proofs.Ytdlcjibefbnckaa.Wa
open Go Go.Weave
set_option maxRecDepth 100000
set_option linter.unusedVariables false
/- f134 strandline/varint.Get -/
noncomputable def P134_0 (d k : Nat) (x0 : Int) (f1 : Bool) (l2 : List AVal) (x3 : Int) (x4 : Int) (h : Heap) : Tr Res :=
  loopPt Cw d 134 [true, true, false, true, true] [] k ⟨[(5, (EV.one (SV.val (AVal.int .u64 x0)))), (8, (EV.one (SV.val (AVal.sl f1 0 l2)))), (9, (EV.one (SV.val (AVal.int .i64 x3)))), (10, (EV.one (SV.val (AVal.int .i64 x4))))], []⟩ h
theorem P134_0_eq (d k : Nat) (x0 : Int) (f1 : Bool) (l2 : List AVal) (x3 : Int) (x4 : Int) (h : Heap) : P134_0 d (k + 1) x0 f1 l2 x3 x4 h =
  (bif (decide ((x4 : Int) < x3)) then
    (bif (decide ((0 : Int) ≤ x4) && decide ((x4 : Int) < (l2.length : Int))) then
      (bif AVal.isInt .u8 (l2.getD (Int.toNat x4) AVal.undef) then
        (bif ((x4 : Int) == 9) then
          (bif (decide (((AVal.toInt (l2.getD (Int.toNat x4) AVal.undef)) : Int) > 1)) then
            (Tr.ret ([(AVal.int .u64 0), (AVal.int .i64 0), (AVal.int .i64 4)], h))
          else
            (bif decide ((IntKind.i64.wrap (7 * x4)) < 0) then
              Tr.fail
            else
              (bif (decide (((AVal.toInt (l2.getD (Int.toNat x4) AVal.undef)) : Int) < 128)) then
                (bif (((AVal.toInt (l2.getD (Int.toNat x4) AVal.undef)) : Int) == 0) then
                  (bif (decide ((x4 : Int) > 0)) then
                    (Tr.ret ([(AVal.int .u64 0), (AVal.int .i64 0), (AVal.int .i64 2)], h))
                  else
                    (Tr.ret ([(AVal.int .u64 (IntKind.u64.wrap (BitVec.ofInt 64 x0 ||| BitVec.ofInt 64 (IntKind.u64.wrap ((IntKind.u64.wrap (IntKind.u8.wrap (BitVec.ofInt 8 (AVal.toInt (l2.getD (Int.toNat x4) AVal.undef)) &&& BitVec.ofInt 8 127).toNat)) * 2 ^ (min (Int.toNat (IntKind.i64.wrap (7 * x4))) 64)))).toNat)), (AVal.int .i64 (IntKind.i64.wrap (x4 + 1))), (AVal.int .i64 0)], h)))
                else
                  (Tr.ret ([(AVal.int .u64 (IntKind.u64.wrap (BitVec.ofInt 64 x0 ||| BitVec.ofInt 64 (IntKind.u64.wrap ((IntKind.u64.wrap (IntKind.u8.wrap (BitVec.ofInt 8 (AVal.toInt (l2.getD (Int.toNat x4) AVal.undef)) &&& BitVec.ofInt 8 127).toNat)) * 2 ^ (min (Int.toNat (IntKind.i64.wrap (7 * x4))) 64)))).toNat)), (AVal.int .i64 (IntKind.i64.wrap (x4 + 1))), (AVal.int .i64 0)], h)))
              else
                (P134_0 d k (IntKind.u64.wrap (BitVec.ofInt 64 x0 ||| BitVec.ofInt 64 (IntKind.u64.wrap ((IntKind.u64.wrap (IntKind.u8.wrap (BitVec.ofInt 8 (AVal.toInt (l2.getD (Int.toNat x4) AVal.undef)) &&& BitVec.ofInt 8 127).toNat)) * 2 ^ (min (Int.toNat (IntKind.i64.wrap (7 * x4))) 64)))).toNat) f1 l2 x3 (IntKind.i64.wrap (x4 + 1)) h))))
        else
          (bif decide ((IntKind.i64.wrap (7 * x4)) < 0) then
            Tr.fail
          else
            (bif (decide (((AVal.toInt (l2.getD (Int.toNat x4) AVal.undef)) : Int) < 128)) then
              (bif (((AVal.toInt (l2.getD (Int.toNat x4) AVal.undef)) : Int) == 0) then
                (bif (decide ((x4 : Int) > 0)) then
                  (Tr.ret ([(AVal.int .u64 0), (AVal.int .i64 0), (AVal.int .i64 2)], h))
                else
                  (Tr.ret ([(AVal.int .u64 (IntKind.u64.wrap (BitVec.ofInt 64 x0 ||| BitVec.ofInt 64 (IntKind.u64.wrap ((IntKind.u64.wrap (IntKind.u8.wrap (BitVec.ofInt 8 (AVal.toInt (l2.getD (Int.toNat x4) AVal.undef)) &&& BitVec.ofInt 8 127).toNat)) * 2 ^ (min (Int.toNat (IntKind.i64.wrap (7 * x4))) 64)))).toNat)), (AVal.int .i64 (IntKind.i64.wrap (x4 + 1))), (AVal.int .i64 0)], h)))
              else
                (Tr.ret ([(AVal.int .u64 (IntKind.u64.wrap (BitVec.ofInt 64 x0 ||| BitVec.ofInt 64 (IntKind.u64.wrap ((IntKind.u64.wrap (IntKind.u8.wrap (BitVec.ofInt 8 (AVal.toInt (l2.getD (Int.toNat x4) AVal.undef)) &&& BitVec.ofInt 8 127).toNat)) * 2 ^ (min (Int.toNat (IntKind.i64.wrap (7 * x4))) 64)))).toNat)), (AVal.int .i64 (IntKind.i64.wrap (x4 + 1))), (AVal.int .i64 0)], h)))
            else
              (P134_0 d k (IntKind.u64.wrap (BitVec.ofInt 64 x0 ||| BitVec.ofInt 64 (IntKind.u64.wrap ((IntKind.u64.wrap (IntKind.u8.wrap (BitVec.ofInt 8 (AVal.toInt (l2.getD (Int.toNat x4) AVal.undef)) &&& BitVec.ofInt 8 127).toNat)) * 2 ^ (min (Int.toNat (IntKind.i64.wrap (7 * x4))) 64)))).toNat) f1 l2 x3 (IntKind.i64.wrap (x4 + 1)) h))))
      else
        Tr.fail)
    else
      Tr.fail)
  else
    (Tr.ret ([(AVal.int .u64 0), (AVal.int .i64 0), (AVal.int .i64 1)], h))) := by kernel_rfl
theorem F134_eq (d : Nat) (f0 : Bool) (l1 : List AVal) (h : Heap) : evFn Cw (d + 1) 134 [(AVal.sl f0 0 l1)] h =
  (P134_0 d rounds 0 f0 l1 (l1.length : Int) 0 h) := by kernel_rfl
/- f105 strandline/strandlineref02.Put -/
noncomputable def P105_0 (d k : Nat) (x0 : Int) (l1 : List AVal) (h : Heap) : Tr Res :=
  loopPt Cw d 105 [true, true, false, true] [] k ⟨[(1, (EV.one (SV.val (AVal.int .u64 x0)))), (5, (EV.one (SV.own (tokOf 5 0) 0 l1)))], []⟩ h
theorem P105_0_eq (d k : Nat) (x0 : Int) (l1 : List AVal) (h : Heap) : P105_0 d (k + 1) x0 l1 h =
  (bif (decide (((IntKind.u64.wrap (Int.tdiv x0 128)) : Int) > 0)) then
    (bif decide ((l1.length + (1 : Nat)) * 1 ≤ 140737488355328) then
      (P105_0 d k (IntKind.u64.wrap (Int.tdiv x0 128)) (l1 ++ [(AVal.int .u8 (IntKind.u8.wrap (IntKind.u64.wrap (128 + (Int.tmod x0 128)))))]) h)
    else
      Tr.fail)
  else
    (bif decide ((l1.length + (1 : Nat)) * 1 ≤ 140737488355328) then (Tr.ret ([(AVal.sl false 0 (l1 ++ [(AVal.int .u8 (IntKind.u8.wrap x0))]))], h)) else Tr.fail)) := by kernel_rfl
theorem F105_eq (d : Nat) (f0 : Bool) (l1 : List AVal) (x2 : Int) (h : Heap) : evFn Cw (d + 1) 105 [(AVal.sl f0 0 l1), (AVal.int .u64 x2)] h =
  (bif decide (((0 : Nat) + l1.length) * 1 ≤ 140737488355328) then (P105_0 d rounds x2 ([] ++ l1) h) else Tr.fail) := by kernel_rfl
/- f114 strandline/strandlineref02.Get -/
noncomputable def P114_0 (d k : Nat) (f0 : Bool) (l1 : List AVal) (x2 : Int) (x3 : Int) (x4 : Int) (h : Heap) : Tr Res :=
  loopPt Cw d 114 [true, true, true, false, true, true] [] k ⟨[(0, (EV.one (SV.val (AVal.sl f0 0 l1)))), (5, (EV.one (SV.val (AVal.int .u64 x2)))), (6, (EV.one (SV.val (AVal.int .u64 x3)))), (7, (EV.one (SV.val (AVal.int .i64 x4))))], []⟩ h
theorem P114_0_eq (d k : Nat) (f0 : Bool) (l1 : List AVal) (x2 : Int) (x3 : Int) (x4 : Int) (h : Heap) : P114_0 d (k + 1) f0 l1 x2 x3 x4 h =
  (bif (decide ((x4 : Int) < (l1.length : Int))) then
    (bif (decide ((0 : Int) ≤ x4) && decide ((x4 : Int) < (l1.length : Int))) then
      (bif AVal.isInt .u8 (l1.getD (Int.toNat x4) AVal.undef) then
        (bif ((x4 : Int) == 9) then
          (bif (decide (((IntKind.u64.wrap (AVal.toInt (l1.getD (Int.toNat x4) AVal.undef))) : Int) > 1)) then
            (Tr.ret ([(AVal.int .u64 0), (AVal.int .i64 0), (AVal.int .i64 4)], h))
          else
            (bif (decide (((IntKind.u64.wrap (AVal.toInt (l1.getD (Int.toNat x4) AVal.undef))) : Int) < 128)) then
              (bif (((IntKind.u64.wrap (AVal.toInt (l1.getD (Int.toNat x4) AVal.undef))) : Int) == 0) then
                (bif (decide ((x4 : Int) > 0)) then
                  (Tr.ret ([(AVal.int .u64 0), (AVal.int .i64 0), (AVal.int .i64 2)], h))
                else
                  (bif (decide (((IntKind.u64.wrap (AVal.toInt (l1.getD (Int.toNat x4) AVal.undef))) : Int) < 128)) then
                    (Tr.ret ([(AVal.int .u64 (IntKind.u64.wrap (x2 + (IntKind.u64.wrap ((Int.tmod (IntKind.u64.wrap (AVal.toInt (l1.getD (Int.toNat x4) AVal.undef))) 128) * x3))))), (AVal.int .i64 (IntKind.i64.wrap (x4 + 1))), (AVal.int .i64 0)], h))
                  else
                    (P114_0 d k f0 l1 (IntKind.u64.wrap (x2 + (IntKind.u64.wrap ((Int.tmod (IntKind.u64.wrap (AVal.toInt (l1.getD (Int.toNat x4) AVal.undef))) 128) * x3)))) (IntKind.u64.wrap (x3 * 128)) (IntKind.i64.wrap (x4 + 1)) h)))
              else
                (bif (decide (((IntKind.u64.wrap (AVal.toInt (l1.getD (Int.toNat x4) AVal.undef))) : Int) < 128)) then
                  (Tr.ret ([(AVal.int .u64 (IntKind.u64.wrap (x2 + (IntKind.u64.wrap ((Int.tmod (IntKind.u64.wrap (AVal.toInt (l1.getD (Int.toNat x4) AVal.undef))) 128) * x3))))), (AVal.int .i64 (IntKind.i64.wrap (x4 + 1))), (AVal.int .i64 0)], h))
                else
                  (P114_0 d k f0 l1 (IntKind.u64.wrap (x2 + (IntKind.u64.wrap ((Int.tmod (IntKind.u64.wrap (AVal.toInt (l1.getD (Int.toNat x4) AVal.undef))) 128) * x3)))) (IntKind.u64.wrap (x3 * 128)) (IntKind.i64.wrap (x4 + 1)) h)))
            else
              (bif (decide (((IntKind.u64.wrap (AVal.toInt (l1.getD (Int.toNat x4) AVal.undef))) : Int) < 128)) then
                (Tr.ret ([(AVal.int .u64 (IntKind.u64.wrap (x2 + (IntKind.u64.wrap ((Int.tmod (IntKind.u64.wrap (AVal.toInt (l1.getD (Int.toNat x4) AVal.undef))) 128) * x3))))), (AVal.int .i64 (IntKind.i64.wrap (x4 + 1))), (AVal.int .i64 0)], h))
              else
                (P114_0 d k f0 l1 (IntKind.u64.wrap (x2 + (IntKind.u64.wrap ((Int.tmod (IntKind.u64.wrap (AVal.toInt (l1.getD (Int.toNat x4) AVal.undef))) 128) * x3)))) (IntKind.u64.wrap (x3 * 128)) (IntKind.i64.wrap (x4 + 1)) h))))
        else
          (bif (decide (((IntKind.u64.wrap (AVal.toInt (l1.getD (Int.toNat x4) AVal.undef))) : Int) < 128)) then
            (bif (((IntKind.u64.wrap (AVal.toInt (l1.getD (Int.toNat x4) AVal.undef))) : Int) == 0) then
              (bif (decide ((x4 : Int) > 0)) then
                (Tr.ret ([(AVal.int .u64 0), (AVal.int .i64 0), (AVal.int .i64 2)], h))
              else
                (bif (decide (((IntKind.u64.wrap (AVal.toInt (l1.getD (Int.toNat x4) AVal.undef))) : Int) < 128)) then
                  (Tr.ret ([(AVal.int .u64 (IntKind.u64.wrap (x2 + (IntKind.u64.wrap ((Int.tmod (IntKind.u64.wrap (AVal.toInt (l1.getD (Int.toNat x4) AVal.undef))) 128) * x3))))), (AVal.int .i64 (IntKind.i64.wrap (x4 + 1))), (AVal.int .i64 0)], h))
                else
                  (P114_0 d k f0 l1 (IntKind.u64.wrap (x2 + (IntKind.u64.wrap ((Int.tmod (IntKind.u64.wrap (AVal.toInt (l1.getD (Int.toNat x4) AVal.undef))) 128) * x3)))) (IntKind.u64.wrap (x3 * 128)) (IntKind.i64.wrap (x4 + 1)) h)))
            else
              (bif (decide (((IntKind.u64.wrap (AVal.toInt (l1.getD (Int.toNat x4) AVal.undef))) : Int) < 128)) then
                (Tr.ret ([(AVal.int .u64 (IntKind.u64.wrap (x2 + (IntKind.u64.wrap ((Int.tmod (IntKind.u64.wrap (AVal.toInt (l1.getD (Int.toNat x4) AVal.undef))) 128) * x3))))), (AVal.int .i64 (IntKind.i64.wrap (x4 + 1))), (AVal.int .i64 0)], h))
              else
                (P114_0 d k f0 l1 (IntKind.u64.wrap (x2 + (IntKind.u64.wrap ((Int.tmod (IntKind.u64.wrap (AVal.toInt (l1.getD (Int.toNat x4) AVal.undef))) 128) * x3)))) (IntKind.u64.wrap (x3 * 128)) (IntKind.i64.wrap (x4 + 1)) h)))
          else
            (bif (decide (((IntKind.u64.wrap (AVal.toInt (l1.getD (Int.toNat x4) AVal.undef))) : Int) < 128)) then
              (Tr.ret ([(AVal.int .u64 (IntKind.u64.wrap (x2 + (IntKind.u64.wrap ((Int.tmod (IntKind.u64.wrap (AVal.toInt (l1.getD (Int.toNat x4) AVal.undef))) 128) * x3))))), (AVal.int .i64 (IntKind.i64.wrap (x4 + 1))), (AVal.int .i64 0)], h))
            else
              (P114_0 d k f0 l1 (IntKind.u64.wrap (x2 + (IntKind.u64.wrap ((Int.tmod (IntKind.u64.wrap (AVal.toInt (l1.getD (Int.toNat x4) AVal.undef))) 128) * x3)))) (IntKind.u64.wrap (x3 * 128)) (IntKind.i64.wrap (x4 + 1)) h))))
      else
        Tr.fail)
    else
      Tr.fail)
  else
    (Tr.ret ([(AVal.int .u64 0), (AVal.int .i64 0), (AVal.int .i64 1)], h))) := by kernel_rfl
theorem F114_eq (d : Nat) (f0 : Bool) (l1 : List AVal) (h : Heap) : evFn Cw (d + 1) 114 [(AVal.sl f0 0 l1)] h =
  (P114_0 d rounds f0 l1 0 1 0 h) := by kernel_rfl
end Go.Proofs.Ytdlcjibefbnckaa.Wa
end

section
/- What the functions of the short numbers come to. -/
namespace Go.Proofs.Ytdlcjibefbnckaa.Wa
open Go Go.Weave
set_option maxRecDepth 100000
set_option linter.unusedSimpArgs false
set_option linter.unusedVariables false
set_option linter.unusedSectionVars false

def encW (n : Nat) : List UInt8 := if n < 128 then [UInt8.ofNat n] else UInt8.ofNat (n % 128 + 128) :: encW (n / 128)
  termination_by n
  decreasing_by omega
theorem enc_ex : ∃ f : Nat → List UInt8, ∀ n, f n = if n < 128 then [UInt8.ofNat n] else UInt8.ofNat (n % 128 + 128) :: f (n / 128) := ⟨encW, fun n => by rw [encW]⟩
/-- A number's short bytes. (By choice: so that no reduction looks into it.) -/
noncomputable def enc : Nat → List UInt8 := Classical.choose enc_ex
theorem enc_lt {n : Nat} (h : n < 128) : enc n = [UInt8.ofNat n] := by
  have := Classical.choose_spec enc_ex n
  rw [if_pos h] at this; exact this
theorem enc_ge {n : Nat} (h : ¬ n < 128) : enc n = UInt8.ofNat (n % 128 + 128) :: enc (n / 128) := by
  have := Classical.choose_spec enc_ex n
  rw [if_neg h] at this; exact this

theorem enc_length : ∀ (j n : Nat), n < 128 ^ (j + 1) → 1 ≤ (enc n).length ∧ (enc n).length ≤ j + 1
  | 0, n, h => by rw [enc_lt (by simpa using h)]; simp
  | j + 1, n, h => by
    by_cases hn : n < 128
    · rw [enc_lt hn]; simp
    · rw [enc_ge hn]
      have := enc_length j (n / 128) (Nat.div_lt_of_lt_mul (by rw [Nat.pow_succ] at h; omega))
      simp; omega

theorem and127 (m : Nat) (h : m < 256) : m &&& 127 = m % 128 := by
  have : ∀ m : Fin 256, (m.val &&& 127) = m.val % 128 := by decide +kernel
  exact this ⟨m, h⟩

theorem lt_128_10 {n : Nat} (h : n < 18446744073709551616) : n < 128 ^ (9 + 1) := Nat.lt_trans h (by decide)
theorem rounds_gt (n : Nat) (h : n < 4611686018427387904) : n < rounds := Nat.lt_of_lt_of_le h rounds_ge

/-- The document's. -/
theorem rput_loop (d : Nat) (h : Heap) : ∀ (j k n : Nat) (l : List UInt8), n < 18446744073709551616 → n < 128 ^ (j + 1) → j < k → l.length + j + 1 ≤ 140737488355328 →
    Ans (P105_0 d k n (bys l) h) ([.sl false 0 (bys (l ++ enc n))], h) := by
  intro j
  have hd : ∀ n : Nat, n < 18446744073709551616 → IntKind.u64.wrap (Int.tdiv (n : Int) 128) = ((n / 128 : Nat) : Int) := fun n hn => by
    rw [Int.tdiv_eq_ediv_of_nonneg (by omega), wrap_u64_id (by omega) (by omega)]; omega
  have hb : ∀ n : Nat, IntKind.u8.wrap (IntKind.u64.wrap (128 + (Int.tmod (n : Int) 128))) = ((n % 128 + 128 : Nat) : Int) := fun n => by
    rw [Int.tmod_eq_emod_of_nonneg (by omega), wrap_u64_id (by omega) (by omega), wrap_u8_id (by omega) (by omega)]; omega
  induction j with
  | zero =>
    intro k n l hm hn hk hl
    obtain ⟨k, rfl⟩ : ∃ m, k = m + 1 := ⟨k - 1, by omega⟩
    have h1 : n < 128 := by simpa using hn
    rw [P105_0_eq, hd n hm, cond_of_not (by simp; omega), cond_of (by simp [bys_length]; omega), enc_lt h1, wrap_u8_id (by omega) (by omega), bys_one n (by omega), ← bys_append]
    exact Ans.ret _
  | succ j ih =>
    intro k n l hm hn hk hl
    obtain ⟨k, rfl⟩ : ∃ m, k = m + 1 := ⟨k - 1, by omega⟩
    by_cases h1 : n < 128
    · rw [P105_0_eq, hd n hm, cond_of_not (by simp; omega), cond_of (by simp [bys_length]; omega), enc_lt h1, wrap_u8_id (by omega) (by omega), bys_one n (by omega), ← bys_append]
      exact Ans.ret _
    · rw [P105_0_eq, hd n hm, cond_of (by simp; omega), cond_of (by simp [bys_length]; omega), enc_ge h1, hb, bys_one _ (by omega), ← bys_append]
      have := ih k (n / 128) (l ++ [UInt8.ofNat (n % 128 + 128)]) (by omega) (Nat.div_lt_of_lt_mul (by rw [Nat.pow_succ] at hn; omega)) (by omega) (by simp; omega)
      rw [List.append_assoc] at this
      exact this

theorem rput_ok (d : Nat) (f : Bool) (l : List UInt8) (n : Nat) (h : Heap) (hn : n < 18446744073709551616) (hl : l.length ≤ 140737488355000) :
    Ans (evFn Cw (d + 1) 105 [.sl f 0 (bys l), .int .u64 n] h) ([.sl false 0 (bys (l ++ enc n))], h) := by
  rw [F105_eq, cond_of (by simp [bys_length]; omega), List.nil_append]
  exact rput_loop d h 9 rounds n l hn (lt_128_10 hn) (rounds_gt _ (by omega)) (by omega)

/-- The number that bytes begin with: from the i-th byte on. -/
def getF : List UInt8 → Nat → Nat → Nat × Nat × Nat
  | [], _, _ => (0, 0, 1)
  | c :: r, i, acc =>
    if i = 9 ∧ 1 < c.toNat then (0, 0, 4) else
    if c.toNat < 128 then (if c.toNat = 0 ∧ 0 < i then (0, 0, 2) else (acc + c.toNat * 2 ^ (7 * i), i + 1, 0)) else getF r (i + 1) (acc + (c.toNat % 128) * 2 ^ (7 * i))
def tri (x : Nat × Nat × Nat) : List AVal := [.int .u64 x.1, .int .i64 x.2.1, .int .i64 x.2.2]

theorem pow_le {i : Nat} (h : i ≤ 9) : 2 ^ (7 * i) ≤ 9223372036854775808 := by
  have : 2 ^ (7 * i) ≤ 2 ^ 63 := Nat.pow_le_pow_right (by omega) (by omega)
  simpa using this

theorem get_or {acc i c : Nat} (h : acc < 2 ^ (7 * i)) (hi : i ≤ 9) (hc : c < 256) (h9 : i = 9 → c ≤ 1) :
    IntKind.u64.wrap (BitVec.ofInt 64 (acc : Int) ||| BitVec.ofInt 64 (IntKind.u64.wrap ((IntKind.u64.wrap (IntKind.u8.wrap (BitVec.ofInt 8 (c : Int) &&& BitVec.ofInt 8 127).toNat)) * 2 ^ (min (Int.toNat (IntKind.i64.wrap (7 * (i : Int)))) 64)))).toNat
      = ((acc + (c % 128) * 2 ^ (7 * i) : Nat) : Int) ∧ acc + (c % 128) * 2 ^ (7 * i) < 18446744073709551616 := by
  have e1 : (BitVec.ofInt 8 (c : Int)).toNat = c := by simp; omega
  have e2 : (BitVec.ofInt 8 127).toNat = 127 := by decide
  have e3 : IntKind.u8.wrap (BitVec.ofInt 8 (c : Int) &&& BitVec.ofInt 8 127).toNat = ((c % 128 : Nat) : Int) := by
    rw [BitVec.toNat_and, e1, e2, and127 _ hc, wrap_u8]; omega
  have e4 : min (Int.toNat (IntKind.i64.wrap (7 * (i : Int)))) 64 = 7 * i := by rw [wrap_i64_id (by omega) (by omega)]; omega
  have hp := pow_le hi
  have hle : (c % 128) * 2 ^ (7 * i) ≤ 18446744073709551616 - 2 ^ (7 * i) := by
    by_cases h' : i = 9
    · have := h9 h'
      subst h'
      have : c % 128 ≤ 1 := by omega
      have h2 : (c % 128) * 2 ^ (7 * 9) ≤ 1 * 2 ^ (7 * 9) := Nat.mul_le_mul_right _ this
      have h3 : (2 : Nat) ^ (7 * 9) = 9223372036854775808 := by decide
      rw [h3] at h2 ⊢
      omega
    · have h2 : (c % 128) * 2 ^ (7 * i) ≤ 127 * 2 ^ (7 * i) := Nat.mul_le_mul_right _ (by omega)
      have h3 : 2 ^ (7 * i) ≤ 2 ^ 56 := Nat.pow_le_pow_right (by omega) (by omega)
      have h4 : (2 : Nat) ^ 56 = 72057594037927936 := by decide
      rw [h4] at h3
      omega
  have hsum : acc + (c % 128) * 2 ^ (7 * i) < 18446744073709551616 := by omega
  refine ⟨?_, hsum⟩
  rw [e3, e4]
  have e5 : IntKind.u64.wrap ((c % 128 : Nat) : Int) = ((c % 128 : Nat) : Int) := wrap_u64_id (by omega) (by omega)
  have e6 : ((c % 128 : Nat) : Int) * 2 ^ (7 * i) = (((c % 128) * 2 ^ (7 * i) : Nat) : Int) := by rw [Int.natCast_mul, Int.natCast_pow]; rfl
  rw [e5, e6, wrap_u64_id (n := (((c % 128) * 2 ^ (7 * i) : Nat) : Int)) (by omega) (by omega)]
  have e7 : (BitVec.ofInt 64 (acc : Int)).toNat = acc := by simp; omega
  have e8 : (BitVec.ofInt 64 (((c % 128) * 2 ^ (7 * i) : Nat) : Int)).toNat = (c % 128) * 2 ^ (7 * i) := by
    rw [BitVec.toNat_ofInt]
    have : ((2 ^ 64 : Nat) : Int) = 18446744073709551616 := by decide
    rw [this]; omega
  have e9 : acc ||| (c % 128) * 2 ^ (7 * i) = acc + (c % 128) * 2 ^ (7 * i) := by
    rw [Nat.or_comm, Nat.mul_comm (c % 128), Nat.add_comm]
    exact (Nat.two_pow_add_eq_or_of_lt h (c % 128)).symm
  rw [BitVec.toNat_or, e7, e8, e9]
  exact wrap_u64_id (by omega) (by omega)

theorem get_loop (d : Nat) (f : Bool) (h : Heap) : ∀ (r pre : List UInt8) (k acc : Nat), pre.length ≤ 9 → acc < 2 ^ (7 * pre.length) → r.length < k → pre.length + r.length ≤ 140737488355328 →
    Ans (P134_0 d k acc f (bys (pre ++ r)) ((pre ++ r).length : Nat) (pre.length : Nat) h) (tri (getF r pre.length acc), h) := by
  intro r
  induction r with
  | nil =>
    intro pre k acc hi ha hk hb
    obtain ⟨k, rfl⟩ : ∃ m, k = m + 1 := ⟨k - 1, by omega⟩
    rw [P134_0_eq, cond_of_not (by simp)]
    exact Ans.ret _
  | cons c r ih =>
    intro pre k acc hi ha hk hb
    obtain ⟨k, rfl⟩ : ∃ m, k = m + 1 := ⟨k - 1, by omega⟩
    have hc : c.toNat < 256 := c.toNat_lt
    have hlt : pre.length < (pre ++ c :: r).length := by simp
    have hget : (bys (pre ++ c :: r)).getD (Int.toNat (pre.length : Int)) AVal.undef = ofByte c := by
      rw [Int.toNat_natCast, bys_getD hlt]
      congr 1
      simp
    have hneg : decide ((IntKind.i64.wrap (7 * (pre.length : Int))) < 0) = false := by
      rw [wrap_i64_id (by omega) (by omega)]; simp; omega
    have hnext : IntKind.i64.wrap ((pre.length : Int) + 1) = ((pre.length + 1 : Nat) : Int) := by rw [wrap_i64_id (by omega) (by omega)]; omega
    have hrec : (pre.length = 9 → c.toNat ≤ 1) → ¬ c.toNat < 128 → Ans (P134_0 d k ((acc + (c.toNat % 128) * 2 ^ (7 * pre.length) : Nat) : Int) f (bys (pre ++ c :: r)) ((pre ++ c :: r).length : Nat) ((pre.length + 1 : Nat) : Int) h)
        (tri (getF r (pre.length + 1) (acc + (c.toNat % 128) * 2 ^ (7 * pre.length))), h) := fun h9 h128 => by
      have hp : pre.length < 9 := by
        have : pre.length ≠ 9 := fun e => by have := h9 e; omega
        omega
      have e1 : pre ++ c :: r = (pre ++ [c]) ++ r := by simp
      have e2 : (pre ++ [c]).length = pre.length + 1 := by simp
      have := ih (pre ++ [c]) k (acc + (c.toNat % 128) * 2 ^ (7 * pre.length)) (by rw [e2]; omega) (by
        rw [e2, show 7 * (pre.length + 1) = 7 * pre.length + 7 by omega, Nat.pow_add]
        have h3 : (c.toNat % 128) * 2 ^ (7 * pre.length) ≤ 127 * 2 ^ (7 * pre.length) := Nat.mul_le_mul_right _ (by omega)
        have h4 : (2 : Nat) ^ 7 = 128 := by decide
        rw [h4]
        omega) (by simp at hk; omega) (by rw [e2]; simp at hb; omega)
      rw [← e1, e2] at this
      exact this
    rw [P134_0_eq, cond_of (by simp; omega), cond_of (by simp [bys_length]; omega), hget, isInt_ofByte, cond_true, toInt_ofByte, hneg, cond_false, hnext]
    unfold getF
    by_cases h9 : pre.length = 9
    · rw [cond_of (by simp; omega)]
      by_cases h1 : 1 < c.toNat
      · rw [cond_of (by simp; omega), if_pos ⟨h9, h1⟩]; exact Ans.ret _
      · rw [cond_of_not (by simp; omega), if_neg (by omega), (get_or ha hi hc (fun _ => by omega)).1, cond_of (by simp; omega), if_pos (by omega)]
        by_cases h0 : c.toNat = 0
        · rw [cond_of (by simp [h0]), cond_of (by simp; omega), if_pos (by omega)]; exact Ans.ret _
        · rw [cond_of_not (by simp; omega), if_neg (by omega), Nat.mod_eq_of_lt (by omega : c.toNat < 128)]; exact Ans.ret _
    · have hno : pre.length = 9 → c.toNat ≤ 1 := fun e => absurd e h9
      rw [cond_of_not (by simp; omega), if_neg (by omega), (get_or ha hi hc hno).1]
      by_cases h128 : c.toNat < 128
      · rw [cond_of (by simp; omega), if_pos h128]
        by_cases h0 : c.toNat = 0
        · rw [cond_of (by simp [h0])]
          by_cases hz : 0 < pre.length
          · rw [cond_of (by simp; omega), if_pos ⟨h0, hz⟩]; exact Ans.ret _
          · rw [cond_of_not (by rw [decide_eq_false_iff_not]; omega), if_neg (fun e => hz e.2), Nat.mod_eq_of_lt h128]; exact Ans.ret _
        · rw [cond_of_not (by simp; omega), if_neg (fun e => h0 e.1), Nat.mod_eq_of_lt h128]; exact Ans.ret _
      · rw [cond_of_not (by simp; omega), if_neg h128]
        exact hrec hno h128

theorem get_ok (d : Nat) (f : Bool) (l : List UInt8) (h : Heap) (hl : l.length ≤ 140737488355328) : Ans (evFn Cw (d + 1) 134 [.sl f 0 (bys l)] h) (tri (getF l 0 0), h) := by
  rw [F134_eq]
  have := get_loop d f h l [] rounds 0 (by simp) (by simp) (rounds_gt _ (by omega)) (by simpa using hl)
  simpa [bys_length] using this

/-- What is put is got, whatever stands behind. -/
theorem get_enc : ∀ (j n i acc : Nat) (rest : List UInt8), n < 128 ^ (j + 1) → i + j ≤ 9 → (i + j = 9 → n < 2 * 128 ^ j) → (0 < i → 0 < n) → getF (enc n ++ rest) i acc = (acc + n * 2 ^ (7 * i), i + (enc n).length, 0)
  | 0, n, i, acc, rest, hn, hi, h9, h0 => by
    have h1 : n < 128 := by simpa using hn
    have e : (UInt8.ofNat n).toNat = n := by simp; omega
    rw [enc_lt h1]
    simp only [List.singleton_append, getF, e]
    rw [if_neg (by intro ⟨a, b⟩; have := h9 (by omega); omega), if_pos h1, if_neg (by intro ⟨a, b⟩; have := h0 b; omega)]
    simp
  | j + 1, n, i, acc, rest, hn, hi, h9, h0 => by
    by_cases h1 : n < 128
    · have e : (UInt8.ofNat n).toNat = n := by simp; omega
      rw [enc_lt h1]
      simp only [List.singleton_append, getF, e]
      rw [if_neg (by intro ⟨a, b⟩; omega), if_pos h1, if_neg (by intro ⟨a, b⟩; have := h0 b; omega)]
      simp
    · have e : (UInt8.ofNat (n % 128 + 128)).toNat = n % 128 + 128 := by simp; omega
      rw [enc_ge h1]
      simp only [List.cons_append, getF, e]
      rw [if_neg (by intro ⟨a, b⟩; omega), if_neg (by omega)]
      rw [get_enc j (n / 128) (i + 1) _ rest (Nat.div_lt_of_lt_mul (by rw [Nat.pow_succ] at hn; omega)) (by omega) (fun hh => by
        have := h9 (by omega)
        rw [Nat.pow_succ] at this
        exact Nat.div_lt_of_lt_mul (by omega)) (fun _ => by omega)]
      have e2 : (n % 128 + 128) % 128 = n % 128 := by omega
      have e3 : 2 ^ (7 * (i + 1)) = 128 * 2 ^ (7 * i) := by rw [show 7 * (i + 1) = 7 + 7 * i by omega, Nat.pow_add]
      rw [e2, e3]
      have e4 : n = n % 128 + n / 128 * 128 := by omega
      simp only [List.length_cons, Prod.mk.injEq, and_true]
      refine ⟨?_, by omega⟩
      have : n * 2 ^ (7 * i) = (n % 128) * 2 ^ (7 * i) + n / 128 * (128 * 2 ^ (7 * i)) := by
        rw [← Nat.mul_assoc, ← Nat.add_mul]; congr 1
      omega

theorem get_enc0 (n : Nat) (rest : List UInt8) (hn : n < 18446744073709551616) : getF (enc n ++ rest) 0 0 = (n, (enc n).length, 0) := by
  have := get_enc 9 n 0 0 rest (lt_128_10 hn) (by omega) (fun _ => Nat.lt_of_lt_of_le hn (by decide)) (fun h => by omega)
  simpa using this

end Go.Proofs.Ytdlcjibefbnckaa.Wa
end

section
/- The number that bytes begin with, as the document has it; and VarintGets. -/
namespace Go.Proofs.Ytdlcjibefbnckaa.Wa
open Go Go.Weave
set_option maxRecDepth 100000
set_option linter.unusedSimpArgs false
set_option linter.unusedVariables false
set_option linter.unusedSectionVars false

theorem rget_sum {acc i c : Nat} (h : acc < 2 ^ (7 * i)) (hi : i ≤ 9) (hc : c < 256) (h9 : i = 9 → c ≤ 1) :
    IntKind.u64.wrap ((acc : Int) + (IntKind.u64.wrap ((Int.tmod (c : Int) 128) * ((2 ^ (7 * i) : Nat) : Int)))) = ((acc + (c % 128) * 2 ^ (7 * i) : Nat) : Int) := by
  have hs := (get_or h hi hc h9).2
  have e1 : Int.tmod (c : Int) 128 = ((c % 128 : Nat) : Int) := by rw [Int.tmod_eq_emod_of_nonneg (by omega)]; omega
  have e2 : ((c % 128 : Nat) : Int) * ((2 ^ (7 * i) : Nat) : Int) = (((c % 128) * 2 ^ (7 * i) : Nat) : Int) := by rw [Int.natCast_mul]
  rw [e1, e2, wrap_u64_id (n := (((c % 128) * 2 ^ (7 * i) : Nat) : Int)) (by omega) (by omega), wrap_u64_id (by omega) (by omega)]
  omega

theorem rget_loop (d : Nat) (f : Bool) (h : Heap) : ∀ (r pre : List UInt8) (k acc : Nat), pre.length ≤ 9 → acc < 2 ^ (7 * pre.length) → r.length < k → pre.length + r.length ≤ 140737488355328 →
    Ans (P114_0 d k f (bys (pre ++ r)) acc ((2 ^ (7 * pre.length) : Nat) : Int) (pre.length : Nat) h) (tri (getF r pre.length acc), h) := by
  intro r
  induction r with
  | nil =>
    intro pre k acc hi ha hk hb
    obtain ⟨k, rfl⟩ : ∃ m, k = m + 1 := ⟨k - 1, by omega⟩
    rw [P114_0_eq, cond_of_not (by simp [bys_length])]
    exact Ans.ret _
  | cons c r ih =>
    intro pre k acc hi ha hk hb
    obtain ⟨k, rfl⟩ : ∃ m, k = m + 1 := ⟨k - 1, by omega⟩
    have hc : c.toNat < 256 := c.toNat_lt
    have hlt : pre.length < (pre ++ c :: r).length := by simp
    have hget : (bys (pre ++ c :: r)).getD (Int.toNat (pre.length : Int)) AVal.undef = ofByte c := by
      rw [Int.toNat_natCast, bys_getD hlt]
      congr 1
      simp
    have hw : IntKind.u64.wrap ((c.toNat : Nat) : Int) = ((c.toNat : Nat) : Int) := wrap_u64_id (by omega) (by omega)
    have hnext : IntKind.i64.wrap ((pre.length : Int) + 1) = ((pre.length + 1 : Nat) : Int) := by rw [wrap_i64_id (by omega) (by omega)]; omega
    have hrec : (pre.length = 9 → c.toNat ≤ 1) → ¬ c.toNat < 128 → Ans (P114_0 d k f (bys (pre ++ c :: r)) ((acc + (c.toNat % 128) * 2 ^ (7 * pre.length) : Nat) : Int) (IntKind.u64.wrap (((2 ^ (7 * pre.length) : Nat) : Int) * 128)) ((pre.length + 1 : Nat) : Int) h)
        (tri (getF r (pre.length + 1) (acc + (c.toNat % 128) * 2 ^ (7 * pre.length))), h) := fun h9 h128 => by
      have hp : pre.length < 9 := by
        have : pre.length ≠ 9 := fun e => by have := h9 e; omega
        omega
      have e1 : pre ++ c :: r = (pre ++ [c]) ++ r := by simp
      have e2 : (pre ++ [c]).length = pre.length + 1 := by simp
      have e4 : 2 ^ (7 * (pre.length + 1)) = 2 ^ (7 * pre.length) * 128 := by
        rw [show 7 * (pre.length + 1) = 7 * pre.length + 7 by omega, Nat.pow_add]
      have e5 := pow_le (i := pre.length + 1) (by omega)
      have e6 : IntKind.u64.wrap (((2 ^ (7 * pre.length) : Nat) : Int) * 128) = ((2 ^ (7 * (pre.length + 1)) : Nat) : Int) := by
        rw [e4] at e5 ⊢
        rw [wrap_u64_id (by omega) (by omega)]
        omega
      have := ih (pre ++ [c]) k (acc + (c.toNat % 128) * 2 ^ (7 * pre.length)) (by rw [e2]; omega) (by
        rw [e2, e4]
        have h3 : (c.toNat % 128) * 2 ^ (7 * pre.length) ≤ 127 * 2 ^ (7 * pre.length) := Nat.mul_le_mul_right _ (by omega)
        omega) (by simp at hk; omega) (by rw [e2]; simp at hb; omega)
      rw [← e1, e2] at this
      rw [e6]
      exact this
    rw [P114_0_eq, cond_of (by simp [bys_length]; omega), cond_of (by simp [bys_length]; omega), hget, isInt_ofByte, cond_true, toInt_ofByte, hw, hnext]
    unfold getF
    by_cases h9 : pre.length = 9
    · rw [cond_of (by simp; omega)]
      by_cases h1 : 1 < c.toNat
      · rw [cond_of (by simp; omega), if_pos ⟨h9, h1⟩]; exact Ans.ret _
      · rw [cond_of_not (by simp; omega), if_neg (by omega), rget_sum ha hi hc (fun _ => by omega), cond_of (by simp; omega), if_pos (by omega)]
        by_cases h0 : c.toNat = 0
        · rw [cond_of (by simp [h0]), cond_of (by simp; omega), if_pos (by omega)]; exact Ans.ret _
        · rw [cond_of_not (by simp; omega), if_neg (fun e => h0 e.1), cond_of (by simp; omega), Nat.mod_eq_of_lt (by omega : c.toNat < 128)]; exact Ans.ret _
    · have hno : pre.length = 9 → c.toNat ≤ 1 := fun e => absurd e h9
      rw [cond_of_not (by simp; omega), if_neg (fun e => h9 e.1), rget_sum ha hi hc hno]
      by_cases h128 : c.toNat < 128
      · rw [cond_of (by simp; omega), if_pos h128]
        by_cases h0 : c.toNat = 0
        · rw [cond_of (by simp [h0])]
          by_cases hz : 0 < pre.length
          · rw [cond_of (by rw [decide_eq_true_iff]; omega), if_pos ⟨h0, hz⟩]; exact Ans.ret _
          · rw [cond_of_not (by rw [decide_eq_false_iff_not]; omega), if_neg (fun e => hz e.2), cond_of (by simp; omega), Nat.mod_eq_of_lt h128]; exact Ans.ret _
        · rw [cond_of_not (by simp; omega), if_neg (fun e => h0 e.1), cond_of (by simp; omega), Nat.mod_eq_of_lt h128]; exact Ans.ret _
      · rw [cond_of_not (by simp; omega), if_neg h128, cond_of_not (by simp; omega)]
        exact hrec hno h128

theorem rget_ok (d : Nat) (f : Bool) (l : List UInt8) (h : Heap) (hl : l.length ≤ 140737488355328) : Ans (evFn Cw (d + 1) 114 [.sl f 0 (bys l)] h) (tri (getF l 0 0), h) := by
  rw [F114_eq]
  have := rget_loop d f h l [] rounds 0 (by simp) (by simp) (rounds_gt _ (by omega)) (by simpa using hl)
  simpa using this

/-- What is got: a number that is put by the same bytes; or why there is none. -/
theorem getF_spec : ∀ (r : List UInt8) (i acc : Nat), i ≤ 9 →
    (∃ m, getF r i acc = (acc + m * 2 ^ (7 * i), i + (enc m).length, 0) ∧ r.take (enc m).length = enc m ∧ (enc m).length ≤ r.length ∧ m < 2 * 128 ^ (9 - i) ∧ (0 < i → 0 < m)) ∨
    (∃ e, getF r i acc = (0, 0, e) ∧ (e = 1 ∨ e = 2 ∨ e = 4))
  | [], i, acc, _ => .inr ⟨1, rfl, .inl rfl⟩
  | c :: r, i, acc, hi => by
    have hc : c.toNat < 256 := c.toNat_lt
    unfold getF
    by_cases h9 : i = 9 ∧ 1 < c.toNat
    · rw [if_pos h9]; exact .inr ⟨4, rfl, .inr (.inr rfl)⟩
    · rw [if_neg h9]
      by_cases h128 : c.toNat < 128
      · rw [if_pos h128]
        by_cases h0 : c.toNat = 0 ∧ 0 < i
        · rw [if_pos h0]; exact .inr ⟨2, rfl, .inr (.inl rfl)⟩
        · rw [if_neg h0]
          have e : enc c.toNat = [c] := by rw [enc_lt h128]; simp
          refine .inl ⟨c.toNat, by rw [e]; rfl, by rw [e]; rfl, by rw [e]; simp, ?_, fun hi0 => by
            have : c.toNat ≠ 0 := fun e => h0 ⟨e, hi0⟩
            omega⟩
          by_cases hi9 : i = 9
          · subst hi9
            have : ¬ 1 < c.toNat := fun e => h9 ⟨rfl, e⟩
            simp; omega
          · have h1 : (128 : Nat) ^ 1 ≤ 128 ^ (9 - i) := Nat.pow_le_pow_right (by omega) (by omega)
            simp at h1
            omega
      · rw [if_neg h128]
        have hi9 : i ≠ 9 := fun e => h9 ⟨e, by omega⟩
        rcases getF_spec r (i + 1) (acc + (c.toNat % 128) * 2 ^ (7 * i)) (by omega) with ⟨m, h1, h2, h3, h4, h5⟩ | h
        · left
          have hm := h5 (by omega)
          have e : enc (c.toNat % 128 + 128 * m) = c :: enc m := by
            rw [enc_ge (by omega)]
            have e1 : (c.toNat % 128 + 128 * m) % 128 + 128 = c.toNat := by omega
            have e2 : (c.toNat % 128 + 128 * m) / 128 = m := by omega
            rw [e1, e2]
            simp
          refine ⟨c.toNat % 128 + 128 * m, ?_, by rw [e]; simp [h2], by rw [e]; simp; exact h3, ?_, fun _ => by omega⟩
          · rw [h1, e]
            have e3 : 2 ^ (7 * (i + 1)) = 128 * 2 ^ (7 * i) := by rw [show 7 * (i + 1) = 7 + 7 * i by omega, Nat.pow_add]
            rw [e3]
            simp only [List.length_cons, Prod.mk.injEq, and_true]
            refine ⟨?_, by omega⟩
            rw [Nat.add_mul, Nat.mul_comm 128 m, Nat.mul_assoc]
            omega
          · have e4 : 9 - i = (9 - (i + 1)) + 1 := by omega
            rw [e4, Nat.pow_succ]
            omega
        · exact .inr h

theorem getF_spec0 (l : List UInt8) : (∃ m, getF l 0 0 = (m, (enc m).length, 0) ∧ l.take (enc m).length = enc m ∧ (enc m).length ≤ l.length ∧ m < 18446744073709551616) ∨ (∃ e, getF l 0 0 = (0, 0, e) ∧ (e = 1 ∨ e = 2 ∨ e = 4)) := by
  rcases getF_spec l 0 0 (by omega) with ⟨m, h1, h2, h3, h4, _⟩ | h
  · refine .inl ⟨m, by simpa using h1, h2, h3, Nat.lt_of_lt_of_le h4 (by decide)⟩
  · exact .inr h

end Go.Proofs.Ytdlcjibefbnckaa.Wa
end

section
/- All the numbers that bytes are; VarintAll. -/
namespace Go.Proofs.Ytdlcjibefbnckaa.Wa
open Go Go.Weave
set_option maxRecDepth 100000
set_option linter.unusedSimpArgs false
set_option linter.unusedVariables false
set_option linter.unusedSectionVars false

theorem get_run {d : Nat} {f : Bool} {l : List UInt8} {h : Heap} {Q : Res → Prop} {tg : Hid Q} (hl : l.length ≤ 140737488355328) :
    Run (evFn Cw (d + 1) 134 [.sl f 0 (bys l)] h) Q tg = Q ([.int .u64 (getF l 0 0).1, .int .i64 (getF l 0 0).2.1, .int .i64 (getF l 0 0).2.2], h) := (get_ok d f l h hl).at
theorem rget_run {d : Nat} {f : Bool} {l : List UInt8} {h : Heap} {Q : Res → Prop} {tg : Hid Q} (hl : l.length ≤ 140737488355328) :
    Run (evFn Cw (d + 1) 114 [.sl f 0 (bys l)] h) Q tg = Q ([.int .u64 (getF l 0 0).1, .int .i64 (getF l 0 0).2.1, .int .i64 (getF l 0 0).2.2], h) := (rget_ok d f l h hl).at
theorem getF_ok {l : List UInt8} (h : (getF l 0 0).2.2 = 0) : 1 ≤ (getF l 0 0).2.1 ∧ (getF l 0 0).2.1 ≤ l.length ∧ (getF l 0 0).1 < 18446744073709551616 := by
  rcases getF_spec0 l with ⟨m, h1, _, h3, h4⟩ | ⟨e, h1, he⟩
  · rw [h1]; exact ⟨(enc_length 9 m (lt_128_10 h4)).1, h3, h4⟩
  · rw [h1] at h; simp at h; omega

theorem part_drop {l : List UInt8} {k : Nat} : Weave.part (k : Int) ((bys l).length : Int) (bys l) = bys (l.drop k) := by
  rw [part_bys, bys_length]
  congr 1
  simp only [Weave.part, Int.toNat_natCast]
  rw [List.take_of_length_le (by simp)]

theorem e0 : ((0 : Nat) : Int) = 0 := by omega
end Go.Proofs.Ytdlcjibefbnckaa.Wa
end

section
/- What the evaluator comes to in these functions. -/
namespace Go.Proofs.Ytdlcjibefbnckaa.Wa
open Go Go.Weave
set_option maxRecDepth 100000
set_option linter.unusedVariables false
/- f142 strandline/field.Get -/
theorem F142_eq (d : Nat) (f0 : Bool) (l1 : List AVal) (h : Heap) : evFn Cw (d + 1) 142 [(AVal.sl f0 0 l1)] h =
  (runK (evFn Cw d 134 [(AVal.sl f0 0 l1)] h) fun r1 h1 =>
    (consK r1 fun w2 ws3 =>
      (intK .u64 w2 fun y4 =>
        (consK ws3 fun w5 ws6 =>
          (intK .i64 w5 fun y7 =>
            (consK ws6 fun w8 ws9 =>
              (intK .i64 w8 fun y10 =>
                (nilK ws9
                  (bif ((y10 : Int) != 0) then
                    (Tr.ret ([(AVal.sl true 0 []), (AVal.int .i64 0), (AVal.int .i64 y10)], h1))
                  else
                    (bif (decide ((y4 : Int) > 65536)) then
                      (Tr.ret ([(AVal.sl true 0 []), (AVal.int .i64 0), (AVal.int .i64 5)], h1))
                    else
                      (bif (decide (((IntKind.i64.wrap (y7 + (IntKind.i64.wrap y4))) : Int) > (l1.length : Int))) then
                        (Tr.ret ([(AVal.sl true 0 []), (AVal.int .i64 0), (AVal.int .i64 1)], h1))
                      else
                        (bif ((decide ((0 : Int) ≤ y7) && decide ((y7 : Int) ≤ (IntKind.i64.wrap (y7 + (IntKind.i64.wrap y4))))) && decide (((IntKind.i64.wrap (y7 + (IntKind.i64.wrap y4))) : Int) ≤ (l1.length : Int))) then
                          (bif decide (((IntKind.i64.wrap (y7 + (IntKind.i64.wrap y4))) : Int) = (IntKind.i64.wrap (y7 + (IntKind.i64.wrap y4)))) then
                            (bif decide (((0 : Nat) + (Go.Weave.part y7 (IntKind.i64.wrap (y7 + (IntKind.i64.wrap y4))) l1).length) * 1 ≤ 140737488355328) then
                              (Tr.ret ([(AVal.sl false 0 ([] ++ (Go.Weave.part y7 (IntKind.i64.wrap (y7 + (IntKind.i64.wrap y4))) l1))), (AVal.int .i64 (IntKind.i64.wrap (y7 + (IntKind.i64.wrap y4)))), (AVal.int .i64 0)], h1))
                            else
                              Tr.fail)
                          else
                            Tr.fail)
                        else
                          Tr.fail)))))))))))) := by kernel_rfl
/- f113 strandline/strandlineref04.Get -/
theorem F113_eq (d : Nat) (f0 : Bool) (l1 : List AVal) (h : Heap) : evFn Cw (d + 1) 113 [(AVal.sl f0 0 l1)] h =
  (runK (evFn Cw d 114 [(AVal.sl f0 0 l1)] h) fun r1 h1 =>
    (consK r1 fun w2 ws3 =>
      (intK .u64 w2 fun y4 =>
        (consK ws3 fun w5 ws6 =>
          (intK .i64 w5 fun y7 =>
            (consK ws6 fun w8 ws9 =>
              (intK .i64 w8 fun y10 =>
                (nilK ws9
                  (bif ((y10 : Int) != 0) then
                    (Tr.ret ([(AVal.sl true 0 []), (AVal.int .i64 0), (AVal.int .i64 y10)], h1))
                  else
                    (bif (decide ((y4 : Int) > 65536)) then
                      (Tr.ret ([(AVal.sl true 0 []), (AVal.int .i64 0), (AVal.int .i64 5)], h1))
                    else
                      (bif (decide (((IntKind.i64.wrap y4) : Int) > (IntKind.i64.wrap ((l1.length : Int) - y7)))) then
                        (Tr.ret ([(AVal.sl true 0 []), (AVal.int .i64 0), (AVal.int .i64 1)], h1))
                      else
                        (bif ((decide ((0 : Int) ≤ y7) && decide ((y7 : Int) ≤ (IntKind.i64.wrap (y7 + (IntKind.i64.wrap y4))))) && decide (((IntKind.i64.wrap (y7 + (IntKind.i64.wrap y4))) : Int) ≤ (l1.length : Int))) then
                          (bif decide (((0 : Nat) + (Go.Weave.part y7 (IntKind.i64.wrap (y7 + (IntKind.i64.wrap y4))) l1).length) * 1 ≤ 140737488355328) then
                            (Tr.ret ([(AVal.sl false 0 ([] ++ (Go.Weave.part y7 (IntKind.i64.wrap (y7 + (IntKind.i64.wrap y4))) l1))), (AVal.int .i64 (IntKind.i64.wrap (y7 + (IntKind.i64.wrap y4)))), (AVal.int .i64 0)], h1))
                          else
                            Tr.fail)
                        else
                          Tr.fail)))))))))))) := by kernel_rfl
/- f104 strandline/strandlineref04.Pack -/
noncomputable def P104_0 (d k : Nat) (f0 : Bool) (l1 : List AVal) (l2 : List AVal) (x3 : Int) (h : Heap) : Tr Res :=
  loopPt Cw d 104 [true, true, false, true, true] [] k ⟨[(0, (EV.one (SV.val (AVal.sl f0 0 l1)))), (3, (EV.one (SV.own (tokOf 3 0) 0 l2))), (4, (EV.one (SV.val (AVal.int .i64 x3))))], []⟩ h
theorem P104_0_eq (d k : Nat) (f0 : Bool) (l1 : List AVal) (l2 : List AVal) (x3 : Int) (h : Heap) : P104_0 d (k + 1) f0 l1 l2 x3 h =
  (bif (decide ((x3 : Int) < (l1.length : Int))) then
    (bif (decide ((0 : Int) ≤ x3) && decide ((x3 : Int) < (l1.length : Int))) then
      (slK 0 (l1.getD (Int.toNat x3) AVal.undef) fun fl1 es2 =>
        (bif (decide (((es2.length : Int) : Int) ≤ 65536)) then
          (bif (decide ((0 : Int) ≤ x3) && decide ((x3 : Int) < (l1.length : Int))) then
            (slK 0 (l1.getD (Int.toNat x3) AVal.undef) fun fl3 es4 =>
              (runK (evFn Cw d 105 [(AVal.sl false 0 l2), (AVal.int .u64 (IntKind.u64.wrap (es4.length : Int)))] h) fun r5 h5 =>
                (consK r5 fun w6 ws7 =>
                  (slOK 0 w6 fun es8 =>
                    (nilK ws7
                      (bif (decide ((0 : Int) ≤ x3) && decide ((x3 : Int) < (l1.length : Int))) then
                        (slK 0 (l1.getD (Int.toNat x3) AVal.undef) fun fl9 es10 =>
                          (bif decide ((es8.length + es10.length) * 1 ≤ 140737488355328) then (P104_0 d k f0 l1 (es8 ++ es10) (IntKind.i64.wrap (x3 + 1)) h5) else Tr.fail))
                      else
                        Tr.fail))))))
          else
            Tr.fail)
        else
          (P104_0 d k f0 l1 l2 (IntKind.i64.wrap (x3 + 1)) h)))
    else
      Tr.fail)
  else
    (Tr.ret ([(AVal.sl false 0 l2)], h))) := by kernel_rfl
theorem F104_eq (d : Nat) (f0 : Bool) (l1 : List AVal) (h : Heap) : evFn Cw (d + 1) 104 [(AVal.sl f0 0 l1)] h =
  (P104_0 d rounds f0 l1 [] 0 h) := by kernel_rfl
end Go.Proofs.Ytdlcjibefbnckaa.Wa
end

section
/- Fields: got, put, packed, unpacked; FieldGets, FieldUnpacks, FieldPacks. -/
namespace Go.Proofs.Ytdlcjibefbnckaa.Wa
open Go Go.Weave
set_option maxRecDepth 100000
set_option linter.unusedSimpArgs false
set_option linter.unusedVariables false
set_option linter.unusedSectionVars false

theorem rput_run {d : Nat} {f : Bool} {l : List UInt8} {n : Nat} {h : Heap} {Q : Res → Prop} {tg : Hid Q} (hn : n < 18446744073709551616) (hl : l.length ≤ 140737488355000) :
    Run (evFn Cw (d + 1) 105 [.sl f 0 (bys l), .int .u64 n] h) Q tg = Q ([.sl false 0 (bys (l ++ enc n))], h) := (rput_ok d f l n h hn hl).at
/-- The field that bytes begin with. -/
def fgetW (l : List UInt8) : List UInt8 × Nat × Nat :=
  if (getF l 0 0).2.2 ≠ 0 then ([], 0, (getF l 0 0).2.2) else if 65536 < (getF l 0 0).1 then ([], 0, 5) else if l.length < (getF l 0 0).2.1 + (getF l 0 0).1 then ([], 0, 1) else
    ((l.drop (getF l 0 0).2.1).take (getF l 0 0).1, (getF l 0 0).2.1 + (getF l 0 0).1, 0)
theorem fget_ex : ∃ f : List UInt8 → List UInt8 × Nat × Nat, ∀ l, f l = fgetW l := ⟨fgetW, fun _ => rfl⟩
noncomputable def fget : List UInt8 → List UInt8 × Nat × Nat := Classical.choose fget_ex
theorem fget_eq (l : List UInt8) : fget l = fgetW l := Classical.choose_spec fget_ex l

theorem part_mid {l : List UInt8} {k m : Nat} : Weave.part (k : Int) ((k + m : Nat) : Int) (bys l) = bys ((l.drop k).take m) := by
  rw [part_bys]
  congr 1
  simp only [Weave.part, Int.toNat_natCast]
  congr 1
  omega

theorem fget_ok (d : Nat) (f : Bool) (l : List UInt8) (h : Heap) (hl : l.length ≤ 140737488351232) :
    Ans (evFn Cw (d + 2) 142 [.sl f 0 (bys l)] h) ([.sl (decide ((fget l).2.2 ≠ 0)) 0 (bys (fget l).1), .int .i64 (fget l).2.1, .int .i64 (fget l).2.2], h) := by
  refine Run.ans ?_
  rw [F142_eq, fget_eq]
  unfold fgetW
  by_cases he : (getF l 0 0).2.2 = 0
  · have ⟨h1, h2, h3⟩ := getF_ok he
    rw [if_neg (by omega)]
    by_cases hb : 65536 < (getF l 0 0).1
    · rw [if_pos hb]
      simp (disch := (first | assumption | (simp only [Bool.and_eq_true, Bool.and_eq_false_iff, decide_eq_true_eq, decide_eq_false_iff_not, bne_iff_ne, beq_iff_eq, beq_eq_false_iff_ne, bne_eq_false_iff_eq, Bool.not_eq_true', Bool.not_eq_false', bys_length, List.length_append, List.length_cons, List.length_nil, List.length_map, List.length_drop, List.length_take, Int.natCast_add, wrap_i64_eq, wrap_u64, wrap_u8, ne_eq, not_true_eq_false, not_false_eq_true, Nat.zero_add, Nat.mul_one] <;> omega) | omega | (simp; done) | (simp; omega))) only [↓CR, MC, get_run]
      simp [bys_nil]
    · have e1 : IntKind.i64.wrap (((getF l 0 0).1 : Nat) : Int) = (((getF l 0 0).1 : Nat) : Int) := wrap_i64_id (by omega) (by omega)
      have e2 : IntKind.i64.wrap ((((getF l 0 0).2.1 : Nat) : Int) + (((getF l 0 0).1 : Nat) : Int)) = (((getF l 0 0).2.1 + (getF l 0 0).1 : Nat) : Int) := by rw [wrap_i64_id (by omega) (by omega)]; omega
      rw [if_neg hb]
      by_cases hs : l.length < (getF l 0 0).2.1 + (getF l 0 0).1
      · rw [if_pos hs]
        simp (disch := (first | assumption | (simp only [Bool.and_eq_true, Bool.and_eq_false_iff, decide_eq_true_eq, decide_eq_false_iff_not, bne_iff_ne, beq_iff_eq, beq_eq_false_iff_ne, bne_eq_false_iff_eq, Bool.not_eq_true', Bool.not_eq_false', bys_length, List.length_append, List.length_cons, List.length_nil, List.length_map, List.length_drop, List.length_take, Int.natCast_add, wrap_i64_eq, wrap_u64, wrap_u8, ne_eq, not_true_eq_false, not_false_eq_true, Nat.zero_add, Nat.mul_one] <;> omega) | omega | (simp; done) | (simp; omega))) only [↓CR, MC, get_run, e1, e2]
        simp [bys_nil]
      · rw [if_neg hs]
        simp (disch := (first | assumption | (simp only [Bool.and_eq_true, Bool.and_eq_false_iff, decide_eq_true_eq, decide_eq_false_iff_not, bne_iff_ne, beq_iff_eq, beq_eq_false_iff_ne, bne_eq_false_iff_eq, Bool.not_eq_true', Bool.not_eq_false', bys_length, List.length_append, List.length_cons, List.length_nil, List.length_map, List.length_drop, List.length_take, Int.natCast_add, wrap_i64_eq, wrap_u64, wrap_u8, ne_eq, not_true_eq_false, not_false_eq_true, Nat.zero_add, Nat.mul_one] <;> omega) | omega | (simp; done) | (simp; omega))) only [↓CR, MC, get_run, e1, e2, part_mid, List.length_take]
        simp
  · rw [if_pos he]
    simp (disch := (first | assumption | (simp only [Bool.and_eq_true, Bool.and_eq_false_iff, decide_eq_true_eq, decide_eq_false_iff_not, bne_iff_ne, beq_iff_eq, beq_eq_false_iff_ne, bne_eq_false_iff_eq, Bool.not_eq_true', Bool.not_eq_false', bys_length, List.length_append, List.length_cons, List.length_nil, List.length_map, List.length_drop, List.length_take, Int.natCast_add, wrap_i64_eq, wrap_u64, wrap_u8, ne_eq, not_true_eq_false, not_false_eq_true, Nat.zero_add, Nat.mul_one] <;> omega) | omega | (simp; done) | (simp; omega))) only [↓CR, MC, get_run]
    simp [he, bys_nil]

theorem rfget_ok (d : Nat) (f : Bool) (l : List UInt8) (h : Heap) (hl : l.length ≤ 140737488351232) :
    Ans (evFn Cw (d + 2) 113 [.sl f 0 (bys l)] h) ([.sl (decide ((fget l).2.2 ≠ 0)) 0 (bys (fget l).1), .int .i64 (fget l).2.1, .int .i64 (fget l).2.2], h) := by
  refine Run.ans ?_
  rw [F113_eq, fget_eq]
  unfold fgetW
  by_cases he : (getF l 0 0).2.2 = 0
  · have ⟨h1, h2, h3⟩ := getF_ok he
    rw [if_neg (by omega)]
    by_cases hb : 65536 < (getF l 0 0).1
    · rw [if_pos hb]
      simp (disch := (first | assumption | (simp only [Bool.and_eq_true, Bool.and_eq_false_iff, decide_eq_true_eq, decide_eq_false_iff_not, bne_iff_ne, beq_iff_eq, beq_eq_false_iff_ne, bne_eq_false_iff_eq, Bool.not_eq_true', Bool.not_eq_false', bys_length, List.length_append, List.length_cons, List.length_nil, List.length_map, List.length_drop, List.length_take, Int.natCast_add, wrap_i64_eq, wrap_u64, wrap_u8, ne_eq, not_true_eq_false, not_false_eq_true, Nat.zero_add, Nat.mul_one] <;> omega) | omega | (simp; done) | (simp; omega))) only [↓CR, MC, rget_run]
      simp [bys_nil]
    · have e1 : IntKind.i64.wrap (((getF l 0 0).1 : Nat) : Int) = (((getF l 0 0).1 : Nat) : Int) := wrap_i64_id (by omega) (by omega)
      have e2 : IntKind.i64.wrap ((((getF l 0 0).2.1 : Nat) : Int) + (((getF l 0 0).1 : Nat) : Int)) = (((getF l 0 0).2.1 + (getF l 0 0).1 : Nat) : Int) := by rw [wrap_i64_id (by omega) (by omega)]; omega
      rw [if_neg hb]
      by_cases hs : l.length < (getF l 0 0).2.1 + (getF l 0 0).1
      · rw [if_pos hs]
        simp (disch := (first | assumption | (simp only [Bool.and_eq_true, Bool.and_eq_false_iff, decide_eq_true_eq, decide_eq_false_iff_not, bne_iff_ne, beq_iff_eq, beq_eq_false_iff_ne, bne_eq_false_iff_eq, Bool.not_eq_true', Bool.not_eq_false', bys_length, List.length_append, List.length_cons, List.length_nil, List.length_map, List.length_drop, List.length_take, Int.natCast_add, wrap_i64_eq, wrap_u64, wrap_u8, ne_eq, not_true_eq_false, not_false_eq_true, Nat.zero_add, Nat.mul_one] <;> omega) | omega | (simp; done) | (simp; omega))) only [↓CR, MC, rget_run, e1, e2]
        simp [bys_nil]
      · rw [if_neg hs]
        simp (disch := (first | assumption | (simp only [Bool.and_eq_true, Bool.and_eq_false_iff, decide_eq_true_eq, decide_eq_false_iff_not, bne_iff_ne, beq_iff_eq, beq_eq_false_iff_ne, bne_eq_false_iff_eq, Bool.not_eq_true', Bool.not_eq_false', bys_length, List.length_append, List.length_cons, List.length_nil, List.length_map, List.length_drop, List.length_take, Int.natCast_add, wrap_i64_eq, wrap_u64, wrap_u8, ne_eq, not_true_eq_false, not_false_eq_true, Nat.zero_add, Nat.mul_one] <;> omega) | omega | (simp; done) | (simp; omega))) only [↓CR, MC, rget_run, e1, e2, part_mid, List.length_take]
        simp
  · rw [if_pos he]
    simp (disch := (first | assumption | (simp only [Bool.and_eq_true, Bool.and_eq_false_iff, decide_eq_true_eq, decide_eq_false_iff_not, bne_iff_ne, beq_iff_eq, beq_eq_false_iff_ne, bne_eq_false_iff_eq, Bool.not_eq_true', Bool.not_eq_false', bys_length, List.length_append, List.length_cons, List.length_nil, List.length_map, List.length_drop, List.length_take, Int.natCast_add, wrap_i64_eq, wrap_u64, wrap_u8, ne_eq, not_true_eq_false, not_false_eq_true, Nat.zero_add, Nat.mul_one] <;> omega) | omega | (simp; done) | (simp; omega))) only [↓CR, MC, rget_run]
    simp [he, bys_nil]
theorem fget_run {d : Nat} {f : Bool} {l : List UInt8} {h : Heap} {Q : Res → Prop} {tg : Hid Q} (hl : l.length ≤ 140737488351232) :
    Run (evFn Cw (d + 2) 142 [.sl f 0 (bys l)] h) Q tg = Q ([.sl (decide ((fget l).2.2 ≠ 0)) 0 (bys (fget l).1), .int .i64 (fget l).2.1, .int .i64 (fget l).2.2], h) := (fget_ok d f l h hl).at
theorem rfget_run {d : Nat} {f : Bool} {l : List UInt8} {h : Heap} {Q : Res → Prop} {tg : Hid Q} (hl : l.length ≤ 140737488351232) :
    Run (evFn Cw (d + 2) 113 [.sl f 0 (bys l)] h) Q tg = Q ([.sl (decide ((fget l).2.2 ≠ 0)) 0 (bys (fget l).1), .int .i64 (fget l).2.1, .int .i64 (fget l).2.2], h) := (rfget_ok d f l h hl).at

/-- A field's bytes. -/
noncomputable def pk (f : List UInt8) : List UInt8 := if 65536 < f.length then [] else enc f.length ++ f
theorem pk_len (f : List UInt8) : (pk f).length ≤ 65546 := by
  unfold pk
  split
  · simp
  · have := (enc_length 9 f.length (lt_128_10 (by omega))).2
    simp; omega
theorem fget_spec {l : List UInt8} (h : (fget l).2.2 = 0) : (fget l).1.length ≤ 65536 ∧ 1 ≤ (fget l).2.1 ∧ (fget l).2.1 ≤ l.length ∧ l.take (fget l).2.1 = pk (fget l).1 := by
  rw [fget_eq] at h ⊢
  unfold fgetW at h ⊢
  rcases getF_spec0 l with ⟨m, h1, h2, h3, h4⟩ | ⟨e, h1, he⟩
  · rw [h1] at h ⊢
    simp only [ne_eq, not_true_eq_false, if_false] at h ⊢
    split at h
    · simp at h
    · rename_i hm
      rw [if_neg hm]
      split at h
      · simp at h
      · rename_i hs
        rw [if_neg hs]
        have hlen := (enc_length 9 m (lt_128_10 h4)).1
        have e1 : ((l.drop (enc m).length).take m).length = m := by simp; omega
        refine ⟨by rw [e1]; omega, by simp only; omega, by simp only; omega, ?_⟩
        unfold pk
        rw [e1, if_neg hm]
        simp only
        rw [List.take_add, h2]
  · rw [h1] at h
    rw [if_pos (by simp; omega)] at h
    simp at h; omega

/-- Rows of bytes. -/
def flds (l : List (List UInt8)) : List AVal := l.map fun b => .sl false 0 (bys b)
theorem flds_length (l : List (List UInt8)) : (flds l).length = l.length := by simp [flds]
theorem flds_getD {l : List (List UInt8)} {i : Nat} (h : i < l.length) : (flds l).getD i AVal.undef = .sl false 0 (bys l[i]) := by simp [flds, h]

/-- The bytes of fields. -/
noncomputable def pks (l : List (List UInt8)) : List UInt8 := l.flatMap pk
theorem pks_take (l : List (List UInt8)) (i : Nat) (h : i < l.length) : pks (l.take i) ++ pk l[i] = pks (l.take (i + 1)) := by
  rw [List.take_succ_eq_append_getElem h]
  simp only [pks, List.flatMap_append, List.flatMap_cons, List.flatMap_nil, List.append_nil]
theorem pks_le (l : List (List UInt8)) (i : Nat) : (pks (l.take i)).length ≤ (pks l).length := by
  have : pks l = pks (l.take i) ++ pks (l.drop i) := by
    unfold pks
    rw [← List.flatMap_append, List.take_append_drop]
  rw [this, List.length_append]; omega
theorem rpack_loop (d : Nat) (f : Bool) (h : Heap) (l : List (List UInt8)) (hb : (pks l).length ≤ 140737488200000) (hlen : l.length ≤ 40000000) : ∀ (n i k : Nat), l.length = i + n → n < k →
    Ans (P104_0 (d + 1) k f (flds l) (bys (pks (l.take i))) i h) ([.sl false 0 (bys (pks l))], h) := by
  intro n
  induction n with
  | zero =>
    intro i k hi hk
    obtain ⟨k, rfl⟩ : ∃ m, k = m + 1 := ⟨k - 1, by omega⟩
    refine Run.ans ?_
    rw [P104_0_eq, List.take_of_length_le (by omega)]
    simp (disch := (first | assumption | (simp only [Bool.and_eq_true, Bool.and_eq_false_iff, decide_eq_true_eq, decide_eq_false_iff_not, bne_iff_ne, beq_iff_eq, beq_eq_false_iff_ne, bne_eq_false_iff_eq, Bool.not_eq_true', Bool.not_eq_false', bys_length, List.length_append, List.length_cons, List.length_nil, List.length_map, List.length_drop, List.length_take, Int.natCast_add, wrap_i64_eq, wrap_u64, wrap_u8, ne_eq, not_true_eq_false, not_false_eq_true, Nat.zero_add, Nat.mul_one] <;> omega) | omega | (simp; done) | (simp; omega))) only [↓CR, MC, flds_length]
  | succ n ih =>
    intro i k hi hk
    obtain ⟨k, rfl⟩ : ∃ m, k = m + 1 := ⟨k - 1, by omega⟩
    have hi' : i < l.length := by omega
    have e : IntKind.i64.wrap ((i : Int) + 1) = ((i + 1 : Nat) : Int) := by rw [wrap_i64_id (by omega) (by omega)]; omega
    have hle := pks_le l i
    have ht := pks_take l i hi'
    refine Run.ans ?_
    rw [P104_0_eq]
    by_cases hx : 65536 < (l[i]).length
    · have e0 : pk l[i] = [] := by unfold pk; rw [if_pos hx]
      rw [e0, List.append_nil] at ht
      simp (disch := (first | assumption | (simp only [Bool.and_eq_true, Bool.and_eq_false_iff, decide_eq_true_eq, decide_eq_false_iff_not, bne_iff_ne, beq_iff_eq, beq_eq_false_iff_ne, bne_eq_false_iff_eq, Bool.not_eq_true', Bool.not_eq_false', bys_length, List.length_append, List.length_cons, List.length_nil, List.length_map, List.length_drop, List.length_take, Int.natCast_add, wrap_i64_eq, wrap_u64, wrap_u8, ne_eq, not_true_eq_false, not_false_eq_true, Nat.zero_add, Nat.mul_one] <;> omega) | omega | (simp; done) | (simp; omega))) only [↓CR, MC, flds_length, Int.toNat_natCast, flds_getD hi', e, ht, Ans.at (ih (i + 1) k (by omega) (by omega))]
    · have e0 : pk l[i] = enc (l[i]).length ++ l[i] := by unfold pk; rw [if_neg hx]
      have e1 : IntKind.u64.wrap (((bys l[i]).length : Nat) : Int) = (((l[i]).length : Nat) : Int) := by rw [bys_length, wrap_u64_id (by omega) (by omega)]
      have h2 := (enc_length 9 (l[i]).length (lt_128_10 (by omega))).2
      rw [e0, ← List.append_assoc] at ht
      simp (disch := (first | assumption | (simp only [Bool.and_eq_true, Bool.and_eq_false_iff, decide_eq_true_eq, decide_eq_false_iff_not, bne_iff_ne, beq_iff_eq, beq_eq_false_iff_ne, bne_eq_false_iff_eq, Bool.not_eq_true', Bool.not_eq_false', bys_length, List.length_append, List.length_cons, List.length_nil, List.length_map, List.length_drop, List.length_take, Int.natCast_add, wrap_i64_eq, wrap_u64, wrap_u8, ne_eq, not_true_eq_false, not_false_eq_true, Nat.zero_add, Nat.mul_one] <;> omega) | omega | (simp; done) | (simp; omega))) only [↓CR, MC, flds_length, Int.toNat_natCast, flds_getD hi', e, e1, rput_run, ← bys_append, ht, Ans.at (ih (i + 1) k (by omega) (by omega))]
theorem rpack_run {d : Nat} {f : Bool} {l : List (List UInt8)} {h : Heap} {Q : Res → Prop} {tg : Hid Q} (hb : (pks l).length ≤ 140737488200000) (hlen : l.length ≤ 40000000) :
    Run (evFn Cw (d + 2) 104 [.sl f 0 (flds l)] h) Q tg = Q ([.sl false 0 (bys (pks l))], h) := by
  have h1 := rpack_loop d f h l hb hlen l.length 0 rounds (by omega) (rounds_gt _ (by omega))
  have e : pks (l.take 0) = [] := by simp [pks]
  rw [e0, e, bys_nil] at h1
  rw [F104_eq]
  exact h1.at
theorem pks_one (f : List UInt8) : pks [f] = pk f := by simp [pks]
end Go.Proofs.Ytdlcjibefbnckaa.Wa
end

section
/- What the evaluator comes to in these functions. -/
namespace Go.Proofs.Ytdlcjibefbnckaa.Wa
open Go Go.Weave
set_option maxRecDepth 100000
set_option linter.unusedVariables false
/- f135 strandline/tx.Right -/
theorem F135_eq (d : Nat) (s0 : List UInt8) (b1 : Bool) (b2 : Bool) (s3 : List UInt8) (s4 : List UInt8) (x5 : Int) (h : Heap) : evFn Cw (d + 1) 135 [(AVal.agg [(AVal.str s0), (AVal.bool b1), (AVal.bool b2), (AVal.str s3), (AVal.str s4), (AVal.int .i64 x5)])] h =
  (bif (decide (((s0.length : Int) : Int) < 1)) then
    (Tr.ret ([(AVal.bool false)], h))
  else
    (bif (decide (((s0.length : Int) : Int) > 24)) then
      (Tr.ret ([(AVal.bool false)], h))
    else
      (bif (decide (((s3.length : Int) : Int) > 128)) then
        (Tr.ret ([(AVal.bool false)], h))
      else
        (bif (decide (((s4.length : Int) : Int) > 128)) then
          (Tr.ret ([(AVal.bool false)], h))
        else
          (bif (!b1) then
            (bif (!(s3 == [])) then
              (Tr.ret ([(AVal.bool false)], h))
            else
              (bif (!b2) then
                (bif (!(s4 == [])) then
                  (Tr.ret ([(AVal.bool false)], h))
                else
                  (bif (decide ((x5 : Int) ≥ 0)) then (Tr.ret ([(AVal.bool (decide ((x5 : Int) ≤ 2147483647)))], h)) else (Tr.ret ([(AVal.bool false)], h))))
              else
                (bif (decide ((x5 : Int) ≥ 0)) then (Tr.ret ([(AVal.bool (decide ((x5 : Int) ≤ 2147483647)))], h)) else (Tr.ret ([(AVal.bool false)], h)))))
          else
            (bif (!b2) then
              (bif (!(s4 == [])) then
                (Tr.ret ([(AVal.bool false)], h))
              else
                (bif (decide ((x5 : Int) ≥ 0)) then (Tr.ret ([(AVal.bool (decide ((x5 : Int) ≤ 2147483647)))], h)) else (Tr.ret ([(AVal.bool false)], h))))
            else
              (bif (decide ((x5 : Int) ≥ 0)) then (Tr.ret ([(AVal.bool (decide ((x5 : Int) ≤ 2147483647)))], h)) else (Tr.ret ([(AVal.bool false)], h))))))))) := by kernel_rfl
/- f121 strandline/tx.Op -/
theorem F121_eq (d : Nat) (s0 : List UInt8) (b1 : Bool) (b2 : Bool) (s3 : List UInt8) (s4 : List UInt8) (x5 : Int) (h : Heap) : evFn Cw (d + 1) 121 [(AVal.agg [(AVal.str s0), (AVal.bool b1), (AVal.bool b2), (AVal.str s3), (AVal.str s4), (AVal.int .i64 x5)])] h =
  (bif b2 then
    (Tr.ret ([(AVal.agg [(AVal.int .i64 1), (AVal.str s0), (AVal.str s4)])], h))
  else
    (Tr.ret ([(AVal.agg [(AVal.int .i64 2), (AVal.str s0), (AVal.str [])])], h))) := by kernel_rfl
/- f115 strandline/strandlineref42.Right -/
theorem F115_eq (d : Nat) (s0 : List UInt8) (b1 : Bool) (b2 : Bool) (s3 : List UInt8) (s4 : List UInt8) (x5 : Int) (h : Heap) : evFn Cw (d + 1) 115 [(AVal.agg [(AVal.str s0), (AVal.bool b1), (AVal.bool b2), (AVal.str s3), (AVal.str s4), (AVal.int .i64 x5)])] h =
  (bif (!(s0 == [])) then
    (bif (decide (((s0.length : Int) : Int) ≤ 24)) then
      (bif (decide (((s3.length : Int) : Int) ≤ 128)) then
        (bif (decide (((s4.length : Int) : Int) ≤ 128)) then
          (bif (decide ((x5 : Int) ≥ 0)) then
            (bif (decide ((x5 : Int) ≤ 2147483647)) then
              (bif b1 then
                (bif b2 then (Tr.ret ([(AVal.bool true)], h)) else (Tr.ret ([(AVal.bool (s4 == []))], h)))
              else
                (bif (s3 == []) then (bif b2 then (Tr.ret ([(AVal.bool true)], h)) else (Tr.ret ([(AVal.bool (s4 == []))], h))) else (Tr.ret ([(AVal.bool false)], h))))
            else
              (Tr.ret ([(AVal.bool false)], h)))
          else
            (Tr.ret ([(AVal.bool false)], h)))
        else
          (Tr.ret ([(AVal.bool false)], h)))
      else
        (Tr.ret ([(AVal.bool false)], h)))
    else
      (Tr.ret ([(AVal.bool false)], h)))
  else
    (Tr.ret ([(AVal.bool false)], h))) := by kernel_rfl
/- f95 strandline/strandlineref42.Decode -/
noncomputable def P95_0 (d : Nat) (f0 : Bool) (l1 : List AVal) (s2 : List UInt8) (b3 : Bool) (b4 : Bool) (s5 : List UInt8) (s6 : List UInt8) (x7 : Int) (s8 : List UInt8) (b9 : Bool) (b10 : Bool) (s11 : List UInt8) (s12 : List UInt8) (x13 : Int) (h : Heap) : Tr Res :=
  heldPt Cw d 95 [true, true, true, true] [] ⟨[(0, (EV.one (SV.val (AVal.sl f0 0 l1)))), (2, (EV.one (SV.loc 2 0))), (4, (EV.one (SV.loc 4 0)))], [(2, (Box.plain [(AVal.str s2), (AVal.bool b3), (AVal.bool b4), (AVal.str s5), (AVal.str s6), (AVal.int .i64 x7)])), (4, (Box.plain [(AVal.str s8), (AVal.bool b9), (AVal.bool b10), (AVal.str s11), (AVal.str s12), (AVal.int .i64 x13)]))]⟩ h
noncomputable def P95_1 (d k : Nat) (f0 : Bool) (l1 : List AVal) (x2 : Int) (l3 : List AVal) (x4 : Int) (s5 : List UInt8) (b6 : Bool) (b7 : Bool) (s8 : List UInt8) (s9 : List UInt8) (x10 : Int) (s11 : List UInt8) (b12 : Bool) (b13 : Bool) (s14 : List UInt8) (s15 : List UInt8) (x16 : Int) (h : Heap) : Tr Res :=
  loopPt Cw d 95 [true, true, true, true, true, true, false, true, true] [] k ⟨[(0, (EV.one (SV.val (AVal.sl f0 0 l1)))), (2, (EV.one (SV.loc 2 0))), (4, (EV.one (SV.loc 4 0))), (5, (EV.one (SV.val (AVal.int .i64 x2)))), (6, (EV.one (SV.own (tokOf 6 0) 0 l3))), (7, (EV.one (SV.val (AVal.int .i64 x4))))], [(2, (Box.plain [(AVal.str s5), (AVal.bool b6), (AVal.bool b7), (AVal.str s8), (AVal.str s9), (AVal.int .i64 x10)])), (4, (Box.plain [(AVal.str s11), (AVal.bool b12), (AVal.bool b13), (AVal.str s14), (AVal.str s15), (AVal.int .i64 x16)]))]⟩ h
theorem P95_0_eq (d : Nat) (f0 : Bool) (l1 : List AVal) (s2 : List UInt8) (b3 : Bool) (b4 : Bool) (s5 : List UInt8) (s6 : List UInt8) (x7 : Int) (s8 : List UInt8) (b9 : Bool) (b10 : Bool) (s11 : List UInt8) (s12 : List UInt8) (x13 : Int) (h : Heap) : P95_0 d f0 l1 s2 b3 b4 s5 s6 x7 s8 b9 b10 s11 s12 x13 h =
  (P95_1 d rounds f0 l1 1 [] 0 s2 b3 b4 s5 s6 x7 s8 b9 b10 s11 s12 x13 h) := (heldPt_eq _ _ _ _ _ _ _).trans (by kernel_rfl)
theorem P95_1_eq (d k : Nat) (f0 : Bool) (l1 : List AVal) (x2 : Int) (l3 : List AVal) (x4 : Int) (s5 : List UInt8) (b6 : Bool) (b7 : Bool) (s8 : List UInt8) (s9 : List UInt8) (x10 : Int) (s11 : List UInt8) (b12 : Bool) (b13 : Bool) (s14 : List UInt8) (s15 : List UInt8) (x16 : Int) (h : Heap) : P95_1 d (k + 1) f0 l1 x2 l3 x4 s5 b6 b7 s8 s9 x10 s11 b12 b13 s14 s15 x16 h =
  (bif (decide ((x4 : Int) < 3)) then
    (bif ((x4 : Int) == 1) then
      (bif (!b12) then
        (bif decide ((l3.length + (1 : Nat)) * 16 ≤ 140737488355328) then
          (P95_1 d k f0 l1 x2 (l3 ++ [(AVal.str [])]) (IntKind.i64.wrap (x4 + 1)) s5 b6 b7 s8 s9 x10 s11 b12 b13 s14 s15 x16 h)
        else
          Tr.fail)
      else
        (bif ((x4 : Int) == 2) then
          (bif (!b13) then
            (bif decide ((l3.length + (1 : Nat)) * 16 ≤ 140737488355328) then
              (P95_1 d k f0 l1 x2 (l3 ++ [(AVal.str [])]) (IntKind.i64.wrap (x4 + 1)) s5 b6 b7 s8 s9 x10 s11 b12 b13 s14 s15 x16 h)
            else
              Tr.fail)
          else
            (bif ((decide ((0 : Int) ≤ x2) && decide ((x2 : Int) ≤ (l1.length : Int))) && decide (((l1.length : Int) : Int) ≤ (l1.length : Int))) then
              (runK (evFn Cw d 113 [(AVal.sl f0 0 (Go.Weave.part x2 (l1.length : Int) l1))] h) fun r1 h1 =>
                (consK r1 fun w2 ws3 =>
                  (slOK 0 w2 fun es4 =>
                    (consK ws3 fun w5 ws6 =>
                      (intK .i64 w5 fun y7 =>
                        (consK ws6 fun w8 ws9 =>
                          (intK .i64 w8 fun y10 =>
                            (nilK ws9
                              (bif ((y10 : Int) != 0) then
                                (Tr.ret ([(AVal.agg [(AVal.str []), (AVal.bool false), (AVal.bool false), (AVal.str []), (AVal.str []), (AVal.int .i64 0)]), (AVal.int .i64 y10)], h1))
                              else
                                (optK (toBytes es4) fun ss11 =>
                                  (bif decide ((l3.length + (1 : Nat)) * 16 ≤ 140737488355328) then
                                    (P95_1 d k f0 l1 (IntKind.i64.wrap (x2 + y7)) (l3 ++ [(AVal.str ss11)]) (IntKind.i64.wrap (x4 + 1)) s5 b6 b7 s8 s9 x10 s11 b12 b13 s14 s15 x16 h1)
                                  else
                                    Tr.fail)))))))))))
            else
              Tr.fail))
        else
          (bif ((decide ((0 : Int) ≤ x2) && decide ((x2 : Int) ≤ (l1.length : Int))) && decide (((l1.length : Int) : Int) ≤ (l1.length : Int))) then
            (runK (evFn Cw d 113 [(AVal.sl f0 0 (Go.Weave.part x2 (l1.length : Int) l1))] h) fun r12 h12 =>
              (consK r12 fun w13 ws14 =>
                (slOK 0 w13 fun es15 =>
                  (consK ws14 fun w16 ws17 =>
                    (intK .i64 w16 fun y18 =>
                      (consK ws17 fun w19 ws20 =>
                        (intK .i64 w19 fun y21 =>
                          (nilK ws20
                            (bif ((y21 : Int) != 0) then
                              (Tr.ret ([(AVal.agg [(AVal.str []), (AVal.bool false), (AVal.bool false), (AVal.str []), (AVal.str []), (AVal.int .i64 0)]), (AVal.int .i64 y21)], h12))
                            else
                              (optK (toBytes es15) fun ss22 =>
                                (bif decide ((l3.length + (1 : Nat)) * 16 ≤ 140737488355328) then
                                  (P95_1 d k f0 l1 (IntKind.i64.wrap (x2 + y18)) (l3 ++ [(AVal.str ss22)]) (IntKind.i64.wrap (x4 + 1)) s5 b6 b7 s8 s9 x10 s11 b12 b13 s14 s15 x16 h12)
                                else
                                  Tr.fail)))))))))))
          else
            Tr.fail)))
    else
      (bif ((x4 : Int) == 2) then
        (bif (!b13) then
          (bif decide ((l3.length + (1 : Nat)) * 16 ≤ 140737488355328) then
            (P95_1 d k f0 l1 x2 (l3 ++ [(AVal.str [])]) (IntKind.i64.wrap (x4 + 1)) s5 b6 b7 s8 s9 x10 s11 b12 b13 s14 s15 x16 h)
          else
            Tr.fail)
        else
          (bif ((decide ((0 : Int) ≤ x2) && decide ((x2 : Int) ≤ (l1.length : Int))) && decide (((l1.length : Int) : Int) ≤ (l1.length : Int))) then
            (runK (evFn Cw d 113 [(AVal.sl f0 0 (Go.Weave.part x2 (l1.length : Int) l1))] h) fun r23 h23 =>
              (consK r23 fun w24 ws25 =>
                (slOK 0 w24 fun es26 =>
                  (consK ws25 fun w27 ws28 =>
                    (intK .i64 w27 fun y29 =>
                      (consK ws28 fun w30 ws31 =>
                        (intK .i64 w30 fun y32 =>
                          (nilK ws31
                            (bif ((y32 : Int) != 0) then
                              (Tr.ret ([(AVal.agg [(AVal.str []), (AVal.bool false), (AVal.bool false), (AVal.str []), (AVal.str []), (AVal.int .i64 0)]), (AVal.int .i64 y32)], h23))
                            else
                              (optK (toBytes es26) fun ss33 =>
                                (bif decide ((l3.length + (1 : Nat)) * 16 ≤ 140737488355328) then
                                  (P95_1 d k f0 l1 (IntKind.i64.wrap (x2 + y29)) (l3 ++ [(AVal.str ss33)]) (IntKind.i64.wrap (x4 + 1)) s5 b6 b7 s8 s9 x10 s11 b12 b13 s14 s15 x16 h23)
                                else
                                  Tr.fail)))))))))))
          else
            Tr.fail))
      else
        (bif ((decide ((0 : Int) ≤ x2) && decide ((x2 : Int) ≤ (l1.length : Int))) && decide (((l1.length : Int) : Int) ≤ (l1.length : Int))) then
          (runK (evFn Cw d 113 [(AVal.sl f0 0 (Go.Weave.part x2 (l1.length : Int) l1))] h) fun r34 h34 =>
            (consK r34 fun w35 ws36 =>
              (slOK 0 w35 fun es37 =>
                (consK ws36 fun w38 ws39 =>
                  (intK .i64 w38 fun y40 =>
                    (consK ws39 fun w41 ws42 =>
                      (intK .i64 w41 fun y43 =>
                        (nilK ws42
                          (bif ((y43 : Int) != 0) then
                            (Tr.ret ([(AVal.agg [(AVal.str []), (AVal.bool false), (AVal.bool false), (AVal.str []), (AVal.str []), (AVal.int .i64 0)]), (AVal.int .i64 y43)], h34))
                          else
                            (optK (toBytes es37) fun ss44 =>
                              (bif decide ((l3.length + (1 : Nat)) * 16 ≤ 140737488355328) then
                                (P95_1 d k f0 l1 (IntKind.i64.wrap (x2 + y40)) (l3 ++ [(AVal.str ss44)]) (IntKind.i64.wrap (x4 + 1)) s5 b6 b7 s8 s9 x10 s11 b12 b13 s14 s15 x16 h34)
                              else
                                Tr.fail)))))))))))
        else
          Tr.fail)))
  else
    (bif ((decide ((0 : Int) ≤ x2) && decide ((x2 : Int) ≤ (l1.length : Int))) && decide (((l1.length : Int) : Int) ≤ (l1.length : Int))) then
      (runK (evFn Cw d 114 [(AVal.sl f0 0 (Go.Weave.part x2 (l1.length : Int) l1))] h) fun r45 h45 =>
        (consK r45 fun w46 ws47 =>
          (intK .u64 w46 fun y48 =>
            (consK ws47 fun w49 ws50 =>
              (intK .i64 w49 fun y51 =>
                (consK ws50 fun w52 ws53 =>
                  (intK .i64 w52 fun y54 =>
                    (nilK ws53
                      (bif ((y54 : Int) != 0) then
                        (Tr.ret ([(AVal.agg [(AVal.str []), (AVal.bool false), (AVal.bool false), (AVal.str []), (AVal.str []), (AVal.int .i64 0)]), (AVal.int .i64 y54)], h45))
                      else
                        (bif decide ((0 : Int) < (l3.length : Int)) then
                          (strK (l3.getD 0 AVal.undef) fun ss55 =>
                            (bif decide ((1 : Int) < (l3.length : Int)) then
                              (strK (l3.getD 1 AVal.undef) fun ss56 =>
                                (bif decide ((2 : Int) < (l3.length : Int)) then
                                  (strK (l3.getD 2 AVal.undef) fun ss57 =>
                                    (bif (decide (((IntKind.i64.wrap (x2 + y51)) : Int) < (l1.length : Int))) then
                                      (Tr.ret ([(AVal.agg [(AVal.str []), (AVal.bool false), (AVal.bool false), (AVal.str []), (AVal.str []), (AVal.int .i64 0)]), (AVal.int .i64 2)], h45))
                                    else
                                      (bif (decide ((y48 : Int) > 2147483647)) then
                                        (Tr.ret ([(AVal.agg [(AVal.str []), (AVal.bool false), (AVal.bool false), (AVal.str []), (AVal.str []), (AVal.int .i64 0)]), (AVal.int .i64 2)], h45))
                                      else
                                        (runK (evFn Cw d 115 [(AVal.agg [(AVal.str ss55), (AVal.bool b12), (AVal.bool b13), (AVal.str ss56), (AVal.str ss57), (AVal.int .i64 (IntKind.i64.wrap y48))])] h45) fun r58 h58 =>
                                          (consK r58 fun w59 ws60 =>
                                            (boolK w59 fun bb61 =>
                                              (nilK ws60
                                                (bif (!bb61) then
                                                  (Tr.ret ([(AVal.agg [(AVal.str []), (AVal.bool false), (AVal.bool false), (AVal.str []), (AVal.str []), (AVal.int .i64 0)]), (AVal.int .i64 2)], h58))
                                                else
                                                  (Tr.ret ([(AVal.agg [(AVal.str ss55), (AVal.bool b12), (AVal.bool b13), (AVal.str ss56), (AVal.str ss57), (AVal.int .i64 (IntKind.i64.wrap y48))]), (AVal.int .i64 0)], h58))))))))))
                                else
                                  Tr.fail))
                            else
                              Tr.fail))
                        else
                          Tr.fail))))))))))
    else
      Tr.fail)) := by kernel_rfl
theorem F95_eq (d : Nat) (f0 : Bool) (l1 : List AVal) (h : Heap) : evFn Cw (d + 1) 95 [(AVal.sl f0 0 l1)] h =
  (bif (((l1.length : Int) : Int) == 0) then
    (Tr.ret ([(AVal.agg [(AVal.str []), (AVal.bool false), (AVal.bool false), (AVal.str []), (AVal.str []), (AVal.int .i64 0)]), (AVal.int .i64 1)], h))
  else
    (bif decide ((0 : Int) < (l1.length : Int)) then
      (intK .u8 (l1.getD 0 AVal.undef) fun y1 =>
        (bif (decide ((y1 : Int) > 3)) then
          (Tr.ret ([(AVal.agg [(AVal.str []), (AVal.bool false), (AVal.bool false), (AVal.str []), (AVal.str []), (AVal.int .i64 0)]), (AVal.int .i64 2)], h))
        else
          (bif decide ((0 : Int) < (l1.length : Int)) then
            (bif decide ((0 : Int) < (l1.length : Int)) then
              (Tr.anyL [
                (intK .u8 (l1.getD 0 AVal.undef) fun y2 =>
                  (sameL 2
                    (intK .u8 (l1.getD 0 AVal.undef) fun y3 =>
                      (P95_0 d f0 l1 [] false false [] [] 0 [] (((Int.tmod y2 2) : Int) == 1) (decide ((y3 : Int) > 1)) [] [] 0 h)))),
                (intK .u8 (l1.getD 0 AVal.undef) fun y2 =>
                  (sameL 2
                    (intK .u8 (l1.getD 0 AVal.undef) fun y3 =>
                      (P95_0 d f0 l1 [] false false [] [] 0 [] (((Int.tmod y3 2) : Int) == 1) (decide ((y2 : Int) > 1)) [] [] 0 h)))),
                (intK .u8 (l1.getD 0 AVal.undef) fun y2 =>
                  (intK .u8 (l1.getD 0 AVal.undef) fun y3 =>
                    (P95_0 d f0 l1 [] false false [] [] 0 [] (((Int.tmod y2 2) : Int) == 1) (decide ((y3 : Int) > 1)) [] [] 0 h)))])
            else
              Tr.fail)
          else
            Tr.fail)))
    else
      Tr.fail)) := by kernel_rfl
/- f133 (*strandline/tx.reader).text -/
theorem F133_eq (d : Nat) (i0 : Nat) (b1 : Bool) (h : Heap) : evFn Cw (d + 1) 133 [(AVal.obj i0 0), (AVal.bool b1)] h =
  (optK (Heap.cell? h i0 1) fun z1 =>
    (intK .i64 (HCell.toA z1) fun y2 =>
      (bif ((y2 : Int) != 0) then
        (Tr.ret ([(AVal.str [])], h))
      else
        (bif (!b1) then
          (Tr.ret ([(AVal.str [])], h))
        else
          (optK (Heap.cell? h i0 0) fun z3 =>
            (slK 0 (HCell.toA z3) fun _ es4 =>
              (runK (evFn Cw d 142 [(AVal.sl false 0 es4)] h) fun r5 h5 =>
                (consK r5 fun w6 ws7 =>
                  (slOK 0 w6 fun es8 =>
                    (consK ws7 fun w9 ws10 =>
                      (intK .i64 w9 fun y11 =>
                        (consK ws10 fun w12 ws13 =>
                          (intK .i64 w12 fun y14 =>
                            (nilK ws13
                              (optK (Heap.cell? h5 i0 1) fun _ =>
                                (optK (Heap.cell? (Heap.setCell h5 i0 1 (HCell.val (AVal.int .i64 y14))) i0 0) fun z15 =>
                                  (slK 0 (HCell.toA z15) fun _ es16 =>
                                    (bif ((decide ((0 : Int) ≤ y11) && decide ((y11 : Int) ≤ (es16.length : Int))) && decide (((es16.length : Int) : Int) ≤ (es16.length : Int))) then
                                      (optK (Heap.cell? (Heap.setCell h5 i0 1 (HCell.val (AVal.int .i64 y14))) i0 0) fun _ =>
                                        (optK (toBytes es8) fun ss17 =>
                                          (Tr.ret ([(AVal.str ss17)], (Heap.setCell (Heap.setCell h5 i0 1 (HCell.val (AVal.int .i64 y14))) i0 0 (HCell.val (AVal.sl false 0 (Go.Weave.part y11 (es16.length : Int) es16))))))))
                                    else
                                      Tr.fail)))))))))))))))))) := by kernel_rfl
/- f120 strandline/tx.Decode -/
noncomputable def P120_0 (d : Nat) (i0 : Nat) (s1 : List UInt8) (b2 : Bool) (b3 : Bool) (s4 : List UInt8) (s5 : List UInt8) (x6 : Int) (s7 : List UInt8) (b8 : Bool) (b9 : Bool) (s10 : List UInt8) (s11 : List UInt8) (x12 : Int) (h : Heap) : Tr Res :=
  heldPt Cw d 120 [true, true, true, true] [] ⟨[(2, (EV.one (SV.loc 2 0))), (4, (EV.one (SV.val (AVal.obj i0 0)))), (5, (EV.one (SV.loc 5 0)))], [(2, (Box.plain [(AVal.str s1), (AVal.bool b2), (AVal.bool b3), (AVal.str s4), (AVal.str s5), (AVal.int .i64 x6)])), (5, (Box.plain [(AVal.str s7), (AVal.bool b8), (AVal.bool b9), (AVal.str s10), (AVal.str s11), (AVal.int .i64 x12)]))]⟩ h
theorem P120_0_eq (d : Nat) (i0 : Nat) (s1 : List UInt8) (b2 : Bool) (b3 : Bool) (s4 : List UInt8) (s5 : List UInt8) (x6 : Int) (s7 : List UInt8) (b8 : Bool) (b9 : Bool) (s10 : List UInt8) (s11 : List UInt8) (x12 : Int) (h : Heap) : P120_0 d i0 s1 b2 b3 s4 s5 x6 s7 b8 b9 s10 s11 x12 h =
  (runK (evFn Cw d 133 [(AVal.obj i0 0), (AVal.bool true)] h) fun r1 h1 =>
    (consK r1 fun w2 ws3 =>
      (strK w2 fun ss4 =>
        (nilK ws3
          (runK (evFn Cw d 133 [(AVal.obj i0 0), (AVal.bool b8)] h1) fun r5 h5 =>
            (consK r5 fun w6 ws7 =>
              (strK w6 fun ss8 =>
                (nilK ws7
                  (runK (evFn Cw d 133 [(AVal.obj i0 0), (AVal.bool b9)] h5) fun r9 h9 =>
                    (consK r9 fun w10 ws11 =>
                      (strK w10 fun ss12 =>
                        (nilK ws11
                          (optK (Heap.cell? h9 i0 1) fun z13 =>
                            (intK .i64 (HCell.toA z13) fun y14 =>
                              (bif ((y14 : Int) != 0) then
                                (sameL 2
                                  (optK (Heap.cell? h9 i0 1) fun z15 =>
                                    (intK .i64 (HCell.toA z15) fun y16 =>
                                      (Tr.ret ([(AVal.agg [(AVal.str []), (AVal.bool false), (AVal.bool false), (AVal.str []), (AVal.str []), (AVal.int .i64 0)]), (AVal.int .i64 y16)], h9)))))
                              else
                                (optK (Heap.cell? h9 i0 0) fun z17 =>
                                  (slK 0 (HCell.toA z17) fun _ es18 =>
                                    (runK (evFn Cw d 134 [(AVal.sl false 0 es18)] h9) fun r19 h19 =>
                                      (consK r19 fun w20 ws21 =>
                                        (intK .u64 w20 fun y22 =>
                                          (consK ws21 fun w23 ws24 =>
                                            (intK .i64 w23 fun y25 =>
                                              (consK ws24 fun w26 ws27 =>
                                                (intK .i64 w26 fun y28 =>
                                                  (nilK ws27
                                                    (bif ((y28 : Int) != 0) then
                                                      (Tr.ret ([(AVal.agg [(AVal.str []), (AVal.bool false), (AVal.bool false), (AVal.str []), (AVal.str []), (AVal.int .i64 0)]), (AVal.int .i64 y28)], h19))
                                                    else
                                                      (optK (Heap.cell? h19 i0 0) fun z29 =>
                                                        (slK 0 (HCell.toA z29) fun _ es30 =>
                                                          (bif (decide ((y25 : Int) < (es30.length : Int))) then
                                                            (Tr.ret ([(AVal.agg [(AVal.str []), (AVal.bool false), (AVal.bool false), (AVal.str []), (AVal.str []), (AVal.int .i64 0)]), (AVal.int .i64 2)], h19))
                                                          else
                                                            (runK (evFn Cw d 135 [(AVal.agg [(AVal.str ss4), (AVal.bool b8), (AVal.bool b9), (AVal.str ss8), (AVal.str ss12), (AVal.int .i64 (IntKind.i64.wrap (if (2147483648 : Int) < y22 then 2147483648 else y22)))])] h19) fun r31 h31 =>
                                                              (consK r31 fun w32 ws33 =>
                                                                (boolK w32 fun bb34 =>
                                                                  (nilK ws33
                                                                    (bif (!bb34) then
                                                                      (Tr.ret ([(AVal.agg [(AVal.str []), (AVal.bool false), (AVal.bool false), (AVal.str []), (AVal.str []), (AVal.int .i64 0)]), (AVal.int .i64 2)], h31))
                                                                    else
                                                                      (Tr.ret ([(AVal.agg [(AVal.str ss4), (AVal.bool b8), (AVal.bool b9), (AVal.str ss8), (AVal.str ss12), (AVal.int .i64 (IntKind.i64.wrap (if (2147483648 : Int) < y22 then 2147483648 else y22)))]), (AVal.int .i64 0)], h31)))))))))))))))))))))))))))))))))))) := (heldPt_eq _ _ _ _ _ _ _).trans (by kernel_rfl)
theorem F120_eq (d : Nat) (f0 : Bool) (l1 : List AVal) (h : Heap) : evFn Cw (d + 1) 120 [(AVal.sl f0 0 l1)] h =
  (bif (((l1.length : Int) : Int) == 0) then
    (Tr.ret ([(AVal.agg [(AVal.str []), (AVal.bool false), (AVal.bool false), (AVal.str []), (AVal.str []), (AVal.int .i64 0)]), (AVal.int .i64 1)], h))
  else
    (bif decide ((0 : Int) < (l1.length : Int)) then
      (intK .u8 (l1.getD 0 AVal.undef) fun y1 =>
        (bif (decide ((y1 : Int) ≥ 4)) then
          (Tr.ret ([(AVal.agg [(AVal.str []), (AVal.bool false), (AVal.bool false), (AVal.str []), (AVal.str []), (AVal.int .i64 0)]), (AVal.int .i64 2)], h))
        else
          (bif (decide ((1 : Int) ≤ (l1.length : Int)) && decide (((l1.length : Int) : Int) ≤ (l1.length : Int))) then
            (bif decide ((0 : Int) < (l1.length : Int)) then
              (bif decide ((0 : Int) < (l1.length : Int)) then
                (Tr.anyL [
                  (intK .u8 (l1.getD 0 AVal.undef) fun y2 =>
                    (sameL 2
                      (intK .u8 (l1.getD 0 AVal.undef) fun y3 =>
                        (P120_0 d h.objs.length [] false false [] [] 0 [] (((IntKind.u8.wrap (BitVec.ofInt 8 y2 &&& BitVec.ofInt 8 1).toNat) : Int) != 0) (((IntKind.u8.wrap (BitVec.ofInt 8 y3 &&& BitVec.ofInt 8 2).toNat) : Int) != 0) [] [] 0 (Heap.push h (Go.Weave.Obj.cells ([(AVal.sl f0 0 (Go.Weave.part 1 (l1.length : Int) l1)), (AVal.int .i64 0)].map HCell.val))))))),
                  (intK .u8 (l1.getD 0 AVal.undef) fun y2 =>
                    (sameL 2
                      (intK .u8 (l1.getD 0 AVal.undef) fun y3 =>
                        (P120_0 d h.objs.length [] false false [] [] 0 [] (((IntKind.u8.wrap (BitVec.ofInt 8 y3 &&& BitVec.ofInt 8 1).toNat) : Int) != 0) (((IntKind.u8.wrap (BitVec.ofInt 8 y2 &&& BitVec.ofInt 8 2).toNat) : Int) != 0) [] [] 0 (Heap.push h (Go.Weave.Obj.cells ([(AVal.sl f0 0 (Go.Weave.part 1 (l1.length : Int) l1)), (AVal.int .i64 0)].map HCell.val))))))),
                  (intK .u8 (l1.getD 0 AVal.undef) fun y2 =>
                    (intK .u8 (l1.getD 0 AVal.undef) fun y3 =>
                      (P120_0 d h.objs.length [] false false [] [] 0 [] (((IntKind.u8.wrap (BitVec.ofInt 8 y2 &&& BitVec.ofInt 8 1).toNat) : Int) != 0) (((IntKind.u8.wrap (BitVec.ofInt 8 y3 &&& BitVec.ofInt 8 2).toNat) : Int) != 0) [] [] 0 (Heap.push h (Go.Weave.Obj.cells ([(AVal.sl f0 0 (Go.Weave.part 1 (l1.length : Int) l1)), (AVal.int .i64 0)].map HCell.val))))))])
              else
                Tr.fail)
            else
              Tr.fail)
          else
            Tr.fail)))
    else
      Tr.fail)) := by kernel_rfl
end Go.Proofs.Ytdlcjibefbnckaa.Wa
end

section
/- The program's plain types, as Lean's. -/
namespace Go.Weave
structure Rec where
  kind : Int
  chain : Int
  lsn : Int
  prev : Int
  full : Bool
  data : List UInt8
def Rec.C (r : Rec) : List AVal := [.int .i64 r.kind, .int .i64 r.chain, .int .i64 r.lsn, .int .i64 r.prev, .sl r.full 0 (bys r.data)]
def Rec.A (r : Rec) : AVal := .agg r.C
def i64ok (n : Int) : Prop := -9223372036854775808 ≤ n ∧ n ≤ 9223372036854775807
def Rec.ok (r : Rec) : Prop := i64ok r.kind ∧ i64ok r.chain ∧ i64ok r.lsn ∧ i64ok r.prev ∧ r.data.length ≤ 140737488351232 ∧ r.full = false
structure Change where
  key : List UInt8
  was : Bool
  is : Bool
  old : List UInt8
  new : List UInt8
  next : Int
def Change.C (c : Change) : List AVal := [.str c.key, .bool c.was, .bool c.is, .str c.old, .str c.new, .int .i64 c.next]
def Change.A (c : Change) : AVal := .agg c.C
def Change.ok (c : Change) : Prop := c.key.length ≤ 140737488351232 ∧ True ∧ True ∧ c.old.length ≤ 140737488351232 ∧ c.new.length ≤ 140737488351232 ∧ i64ok c.next
structure KOp where
  kind : Int
  key : List UInt8
  val : List UInt8
def KOp.C (o : KOp) : List AVal := [.int .i64 o.kind, .str o.key, .str o.val]
def KOp.A (o : KOp) : AVal := .agg o.C
def KOp.ok (o : KOp) : Prop := i64ok o.kind ∧ o.key.length ≤ 140737488351232 ∧ o.val.length ≤ 140737488351232
structure KPair where
  key : List UInt8
  val : List UInt8
def KPair.C (o : KPair) : List AVal := [.str o.key, .str o.val]
def KPair.A (o : KPair) : AVal := .agg o.C
def KPair.ok (o : KPair) : Prop := o.key.length ≤ 140737488351232 ∧ o.val.length ≤ 140737488351232
structure IPlace where
  seq : Int
  at' : Int
  deriving DecidableEq
def IPlace.C (o : IPlace) : List AVal := [.int .i64 o.seq, .int .i64 o.at']
def IPlace.A (o : IPlace) : AVal := .agg o.C
def IPlace.ok (o : IPlace) : Prop := i64ok o.seq ∧ i64ok o.at'
structure Act26 where
  kind : Int
  chain : Int
  at' : IPlace
  n : Int
def Act26.C (a : Act26) : List AVal := [.int .u64 a.kind, .int .i64 a.chain, .int .i64 a.at'.seq, .int .i64 a.at'.at', .int .i64 a.n]
def Act26.A (a : Act26) : AVal := .agg a.C
def Act26.ok (a : Act26) : Prop := (0 ≤ a.kind ∧ a.kind ≤ 18446744073709551615) ∧ i64ok a.chain ∧ a.at'.ok ∧ i64ok a.n
structure Act32 where
  kind : Int
  key : List UInt8
def Act32.C (a : Act32) : List AVal := [.int .u64 a.kind, .str a.key]
def Act32.A (a : Act32) : AVal := .agg a.C
def Act32.ok (a : Act32) : Prop := (0 ≤ a.kind ∧ a.kind ≤ 18446744073709551615) ∧ a.key.length ≤ 140737488351232
structure Act43 where
  drop : Bool
  who : Int
  key : List UInt8
def Act43.C (a : Act43) : List AVal := [.bool a.drop, .int .i64 a.who, .str a.key]
def Act43.A (a : Act43) : AVal := .agg a.C
def Act43.ok (a : Act43) : Prop := True ∧ i64ok a.who ∧ a.key.length ≤ 140737488351232
structure RPoint where
  pieces : Int
  pairs : Int
  sum : Int
def RPoint.C (a : RPoint) : List AVal := [.int .i64 a.pieces, .int .i64 a.pairs, .int .u32 a.sum]
def RPoint.A (a : RPoint) : AVal := .agg a.C
def RPoint.ok (a : RPoint) : Prop := i64ok a.pieces ∧ i64ok a.pairs ∧ (0 ≤ a.sum ∧ a.sum ≤ 4294967295)
end Go.Weave
end

section
/- Changes of a transaction: right, encoded, turned; TxTurns. -/
namespace Go.Proofs.Ytdlcjibefbnckaa.Wa
open Go Go.Weave
set_option maxRecDepth 100000
set_option linter.unusedSimpArgs false
set_option linter.unusedVariables false
set_option linter.unusedSectionVars false

theorem map_bys (s : List UInt8) : List.map ofByte s = bys s := of_eq_true (eq_self _)

def cright (k : List UInt8) (w i : Bool) (o n : List UInt8) (x : Int) : Bool :=
  decide (1 ≤ k.length ∧ k.length ≤ 24 ∧ o.length ≤ 128 ∧ n.length ≤ 128 ∧ (w = true ∨ o = []) ∧ (i = true ∨ n = []) ∧ 0 ≤ x ∧ x ≤ 2147483647)
theorem cright_run {d : Nat} {k : List UInt8} {w i : Bool} {o n : List UInt8} {x : Int} {h : Heap} {Q : Res → Prop} {tg : Hid Q} :
    Run (evFn Cw (d + 1) 135 [.agg [.str k, .bool w, .bool i, .str o, .str n, .int .i64 x]] h) Q tg = Q ([.bool (cright k w i o n x)], h) := by
  rw [F135_eq]
  repeat' (first | (refine at_ret.trans ?_) | (refine at_cases (fun _ => ?_) (fun _ => ?_)))
  all_goals (refine congrArg (fun b => Q ([AVal.bool b], h)) ?_; simp only [cright]; simp_all)
  all_goals (try omega)
  all_goals (rw [Bool.eq_iff_iff]; simp only [Bool.and_eq_true, decide_eq_true_eq]; omega)

def cflags (w i : Bool) : UInt8 := (if w then 1 else 0) + (if i then 2 else 0)
def cfields (k : List UInt8) (w i : Bool) (o n : List UInt8) : List (List UInt8) := [k] ++ (if w then [o] else []) ++ (if i then [n] else [])
noncomputable def cbytes (k : List UInt8) (w i : Bool) (o n : List UInt8) (x : Int) : List UInt8 := cflags w i :: (pks (cfields k w i o n) ++ enc x.toNat)
theorem op_run {d : Nat} {k : List UInt8} {w i : Bool} {o n : List UInt8} {x : Int} {h : Heap} {Q : Res → Prop} {tg : Hid Q} :
    Run (evFn Cw (d + 1) 121 [.agg [.str k, .bool w, .bool i, .str o, .str n, .int .i64 x]] h) Q tg = Q ([.agg [.int .i64 (if i then 1 else 2), .str k, .str (if i then n else [])]], h) := by
  rw [F121_eq]
  cases i
  · simp (disch := (first | assumption | (simp only [Bool.and_eq_true, Bool.and_eq_false_iff, decide_eq_true_eq, decide_eq_false_iff_not, bne_iff_ne, beq_iff_eq, beq_eq_false_iff_ne, bne_eq_false_iff_eq, Bool.not_eq_true', Bool.not_eq_false', bys_length, List.length_append, List.length_cons, List.length_nil, List.length_map, List.length_drop, List.length_take, Int.natCast_add, wrap_i64_eq, wrap_u64, wrap_u8, ne_eq, not_true_eq_false, not_false_eq_true, Nat.zero_add, Nat.mul_one] <;> omega) | omega | (simp; done) | (simp; omega))) only [↓CR, MC]
    rfl
  · simp (disch := (first | assumption | (simp only [Bool.and_eq_true, Bool.and_eq_false_iff, decide_eq_true_eq, decide_eq_false_iff_not, bne_iff_ne, beq_iff_eq, beq_eq_false_iff_ne, bne_eq_false_iff_eq, Bool.not_eq_true', Bool.not_eq_false', bys_length, List.length_append, List.length_cons, List.length_nil, List.length_map, List.length_drop, List.length_take, Int.natCast_add, wrap_i64_eq, wrap_u64, wrap_u8, ne_eq, not_true_eq_false, not_false_eq_true, Nat.zero_add, Nat.mul_one] <;> omega) | omega | (simp; done) | (simp; omega))) only [↓CR, MC]
    rfl
end Go.Proofs.Ytdlcjibefbnckaa.Wa
end

section
/- Records: right, and the same. -/
namespace Go.Proofs.Ytdlcjibefbnckaa.Wa
open Go Go.Weave
set_option maxRecDepth 100000
set_option linter.unusedSimpArgs false
set_option linter.unusedVariables false
set_option linter.unusedSectionVars false

/-! ### The same record -/
end Go.Proofs.Ytdlcjibefbnckaa.Wa
end

section
/- Records: encoded and decoded; RecordDecodes, RecordEncodes. -/
namespace Go.Proofs.Ytdlcjibefbnckaa.Wa
open Go Go.Weave
set_option maxRecDepth 100000
set_option linter.unusedSimpArgs false
set_option linter.unusedVariables false
set_option linter.unusedSectionVars false

/-! ### Encoded -/
/-! ### Decoded -/
structure RD where
  e : Nat
  k : Int
  c : Int
  l : Int
  p : Int
  dt : List UInt8
noncomputable def RD.A (r : RD) : AVal := .agg [.int .i64 r.k, .int .i64 r.c, .int .i64 r.l, .int .i64 r.p, .sl (decide (r.e ≠ 0)) 0 (bys r.dt)]
end Go.Proofs.Ytdlcjibefbnckaa.Wa
end

section
/- Records decoded by the reference; RecordDecodes, RecordEncodes. -/
namespace Go.Proofs.Ytdlcjibefbnckaa.Wa
open Go Go.Weave
set_option maxRecDepth 100000
set_option linter.unusedSimpArgs false
set_option linter.unusedVariables false
set_option linter.unusedSectionVars false

theorem part_drop' {l : List UInt8} {k : Nat} : Weave.part (k : Int) (l.length : Int) (bys l) = bys (l.drop k) := by
  have := part_drop (l := l) (k := k)
  rw [bys_length] at this
  exact this
end Go.Proofs.Ytdlcjibefbnckaa.Wa
end

section
/- Changes of a transaction decoded; TxDecodes. -/
namespace Go.Proofs.Ytdlcjibefbnckaa.Wa
open Go Go.Weave
set_option maxRecDepth 100000
set_option linter.unusedSimpArgs false
set_option linter.unusedVariables false
set_option linter.unusedSectionVars false

theorem Heap.put_self {h : Heap} {i : Nat} {o : Weave.Obj} (hm : h.objs[i]? = some o) : h.put i o = h := by
  obtain ⟨l⟩ := h
  simp only [Heap.put]
  congr 1
  apply List.ext_getElem?
  intro j
  rw [List.getElem?_set]
  split
  · rename_i e
    subst e
    split
    · exact hm.symm
    · rename_i hl
      rw [List.getElem?_eq_none (by omega)]
  · rfl

/-- The next text, if it is wanted and all was right. -/
noncomputable def dtext (w : Bool) (b : List UInt8) (e : Nat) : List UInt8 × List UInt8 × Nat := if e ≠ 0 ∨ w = false then ([], b, e) else ((fget b).1, b.drop (fget b).2.1, (fget b).2.2)
def rdC (f : Bool) (b : List UInt8) (e : Nat) : Weave.Obj := .cells [HCell.val (.sl f 0 (bys b)), HCell.val (.int .i64 e)]
theorem fget_le (b : List UInt8) : (fget b).2.1 ≤ b.length := by
  by_cases h : (fget b).2.2 = 0
  · exact (fget_spec h).2.2.1
  · rw [fget_eq] at h ⊢
    unfold fgetW at h ⊢
    split
    · simp
    · rename_i h1
      rw [if_neg h1] at h
      split
      · simp
      · rename_i h2
        rw [if_neg h2] at h
        split
        · simp
        · rename_i h3
          rw [if_neg h3] at h
          simp at h
theorem text_run {d : Nat} {i : Nat} {w : Bool} {f : Bool} {b : List UInt8} {e : Nat} {h : Heap} (hm : h.objs[i]? = some (rdC f b e)) (hb : b.length ≤ 140737488351232) :
    ∃ f', ∀ (Q : Res → Prop) (tg : Hid Q), Run (evFn Cw (d + 3) 133 [.obj i 0, .bool w] h) Q tg = Q ([.str (dtext w b e).1], h.put i (rdC f' (dtext w b e).2.1 (dtext w b e).2.2)) := by
  have k0 : h.cell? i 0 = some (HCell.val (.sl f 0 (bys b))) := by rw [Heap.cell_at hm]; rfl
  have k1 : h.cell? i 1 = some (HCell.val (.int .i64 e)) := by rw [Heap.cell_at hm]; rfl
  by_cases he : e = 0
  · cases w
    · refine ⟨f, fun Q tg => ?_⟩
      unfold dtext
      rw [if_pos (Or.inr rfl), Heap.put_self hm, F133_eq]
      simp (disch := (first | assumption | (simp only [Bool.and_eq_true, Bool.and_eq_false_iff, decide_eq_true_eq, decide_eq_false_iff_not, bne_iff_ne, beq_iff_eq, beq_eq_false_iff_ne, bne_eq_false_iff_eq, Bool.not_eq_true', Bool.not_eq_false', bys_length, List.length_append, List.length_cons, List.length_nil, List.length_map, List.length_drop, List.length_take, Int.natCast_add, wrap_i64_eq, wrap_u64, wrap_u8, ne_eq, not_true_eq_false, not_false_eq_true, Nat.zero_add, Nat.mul_one] <;> omega) | omega | (simp; done) | (simp; omega))) only [↓CR, MC, ↓PR, MR, k1, he]
    · refine ⟨false, fun Q tg => ?_⟩
      unfold dtext
      rw [if_neg (by simp [he]), F133_eq]
      have hs : h.setCell i 1 (HCell.val (.int .i64 (fget b).2.2)) = h.put i (rdC f b (fget b).2.2) := by rw [Heap.set_at hm]; rfl
      have hm2 : (h.put i (rdC f b (fget b).2.2)).objs[i]? = some (rdC f b (fget b).2.2) := Heap.put_get hm
      have k2 : (h.put i (rdC f b (fget b).2.2)).cell? i 0 = some (HCell.val (.sl f 0 (bys b))) := by rw [Heap.cell_at hm2]; rfl
      have hs2 : (h.put i (rdC f b (fget b).2.2)).setCell i 0 (HCell.val (.sl false 0 (bys (b.drop (fget b).2.1)))) = h.put i (rdC false (b.drop (fget b).2.1) (fget b).2.2) := by rw [Heap.set_at hm2, Heap.put_put]; rfl
      have hle := fget_le b
      simp (disch := (first | assumption | (simp only [Bool.and_eq_true, Bool.and_eq_false_iff, decide_eq_true_eq, decide_eq_false_iff_not, bne_iff_ne, beq_iff_eq, beq_eq_false_iff_ne, bne_eq_false_iff_eq, Bool.not_eq_true', Bool.not_eq_false', bys_length, List.length_append, List.length_cons, List.length_nil, List.length_map, List.length_drop, List.length_take, Int.natCast_add, wrap_i64_eq, wrap_u64, wrap_u8, ne_eq, not_true_eq_false, not_false_eq_true, Nat.zero_add, Nat.mul_one] <;> omega) | omega | (simp; done) | (simp; omega))) only [↓CR, MC, ↓PR, MR, k1, k0, he, fget_run, hs, k2, bys_length, part_drop', hs2]
  · refine ⟨f, fun Q tg => ?_⟩
    unfold dtext
    rw [if_pos (Or.inl he), Heap.put_self hm, F133_eq]
    simp (disch := (first | assumption | (simp only [Bool.and_eq_true, Bool.and_eq_false_iff, decide_eq_true_eq, decide_eq_false_iff_not, bne_iff_ne, beq_iff_eq, beq_eq_false_iff_ne, bne_eq_false_iff_eq, Bool.not_eq_true', Bool.not_eq_false', bys_length, List.length_append, List.length_cons, List.length_nil, List.length_map, List.length_drop, List.length_take, Int.natCast_add, wrap_i64_eq, wrap_u64, wrap_u8, ne_eq, not_true_eq_false, not_false_eq_true, Nat.zero_add, Nat.mul_one] <;> omega) | omega | (simp; done) | (simp; omega))) only [↓CR, MC, ↓PR, MR, k1, he]
theorem dtext_len (w : Bool) (b : List UInt8) (e : Nat) : (dtext w b e).2.1.length ≤ b.length := by
  unfold dtext
  split
  · exact Nat.le_refl _
  · simp

def Change.zero : Change := ⟨[], false, false, [], [], 0⟩
/-- What stands behind the texts. -/
noncomputable def ctail (w i : Bool) (k o n b : List UInt8) : Change × Nat :=
  if (getF b 0 0).2.2 ≠ 0 then (Change.zero, (getF b 0 0).2.2) else if (getF b 0 0).2.1 < b.length then (Change.zero, 2) else
    if cright k w i o n ((min (getF b 0 0).1 2147483648 : Nat) : Int) = true then (⟨k, w, i, o, n, (getF b 0 0).1⟩, 0) else (Change.zero, 2)
noncomputable def cdec1 (w i : Bool) (b : List UInt8) : Change × Nat :=
  if (dtext i (dtext w (dtext true b 0).2.1 (dtext true b 0).2.2).2.1 (dtext w (dtext true b 0).2.1 (dtext true b 0).2.2).2.2).2.2 ≠ 0 then
    (Change.zero, (dtext i (dtext w (dtext true b 0).2.1 (dtext true b 0).2.2).2.1 (dtext w (dtext true b 0).2.1 (dtext true b 0).2.2).2.2).2.2)
  else ctail w i (dtext true b 0).1 (dtext w (dtext true b 0).2.1 (dtext true b 0).2.2).1 (dtext i (dtext w (dtext true b 0).2.1 (dtext true b 0).2.2).2.1 (dtext w (dtext true b 0).2.1 (dtext true b 0).2.2).2.2).1
    (dtext i (dtext w (dtext true b 0).2.1 (dtext true b 0).2.2).2.1 (dtext w (dtext true b 0).2.1 (dtext true b 0).2.2).2.2).2.1
theorem cdec1_run {d : Nat} {i : Nat} {f w is : Bool} {b : List UInt8} {h : Heap} (hm : h.objs[i]? = some (rdC f b 0)) (hb : b.length ≤ 140737488351232) :
    ∃ f' b' e', ∀ (Q : Res → Prop) (tg : Hid Q), Run (P120_0 (d + 3) i [] false false [] [] 0 [] w is [] [] 0 h) Q tg = Q ([(cdec1 w is b).1.A, .int .i64 (cdec1 w is b).2], h.put i (rdC f' b' e')) := by
  obtain ⟨f1, r1⟩ := text_run (d := d) (w := true) hm hb
  have l1 := dtext_len true b 0
  obtain ⟨f2, r2⟩ := text_run (d := d) (w := w) (Heap.put_get (o := rdC f1 (dtext true b 0).2.1 (dtext true b 0).2.2) hm) (by omega)
  have l2 := dtext_len w (dtext true b 0).2.1 (dtext true b 0).2.2
  rw [Heap.put_put] at r2
  obtain ⟨f3, r3⟩ := text_run (d := d) (w := is) (Heap.put_get (o := rdC f2 (dtext w (dtext true b 0).2.1 (dtext true b 0).2.2).2.1 (dtext w (dtext true b 0).2.1 (dtext true b 0).2.2).2.2) hm) (by omega)
  have l3 := dtext_len is (dtext w (dtext true b 0).2.1 (dtext true b 0).2.2).2.1 (dtext w (dtext true b 0).2.1 (dtext true b 0).2.2).2.2
  rw [Heap.put_put] at r3
  unfold cdec1
  generalize dtext true b 0 = D1 at *
  obtain ⟨k, b1, e1⟩ := D1
  simp only at *
  generalize dtext w b1 e1 = D2 at *
  obtain ⟨o, b2, e2⟩ := D2
  simp only at *
  generalize dtext is b2 e2 = D3 at *
  obtain ⟨n, b3, e3⟩ := D3
  simp only at *
  refine ⟨f3, b3, e3, fun Q tg => ?_⟩
  have hm3 : (h.put i (rdC f3 b3 e3)).objs[i]? = some (rdC f3 b3 e3) := Heap.put_get hm
  have k0 : (h.put i (rdC f3 b3 e3)).cell? i 0 = some (HCell.val (.sl f3 0 (bys b3))) := by rw [Heap.cell_at hm3]; rfl
  have k1 : (h.put i (rdC f3 b3 e3)).cell? i 1 = some (HCell.val (.int .i64 e3)) := by rw [Heap.cell_at hm3]; rfl
  rw [P120_0_eq]
  by_cases h3 : e3 = 0
  · subst h3
    have h3 : ((0 : Nat) : Int) = 0 := e0
    rw [e0] at k1
    rw [if_neg (by simp)]
    unfold ctail
    by_cases hg : (getF b3 0 0).2.2 = 0
    · rw [if_neg (by simp [hg])]
      by_cases hl : (getF b3 0 0).2.1 < b3.length
      · rw [if_pos hl]
        simp (disch := (first | assumption | (simp only [Bool.and_eq_true, Bool.and_eq_false_iff, decide_eq_true_eq, decide_eq_false_iff_not, bne_iff_ne, beq_iff_eq, beq_eq_false_iff_ne, bne_eq_false_iff_eq, Bool.not_eq_true', Bool.not_eq_false', bys_length, List.length_append, List.length_cons, List.length_nil, List.length_map, List.length_drop, List.length_take, Int.natCast_add, wrap_i64_eq, wrap_u64, wrap_u8, ne_eq, not_true_eq_false, not_false_eq_true, Nat.zero_add, Nat.mul_one] <;> omega) | omega | (simp; done) | (simp; omega))) only [↓CR, MC, ↓PR, MR, r1, r2, r3, k1, k0, h3, get_run, hg, bys_length]
        rfl
      · rw [if_neg hl]
        have ew : IntKind.i64.wrap (if (2147483648 : Int) < ((getF b3 0 0).1 : Nat) then (2147483648 : Int) else ((getF b3 0 0).1 : Nat)) = ((min (getF b3 0 0).1 2147483648 : Nat) : Int) := by
          rw [wrap_i64_id (by split <;> omega) (by split <;> omega)]
          split <;> omega
        by_cases hr : cright k w is o n ((min (getF b3 0 0).1 2147483648 : Nat) : Int) = true
        · have hmin : min (getF b3 0 0).1 2147483648 = (getF b3 0 0).1 := by simp only [cright, decide_eq_true_eq] at hr; omega
          rw [if_pos hr]
          simp (disch := (first | assumption | (simp only [Bool.and_eq_true, Bool.and_eq_false_iff, decide_eq_true_eq, decide_eq_false_iff_not, bne_iff_ne, beq_iff_eq, beq_eq_false_iff_ne, bne_eq_false_iff_eq, Bool.not_eq_true', Bool.not_eq_false', bys_length, List.length_append, List.length_cons, List.length_nil, List.length_map, List.length_drop, List.length_take, Int.natCast_add, wrap_i64_eq, wrap_u64, wrap_u8, ne_eq, not_true_eq_false, not_false_eq_true, Nat.zero_add, Nat.mul_one] <;> omega) | omega | (simp; done) | (simp; omega))) only [↓CR, MC, ↓PR, MR, r1, r2, r3, k1, k0, h3, get_run, hg, bys_length, ew, cright_run, hr]
          rw [hmin]; rfl
        · have hr' : cright k w is o n ((min (getF b3 0 0).1 2147483648 : Nat) : Int) = false := by simpa using hr
          rw [if_neg hr]
          simp (disch := (first | assumption | (simp only [Bool.and_eq_true, Bool.and_eq_false_iff, decide_eq_true_eq, decide_eq_false_iff_not, bne_iff_ne, beq_iff_eq, beq_eq_false_iff_ne, bne_eq_false_iff_eq, Bool.not_eq_true', Bool.not_eq_false', bys_length, List.length_append, List.length_cons, List.length_nil, List.length_map, List.length_drop, List.length_take, Int.natCast_add, wrap_i64_eq, wrap_u64, wrap_u8, ne_eq, not_true_eq_false, not_false_eq_true, Nat.zero_add, Nat.mul_one] <;> omega) | omega | (simp; done) | (simp; omega))) only [↓CR, MC, ↓PR, MR, r1, r2, r3, k1, k0, h3, get_run, hg, bys_length, ew, cright_run, hr']
          rfl
    · rw [if_pos hg]
      simp (disch := (first | assumption | (simp only [Bool.and_eq_true, Bool.and_eq_false_iff, decide_eq_true_eq, decide_eq_false_iff_not, bne_iff_ne, beq_iff_eq, beq_eq_false_iff_ne, bne_eq_false_iff_eq, Bool.not_eq_true', Bool.not_eq_false', bys_length, List.length_append, List.length_cons, List.length_nil, List.length_map, List.length_drop, List.length_take, Int.natCast_add, wrap_i64_eq, wrap_u64, wrap_u8, ne_eq, not_true_eq_false, not_false_eq_true, Nat.zero_add, Nat.mul_one] <;> omega) | omega | (simp; done) | (simp; omega))) only [↓CR, MC, ↓PR, MR, r1, r2, r3, k1, k0, h3, get_run, hg, bys_length]
      rfl
  · rw [if_pos h3]
    simp (disch := (first | assumption | (simp only [Bool.and_eq_true, Bool.and_eq_false_iff, decide_eq_true_eq, decide_eq_false_iff_not, bne_iff_ne, beq_iff_eq, beq_eq_false_iff_ne, bne_eq_false_iff_eq, Bool.not_eq_true', Bool.not_eq_false', bys_length, List.length_append, List.length_cons, List.length_nil, List.length_map, List.length_drop, List.length_take, Int.natCast_add, wrap_i64_eq, wrap_u64, wrap_u8, ne_eq, not_true_eq_false, not_false_eq_true, Nat.zero_add, Nat.mul_one] <;> omega) | omega | (simp; done) | (simp; omega))) only [↓CR, MC, ↓PR, MR, r1, r2, r3, k1, h3]
    rfl
/-- The change that bytes are. -/
noncomputable def cdec (b : List UInt8) : Change × Nat :=
  match b with
  | [] => (Change.zero, 1)
  | x :: r => if 4 ≤ x.toNat then (Change.zero, 2) else cdec1 (decide (x.toNat % 2 = 1)) (decide (2 ≤ x.toNat)) r
theorem flag_was_n : ∀ n : Nat, n < 256 → ((IntKind.u8.wrap (BitVec.ofInt 8 (n : Int) &&& BitVec.ofInt 8 1).toNat : Int) != 0) = decide (n % 2 = 1) := by decide +kernel
theorem flag_is_n : ∀ n : Nat, n < 4 → ((IntKind.u8.wrap (BitVec.ofInt 8 (n : Int) &&& BitVec.ofInt 8 2).toNat : Int) != 0) = decide (2 ≤ n) := by decide +kernel
theorem flag_was (x : UInt8) : ((IntKind.u8.wrap (BitVec.ofInt 8 (x.toNat : Int) &&& BitVec.ofInt 8 1).toNat : Int) != 0) = decide (x.toNat % 2 = 1) := flag_was_n _ x.toNat_lt
theorem flag_is (x : UInt8) (h : x.toNat < 4) : ((IntKind.u8.wrap (BitVec.ofInt 8 (x.toNat : Int) &&& BitVec.ofInt 8 2).toNat : Int) != 0) = decide (2 ≤ x.toNat) := flag_is_n _ h
theorem cdecode_run {d : Nat} {f : Bool} {b : List UInt8} {h : Heap} (hb : b.length ≤ 140737488351232) :
    ∃ h', h.ext h' ∧ ∀ (Q : Res → Prop) (tg : Hid Q), Run (evFn Cw (d + 4) 120 [.sl f 0 (bys b)] h) Q tg = Q ([(cdec b).1.A, .int .i64 (cdec b).2], h') := by
  match b, hb with
  | [], _ =>
    refine ⟨h, Heap.ext.refl h, fun Q tg => ?_⟩
    rw [F120_eq]
    simp (disch := (first | assumption | (simp only [Bool.and_eq_true, Bool.and_eq_false_iff, decide_eq_true_eq, decide_eq_false_iff_not, bne_iff_ne, beq_iff_eq, beq_eq_false_iff_ne, bne_eq_false_iff_eq, Bool.not_eq_true', Bool.not_eq_false', bys_length, List.length_append, List.length_cons, List.length_nil, List.length_map, List.length_drop, List.length_take, Int.natCast_add, wrap_i64_eq, wrap_u64, wrap_u8, ne_eq, not_true_eq_false, not_false_eq_true, Nat.zero_add, Nat.mul_one] <;> omega) | omega | (simp; done) | (simp; omega))) only [↓CR, MC, ↓PR, MR, bys_length]
    rfl
  | x :: r, hb =>
    unfold cdec
    have g0 : (bys (x :: r)).getD 0 AVal.undef = ofByte x := of_eq_true (eq_self _)
    have p1 : Weave.part 1 ((r.length + 1 : Nat) : Int) (bys (x :: r)) = bys r := part_drop' (l := x :: r) (k := 1)
    by_cases h4 : 4 ≤ x.toNat
    · refine ⟨h, Heap.ext.refl h, fun Q tg => ?_⟩
      simp only [h4, if_true]
      rw [F120_eq]
      simp (disch := (first | assumption | (simp only [Bool.and_eq_true, Bool.and_eq_false_iff, decide_eq_true_eq, decide_eq_false_iff_not, bne_iff_ne, beq_iff_eq, beq_eq_false_iff_ne, bne_eq_false_iff_eq, Bool.not_eq_true', Bool.not_eq_false', bys_length, List.length_append, List.length_cons, List.length_nil, List.length_map, List.length_drop, List.length_take, Int.natCast_add, wrap_i64_eq, wrap_u64, wrap_u8, ne_eq, not_true_eq_false, not_false_eq_true, Nat.zero_add, Nat.mul_one] <;> omega) | omega | (simp; done) | (simp; omega))) only [↓CR, MC, ↓PR, MR, bys_length, List.length_cons, g0, ofByte]
      rfl
    · have hr : r.length ≤ 140737488351232 := by simp at hb; omega
      obtain ⟨f', b', e', hc⟩ := cdec1_run (d := d) (i := h.objs.length) (f := f) (w := decide (x.toNat % 2 = 1)) (is := decide (2 ≤ x.toNat)) (b := r) (h := h.push (rdC f r 0)) (Heap.push_new h _) hr
      refine ⟨_, (Heap.ext.push h (rdC f r 0)).put (o := rdC f' b' e') (Nat.le_refl _), fun Q tg => ?_⟩
      simp only [h4, if_false]
      have eo : Weave.Obj.cells ([AVal.sl f 0 (bys r), AVal.int .i64 0].map HCell.val) = rdC f r 0 := of_eq_true (eq_self _)
      have f1 := flag_was x
      have f2 := flag_is x (by omega)
      rw [F120_eq]
      simp (disch := (first | assumption | (simp only [Bool.and_eq_true, Bool.and_eq_false_iff, decide_eq_true_eq, decide_eq_false_iff_not, bne_iff_ne, beq_iff_eq, beq_eq_false_iff_ne, bne_eq_false_iff_eq, Bool.not_eq_true', Bool.not_eq_false', bys_length, List.length_append, List.length_cons, List.length_nil, List.length_map, List.length_drop, List.length_take, Int.natCast_add, wrap_i64_eq, wrap_u64, wrap_u8, ne_eq, not_true_eq_false, not_false_eq_true, Nat.zero_add, Nat.mul_one] <;> omega) | omega | (simp; done) | (simp; omega))) only [↓CR, MC, ↓PR, MR, bys_length, List.length_cons, g0, ofByte, p1, f1, f2, eo, hc]

/-! ### The reference -/
theorem rcright_run {d : Nat} {k : List UInt8} {w i : Bool} {o n : List UInt8} {x : Int} {h : Heap} {Q : Res → Prop} {tg : Hid Q} :
    Run (evFn Cw (d + 1) 115 [.agg [.str k, .bool w, .bool i, .str o, .str n, .int .i64 x]] h) Q tg = Q ([.bool (cright k w i o n x)], h) := by
  rw [F115_eq]
  repeat' (first | (refine at_ret.trans ?_) | (refine at_cases (fun _ => ?_) (fun _ => ?_)))
  all_goals (refine congrArg (fun b => Q ([AVal.bool b], h)) ?_; simp only [cright]; simp_all)
  all_goals (try omega)
  all_goals (rcases k with _ | ⟨c, k⟩ <;> simp_all)
  all_goals (first | omega | (rcases n with _ | ⟨c', n⟩ <;> simp_all <;> omega))
def wantAt (w is : Bool) (i : Nat) : Bool := if i = 0 then true else if i = 1 then w else is
theorem dtext_off (b : List UInt8) : dtext false b 0 = ([], b, 0) := by unfold dtext; rw [if_pos (Or.inr rfl)]
theorem dtext_on (b : List UInt8) : dtext true b 0 = ((fget b).1, b.drop (fget b).2.1, (fget b).2.2) := by unfold dtext; rw [if_neg (by simp)]
theorem dtext_err (w : Bool) (b : List UInt8) {e : Nat} (he : e ≠ 0) : dtext w b e = ([], b, e) := by unfold dtext; rw [if_pos (Or.inl he)]
theorem rt_ok {d k : Nat} {f w is : Bool} {b : List UInt8} {p i : Nat} {ls : List AVal} {h : Heap} (hi : i < 3) (hp : p ≤ b.length) (hb : b.length ≤ 140737488351232) (hl : ls.length ≤ 3) (he : (dtext (wantAt w is i) (b.drop p) 0).2.2 = 0) :
    ∃ p' : Nat, b.drop p' = (dtext (wantAt w is i) (b.drop p) 0).2.1 ∧ p' ≤ b.length ∧ ∀ (Q : Res → Prop) (tg : Hid Q),
      Run (P95_1 (d + 2) (k + 1) f (bys b) p ls i [] false false [] [] 0 [] w is [] [] 0 h) Q tg = Run (P95_1 (d + 2) k f (bys b) p' (ls ++ [.str (dtext (wantAt w is i) (b.drop p) 0).1]) (i + 1 : Nat) [] false false [] [] 0 [] w is [] [] 0 h) Q ⟨⟩ := by
  have e1 := succ_wrap (i := i) (by omega)
  have hlen : (b.drop p).length ≤ 140737488351232 := by simp; omega
  cases hw : wantAt w is i
  · rw [dtext_off]
    refine ⟨p, rfl, hp, fun Q tg => ?_⟩
    rw [P95_1_eq]
    unfold wantAt at hw
    obtain rfl | rfl : i = 1 ∨ i = 2 := by
      rcases Nat.lt_or_ge 0 i with h0 | h0
      · omega
      · have : i = 0 := by omega
        rw [if_pos this] at hw; simp at hw
    · simp at hw; subst hw
      simp (disch := (first | assumption | (simp only [Bool.and_eq_true, Bool.and_eq_false_iff, decide_eq_true_eq, decide_eq_false_iff_not, bne_iff_ne, beq_iff_eq, beq_eq_false_iff_ne, bne_eq_false_iff_eq, Bool.not_eq_true', Bool.not_eq_false', bys_length, List.length_append, List.length_cons, List.length_nil, List.length_map, List.length_drop, List.length_take, Int.natCast_add, wrap_i64_eq, wrap_u64, wrap_u8, ne_eq, not_true_eq_false, not_false_eq_true, Nat.zero_add, Nat.mul_one] <;> omega) | omega | (simp; done) | (simp; omega))) only [↓CR, MC, ↓PR, MR, e1]
    · simp at hw; subst hw
      simp (disch := (first | assumption | (simp only [Bool.and_eq_true, Bool.and_eq_false_iff, decide_eq_true_eq, decide_eq_false_iff_not, bne_iff_ne, beq_iff_eq, beq_eq_false_iff_ne, bne_eq_false_iff_eq, Bool.not_eq_true', Bool.not_eq_false', bys_length, List.length_append, List.length_cons, List.length_nil, List.length_map, List.length_drop, List.length_take, Int.natCast_add, wrap_i64_eq, wrap_u64, wrap_u8, ne_eq, not_true_eq_false, not_false_eq_true, Nat.zero_add, Nat.mul_one] <;> omega) | omega | (simp; done) | (simp; omega))) only [↓CR, MC, ↓PR, MR, e1]
  · rw [hw, dtext_on] at he
    simp only at he
    rw [dtext_on]
    have hk := fget_le (b.drop p)
    rw [List.length_drop] at hk
    have ek : IntKind.i64.wrap ((p : Int) + ((fget (b.drop p)).2.1 : Nat)) = ((p + (fget (b.drop p)).2.1 : Nat) : Int) := by rw [wrap_i64_id (by omega) (by omega)]; omega
    refine ⟨p + (fget (b.drop p)).2.1, by rw [List.drop_drop], by omega, fun Q tg => ?_⟩
    rw [P95_1_eq]
    unfold wantAt at hw
    obtain rfl | rfl | rfl : i = 0 ∨ i = 1 ∨ i = 2 := by omega
    · simp (disch := (first | assumption | (simp only [Bool.and_eq_true, Bool.and_eq_false_iff, decide_eq_true_eq, decide_eq_false_iff_not, bne_iff_ne, beq_iff_eq, beq_eq_false_iff_ne, bne_eq_false_iff_eq, Bool.not_eq_true', Bool.not_eq_false', bys_length, List.length_append, List.length_cons, List.length_nil, List.length_map, List.length_drop, List.length_take, Int.natCast_add, wrap_i64_eq, wrap_u64, wrap_u8, ne_eq, not_true_eq_false, not_false_eq_true, Nat.zero_add, Nat.mul_one] <;> omega) | omega | (simp; done) | (simp; omega))) only [↓CR, MC, ↓PR, MR, bys_length, part_drop', rfget_run, he, ek, e1]
    · simp at hw; subst hw
      simp (disch := (first | assumption | (simp only [Bool.and_eq_true, Bool.and_eq_false_iff, decide_eq_true_eq, decide_eq_false_iff_not, bne_iff_ne, beq_iff_eq, beq_eq_false_iff_ne, bne_eq_false_iff_eq, Bool.not_eq_true', Bool.not_eq_false', bys_length, List.length_append, List.length_cons, List.length_nil, List.length_map, List.length_drop, List.length_take, Int.natCast_add, wrap_i64_eq, wrap_u64, wrap_u8, ne_eq, not_true_eq_false, not_false_eq_true, Nat.zero_add, Nat.mul_one] <;> omega) | omega | (simp; done) | (simp; omega))) only [↓CR, MC, ↓PR, MR, bys_length, part_drop', rfget_run, he, ek, e1]
    · simp at hw; subst hw
      simp (disch := (first | assumption | (simp only [Bool.and_eq_true, Bool.and_eq_false_iff, decide_eq_true_eq, decide_eq_false_iff_not, bne_iff_ne, beq_iff_eq, beq_eq_false_iff_ne, bne_eq_false_iff_eq, Bool.not_eq_true', Bool.not_eq_false', bys_length, List.length_append, List.length_cons, List.length_nil, List.length_map, List.length_drop, List.length_take, Int.natCast_add, wrap_i64_eq, wrap_u64, wrap_u8, ne_eq, not_true_eq_false, not_false_eq_true, Nat.zero_add, Nat.mul_one] <;> omega) | omega | (simp; done) | (simp; omega))) only [↓CR, MC, ↓PR, MR, bys_length, part_drop', rfget_run, he, ek, e1]
theorem rt_err {d k : Nat} {f w is : Bool} {b : List UInt8} {p i : Nat} {ls : List AVal} {h : Heap} (hi : i < 3) (hp : p ≤ b.length) (hb : b.length ≤ 140737488351232) (he : (dtext (wantAt w is i) (b.drop p) 0).2.2 ≠ 0) (Q : Res → Prop) (tg : Hid Q) :
      Run (P95_1 (d + 2) (k + 1) f (bys b) p ls i [] false false [] [] 0 [] w is [] [] 0 h) Q tg = Q ([Change.zero.A, .int .i64 (dtext (wantAt w is i) (b.drop p) 0).2.2], h) := by
  have hlen : (b.drop p).length ≤ 140737488351232 := by simp; omega
  cases hw : wantAt w is i
  · rw [hw, dtext_off] at he; simp at he
  · rw [hw, dtext_on] at he
    simp only at he
    rw [dtext_on]
    rw [P95_1_eq]
    unfold wantAt at hw
    obtain rfl | rfl | rfl : i = 0 ∨ i = 1 ∨ i = 2 := by omega
    · simp (disch := (first | assumption | (simp only [Bool.and_eq_true, Bool.and_eq_false_iff, decide_eq_true_eq, decide_eq_false_iff_not, bne_iff_ne, beq_iff_eq, beq_eq_false_iff_ne, bne_eq_false_iff_eq, Bool.not_eq_true', Bool.not_eq_false', bys_length, List.length_append, List.length_cons, List.length_nil, List.length_map, List.length_drop, List.length_take, Int.natCast_add, wrap_i64_eq, wrap_u64, wrap_u8, ne_eq, not_true_eq_false, not_false_eq_true, Nat.zero_add, Nat.mul_one] <;> omega) | omega | (simp; done) | (simp; omega))) only [↓CR, MC, ↓PR, MR, bys_length, part_drop', rfget_run, he]
      rfl
    · simp at hw; subst hw
      simp (disch := (first | assumption | (simp only [Bool.and_eq_true, Bool.and_eq_false_iff, decide_eq_true_eq, decide_eq_false_iff_not, bne_iff_ne, beq_iff_eq, beq_eq_false_iff_ne, bne_eq_false_iff_eq, Bool.not_eq_true', Bool.not_eq_false', bys_length, List.length_append, List.length_cons, List.length_nil, List.length_map, List.length_drop, List.length_take, Int.natCast_add, wrap_i64_eq, wrap_u64, wrap_u8, ne_eq, not_true_eq_false, not_false_eq_true, Nat.zero_add, Nat.mul_one] <;> omega) | omega | (simp; done) | (simp; omega))) only [↓CR, MC, ↓PR, MR, bys_length, part_drop', rfget_run, he]
      rfl
    · simp at hw; subst hw
      simp (disch := (first | assumption | (simp only [Bool.and_eq_true, Bool.and_eq_false_iff, decide_eq_true_eq, decide_eq_false_iff_not, bne_iff_ne, beq_iff_eq, beq_eq_false_iff_ne, bne_eq_false_iff_eq, Bool.not_eq_true', Bool.not_eq_false', bys_length, List.length_append, List.length_cons, List.length_nil, List.length_map, List.length_drop, List.length_take, Int.natCast_add, wrap_i64_eq, wrap_u64, wrap_u8, ne_eq, not_true_eq_false, not_false_eq_true, Nat.zero_add, Nat.mul_one] <;> omega) | omega | (simp; done) | (simp; omega))) only [↓CR, MC, ↓PR, MR, bys_length, part_drop', rfget_run, he]
      rfl
theorem rtail_run {d k : Nat} {f w is : Bool} {b : List UInt8} {p : Nat} {key o n : List UInt8} {h : Heap} (hp : p ≤ b.length) (hb : b.length ≤ 140737488351232) (Q : Res → Prop) (tg : Hid Q) :
      Run (P95_1 (d + 2) (k + 1) f (bys b) p [.str key, .str o, .str n] 3 [] false false [] [] 0 [] w is [] [] 0 h) Q tg = Q ([(ctail w is key o n (b.drop p)).1.A, .int .i64 (ctail w is key o n (b.drop p)).2], h) := by
  have hlen : (b.drop p).length ≤ 140737488351232 := by simp; omega
  have l0 : [AVal.str key, AVal.str o, AVal.str n].getD 0 AVal.undef = .str key := of_eq_true (eq_self _)
  have l1 : [AVal.str key, AVal.str o, AVal.str n].getD 1 AVal.undef = .str o := of_eq_true (eq_self _)
  have l2 : [AVal.str key, AVal.str o, AVal.str n].getD 2 AVal.undef = .str n := of_eq_true (eq_self _)
  have l3 : [AVal.str key, AVal.str o, AVal.str n].length = 3 := rfl
  rw [P95_1_eq]
  unfold ctail
  by_cases hg : (getF (b.drop p) 0 0).2.2 = 0
  · have ⟨g1, g2, g3⟩ := getF_ok hg
    rw [List.length_drop] at g2
    rw [if_neg (by simp [hg])]
    have ek : IntKind.i64.wrap ((p : Int) + ((getF (b.drop p) 0 0).2.1 : Nat)) = ((p + (getF (b.drop p) 0 0).2.1 : Nat) : Int) := by rw [wrap_i64_id (by omega) (by omega)]; omega
    by_cases hl : (getF (b.drop p) 0 0).2.1 < (b.drop p).length
    · rw [if_pos hl]
      rw [List.length_drop] at hl
      simp (disch := (first | assumption | (simp only [Bool.and_eq_true, Bool.and_eq_false_iff, decide_eq_true_eq, decide_eq_false_iff_not, bne_iff_ne, beq_iff_eq, beq_eq_false_iff_ne, bne_eq_false_iff_eq, Bool.not_eq_true', Bool.not_eq_false', bys_length, List.length_append, List.length_cons, List.length_nil, List.length_map, List.length_drop, List.length_take, Int.natCast_add, wrap_i64_eq, wrap_u64, wrap_u8, ne_eq, not_true_eq_false, not_false_eq_true, Nat.zero_add, Nat.mul_one] <;> omega) | omega | (simp; done) | (simp; omega))) only [↓CR, MC, ↓PR, MR, bys_length, part_drop', rget_run, hg, l0, l1, l2, l3, ek]
      rfl
    · rw [if_neg hl]
      rw [List.length_drop] at hl
      by_cases hn : 2147483647 < (getF (b.drop p) 0 0).1
      · rw [if_neg (by simp only [cright, decide_eq_true_eq]; omega)]
        simp (disch := (first | assumption | (simp only [Bool.and_eq_true, Bool.and_eq_false_iff, decide_eq_true_eq, decide_eq_false_iff_not, bne_iff_ne, beq_iff_eq, beq_eq_false_iff_ne, bne_eq_false_iff_eq, Bool.not_eq_true', Bool.not_eq_false', bys_length, List.length_append, List.length_cons, List.length_nil, List.length_map, List.length_drop, List.length_take, Int.natCast_add, wrap_i64_eq, wrap_u64, wrap_u8, ne_eq, not_true_eq_false, not_false_eq_true, Nat.zero_add, Nat.mul_one] <;> omega) | omega | (simp; done) | (simp; omega))) only [↓CR, MC, ↓PR, MR, bys_length, part_drop', rget_run, hg, l0, l1, l2, l3, ek]
        rfl
      · have hmin : min (getF (b.drop p) 0 0).1 2147483648 = (getF (b.drop p) 0 0).1 := by omega
        rw [hmin]
        have ew : IntKind.i64.wrap (((getF (b.drop p) 0 0).1 : Nat) : Int) = (((getF (b.drop p) 0 0).1 : Nat) : Int) := wrap_i64_id (by omega) (by omega)
        cases hr : cright key w is o n (((getF (b.drop p) 0 0).1 : Nat) : Int)
        · rw [if_neg (by simp)]
          simp (disch := (first | assumption | (simp only [Bool.and_eq_true, Bool.and_eq_false_iff, decide_eq_true_eq, decide_eq_false_iff_not, bne_iff_ne, beq_iff_eq, beq_eq_false_iff_ne, bne_eq_false_iff_eq, Bool.not_eq_true', Bool.not_eq_false', bys_length, List.length_append, List.length_cons, List.length_nil, List.length_map, List.length_drop, List.length_take, Int.natCast_add, wrap_i64_eq, wrap_u64, wrap_u8, ne_eq, not_true_eq_false, not_false_eq_true, Nat.zero_add, Nat.mul_one] <;> omega) | omega | (simp; done) | (simp; omega))) only [↓CR, MC, ↓PR, MR, bys_length, part_drop', rget_run, hg, l0, l1, l2, l3, ek, ew, rcright_run, hr]
          rfl
        · rw [if_pos rfl]
          simp (disch := (first | assumption | (simp only [Bool.and_eq_true, Bool.and_eq_false_iff, decide_eq_true_eq, decide_eq_false_iff_not, bne_iff_ne, beq_iff_eq, beq_eq_false_iff_ne, bne_eq_false_iff_eq, Bool.not_eq_true', Bool.not_eq_false', bys_length, List.length_append, List.length_cons, List.length_nil, List.length_map, List.length_drop, List.length_take, Int.natCast_add, wrap_i64_eq, wrap_u64, wrap_u8, ne_eq, not_true_eq_false, not_false_eq_true, Nat.zero_add, Nat.mul_one] <;> omega) | omega | (simp; done) | (simp; omega))) only [↓CR, MC, ↓PR, MR, bys_length, part_drop', rget_run, hg, l0, l1, l2, l3, ek, ew, rcright_run, hr]
          rfl
  · rw [if_pos hg]
    simp (disch := (first | assumption | (simp only [Bool.and_eq_true, Bool.and_eq_false_iff, decide_eq_true_eq, decide_eq_false_iff_not, bne_iff_ne, beq_iff_eq, beq_eq_false_iff_ne, bne_eq_false_iff_eq, Bool.not_eq_true', Bool.not_eq_false', bys_length, List.length_append, List.length_cons, List.length_nil, List.length_map, List.length_drop, List.length_take, Int.natCast_add, wrap_i64_eq, wrap_u64, wrap_u8, ne_eq, not_true_eq_false, not_false_eq_true, Nat.zero_add, Nat.mul_one] <;> omega) | omega | (simp; done) | (simp; omega))) only [↓CR, MC, ↓PR, MR, bys_length, part_drop', rget_run, hg, l0, l1, l2, l3]
    rfl
theorem rcdec1_run {d : Nat} {f w is : Bool} {x : UInt8} {b : List UInt8} {h : Heap} (hb : (x :: b).length ≤ 140737488351232) (Q : Res → Prop) (tg : Hid Q) :
    Run (P95_0 (d + 2) f (bys (x :: b)) [] false false [] [] 0 [] w is [] [] 0 h) Q tg = Q ([(cdec1 w is b).1.A, .int .i64 (cdec1 w is b).2], h) := by
  obtain ⟨k, hk⟩ : ∃ k, rounds = k + 4 := ⟨rounds - 4, by have := rounds_gt 4 (by omega); omega⟩
  rw [P95_0_eq, hk]
  have i0 : ((0 : Nat) : Int) = 0 := e0
  have i1 : ((1 : Nat) : Int) = 1 := rfl
  unfold cdec1
  have w0 : wantAt w is 0 = true := rfl
  have w1 : wantAt w is 1 = w := rfl
  have w2 : wantAt w is 2 = is := rfl
  have hd1 : (x :: b).drop 1 = b := rfl
  by_cases h1 : (dtext true b 0).2.2 = 0
  · obtain ⟨p1, q1, q2, r1⟩ := rt_ok (d := d) (k := k + 3) (f := f) (w := w) (is := is) (b := x :: b) (p := 1) (i := 0) (ls := []) (h := h) (by omega) (by simp) hb (by simp) (by rw [w0, hd1]; exact h1)
    rw [w0, hd1] at q1 r1
    rw [i0, i1] at r1
    refine (r1 Q tg).trans ?_
    rw [h1]
    by_cases h2 : (dtext w (dtext true b 0).2.1 0).2.2 = 0
    · obtain ⟨p2, s1, s2, r2⟩ := rt_ok (d := d) (k := k + 2) (f := f) (w := w) (is := is) (b := x :: b) (p := p1) (i := 1) (ls := [] ++ [.str (dtext true b 0).1]) (h := h) (by omega) q2 hb (by simp) (by rw [w1, q1]; exact h2)
      rw [w1, q1] at s1 r2
      refine (r2 Q ⟨⟩).trans ?_
      rw [h2]
      by_cases h3 : (dtext is (dtext w (dtext true b 0).2.1 0).2.1 0).2.2 = 0
      · obtain ⟨p3, t1, t2, r3⟩ := rt_ok (d := d) (k := k + 1) (f := f) (w := w) (is := is) (b := x :: b) (p := p2) (i := 2) (ls := [] ++ [.str (dtext true b 0).1] ++ [.str (dtext w (dtext true b 0).2.1 0).1]) (h := h) (by omega) s2 hb (by simp) (by rw [w2, s1]; exact h3)
        rw [w2, s1] at t1 r3
        refine (r3 Q ⟨⟩).trans ?_
        rw [if_neg (by simp [h3]), ← t1]
        exact rtail_run t2 hb Q ⟨⟩
      · rw [if_pos h3]
        have := rt_err (d := d) (k := k + 1) (f := f) (w := w) (is := is) (b := x :: b) (p := p2) (i := 2) (ls := [] ++ [.str (dtext true b 0).1] ++ [.str (dtext w (dtext true b 0).2.1 0).1]) (h := h) (by omega) s2 hb (by rw [w2, s1]; exact h3) Q ⟨⟩
        rw [w2, s1] at this
        exact this
    · rw [dtext_err is _ h2, if_pos h2]
      have := rt_err (d := d) (k := k + 2) (f := f) (w := w) (is := is) (b := x :: b) (p := p1) (i := 1) (ls := [] ++ [.str (dtext true b 0).1]) (h := h) (by omega) q2 hb (by rw [w1, q1]; exact h2) Q ⟨⟩
      rw [w1, q1] at this
      exact this
  · rw [dtext_err w _ h1, dtext_err is _ h1, if_pos h1]
    have := rt_err (d := d) (k := k + 3) (f := f) (w := w) (is := is) (b := x :: b) (p := 1) (i := 0) (ls := []) (h := h) (by omega) (by simp) hb (by rw [w0, hd1]; exact h1) Q ⟨⟩
    rw [w0, hd1, i0, i1] at this
    exact this
theorem rflag_was_n : ∀ n : Nat, n < 4 → ((Int.tmod (n : Int) 2 : Int) == 1) = decide (n % 2 = 1) := by decide +kernel
theorem rcdecode_run {d : Nat} {f : Bool} {b : List UInt8} {h : Heap} (hb : b.length ≤ 140737488351232) (Q : Res → Prop) (tg : Hid Q) :
    Run (evFn Cw (d + 3) 95 [.sl f 0 (bys b)] h) Q tg = Q ([(cdec b).1.A, .int .i64 (cdec b).2], h) := by
  match b, hb with
  | [], _ =>
    rw [F95_eq]
    simp (disch := (first | assumption | (simp only [Bool.and_eq_true, Bool.and_eq_false_iff, decide_eq_true_eq, decide_eq_false_iff_not, bne_iff_ne, beq_iff_eq, beq_eq_false_iff_ne, bne_eq_false_iff_eq, Bool.not_eq_true', Bool.not_eq_false', bys_length, List.length_append, List.length_cons, List.length_nil, List.length_map, List.length_drop, List.length_take, Int.natCast_add, wrap_i64_eq, wrap_u64, wrap_u8, ne_eq, not_true_eq_false, not_false_eq_true, Nat.zero_add, Nat.mul_one] <;> omega) | omega | (simp; done) | (simp; omega))) only [↓CR, MC, ↓PR, MR, bys_length]
    rfl
  | x :: r, hb =>
    unfold cdec
    have g0 : (bys (x :: r)).getD 0 AVal.undef = ofByte x := of_eq_true (eq_self _)
    by_cases h4 : 4 ≤ x.toNat
    · simp only [h4, if_true]
      rw [F95_eq]
      simp (disch := (first | assumption | (simp only [Bool.and_eq_true, Bool.and_eq_false_iff, decide_eq_true_eq, decide_eq_false_iff_not, bne_iff_ne, beq_iff_eq, beq_eq_false_iff_ne, bne_eq_false_iff_eq, Bool.not_eq_true', Bool.not_eq_false', bys_length, List.length_append, List.length_cons, List.length_nil, List.length_map, List.length_drop, List.length_take, Int.natCast_add, wrap_i64_eq, wrap_u64, wrap_u8, ne_eq, not_true_eq_false, not_false_eq_true, Nat.zero_add, Nat.mul_one] <;> omega) | omega | (simp; done) | (simp; omega))) only [↓CR, MC, ↓PR, MR, bys_length, List.length_cons, g0, ofByte]
      rfl
    · have hc := fun (Q : Res → Prop) (tg : Hid Q) => rcdec1_run (d := d) (f := f) (w := decide (x.toNat % 2 = 1)) (is := decide (2 ≤ x.toNat)) (x := x) (b := r) (h := h) hb Q tg
      simp only [h4, if_false]
      have f1 := rflag_was_n x.toNat (by omega)
      have f2 : decide ((x.toNat : Int) > 1) = decide (2 ≤ x.toNat) := by rw [decide_eq_decide]; omega
      rw [F95_eq]
      simp (disch := (first | assumption | (simp only [Bool.and_eq_true, Bool.and_eq_false_iff, decide_eq_true_eq, decide_eq_false_iff_not, bne_iff_ne, beq_iff_eq, beq_eq_false_iff_ne, bne_eq_false_iff_eq, Bool.not_eq_true', Bool.not_eq_false', bys_length, List.length_append, List.length_cons, List.length_nil, List.length_map, List.length_drop, List.length_take, Int.natCast_add, wrap_i64_eq, wrap_u64, wrap_u8, ne_eq, not_true_eq_false, not_false_eq_true, Nat.zero_add, Nat.mul_one] <;> omega) | omega | (simp; done) | (simp; omega))) only [↓CR, MC, ↓PR, MR, bys_length, List.length_cons, g0, ofByte, f1, f2, hc]

/-! ### The plain law -/
theorem dtext_spec {w : Bool} {b : List UInt8} (h : (dtext w b 0).2.2 = 0) : b = (if w then pk (dtext w b 0).1 else []) ++ (dtext w b 0).2.1 ∧ (w = false → (dtext w b 0).1 = []) := by
  cases w
  · rw [dtext_off]; simp
  · rw [dtext_on] at h ⊢
    simp only at h ⊢
    have ⟨_, _, _, h4⟩ := fget_spec h
    refine ⟨?_, by simp⟩
    rw [if_pos trivial, ← h4, List.take_append_drop]
theorem ctail_spec {w i : Bool} {k o n b : List UInt8} (h : (ctail w i k o n b).2 = 0) : ∃ x : Nat, ctail w i k o n b = (⟨k, w, i, o, n, x⟩, 0) ∧ cright k w i o n x = true ∧ b = enc x := by
  unfold ctail at h ⊢
  rcases getF_spec0 b with ⟨m, g1, g2, g3, g4⟩ | ⟨e, g1, ge⟩
  · rw [g1] at h ⊢
    simp only [ne_eq, not_true_eq_false, if_false] at h ⊢
    split at h
    · simp at h
    · rename_i hl
      rw [if_neg hl]
      split at h
      · rename_i hr
        have hmin : min m 2147483648 = m := by simp only [cright, decide_eq_true_eq] at hr; omega
        rw [hmin] at hr ⊢
        refine ⟨m, by rw [if_pos hr], hr, ?_⟩
        rw [← g2]
        exact (List.take_of_length_le (by omega)).symm
      · simp at h
  · rw [g1] at h
    simp only [ne_eq] at h
    have ge' : e ≠ 0 := by omega
    rw [if_pos ge'] at h
    exact absurd h ge'
theorem cflags_n : ∀ n : Nat, n < 4 → cflags (decide (n % 2 = 1)) (decide (2 ≤ n)) = UInt8.ofNat n := by decide
theorem cdec_spec {b : List UInt8} (h : (cdec b).2 = 0) : ∃ (k : List UInt8) (w i : Bool) (o n : List UInt8) (x : Nat), cdec b = (⟨k, w, i, o, n, x⟩, 0) ∧ cright k w i o n x = true ∧ cbytes k w i o n x = b := by
  match b with
  | [] => simp [cdec] at h
  | x :: r =>
    unfold cdec at h ⊢
    by_cases h4 : 4 ≤ x.toNat
    · simp [h4] at h
    · simp only [h4, if_false] at h ⊢
      have hx : cflags (decide (x.toNat % 2 = 1)) (decide (2 ≤ x.toNat)) = x := by rw [cflags_n _ (by omega)]; simp
      generalize decide (x.toNat % 2 = 1) = w at *
      generalize decide (2 ≤ x.toNat) = i at *
      unfold cdec1 at h ⊢
      by_cases h1 : (dtext true r 0).2.2 = 0
      · rw [h1] at h ⊢
        by_cases h2 : (dtext w (dtext true r 0).2.1 0).2.2 = 0
        · rw [h2] at h ⊢
          by_cases h3 : (dtext i (dtext w (dtext true r 0).2.1 0).2.1 0).2.2 = 0
          · rw [if_neg (by simp [h3])] at h ⊢
            obtain ⟨m, t1, t2, t3⟩ := ctail_spec h
            refine ⟨_, _, _, _, _, m, t1, t2, ?_⟩
            have ⟨s1, _⟩ := dtext_spec h1
            have ⟨s2, _⟩ := dtext_spec h2
            have ⟨s3, _⟩ := dtext_spec h3
            unfold cbytes
            rw [hx]
            congr 1
            have ex : ((m : Nat) : Int).toNat = m := by omega
            rw [ex, ← t3]
            conv => rhs; rw [s1, s2, s3]
            unfold cfields pks
            cases w <;> cases i <;> simp
          · rw [if_pos h3] at h; exact absurd h h3
        · rw [dtext_err i _ h2, if_pos h2] at h; exact absurd h h2
      · rw [dtext_err w _ h1, dtext_err i _ h1, if_pos h1] at h; exact absurd h h1
end Go.Proofs.Ytdlcjibefbnckaa.Wa
end

section
/- What the evaluator comes to in these functions. -/
namespace Go.Proofs.Ytdlcjibefbnckaa.Wa
open Go Go.Weave
set_option maxRecDepth 100000
set_option linter.unusedVariables false
/- f99 strandline/tree.told[string] -/
theorem F99_eq (d : Nat) (v0 : AVal) (h : Heap) : evFn Cw (d + 1) 99 [v0] h =
  (bif AVal.isPtr v0 then
    (bif (AVal.isNilp v0) then
      (Tr.ret ([(AVal.str []), (AVal.str []), (AVal.bool false)], h))
    else
      (nodeW 5 v0 fun cc1 =>
        (optK (cc1[0]?) fun w2 =>
          (strK w2 fun ss3 =>
            (nodeW 5 v0 fun cc4 =>
              (optK (cc4[1]?) fun w5 =>
                (strK w5 fun ss6 =>
                  (Tr.ret ([(AVal.str ss3), (AVal.str ss6), (AVal.bool true)], h)))))))))
  else
    Tr.fail) := by kernel_rfl
/- f118 (*strandline/tree.node[string]).high -/
theorem F118_eq (d : Nat) (v0 : AVal) (h : Heap) : evFn Cw (d + 1) 118 [v0] h =
  (bif AVal.isPtr v0 then
    (bif (AVal.isNilp v0) then
      (Tr.ret ([(AVal.int .i64 0)], h))
    else
      (nodeW 5 v0 fun cc1 =>
        (optK (cc1[4]?) fun w2 =>
          (intK .i64 w2 fun y3 =>
            (Tr.ret ([(AVal.int .i64 y3)], h))))))
  else
    Tr.fail) := by kernel_rfl
/- f119 (*strandline/tree.node[string]).with -/
theorem F119_eq (d : Nat) (v0 : AVal) (v1 : AVal) (v2 : AVal) (h : Heap) : evFn Cw (d + 1) 119 [v0, v1, v2] h =
  (nodeW 5 v0 fun cc1 =>
    (nodeW 5 v0 fun cc2 =>
      (Tr.anyL [
        (optK (cc1[0]?) fun w3 =>
          (strK w3 fun ss4 =>
            (Tr.anyL [
              (optK (cc2[1]?) fun w5 =>
                (strK w5 fun ss6 =>
                  (runK (evFn Cw d 118 [v1] h) fun r7 h7 =>
                    (consK r7 fun w8 ws9 =>
                      (intK .i64 w8 fun y10 =>
                        (nilK ws9
                          (runK (evFn Cw d 118 [v2] h7) fun r11 h11 =>
                            (consK r11 fun w12 ws13 =>
                              (intK .i64 w12 fun y14 =>
                                (nilK ws13
                                  (bif (((!(AVal.isAgg v1)) && true) && true) then
                                    (bif (((!(AVal.isAgg v2)) && true) && true) then
                                      (Tr.ret ([(AVal.elt (AVal.agg [(AVal.str ss4), (AVal.str ss6), v1, v2, (AVal.int .i64 (IntKind.i64.wrap (1 + (if (y14 : Int) > y10 then y14 else y10))))]) true 5 0)], h11))
                                    else
                                      Tr.fail)
                                  else
                                    Tr.fail))))))))))),
              (runK (evFn Cw d 118 [v1] h) fun r5 h5 =>
                (consK r5 fun w6 ws7 =>
                  (intK .i64 w6 fun y8 =>
                    (nilK ws7
                      (Tr.anyL [
                        (optK (cc2[1]?) fun w9 =>
                          (strK w9 fun ss10 =>
                            (runK (evFn Cw d 118 [v2] h5) fun r11 h11 =>
                              (consK r11 fun w12 ws13 =>
                                (intK .i64 w12 fun y14 =>
                                  (nilK ws13
                                    (bif (((!(AVal.isAgg v1)) && true) && true) then
                                      (bif (((!(AVal.isAgg v2)) && true) && true) then
                                        (Tr.ret ([(AVal.elt (AVal.agg [(AVal.str ss4), (AVal.str ss10), v1, v2, (AVal.int .i64 (IntKind.i64.wrap (1 + (if (y14 : Int) > y8 then y14 else y8))))]) true 5 0)], h11))
                                      else
                                        Tr.fail)
                                    else
                                      Tr.fail))))))),
                        (runK (evFn Cw d 118 [v2] h5) fun r9 h9 =>
                          (consK r9 fun w10 ws11 =>
                            (intK .i64 w10 fun y12 =>
                              (nilK ws11
                                (optK (cc2[1]?) fun w13 =>
                                  (strK w13 fun ss14 =>
                                    (bif (((!(AVal.isAgg v1)) && true) && true) then
                                      (bif (((!(AVal.isAgg v2)) && true) && true) then
                                        (Tr.ret ([(AVal.elt (AVal.agg [(AVal.str ss4), (AVal.str ss14), v1, v2, (AVal.int .i64 (IntKind.i64.wrap (1 + (if (y12 : Int) > y8 then y12 else y8))))]) true 5 0)], h9))
                                      else
                                        Tr.fail)
                                    else
                                      Tr.fail)))))))])))))]))),
        (optK (cc2[1]?) fun w3 =>
          (strK w3 fun ss4 =>
            (Tr.anyL [
              (optK (cc1[0]?) fun w5 =>
                (strK w5 fun ss6 =>
                  (runK (evFn Cw d 118 [v1] h) fun r7 h7 =>
                    (consK r7 fun w8 ws9 =>
                      (intK .i64 w8 fun y10 =>
                        (nilK ws9
                          (runK (evFn Cw d 118 [v2] h7) fun r11 h11 =>
                            (consK r11 fun w12 ws13 =>
                              (intK .i64 w12 fun y14 =>
                                (nilK ws13
                                  (bif (((!(AVal.isAgg v1)) && true) && true) then
                                    (bif (((!(AVal.isAgg v2)) && true) && true) then
                                      (Tr.ret ([(AVal.elt (AVal.agg [(AVal.str ss6), (AVal.str ss4), v1, v2, (AVal.int .i64 (IntKind.i64.wrap (1 + (if (y14 : Int) > y10 then y14 else y10))))]) true 5 0)], h11))
                                    else
                                      Tr.fail)
                                  else
                                    Tr.fail))))))))))),
              (runK (evFn Cw d 118 [v1] h) fun r5 h5 =>
                (consK r5 fun w6 ws7 =>
                  (intK .i64 w6 fun y8 =>
                    (nilK ws7
                      (Tr.anyL [
                        (optK (cc1[0]?) fun w9 =>
                          (strK w9 fun ss10 =>
                            (runK (evFn Cw d 118 [v2] h5) fun r11 h11 =>
                              (consK r11 fun w12 ws13 =>
                                (intK .i64 w12 fun y14 =>
                                  (nilK ws13
                                    (bif (((!(AVal.isAgg v1)) && true) && true) then
                                      (bif (((!(AVal.isAgg v2)) && true) && true) then
                                        (Tr.ret ([(AVal.elt (AVal.agg [(AVal.str ss10), (AVal.str ss4), v1, v2, (AVal.int .i64 (IntKind.i64.wrap (1 + (if (y14 : Int) > y8 then y14 else y8))))]) true 5 0)], h11))
                                      else
                                        Tr.fail)
                                    else
                                      Tr.fail))))))),
                        (runK (evFn Cw d 118 [v2] h5) fun r9 h9 =>
                          (consK r9 fun w10 ws11 =>
                            (intK .i64 w10 fun y12 =>
                              (nilK ws11
                                (optK (cc1[0]?) fun w13 =>
                                  (strK w13 fun ss14 =>
                                    (bif (((!(AVal.isAgg v1)) && true) && true) then
                                      (bif (((!(AVal.isAgg v2)) && true) && true) then
                                        (Tr.ret ([(AVal.elt (AVal.agg [(AVal.str ss14), (AVal.str ss4), v1, v2, (AVal.int .i64 (IntKind.i64.wrap (1 + (if (y12 : Int) > y8 then y12 else y8))))]) true 5 0)], h9))
                                      else
                                        Tr.fail)
                                    else
                                      Tr.fail)))))))])))))]))),
        (runK (evFn Cw d 118 [v1] h) fun r3 h3 =>
          (consK r3 fun w4 ws5 =>
            (intK .i64 w4 fun y6 =>
              (nilK ws5
                (Tr.anyL [
                  (optK (cc1[0]?) fun w7 =>
                    (strK w7 fun ss8 =>
                      (Tr.anyL [
                        (optK (cc2[1]?) fun w9 =>
                          (strK w9 fun ss10 =>
                            (runK (evFn Cw d 118 [v2] h3) fun r11 h11 =>
                              (consK r11 fun w12 ws13 =>
                                (intK .i64 w12 fun y14 =>
                                  (nilK ws13
                                    (bif (((!(AVal.isAgg v1)) && true) && true) then
                                      (bif (((!(AVal.isAgg v2)) && true) && true) then
                                        (Tr.ret ([(AVal.elt (AVal.agg [(AVal.str ss8), (AVal.str ss10), v1, v2, (AVal.int .i64 (IntKind.i64.wrap (1 + (if (y14 : Int) > y6 then y14 else y6))))]) true 5 0)], h11))
                                      else
                                        Tr.fail)
                                    else
                                      Tr.fail))))))),
                        (runK (evFn Cw d 118 [v2] h3) fun r9 h9 =>
                          (consK r9 fun w10 ws11 =>
                            (intK .i64 w10 fun y12 =>
                              (nilK ws11
                                (optK (cc2[1]?) fun w13 =>
                                  (strK w13 fun ss14 =>
                                    (bif (((!(AVal.isAgg v1)) && true) && true) then
                                      (bif (((!(AVal.isAgg v2)) && true) && true) then
                                        (Tr.ret ([(AVal.elt (AVal.agg [(AVal.str ss8), (AVal.str ss14), v1, v2, (AVal.int .i64 (IntKind.i64.wrap (1 + (if (y12 : Int) > y6 then y12 else y6))))]) true 5 0)], h9))
                                      else
                                        Tr.fail)
                                    else
                                      Tr.fail)))))))]))),
                  (optK (cc2[1]?) fun w7 =>
                    (strK w7 fun ss8 =>
                      (Tr.anyL [
                        (optK (cc1[0]?) fun w9 =>
                          (strK w9 fun ss10 =>
                            (runK (evFn Cw d 118 [v2] h3) fun r11 h11 =>
                              (consK r11 fun w12 ws13 =>
                                (intK .i64 w12 fun y14 =>
                                  (nilK ws13
                                    (bif (((!(AVal.isAgg v1)) && true) && true) then
                                      (bif (((!(AVal.isAgg v2)) && true) && true) then
                                        (Tr.ret ([(AVal.elt (AVal.agg [(AVal.str ss10), (AVal.str ss8), v1, v2, (AVal.int .i64 (IntKind.i64.wrap (1 + (if (y14 : Int) > y6 then y14 else y6))))]) true 5 0)], h11))
                                      else
                                        Tr.fail)
                                    else
                                      Tr.fail))))))),
                        (runK (evFn Cw d 118 [v2] h3) fun r9 h9 =>
                          (consK r9 fun w10 ws11 =>
                            (intK .i64 w10 fun y12 =>
                              (nilK ws11
                                (optK (cc1[0]?) fun w13 =>
                                  (strK w13 fun ss14 =>
                                    (bif (((!(AVal.isAgg v1)) && true) && true) then
                                      (bif (((!(AVal.isAgg v2)) && true) && true) then
                                        (Tr.ret ([(AVal.elt (AVal.agg [(AVal.str ss14), (AVal.str ss8), v1, v2, (AVal.int .i64 (IntKind.i64.wrap (1 + (if (y12 : Int) > y6 then y12 else y6))))]) true 5 0)], h9))
                                      else
                                        Tr.fail)
                                    else
                                      Tr.fail)))))))]))),
                  (runK (evFn Cw d 118 [v2] h3) fun r7 h7 =>
                    (consK r7 fun w8 ws9 =>
                      (intK .i64 w8 fun y10 =>
                        (nilK ws9
                          (Tr.anyL [
                            (optK (cc1[0]?) fun w11 =>
                              (strK w11 fun ss12 =>
                                (optK (cc2[1]?) fun w13 =>
                                  (strK w13 fun ss14 =>
                                    (bif (((!(AVal.isAgg v1)) && true) && true) then
                                      (bif (((!(AVal.isAgg v2)) && true) && true) then
                                        (Tr.ret ([(AVal.elt (AVal.agg [(AVal.str ss12), (AVal.str ss14), v1, v2, (AVal.int .i64 (IntKind.i64.wrap (1 + (if (y10 : Int) > y6 then y10 else y6))))]) true 5 0)], h7))
                                      else
                                        Tr.fail)
                                    else
                                      Tr.fail))))),
                            (optK (cc2[1]?) fun w11 =>
                              (strK w11 fun ss12 =>
                                (optK (cc1[0]?) fun w13 =>
                                  (strK w13 fun ss14 =>
                                    (bif (((!(AVal.isAgg v1)) && true) && true) then
                                      (bif (((!(AVal.isAgg v2)) && true) && true) then
                                        (Tr.ret ([(AVal.elt (AVal.agg [(AVal.str ss14), (AVal.str ss12), v1, v2, (AVal.int .i64 (IntKind.i64.wrap (1 + (if (y10 : Int) > y6 then y10 else y6))))]) true 5 0)], h7))
                                      else
                                        Tr.fail)
                                    else
                                      Tr.fail)))))])))))])))))]))) := by kernel_rfl
/- f101 (*strandline/tree.node[string]).level -/
theorem F101_eq (d : Nat) (v0 : AVal) (v1 : AVal) (v2 : AVal) (h : Heap) : evFn Cw (d + 1) 101 [v0, v1, v2] h =
  (runK (evFn Cw d 118 [v1] h) fun r1 h1 =>
    (consK r1 fun w2 ws3 =>
      (intK .i64 w2 fun y4 =>
        (nilK ws3
          (runK (evFn Cw d 118 [v2] h1) fun r5 h5 =>
            (consK r5 fun w6 ws7 =>
              (intK .i64 w6 fun y8 =>
                (nilK ws7
                  (bif (decide ((y4 : Int) > (IntKind.i64.wrap (y8 + 1)))) then
                    (nodeW 5 v1 fun cc9 =>
                      (optK (cc9[2]?) fun w10 =>
                        (nodeW 5 v1 fun cc11 =>
                          (optK (cc11[3]?) fun w12 =>
                            (runK (evFn Cw d 118 [w10] h5) fun r13 h13 =>
                              (consK r13 fun w14 ws15 =>
                                (intK .i64 w14 fun y16 =>
                                  (nilK ws15
                                    (runK (evFn Cw d 118 [w12] h13) fun r17 h17 =>
                                      (consK r17 fun w18 ws19 =>
                                        (intK .i64 w18 fun y20 =>
                                          (nilK ws19
                                            (bif (decide ((y16 : Int) ≥ y20)) then
                                              (nodeW 5 v1 fun cc21 =>
                                                (optK (cc21[2]?) fun w22 =>
                                                  (nodeW 5 v1 fun cc23 =>
                                                    (optK (cc23[3]?) fun w24 =>
                                                      (runK (evFn Cw d 119 [v0, w24, v2] h17) fun r25 h25 =>
                                                        (consK r25 fun w26 ws27 =>
                                                          (nilK ws27
                                                            (runK (evFn Cw d 119 [v1, w22, w26] h25) fun r28 h28 =>
                                                              (consK r28 fun w29 ws30 =>
                                                                (nilK ws30
                                                                  (Tr.ret ([w29], h28))))))))))))
                                            else
                                              (nodeW 5 v1 fun cc31 =>
                                                (optK (cc31[3]?) fun w32 =>
                                                  (nodeW 5 v1 fun cc33 =>
                                                    (optK (cc33[2]?) fun w34 =>
                                                      (nodeW 5 v1 fun cc35 =>
                                                        (optK (cc35[3]?) fun w36 =>
                                                          (nodeW 5 w36 fun cc37 =>
                                                            (optK (cc37[2]?) fun w38 =>
                                                              (nodeW 5 v1 fun cc39 =>
                                                                (optK (cc39[3]?) fun w40 =>
                                                                  (nodeW 5 w40 fun cc41 =>
                                                                    (optK (cc41[3]?) fun w42 =>
                                                                      (runK (evFn Cw d 119 [v1, w34, w38] h17) fun r43 h43 =>
                                                                        (consK r43 fun w44 ws45 =>
                                                                          (nilK ws45
                                                                            (runK (evFn Cw d 119 [v0, w42, v2] h43) fun r46 h46 =>
                                                                              (consK r46 fun w47 ws48 =>
                                                                                (nilK ws48
                                                                                  (runK (evFn Cw d 119 [w32, w44, w47] h46) fun r49 h49 =>
                                                                                    (consK r49 fun w50 ws51 =>
                                                                                      (nilK ws51
                                                                                        (Tr.ret ([w50], h49))))))))))))))))))))))))))))))))))))
                  else
                    (runK (evFn Cw d 118 [v2] h5) fun r52 h52 =>
                      (consK r52 fun w53 ws54 =>
                        (intK .i64 w53 fun y55 =>
                          (nilK ws54
                            (runK (evFn Cw d 118 [v1] h52) fun r56 h56 =>
                              (consK r56 fun w57 ws58 =>
                                (intK .i64 w57 fun y59 =>
                                  (nilK ws58
                                    (bif (decide ((y55 : Int) > (IntKind.i64.wrap (y59 + 1)))) then
                                      (nodeW 5 v2 fun cc60 =>
                                        (optK (cc60[3]?) fun w61 =>
                                          (nodeW 5 v2 fun cc62 =>
                                            (optK (cc62[2]?) fun w63 =>
                                              (runK (evFn Cw d 118 [w61] h56) fun r64 h64 =>
                                                (consK r64 fun w65 ws66 =>
                                                  (intK .i64 w65 fun y67 =>
                                                    (nilK ws66
                                                      (runK (evFn Cw d 118 [w63] h64) fun r68 h68 =>
                                                        (consK r68 fun w69 ws70 =>
                                                          (intK .i64 w69 fun y71 =>
                                                            (nilK ws70
                                                              (bif (decide ((y67 : Int) ≥ y71)) then
                                                                (nodeW 5 v2 fun cc72 =>
                                                                  (optK (cc72[2]?) fun w73 =>
                                                                    (nodeW 5 v2 fun cc74 =>
                                                                      (optK (cc74[3]?) fun w75 =>
                                                                        (runK (evFn Cw d 119 [v0, v1, w73] h68) fun r76 h76 =>
                                                                          (consK r76 fun w77 ws78 =>
                                                                            (nilK ws78
                                                                              (runK (evFn Cw d 119 [v2, w77, w75] h76) fun r79 h79 =>
                                                                                (consK r79 fun w80 ws81 =>
                                                                                  (nilK ws81
                                                                                    (Tr.ret ([w80], h79))))))))))))
                                                              else
                                                                (nodeW 5 v2 fun cc82 =>
                                                                  (optK (cc82[2]?) fun w83 =>
                                                                    (nodeW 5 v2 fun cc84 =>
                                                                      (optK (cc84[2]?) fun w85 =>
                                                                        (nodeW 5 w85 fun cc86 =>
                                                                          (optK (cc86[2]?) fun w87 =>
                                                                            (nodeW 5 v2 fun cc88 =>
                                                                              (optK (cc88[2]?) fun w89 =>
                                                                                (nodeW 5 w89 fun cc90 =>
                                                                                  (optK (cc90[3]?) fun w91 =>
                                                                                    (nodeW 5 v2 fun cc92 =>
                                                                                      (optK (cc92[3]?) fun w93 =>
                                                                                        (runK (evFn Cw d 119 [v0, v1, w87] h68) fun r94 h94 =>
                                                                                          (consK r94 fun w95 ws96 =>
                                                                                            (nilK ws96
                                                                                              (runK (evFn Cw d 119 [v2, w91, w93] h94) fun r97 h97 =>
                                                                                                (consK r97 fun w98 ws99 =>
                                                                                                  (nilK ws99
                                                                                                    (runK (evFn Cw d 119 [w83, w95, w98] h97) fun r100 h100 =>
                                                                                                      (consK r100 fun w101 ws102 =>
                                                                                                        (nilK ws102
                                                                                                          (Tr.ret ([w101], h100))))))))))))))))))))))))))))))))))))
                                    else
                                      (runK (evFn Cw d 119 [v0, v1, v2] h56) fun r103 h103 =>
                                        (consK r103 fun w104 ws105 =>
                                          (nilK ws105
                                            (Tr.ret ([w104], h103))))))))))))))))))))))) := by kernel_rfl
/- f82 (*strandline/tree.node[string]).put -/
theorem F82_eq (d : Nat) (v0 : AVal) (s1 : List UInt8) (s2 : List UInt8) (h : Heap) : evFn Cw (d + 1) 82 [v0, (AVal.str s1), (AVal.str s2)] h =
  (bif AVal.isPtr v0 then
    (bif (AVal.isNilp v0) then
      (Tr.ret ([(AVal.elt (AVal.agg [(AVal.str s1), (AVal.str s2), AVal.nilp, AVal.nilp, (AVal.int .i64 1)]) true 5 0)], h))
    else
      (nodeW 5 v0 fun cc1 =>
        (optK (cc1[0]?) fun w2 =>
          (strK w2 fun ss3 =>
            (bif (Go.Op.bytesLess s1 ss3) then
              (nodeW 5 v0 fun cc4 =>
                (optK (cc4[2]?) fun w5 =>
                  (nodeW 5 v0 fun cc6 =>
                    (optK (cc6[3]?) fun w7 =>
                      (runK (evFn Cw d 82 [w5, (AVal.str s1), (AVal.str s2)] h) fun r8 h8 =>
                        (consK r8 fun w9 ws10 =>
                          (nilK ws10
                            (runK (evFn Cw d 101 [v0, w9, w7] h8) fun r11 h11 =>
                              (consK r11 fun w12 ws13 =>
                                (nilK ws13
                                  (Tr.ret ([w12], h11))))))))))))
            else
              (nodeW 5 v0 fun cc14 =>
                (optK (cc14[0]?) fun w15 =>
                  (strK w15 fun ss16 =>
                    (bif (!((Go.Op.bytesLess s1 ss16) || (s1 == ss16))) then
                      (nodeW 5 v0 fun cc17 =>
                        (optK (cc17[2]?) fun w18 =>
                          (nodeW 5 v0 fun cc19 =>
                            (optK (cc19[3]?) fun w20 =>
                              (runK (evFn Cw d 82 [w20, (AVal.str s1), (AVal.str s2)] h) fun r21 h21 =>
                                (consK r21 fun w22 ws23 =>
                                  (nilK ws23
                                    (runK (evFn Cw d 101 [v0, w18, w22] h21) fun r24 h24 =>
                                      (consK r24 fun w25 ws26 =>
                                        (nilK ws26
                                          (Tr.ret ([w25], h24))))))))))))
                    else
                      (nodeW 5 v0 fun cc27 =>
                        (nodeW 5 v0 fun cc28 =>
                          (nodeW 5 v0 fun cc29 =>
                            (Tr.anyL [
                              (optK (cc27[2]?) fun w30 =>
                                (Tr.anyL [
                                  (optK (cc28[3]?) fun w31 =>
                                    (optK (cc29[4]?) fun w32 =>
                                      (intK .i64 w32 fun y33 =>
                                        (bif (((!(AVal.isAgg w30)) && true) && true) then
                                          (bif (((!(AVal.isAgg w31)) && true) && true) then
                                            (Tr.ret ([(AVal.elt (AVal.agg [(AVal.str s1), (AVal.str s2), w30, w31, (AVal.int .i64 y33)]) true 5 0)], h))
                                          else
                                            Tr.fail)
                                        else
                                          Tr.fail)))),
                                  (optK (cc29[4]?) fun w31 =>
                                    (intK .i64 w31 fun y32 =>
                                      (optK (cc28[3]?) fun w33 =>
                                        (bif (((!(AVal.isAgg w30)) && true) && true) then
                                          (bif (((!(AVal.isAgg w33)) && true) && true) then
                                            (Tr.ret ([(AVal.elt (AVal.agg [(AVal.str s1), (AVal.str s2), w30, w33, (AVal.int .i64 y32)]) true 5 0)], h))
                                          else
                                            Tr.fail)
                                        else
                                          Tr.fail))))])),
                              (optK (cc28[3]?) fun w30 =>
                                (Tr.anyL [
                                  (optK (cc27[2]?) fun w31 =>
                                    (optK (cc29[4]?) fun w32 =>
                                      (intK .i64 w32 fun y33 =>
                                        (bif (((!(AVal.isAgg w31)) && true) && true) then
                                          (bif (((!(AVal.isAgg w30)) && true) && true) then
                                            (Tr.ret ([(AVal.elt (AVal.agg [(AVal.str s1), (AVal.str s2), w31, w30, (AVal.int .i64 y33)]) true 5 0)], h))
                                          else
                                            Tr.fail)
                                        else
                                          Tr.fail)))),
                                  (optK (cc29[4]?) fun w31 =>
                                    (intK .i64 w31 fun y32 =>
                                      (optK (cc27[2]?) fun w33 =>
                                        (bif (((!(AVal.isAgg w33)) && true) && true) then
                                          (bif (((!(AVal.isAgg w30)) && true) && true) then
                                            (Tr.ret ([(AVal.elt (AVal.agg [(AVal.str s1), (AVal.str s2), w33, w30, (AVal.int .i64 y32)]) true 5 0)], h))
                                          else
                                            Tr.fail)
                                        else
                                          Tr.fail))))])),
                              (optK (cc29[4]?) fun w30 =>
                                (intK .i64 w30 fun y31 =>
                                  (Tr.anyL [
                                    (optK (cc27[2]?) fun w32 =>
                                      (optK (cc28[3]?) fun w33 =>
                                        (bif (((!(AVal.isAgg w32)) && true) && true) then
                                          (bif (((!(AVal.isAgg w33)) && true) && true) then
                                            (Tr.ret ([(AVal.elt (AVal.agg [(AVal.str s1), (AVal.str s2), w32, w33, (AVal.int .i64 y31)]) true 5 0)], h))
                                          else
                                            Tr.fail)
                                        else
                                          Tr.fail))),
                                    (optK (cc28[3]?) fun w32 =>
                                      (optK (cc27[2]?) fun w33 =>
                                        (bif (((!(AVal.isAgg w33)) && true) && true) then
                                          (bif (((!(AVal.isAgg w32)) && true) && true) then
                                            (Tr.ret ([(AVal.elt (AVal.agg [(AVal.str s1), (AVal.str s2), w33, w32, (AVal.int .i64 y31)]) true 5 0)], h))
                                          else
                                            Tr.fail)
                                        else
                                          Tr.fail)))])))])))))))))))))
  else
    Tr.fail) := by kernel_rfl
/- f102 (*strandline/tree.node[string]).least -/
noncomputable def P102_0 (d k : Nat) (v0 : AVal) (h : Heap) : Tr Res :=
  loopPt Cw d 102 [true, false, true] [] k ⟨[(0, (EV.one (SV.val v0)))], []⟩ h
theorem P102_0_eq (d k : Nat) (v0 : AVal) (h : Heap) : P102_0 d (k + 1) v0 h =
  (nodeW 5 v0 fun cc1 =>
    (optK (cc1[2]?) fun w2 =>
      (bif AVal.isPtr w2 then
        (bif (!(AVal.isNilp w2)) then
          (nodeW 5 v0 fun cc3 =>
            (optK (cc3[2]?) fun w4 =>
              (P102_0 d k w4 h)))
        else
          (Tr.ret ([v0], h)))
      else
        Tr.fail))) := by kernel_rfl
theorem F102_eq (d : Nat) (v0 : AVal) (h : Heap) : evFn Cw (d + 1) 102 [v0] h =
  (P102_0 d rounds v0 h) := by kernel_rfl
/- f83 (*strandline/tree.node[string]).without -/
theorem F83_eq (d : Nat) (v0 : AVal) (s1 : List UInt8) (h : Heap) : evFn Cw (d + 1) 83 [v0, (AVal.str s1)] h =
  (nodeW 5 v0 fun cc1 =>
    (optK (cc1[0]?) fun w2 =>
      (strK w2 fun ss3 =>
        (bif (Go.Op.bytesLess s1 ss3) then
          (nodeW 5 v0 fun cc4 =>
            (optK (cc4[2]?) fun w5 =>
              (nodeW 5 v0 fun cc6 =>
                (optK (cc6[3]?) fun w7 =>
                  (runK (evFn Cw d 83 [w5, (AVal.str s1)] h) fun r8 h8 =>
                    (consK r8 fun w9 ws10 =>
                      (nilK ws10
                        (runK (evFn Cw d 101 [v0, w9, w7] h8) fun r11 h11 =>
                          (consK r11 fun w12 ws13 =>
                            (nilK ws13
                              (Tr.ret ([w12], h11))))))))))))
        else
          (nodeW 5 v0 fun cc14 =>
            (optK (cc14[0]?) fun w15 =>
              (strK w15 fun ss16 =>
                (bif (!((Go.Op.bytesLess s1 ss16) || (s1 == ss16))) then
                  (nodeW 5 v0 fun cc17 =>
                    (optK (cc17[2]?) fun w18 =>
                      (nodeW 5 v0 fun cc19 =>
                        (optK (cc19[3]?) fun w20 =>
                          (runK (evFn Cw d 83 [w20, (AVal.str s1)] h) fun r21 h21 =>
                            (consK r21 fun w22 ws23 =>
                              (nilK ws23
                                (runK (evFn Cw d 101 [v0, w18, w22] h21) fun r24 h24 =>
                                  (consK r24 fun w25 ws26 =>
                                    (nilK ws26
                                      (Tr.ret ([w25], h24))))))))))))
                else
                  (nodeW 5 v0 fun cc27 =>
                    (optK (cc27[2]?) fun w28 =>
                      (bif AVal.isPtr w28 then
                        (bif (AVal.isNilp w28) then
                          (nodeW 5 v0 fun cc29 =>
                            (optK (cc29[3]?) fun w30 =>
                              (Tr.ret ([w30], h))))
                        else
                          (nodeW 5 v0 fun cc31 =>
                            (optK (cc31[3]?) fun w32 =>
                              (bif AVal.isPtr w32 then
                                (bif (AVal.isNilp w32) then
                                  (nodeW 5 v0 fun cc33 =>
                                    (optK (cc33[2]?) fun w34 =>
                                      (Tr.ret ([w34], h))))
                                else
                                  (nodeW 5 v0 fun cc35 =>
                                    (optK (cc35[3]?) fun w36 =>
                                      (runK (evFn Cw d 102 [w36] h) fun r37 h37 =>
                                        (consK r37 fun w38 ws39 =>
                                          (nilK ws39
                                            (nodeW 5 v0 fun cc40 =>
                                              (optK (cc40[2]?) fun w41 =>
                                                (nodeW 5 v0 fun cc42 =>
                                                  (optK (cc42[3]?) fun w43 =>
                                                    (nodeW 5 w38 fun cc44 =>
                                                      (optK (cc44[0]?) fun w45 =>
                                                        (strK w45 fun ss46 =>
                                                          (runK (evFn Cw d 83 [w43, (AVal.str ss46)] h37) fun r47 h47 =>
                                                            (consK r47 fun w48 ws49 =>
                                                              (nilK ws49
                                                                (runK (evFn Cw d 101 [w38, w41, w48] h47) fun r50 h50 =>
                                                                  (consK r50 fun w51 ws52 =>
                                                                    (nilK ws52
                                                                      (Tr.ret ([w51], h50)))))))))))))))))))))
                              else
                                Tr.fail))))
                      else
                        Tr.fail))))))))))) := by kernel_rfl
/- f100 (*strandline/tree.node[string]).each -/
theorem F13_eq (d : Nat) (h : Heap) : evFn Cw (d + 1) 13 [] h =
  (Tr.ret ([(AVal.obj h.objs.length 0)], (Heap.push h (Go.Weave.Obj.cells ([AVal.nilp, (AVal.int .i64 0)].map HCell.val))))) := by kernel_rfl
/- f75 (*strandline/tree.Tree[string]).Seek -/
theorem F75nil_eq (d : Nat) (s0 : List UInt8) (h : Heap) : evFn Cw (d + 1) 75 [AVal.nilp, (AVal.str s0)] h =
  (runK (evFn Cw d 99 [AVal.nilp] h) fun r1 h1 =>
    (consK r1 fun w2 ws3 =>
      (strK w2 fun ss4 =>
        (consK ws3 fun w5 ws6 =>
          (strK w5 fun ss7 =>
            (consK ws6 fun w8 ws9 =>
              (boolK w8 fun bb10 =>
                (nilK ws9
                  (Tr.ret ([(AVal.str ss4), (AVal.str ss7), (AVal.bool bb10)], h1)))))))))) := by kernel_rfl
noncomputable def P75_0 (d k : Nat) (s0 : List UInt8) (v1 : AVal) (v2 : AVal) (h : Heap) : Tr Res :=
  loopPt Cw d 75 [true, true, false, true, true, true, true] [] k ⟨[(1, (EV.one (SV.val (AVal.str s0)))), (7, (EV.one (SV.val v1))), (8, (EV.one (SV.val v2)))], []⟩ h
theorem P75_0_eq (d k : Nat) (s0 : List UInt8) (v1 : AVal) (v2 : AVal) (h : Heap) : P75_0 d (k + 1) s0 v1 v2 h =
  (bif AVal.isPtr v2 then
    (bif (!(AVal.isNilp v2)) then
      (nodeW 5 v2 fun cc1 =>
        (optK (cc1[0]?) fun w2 =>
          (strK w2 fun ss3 =>
            (bif (Go.Op.bytesLess ss3 s0) then
              (nodeW 5 v2 fun cc4 =>
                (optK (cc4[3]?) fun w5 =>
                  (P75_0 d k s0 v1 w5 h)))
            else
              (nodeW 5 v2 fun cc6 =>
                (optK (cc6[2]?) fun w7 =>
                  (P75_0 d k s0 v2 w7 h)))))))
    else
      (runK (evFn Cw d 99 [v1] h) fun r8 h8 =>
        (consK r8 fun w9 ws10 =>
          (strK w9 fun ss11 =>
            (consK ws10 fun w12 ws13 =>
              (strK w12 fun ss14 =>
                (consK ws13 fun w15 ws16 =>
                  (boolK w15 fun bb17 =>
                    (nilK ws16
                      (Tr.ret ([(AVal.str ss11), (AVal.str ss14), (AVal.bool bb17)], h8)))))))))))
  else
    Tr.fail) := by kernel_rfl
theorem F75_eq (d : Nat) (i0 : Nat) (s1 : List UInt8) (h : Heap) : evFn Cw (d + 1) 75 [(AVal.obj i0 0), (AVal.str s1)] h =
  (optK (Heap.cell? h i0 0) fun z1 =>
    (P75_0 d rounds s1 AVal.nilp (HCell.toA z1) h)) := by kernel_rfl
/- f77 (*strandline/tree.Tree[string]).Below -/
theorem F81_eq (d : Nat) (i0 : Nat) (s1 : List UInt8) (h : Heap) : evFn Cw (d + 1) 81 [(AVal.obj i0 0), (AVal.str s1)] h =
  (runK (evFn Cw d 75 [(AVal.obj i0 0), (AVal.str s1)] h) fun r1 h1 =>
    (consK r1 fun w2 ws3 =>
      (strK w2 fun ss4 =>
        (consK ws3 fun w5 ws6 =>
          (strK w5 fun ss7 =>
            (consK ws6 fun w8 ws9 =>
              (boolK w8 fun bb10 =>
                (nilK ws9
                  (bif (!bb10) then
                    (Tr.ret ([(AVal.str []), (AVal.bool false)], h1))
                  else
                    (bif (!(ss4 == s1)) then (Tr.ret ([(AVal.str []), (AVal.bool false)], h1)) else (Tr.ret ([(AVal.str ss7), (AVal.bool true)], h1)))))))))))) := by kernel_rfl
/- f21 (*strandline/tree.Tree[string]).Put -/
theorem F21_eq (d : Nat) (i0 : Nat) (s1 : List UInt8) (s2 : List UInt8) (h : Heap) : evFn Cw (d + 1) 21 [(AVal.obj i0 0), (AVal.str s1), (AVal.str s2)] h =
  (runK (evFn Cw d 81 [(AVal.obj i0 0), (AVal.str s1)] h) fun r1 h1 =>
    (consK r1 fun w2 ws3 =>
      (strK w2 fun ss4 =>
        (consK ws3 fun w5 ws6 =>
          (boolK w5 fun bb7 =>
            (nilK ws6
              (optK (Heap.cell? h1 i0 0) fun z8 =>
                (runK (evFn Cw d 82 [(HCell.toA z8), (AVal.str s1), (AVal.str s2)] h1) fun r9 h9 =>
                  (consK r9 fun w10 ws11 =>
                    (nilK ws11
                      (bif (AVal.isAgg w10) then
                        Tr.fail
                      else
                        (optK (Heap.cell? h9 i0 0) fun _ =>
                          (bif (!bb7) then
                            (optK (Heap.cell? (Heap.setCell h9 i0 0 (HCell.val w10)) i0 1) fun z12 =>
                              (intK .i64 (HCell.toA z12) fun y13 =>
                                (optK (Heap.cell? (Heap.setCell h9 i0 0 (HCell.val w10)) i0 1) fun _ =>
                                  (Tr.ret ([(AVal.str ss4), (AVal.bool bb7)], (Heap.setCell (Heap.setCell h9 i0 0 (HCell.val w10)) i0 1 (HCell.val (AVal.int .i64 (IntKind.i64.wrap (y13 + 1))))))))))
                          else
                            (Tr.ret ([(AVal.str ss4), (AVal.bool bb7)], (Heap.setCell h9 i0 0 (HCell.val w10))))))))))))))))) := by kernel_rfl
/- f23 (*strandline/tree.Tree[string]).Delete -/
theorem F23_eq (d : Nat) (i0 : Nat) (s1 : List UInt8) (h : Heap) : evFn Cw (d + 1) 23 [(AVal.obj i0 0), (AVal.str s1)] h =
  (runK (evFn Cw d 81 [(AVal.obj i0 0), (AVal.str s1)] h) fun r1 h1 =>
    (consK r1 fun w2 ws3 =>
      (strK w2 fun ss4 =>
        (consK ws3 fun w5 ws6 =>
          (boolK w5 fun bb7 =>
            (nilK ws6
              (bif bb7 then
                (optK (Heap.cell? h1 i0 0) fun z8 =>
                  (runK (evFn Cw d 83 [(HCell.toA z8), (AVal.str s1)] h1) fun r9 h9 =>
                    (consK r9 fun w10 ws11 =>
                      (nilK ws11
                        (bif (AVal.isAgg w10) then
                          Tr.fail
                        else
                          (optK (Heap.cell? h9 i0 0) fun _ =>
                            (optK (Heap.cell? (Heap.setCell h9 i0 0 (HCell.val w10)) i0 1) fun z12 =>
                              (intK .i64 (HCell.toA z12) fun y13 =>
                                (optK (Heap.cell? (Heap.setCell h9 i0 0 (HCell.val w10)) i0 1) fun _ =>
                                  (Tr.ret ([(AVal.str ss4), (AVal.bool bb7)], (Heap.setCell (Heap.setCell h9 i0 0 (HCell.val w10)) i0 1 (HCell.val (AVal.int .i64 (IntKind.i64.wrap (y13 - 1))))))))))))))))
              else
                (Tr.ret ([(AVal.str ss4), (AVal.bool bb7)], h1))))))))) := by kernel_rfl
/- f87 (*strandline/tree.Tree[string]).Len -/
theorem F87nil_eq (d : Nat) (h : Heap) : evFn Cw (d + 1) 87 [AVal.nilp] h =
  (Tr.ret ([(AVal.int .i64 0)], h)) := by kernel_rfl
theorem F87_eq (d : Nat) (i0 : Nat) (h : Heap) : evFn Cw (d + 1) 87 [(AVal.obj i0 0)] h =
  (optK (Heap.cell? h i0 1) fun z1 =>
    (intK .i64 (HCell.toA z1) fun y2 =>
      (Tr.ret ([(AVal.int .i64 y2)], h)))) := by kernel_rfl
/- f78 (*strandline/tree.Tree[string]).Each -/
noncomputable def P26_0 (d k : Nat) (f0 : Bool) (l1 : List AVal) (s2 : List UInt8) (x3 : Int) (h : Heap) : Tr Res :=
  loopPt Cw d 26 [true, false, true, true] [] k ⟨[(0, (EV.one (SV.val (AVal.sl f0 3 l1)))), (1, (EV.one (SV.val (AVal.str s2)))), (6, (EV.one (SV.val (AVal.int .i64 x3))))], []⟩ h
theorem P26_0_eq (d k : Nat) (f0 : Bool) (l1 : List AVal) (s2 : List UInt8) (x3 : Int) (h : Heap) : P26_0 d (k + 1) f0 l1 s2 x3 h =
  (bif (decide ((x3 : Int) < (l1.length : Int))) then
    (bif (decide ((0 : Int) ≤ x3) && decide ((x3 : Int) < (l1.length : Int))) then
      (optK ((AVal.cells (l1.getD (Int.toNat x3) AVal.undef))[0]?) fun w1 =>
        (strK w1 fun ss2 =>
          (bif (ss2 == s2) then
            (bif (decide ((0 : Int) ≤ x3) && decide ((x3 : Int) < (l1.length : Int))) then
              (optK ((AVal.cells (l1.getD (Int.toNat x3) AVal.undef))[1]?) fun w3 =>
                (strK w3 fun ss4 =>
                  (Tr.ret ([(AVal.str ss4), (AVal.bool true)], h))))
            else
              Tr.fail)
          else
            (P26_0 d k f0 l1 s2 (IntKind.i64.wrap (x3 + 1)) h))))
    else
      Tr.fail)
  else
    (Tr.ret ([(AVal.str []), (AVal.bool false)], h))) := by kernel_rfl
theorem F26_eq (d : Nat) (f0 : Bool) (l1 : List AVal) (s2 : List UInt8) (h : Heap) : evFn Cw (d + 1) 26 [(AVal.sl f0 3 l1), (AVal.str s2)] h =
  (P26_0 d rounds f0 l1 s2 0 h) := by kernel_rfl
/- f24 strandline/strandlineref31.Delete -/
noncomputable def P24_0 (d k : Nat) (f0 : Bool) (l1 : List AVal) (s2 : List UInt8) (l3 : List AVal) (x4 : Int) (h : Heap) : Tr Res :=
  loopPt Cw d 24 [true, true, false, true, true] [] k ⟨[(0, (EV.one (SV.val (AVal.sl f0 3 l1)))), (1, (EV.one (SV.val (AVal.str s2)))), (5, (EV.one (SV.own (tokOf 5 0) 3 l3))), (6, (EV.one (SV.val (AVal.int .i64 x4))))], []⟩ h
theorem P24_0_eq (d k : Nat) (f0 : Bool) (l1 : List AVal) (s2 : List UInt8) (l3 : List AVal) (x4 : Int) (h : Heap) : P24_0 d (k + 1) f0 l1 s2 l3 x4 h =
  (bif (decide ((x4 : Int) < (l1.length : Int))) then
    (bif (decide ((0 : Int) ≤ x4) && decide ((x4 : Int) < (l1.length : Int))) then
      (optK ((AVal.cells (l1.getD (Int.toNat x4) AVal.undef))[0]?) fun w1 =>
        (strK w1 fun ss2 =>
          (bif (!(ss2 == s2)) then
            (bif (decide ((0 : Int) ≤ x4) && decide ((x4 : Int) < (l1.length : Int))) then
              (aggK 2 (l1.getD (Int.toNat x4) AVal.undef) fun cc3 =>
                (bif ((cc3.length == 2) && true) then
                  (bif decide ((l3.length + (1 : Nat)) * 32 ≤ 140737488355328) then (P24_0 d k f0 l1 s2 (l3 ++ [(AVal.agg cc3)]) (IntKind.i64.wrap (x4 + 1)) h) else Tr.fail)
                else
                  Tr.fail))
            else
              Tr.fail)
          else
            (P24_0 d k f0 l1 s2 l3 (IntKind.i64.wrap (x4 + 1)) h))))
    else
      Tr.fail)
  else
    (Tr.ret ([(AVal.sl false 3 l3)], h))) := by kernel_rfl
theorem F24_eq (d : Nat) (f0 : Bool) (l1 : List AVal) (s2 : List UInt8) (h : Heap) : evFn Cw (d + 1) 24 [(AVal.sl f0 3 l1), (AVal.str s2)] h =
  (P24_0 d rounds f0 l1 s2 [] 0 h) := by kernel_rfl
noncomputable def P22_0 (d k : Nat) (l0 : List AVal) (s1 : List UInt8) (s2 : List UInt8) (l3 : List AVal) (b4 : Bool) (x5 : Int) (h : Heap) : Tr Res :=
  loopPt Cw d 22 [true, true, true, true, false, true, true] [] k ⟨[(0, (EV.one (SV.own (tokOf 0 0) 3 l0))), (1, (EV.one (SV.val (AVal.str s1)))), (2, (EV.one (SV.val (AVal.str s2)))), (7, (EV.one (SV.own (tokOf 7 0) 3 l3))), (8, (EV.one (SV.val (AVal.bool b4)))), (9, (EV.one (SV.val (AVal.int .i64 x5))))], []⟩ h
theorem P22_0_eq (d k : Nat) (l0 : List AVal) (s1 : List UInt8) (s2 : List UInt8) (l3 : List AVal) (b4 : Bool) (x5 : Int) (h : Heap) : P22_0 d (k + 1) l0 s1 s2 l3 b4 x5 h =
  (bif (decide ((x5 : Int) < (l0.length : Int))) then
    (bif (!b4) then
      (bif (decide ((0 : Int) ≤ x5) && decide ((x5 : Int) < (l0.length : Int))) then
        (optK ((AVal.cells (l0.getD (Int.toNat x5) AVal.undef))[0]?) fun w1 =>
          (strK w1 fun ss2 =>
            (bif (!((Go.Op.bytesLess ss2 s1) || (ss2 == s1))) then
              (bif decide ((l3.length + (1 : Nat)) * 32 ≤ 140737488355328) then
                (bif (decide ((0 : Int) ≤ x5) && decide ((x5 : Int) < (l0.length : Int))) then
                  (aggK 2 (l0.getD (Int.toNat x5) AVal.undef) fun cc3 =>
                    (bif ((cc3.length == 2) && true) then
                      (bif decide (((l3 ++ [(AVal.agg [(AVal.str s1), (AVal.str s2)])]).length + (1 : Nat)) * 32 ≤ 140737488355328) then
                        (P22_0 d k l0 s1 s2 ((l3 ++ [(AVal.agg [(AVal.str s1), (AVal.str s2)])]) ++ [(AVal.agg cc3)]) true (IntKind.i64.wrap (x5 + 1)) h)
                      else
                        Tr.fail)
                    else
                      Tr.fail))
                else
                  Tr.fail)
              else
                Tr.fail)
            else
              (bif (decide ((0 : Int) ≤ x5) && decide ((x5 : Int) < (l0.length : Int))) then
                (aggK 2 (l0.getD (Int.toNat x5) AVal.undef) fun cc4 =>
                  (bif ((cc4.length == 2) && true) then
                    (bif decide ((l3.length + (1 : Nat)) * 32 ≤ 140737488355328) then (P22_0 d k l0 s1 s2 (l3 ++ [(AVal.agg cc4)]) b4 (IntKind.i64.wrap (x5 + 1)) h) else Tr.fail)
                  else
                    Tr.fail))
              else
                Tr.fail))))
      else
        Tr.fail)
    else
      (bif (decide ((0 : Int) ≤ x5) && decide ((x5 : Int) < (l0.length : Int))) then
        (aggK 2 (l0.getD (Int.toNat x5) AVal.undef) fun cc5 =>
          (bif ((cc5.length == 2) && true) then
            (bif decide ((l3.length + (1 : Nat)) * 32 ≤ 140737488355328) then (P22_0 d k l0 s1 s2 (l3 ++ [(AVal.agg cc5)]) b4 (IntKind.i64.wrap (x5 + 1)) h) else Tr.fail)
          else
            Tr.fail))
      else
        Tr.fail))
  else
    (bif (!b4) then
      (bif decide ((l3.length + (1 : Nat)) * 32 ≤ 140737488355328) then (Tr.ret ([(AVal.sl false 3 (l3 ++ [(AVal.agg [(AVal.str s1), (AVal.str s2)])]))], h)) else Tr.fail)
    else
      (Tr.ret ([(AVal.sl false 3 l3)], h)))) := by kernel_rfl
theorem F22_eq (d : Nat) (f0 : Bool) (l1 : List AVal) (s2 : List UInt8) (s3 : List UInt8) (h : Heap) : evFn Cw (d + 1) 22 [(AVal.sl f0 3 l1), (AVal.str s2), (AVal.str s3)] h =
  (runK (evFn Cw d 24 [(AVal.sl f0 3 l1), (AVal.str s2)] h) fun r1 h1 =>
    (consK r1 fun w2 ws3 =>
      (slOK 3 w2 fun es4 =>
        (nilK ws3
          (P22_0 d rounds es4 s2 s3 [] false 0 h1))))) := by kernel_rfl
noncomputable def P36_0 (d k : Nat) (f0 : Bool) (l1 : List AVal) (f2 : Bool) (l3 : List AVal) (x4 : Int) (h : Heap) : Tr Res :=
  loopPt Cw d 36 [true, true, false, true, true] [] k ⟨[(0, (EV.one (SV.val (AVal.sl f0 3 l1)))), (1, (EV.one (SV.val (AVal.sl f2 3 l3)))), (5, (EV.one (SV.val (AVal.int .i64 x4))))], []⟩ h
theorem P36_0_eq (d k : Nat) (f0 : Bool) (l1 : List AVal) (f2 : Bool) (l3 : List AVal) (x4 : Int) (h : Heap) : P36_0 d (k + 1) f0 l1 f2 l3 x4 h =
  (bif (decide ((x4 : Int) < (l1.length : Int))) then
    (bif (decide ((0 : Int) ≤ x4) && decide ((x4 : Int) < (l1.length : Int))) then
      (aggK 2 (l1.getD (Int.toNat x4) AVal.undef) fun cc1 =>
        (bif (decide ((0 : Int) ≤ x4) && decide ((x4 : Int) < (l3.length : Int))) then
          (aggK 2 (l3.getD (Int.toNat x4) AVal.undef) fun cc2 =>
            (bif ((plainOk Cw.P 43 (AVal.agg cc1)) && (plainOk Cw.P 43 (AVal.agg cc2))) then
              (bif (!(eqCells cc1 cc2)) then (Tr.ret ([(AVal.bool false)], h)) else (P36_0 d k f0 l1 f2 l3 (IntKind.i64.wrap (x4 + 1)) h))
            else
              Tr.fail))
        else
          Tr.fail))
    else
      Tr.fail)
  else
    (Tr.ret ([(AVal.bool true)], h))) := by kernel_rfl
theorem F36_eq (d : Nat) (f0 : Bool) (l1 : List AVal) (f2 : Bool) (l3 : List AVal) (h : Heap) : evFn Cw (d + 1) 36 [(AVal.sl f0 3 l1), (AVal.sl f2 3 l3)] h =
  (bif (((l1.length : Int) : Int) != (l3.length : Int)) then (Tr.ret ([(AVal.bool false)], h)) else (P36_0 d rounds f0 l1 f2 l3 0 h)) := by kernel_rfl
end Go.Proofs.Ytdlcjibefbnckaa.Wa
end

section
/- Balanced trees of texts, as plain Lean. -/
namespace Go.Weave
set_option maxRecDepth 100000
set_option linter.unusedSimpArgs false
set_option linter.unusedVariables false
set_option linter.unusedSectionVars false

/-! ### The order of texts -/
abbrev blt (a b : List UInt8) : Bool := Go.Op.bytesLess a b
theorem blt_irr : ∀ a : List UInt8, blt a a = false
  | [] => rfl
  | a :: x => by
    have := blt_irr x
    simp only [blt] at this
    simp [blt, Go.Op.bytesLess, this]
theorem blt_trans : ∀ {a b c : List UInt8}, blt a b = true → blt b c = true → blt a c = true
  | [], [], _, h, _ => by simp [blt, Go.Op.bytesLess] at h
  | [], _ :: _, [], _, h => by simp [blt, Go.Op.bytesLess] at h
  | [], _ :: _, _ :: _, _, _ => rfl
  | _ :: _, [], _, h, _ => by simp [blt, Go.Op.bytesLess] at h
  | _ :: _, _ :: _, [], _, h => by simp [blt, Go.Op.bytesLess] at h
  | a :: x, b :: y, c :: z, h1, h2 => by
    have ih := fun h1 h2 => blt_trans (a := x) (b := y) (c := z) h1 h2
    simp only [blt] at ih
    simp only [blt, Go.Op.bytesLess, Bool.or_eq_true, decide_eq_true_eq, Bool.and_eq_true, beq_iff_eq] at h1 h2 ⊢
    rcases h1 with h1 | ⟨h1, h1'⟩ <;> rcases h2 with h2 | ⟨h2, h2'⟩
    · exact .inl (UInt8.lt_trans h1 h2)
    · subst h2; exact .inl h1
    · subst h1; exact .inl h2
    · subst h1; subst h2; exact .inr ⟨rfl, ih h1' h2'⟩
theorem blt_tri : ∀ {a b : List UInt8}, blt a b = false → blt b a = false → a = b
  | [], [], _, _ => rfl
  | [], _ :: _, h, _ => by simp [blt, Go.Op.bytesLess] at h
  | _ :: _, [], _, h => by simp [blt, Go.Op.bytesLess] at h
  | a :: x, b :: y, h1, h2 => by
    simp only [blt, Go.Op.bytesLess, Bool.or_eq_false_iff, decide_eq_false_iff_not, Bool.and_eq_false_iff, beq_eq_false_iff_ne] at h1 h2
    have hab : a = b := by
      have h3 := h1.1; have h4 := h2.1
      exact UInt8.le_antisymm (UInt8.not_lt.1 h4) (UInt8.not_lt.1 h3)
    subst hab
    have e : x = y := blt_tri (by simpa [blt] using h1.2) (by simpa [blt] using h2.2)
    rw [e]
theorem blt_asym {a b : List UInt8} (h : blt a b = true) : blt b a = false := by
  cases hb : blt b a
  · rfl
  · have := blt_trans h hb
    rw [blt_irr] at this; simp at this
theorem blt_ne {a b : List UInt8} (h : blt a b = true) : a ≠ b := fun e => by rw [e, blt_irr] at h; simp at h

/-! ### Sorted pairs -/
def Srt (l : List KPair) : Prop := l.Pairwise fun a b => blt a.key b.key = true
def lput (k v : List UInt8) (l : List KPair) : List KPair := l.filter (fun p => blt p.key k) ++ ⟨k, v⟩ :: l.filter (fun p => blt k p.key)
def ldel (k : List UInt8) (l : List KPair) : List KPair := l.filter (fun p => p.key != k)
def lget (k : List UInt8) (l : List KPair) : Option KPair := l.find? (fun p => p.key == k)
def lseek (k : List UInt8) (l : List KPair) : Option KPair := l.find? (fun p => !blt p.key k)
theorem filter_none {p : KPair → Bool} {l : List KPair} (h : ∀ x ∈ l, p x = false) : l.filter p = [] := by
  rw [List.filter_eq_nil_iff]; intro x hx; rw [h x hx]; simp
theorem filter_all {p : KPair → Bool} {l : List KPair} (h : ∀ x ∈ l, p x = true) : l.filter p = l := List.filter_eq_self.2 h
theorem Srt.mid {a b : List KPair} {p : KPair} (h : Srt (a ++ p :: b)) : Srt a ∧ Srt b ∧ (∀ x ∈ a, blt x.key p.key = true) ∧ (∀ x ∈ b, blt p.key x.key = true) := by
  obtain ⟨h1, h2, h3⟩ := List.pairwise_append.1 h
  obtain ⟨h4, h5⟩ := List.pairwise_cons.1 h2
  exact ⟨h1, h5, fun x hx => h3 x hx p (by simp), h4⟩
theorem lput_lt {a b : List KPair} {p : KPair} {k v : List UInt8} (h : Srt (a ++ p :: b)) (hk : blt k p.key = true) : lput k v (a ++ p :: b) = lput k v a ++ p :: b := by
  obtain ⟨_, _, h3, h4⟩ := h.mid
  have e1 : (p :: b).filter (fun q => blt q.key k) = [] := filter_none fun x hx => by
    rcases List.mem_cons.1 hx with rfl | hx
    · exact blt_asym hk
    · exact blt_asym (blt_trans hk (h4 x hx))
  have e2 : (p :: b).filter (fun q => blt k q.key) = p :: b := filter_all fun x hx => by
    rcases List.mem_cons.1 hx with rfl | hx
    · exact hk
    · exact blt_trans hk (h4 x hx)
  unfold lput
  rw [List.filter_append, List.filter_append, e1, e2]
  simp
theorem lput_gt {a b : List KPair} {p : KPair} {k v : List UInt8} (h : Srt (a ++ p :: b)) (hk : blt p.key k = true) : lput k v (a ++ p :: b) = a ++ p :: lput k v b := by
  obtain ⟨_, _, h3, h4⟩ := h.mid
  have e1 : a.filter (fun q => blt q.key k) = a := filter_all fun x hx => blt_trans (h3 x hx) hk
  have e2 : a.filter (fun q => blt k q.key) = [] := filter_none fun x hx => blt_asym (blt_trans (h3 x hx) hk)
  unfold lput
  rw [List.filter_append, List.filter_append, e1, e2, List.filter_cons, List.filter_cons, if_pos hk, if_neg (by rw [blt_asym hk]; simp)]
  simp
theorem lput_eq {a b : List KPair} {k v w : List UInt8} (h : Srt (a ++ ⟨k, w⟩ :: b)) : lput k v (a ++ ⟨k, w⟩ :: b) = a ++ ⟨k, v⟩ :: b := by
  obtain ⟨_, _, h3, h4⟩ := h.mid
  have e1 : a.filter (fun q => blt q.key k) = a := filter_all fun x hx => h3 x hx
  have e2 : a.filter (fun q => blt k q.key) = [] := filter_none fun x hx => blt_asym (h3 x hx)
  have e3 : b.filter (fun q => blt q.key k) = [] := filter_none fun x hx => blt_asym (h4 x hx)
  have e4 : b.filter (fun q => blt k q.key) = b := filter_all fun x hx => h4 x hx
  unfold lput
  rw [List.filter_append, List.filter_append, e1, e2, List.filter_cons, List.filter_cons, if_neg (by simp [blt_irr]), if_neg (by simp [blt_irr]), e3, e4]
  simp
theorem ldel_none {k : List UInt8} {l : List KPair} (h : ∀ x ∈ l, x.key ≠ k) : ldel k l = l := filter_all fun x hx => by simpa using h x hx
theorem ldel_lt {a b : List KPair} {p : KPair} {k : List UInt8} (h : Srt (a ++ p :: b)) (hk : blt k p.key = true) : ldel k (a ++ p :: b) = ldel k a ++ p :: b := by
  obtain ⟨_, _, h3, h4⟩ := h.mid
  have e : ldel k (p :: b) = p :: b := ldel_none fun x hx => by
    rcases List.mem_cons.1 hx with rfl | hx
    · exact (blt_ne hk).symm
    · exact (blt_ne (blt_trans hk (h4 x hx))).symm
  unfold ldel at e ⊢
  rw [List.filter_append, e]
theorem ldel_gt {a b : List KPair} {p : KPair} {k : List UInt8} (h : Srt (a ++ p :: b)) (hk : blt p.key k = true) : ldel k (a ++ p :: b) = a ++ p :: ldel k b := by
  obtain ⟨_, _, h3, h4⟩ := h.mid
  have e : ldel k a = a := ldel_none fun x hx => blt_ne (blt_trans (h3 x hx) hk)
  unfold ldel at e ⊢
  rw [List.filter_append, e, List.filter_cons, if_pos (by simpa using blt_ne hk)]
theorem ldel_eq {a b : List KPair} {p : KPair} (h : Srt (a ++ p :: b)) : ldel p.key (a ++ p :: b) = a ++ b := by
  obtain ⟨_, _, h3, h4⟩ := h.mid
  have e1 : ldel p.key a = a := ldel_none fun x hx => blt_ne (h3 x hx)
  have e2 : ldel p.key b = b := ldel_none fun x hx => (blt_ne (h4 x hx)).symm
  unfold ldel at e1 e2 ⊢
  rw [List.filter_append, e1, List.filter_cons, if_neg (by simp), e2]
theorem Srt.put {k v : List UInt8} {l : List KPair} (h : Srt l) : Srt (lput k v l) := by
  unfold lput
  refine List.pairwise_append.2 ⟨h.sublist List.filter_sublist, List.pairwise_cons.2 ⟨fun x hx => (List.mem_filter.1 hx).2, h.sublist List.filter_sublist⟩, fun x hx y hy => ?_⟩
  have h1 := (List.mem_filter.1 hx).2
  rcases List.mem_cons.1 hy with rfl | hy
  · exact h1
  · exact blt_trans h1 (List.mem_filter.1 hy).2
theorem Srt.del {k : List UInt8} {l : List KPair} (h : Srt l) : Srt (ldel k l) := h.sublist List.filter_sublist

/-! ### Trees -/
inductive Nd where
  | nil
  | node (k v : List UInt8) (l r : Nd) (h : Int)
def Nd.A : Nd → AVal
  | .nil => .nilp
  | .node k v l r h => .elt (.agg [.str k, .str v, l.A, r.A, .int .i64 h]) true 5 0
def Nd.high : Nd → Int
  | .nil => 0
  | .node _ _ _ _ h => h
def Nd.toL : Nd → List KPair
  | .nil => []
  | .node k v l r _ => l.toL ++ ⟨k, v⟩ :: r.toL
def Nd.dep : Nd → Nat
  | .nil => 0
  | .node _ _ l r _ => 1 + max l.dep r.dep
def Nd.Avl : Nd → Prop
  | .nil => True
  | .node _ _ l r h => l.Avl ∧ r.Avl ∧ h = 1 + max l.high r.high ∧ l.high - r.high ≤ 1 ∧ r.high - l.high ≤ 1
def Nd.mk (k v : List UInt8) (l r : Nd) : Nd := .node k v l r (1 + max l.high r.high)
def Nd.level (k v : List UInt8) (l r : Nd) : Nd :=
  if l.high > r.high + 1 then
    match l with
    | .node lk lv ll lr _ => if ll.high ≥ lr.high then .mk lk lv ll (.mk k v lr r) else
        (match lr with
        | .node rk rv rl rr _ => .mk rk rv (.mk lk lv ll rl) (.mk k v rr r)
        | .nil => .mk k v l r)
    | .nil => .mk k v l r
  else if r.high > l.high + 1 then
    match r with
    | .node rk rv rl rr _ => if rr.high ≥ rl.high then .mk rk rv (.mk k v l rl) rr else
        (match rl with
        | .node lk lv ll lr _ => .mk lk lv (.mk k v l ll) (.mk rk rv lr rr)
        | .nil => .mk k v l r)
    | .nil => .mk k v l r
  else .mk k v l r
def Nd.put (k v : List UInt8) : Nd → Nd
  | .nil => .node k v .nil .nil 1
  | .node k' v' l r h => if blt k k' then .level k' v' (l.put k v) r else if blt k' k then .level k' v' l (r.put k v) else .node k v l r h
def Nd.least (k v : List UInt8) : Nd → List UInt8 × List UInt8
  | .nil => (k, v)
  | .node k' v' l _ _ => l.least k' v'
def Nd.without (k : List UInt8) : Nd → Nd
  | .nil => .nil
  | .node k' v' l r h => if blt k k' then .level k' v' (l.without k) r else if blt k' k then .level k' v' l (r.without k) else
      match l, r with
      | .nil, r => r
      | l, .nil => l
      | l, .node rk rv rl rr rh => .level (rl.least rk rv).1 (rl.least rk rv).2 l ((Nd.node rk rv rl rr rh).without (rl.least rk rv).1)

theorem Nd.toL_node (k v : List UInt8) (l r : Nd) (h : Int) : (Nd.node k v l r h).toL = l.toL ++ ⟨k, v⟩ :: r.toL := rfl
theorem Nd.toL_mk (k v : List UInt8) (l r : Nd) : (Nd.mk k v l r).toL = l.toL ++ ⟨k, v⟩ :: r.toL := rfl
theorem Nd.toL_level (k v : List UInt8) (l r : Nd) : (Nd.level k v l r).toL = l.toL ++ ⟨k, v⟩ :: r.toL := by
  unfold Nd.level
  split
  · split
    · split
      · simp [Nd.toL_mk, Nd.toL]
      · split
        · simp [Nd.toL_mk, Nd.toL]
        · rfl
    · rfl
  · split
    · split
      · split
        · simp [Nd.toL_mk, Nd.toL]
        · split
          · simp [Nd.toL_mk, Nd.toL]
          · rfl
      · rfl
    · rfl
theorem Nd.high_node (k v : List UInt8) (l r : Nd) (h : Int) : (Nd.node k v l r h).high = h := rfl
theorem Nd.high_nil : Nd.nil.high = 0 := rfl
theorem Nd.Avl.high_nn : ∀ {t : Nd}, t.Avl → 0 ≤ t.high
  | .nil, _ => Int.le_refl _
  | .node _ _ l r _, h => by
    have h1 := Nd.Avl.high_nn h.1
    have h2 := h.2.2.1
    simp only [Nd.high_node]; omega
theorem Nd.Avl.mk {k v : List UInt8} {l r : Nd} (hl : l.Avl) (hr : r.Avl) (h1 : l.high - r.high ≤ 1) (h2 : r.high - l.high ≤ 1) : (Nd.mk k v l r).Avl := ⟨hl, hr, rfl, h1, h2⟩
theorem Nd.high_mk (k v : List UInt8) (l r : Nd) : (Nd.mk k v l r).high = 1 + max l.high r.high := rfl
theorem Nd.level_avl {k v : List UInt8} {l r : Nd} (hl : l.Avl) (hr : r.Avl) (h1 : l.high - r.high ≤ 2) (h2 : r.high - l.high ≤ 2) :
    (Nd.level k v l r).Avl ∧ max l.high r.high ≤ (Nd.level k v l r).high ∧ (Nd.level k v l r).high ≤ 1 + max l.high r.high ∧ (l.high - r.high ≤ 1 → r.high - l.high ≤ 1 → (Nd.level k v l r).high = 1 + max l.high r.high) := by
  unfold Nd.level
  split
  · rename_i c1
    split
    · rename_i lk lv ll lr lh
      obtain ⟨a1, a2, a3, a4, a5⟩ := hl
      simp only [Nd.high_node, Nd.high_nil] at c1 h1 h2
      split
      · rename_i c2
        refine ⟨.mk a1 (.mk a2 hr ?_ ?_) ?_ ?_, ?_, ?_, ?_⟩ <;> (try simp only [Nd.high_mk, Nd.high_node]) <;> omega
      · rename_i c2
        split
        · rename_i rk rv rl rr rh
          obtain ⟨b1, b2, b3, b4, b5⟩ := a2
          simp only [Nd.high_node, Nd.high_nil] at c2 a3 a4 a5
          refine ⟨.mk (.mk a1 b1 ?_ ?_) (.mk b2 hr ?_ ?_) ?_ ?_, ?_, ?_, ?_⟩ <;> (try simp only [Nd.high_mk, Nd.high_node]) <;> omega
        · have := Nd.Avl.high_nn a1
          simp only [Nd.high_node, Nd.high_nil] at c2
          omega
    · have := Nd.Avl.high_nn hr
      simp only [Nd.high_node, Nd.high_nil] at c1
      omega
  · rename_i c1
    split
    · rename_i c2
      split
      · rename_i rk rv rl rr rh
        obtain ⟨a1, a2, a3, a4, a5⟩ := hr
        simp only [Nd.high_node, Nd.high_nil] at c1 c2 h1 h2
        split
        · rename_i c3
          refine ⟨.mk (.mk hl a1 ?_ ?_) a2 ?_ ?_, ?_, ?_, ?_⟩ <;> (try simp only [Nd.high_mk, Nd.high_node]) <;> omega
        · rename_i c3
          split
          · rename_i lk lv ll lr lh
            obtain ⟨b1, b2, b3, b4, b5⟩ := a1
            simp only [Nd.high_node, Nd.high_nil] at c3 a3 a4 a5
            refine ⟨.mk (.mk hl b1 ?_ ?_) (.mk b2 a2 ?_ ?_) ?_ ?_, ?_, ?_, ?_⟩ <;> (try simp only [Nd.high_mk, Nd.high_node]) <;> omega
          · have := Nd.Avl.high_nn a2
            simp only [Nd.high_node, Nd.high_nil] at c3
            omega
      · have := Nd.Avl.high_nn hl
        simp only [Nd.high_node, Nd.high_nil] at c2
        omega
    · rename_i c2
      refine ⟨.mk hl hr ?_ ?_, ?_, ?_, ?_⟩ <;> (try simp only [Nd.high_mk]) <;> first | omega | (intro _ _; trivial)
theorem Nd.put_avl {k v : List UInt8} : ∀ {t : Nd}, t.Avl → (t.put k v).Avl ∧ t.high ≤ (t.put k v).high ∧ (t.put k v).high ≤ t.high + 1
  | .nil, _ => by simp [Nd.put, Nd.Avl, Nd.high]
  | .node k' v' l r h, a => by
    obtain ⟨a1, a2, a3, a4, a5⟩ := a
    unfold Nd.put
    split
    · obtain ⟨b1, b2, b3⟩ := Nd.put_avl (k := k) (v := v) a1
      obtain ⟨c1, c2, c3, c4⟩ := Nd.level_avl (k := k') (v := v') b1 a2 (by omega) (by omega)
      refine ⟨c1, ?_, ?_⟩ <;> simp only [Nd.high_node] <;> omega
    · split
      · obtain ⟨b1, b2, b3⟩ := Nd.put_avl (k := k) (v := v) a2
        obtain ⟨c1, c2, c3, c4⟩ := Nd.level_avl (k := k') (v := v') a1 b1 (by omega) (by omega)
        refine ⟨c1, ?_, ?_⟩ <;> simp only [Nd.high_node] <;> omega
      · refine ⟨⟨a1, a2, a3, a4, a5⟩, ?_, ?_⟩ <;> simp only [Nd.high_node] <;> omega
theorem Nd.put_toL {k v : List UInt8} : ∀ {t : Nd}, Srt t.toL → (t.put k v).toL = lput k v t.toL
  | .nil, _ => rfl
  | .node k' v' l r h, hs => by
    unfold Nd.put
    rw [Nd.toL_node] at hs ⊢
    obtain ⟨s1, s2, _, _⟩ := hs.mid
    split
    · rename_i c
      rw [Nd.toL_level, Nd.put_toL s1]
      exact (lput_lt hs c).symm
    · rename_i c
      split
      · rename_i c2
        rw [Nd.toL_level, Nd.put_toL s2]
        exact (lput_gt hs c2).symm
      · rename_i c2
        have e : k = k' := blt_tri (by simpa using c) (by simpa using c2)
        subst e
        exact (lput_eq hs).symm
theorem Nd.least_toL : ∀ {t : Nd} {k v : List UInt8} (b : List KPair), ∃ rest, t.toL ++ ⟨k, v⟩ :: b = ⟨(t.least k v).1, (t.least k v).2⟩ :: rest
  | .nil, k, v, b => ⟨b, rfl⟩
  | .node k' v' l r h, k, v, b => by
    obtain ⟨rest, e⟩ := Nd.least_toL (t := l) (k := k') (v := v') (r.toL ++ ⟨k, v⟩ :: b)
    refine ⟨rest, ?_⟩
    rw [Nd.toL_node]; unfold Nd.least
    rw [← e]; simp
theorem Nd.without_ok {k : List UInt8} : ∀ {t : Nd}, t.Avl → Srt t.toL → (∃ p ∈ t.toL, p.key = k) → (t.without k).Avl ∧ t.high - 1 ≤ (t.without k).high ∧ (t.without k).high ≤ t.high ∧ (t.without k).toL = ldel k t.toL
  | .nil, _, _, h => by obtain ⟨p, hp, _⟩ := h; simp [Nd.toL] at hp
  | .node k' v' l r h, a, hs, hk => by
    obtain ⟨a1, a2, a3, a4, a5⟩ := a
    rw [Nd.toL_node] at hs ⊢
    simp only [Nd.toL_node] at hk
    obtain ⟨s1, s2, s3, s4⟩ := hs.mid
    unfold Nd.without
    split
    · rename_i c
      have hk1 : ∃ p ∈ l.toL, p.key = k := by
        obtain ⟨p, hp, e⟩ := hk
        rcases List.mem_append.1 hp with hp | hp
        · exact ⟨p, hp, e⟩
        · rcases List.mem_cons.1 hp with rfl | hp
          · subst e; rw [blt_irr] at c; simp at c
          · have := blt_asym (s4 p hp)
            rw [e] at this
            rw [this] at c; simp at c
      obtain ⟨b1, b2, b3, b4⟩ := Nd.without_ok a1 s1 hk1
      obtain ⟨c1, c2, c3, c4⟩ := Nd.level_avl (k := k') (v := v') b1 a2 (by omega) (by omega)
      refine ⟨c1, ?_, ?_, ?_⟩
      · simp only [Nd.high_node]; omega
      · simp only [Nd.high_node]; omega
      · rw [Nd.toL_level, b4]; exact (ldel_lt hs c).symm
    · rename_i c
      split
      · rename_i c2
        have hk1 : ∃ p ∈ r.toL, p.key = k := by
          obtain ⟨p, hp, e⟩ := hk
          rcases List.mem_append.1 hp with hp | hp
          · have := blt_asym (s3 p hp)
            rw [e] at this
            rw [this] at c2; simp at c2
          · rcases List.mem_cons.1 hp with rfl | hp
            · subst e; rw [blt_irr] at c2; simp at c2
            · exact ⟨p, hp, e⟩
        obtain ⟨b1, b2, b3, b4⟩ := Nd.without_ok a2 s2 hk1
        obtain ⟨c1, c2', c3, c4⟩ := Nd.level_avl (k := k') (v := v') a1 b1 (by omega) (by omega)
        refine ⟨c1, ?_, ?_, ?_⟩
        · simp only [Nd.high_node]; omega
        · simp only [Nd.high_node]; omega
        · rw [Nd.toL_level, b4]; exact (ldel_gt hs c2).symm
      · rename_i c2
        have e : k = k' := blt_tri (by simpa using c) (by simpa using c2)
        subst e
        have hd : ldel k (l.toL ++ ⟨k, v'⟩ :: r.toL) = l.toL ++ r.toL := ldel_eq (p := ⟨k, v'⟩) hs
        rw [hd]
        split
        · refine ⟨a2, ?_, ?_, rfl⟩ <;> (have h0 := Nd.high_nil; have h2 := a2.high_nn; rw [Nd.high_node]; omega)
        · refine ⟨a1, ?_, ?_, by simp [Nd.toL]⟩ <;> (have h0 := Nd.high_nil; have h2 := a1.high_nn; rw [Nd.high_node]; omega)
        · rename_i rk rv rl rr rh _
          obtain ⟨rest, hrest⟩ := Nd.least_toL (t := rl) (k := rk) (v := rv) rr.toL
          have hR : (Nd.node rk rv rl rr rh).toL = ⟨(rl.least rk rv).1, (rl.least rk rv).2⟩ :: rest := hrest
          obtain ⟨b1, b2, b3, b4⟩ := Nd.without_ok (k := (rl.least rk rv).1) a2 s2 ⟨_, by rw [hR]; exact List.mem_cons_self, rfl⟩
          obtain ⟨c1, c2', c3, c4⟩ := Nd.level_avl (k := (rl.least rk rv).1) (v := (rl.least rk rv).2) a1 b1 (by omega) (by omega)
          refine ⟨c1, ?_, ?_, ?_⟩
          · simp only [Nd.high_node, Nd.high_nil] at *; omega
          · simp only [Nd.high_node, Nd.high_nil] at *; omega
          · rw [Nd.toL_level, b4, hR]
            rw [hR] at s2
            have := ldel_eq (a := []) (p := ⟨(rl.least rk rv).1, (rl.least rk rv).2⟩) (b := rest) s2
            simp only [List.nil_append] at this
            rw [this]
theorem Nd.dep_le : ∀ t : Nd, t.dep ≤ t.toL.length
  | .nil => Nat.le_refl _
  | .node k v l r h => by
    have h1 := Nd.dep_le l
    have h2 := Nd.dep_le r
    simp only [Nd.dep, Nd.toL, List.length_append, List.length_cons]
    omega
theorem Nd.Avl.high_le : ∀ {t : Nd}, t.Avl → t.high ≤ t.toL.length
  | .nil, _ => Int.le_refl _
  | .node k v l r h, a => by
    have h1 := Nd.Avl.high_le a.1
    have h2 := Nd.Avl.high_le a.2.1
    have h3 := a.2.2.1
    simp only [Nd.high_node, Nd.toL, List.length_append, List.length_cons]
    omega
def Nd.kv : Nd → Option KPair
  | .nil => none
  | .node k v _ _ _ => some ⟨k, v⟩
theorem rounds_gt' {n : Nat} (h : n < 4611686018427387904) : n < rounds := Nat.lt_of_lt_of_le h rounds_ge
end Go.Weave
end

section
/- Balanced trees: what the program's nodes do. -/
namespace Go.Proofs.Ytdlcjibefbnckaa.Wa
open Go Go.Weave
set_option maxRecDepth 100000
set_option linter.unusedSimpArgs false
set_option linter.unusedVariables false
set_option linter.unusedSectionVars false

theorem Heap.put_self' {h : Heap} {i : Nat} {o : Weave.Obj} (hm : h.objs[i]? = some o) : h.put i o = h := by
  obtain ⟨l⟩ := h
  simp only [Heap.put]
  congr 1
  apply List.ext_getElem?
  intro j
  rw [List.getElem?_set]
  split
  · rename_i e
    subst e
    split
    · exact hm.symm
    · rename_i hl
      rw [List.getElem?_eq_none (by omega)]
  · rfl
theorem A_nil : Nd.nil.A = .nilp := of_eq_true (eq_self _)
theorem isPtr_A (t : Nd) : AVal.isPtr t.A = true := by cases t <;> exact of_eq_true (eq_self _)
theorem isAgg_A (t : Nd) : AVal.isAgg t.A = false := by cases t <;> exact of_eq_true (eq_self _)
theorem isNilp_node (k v : List UInt8) (l r : Nd) (h : Int) : AVal.isNilp (Nd.node k v l r h).A = false := of_eq_true (eq_self _)
theorem at_nodeN {k v : List UInt8} {l r : Nd} {x : Int} {K : List AVal → Tr Res} {Q : Res → Prop} {tg : Hid Q} : Run (nodeW 5 (Nd.node k v l r x).A K) Q tg = Run (K [.str k, .str v, l.A, r.A, .int .i64 x]) Q ⟨⟩ := at_nodeW
theorem high_run {d : Nat} {t : Nd} {h : Heap} {Q : Res → Prop} {tg : Hid Q} : Run (evFn Cw (d + 1) 118 [t.A] h) Q tg = Q ([.int .i64 t.high], h) := by
  rw [F118_eq]
  cases t
  · simp (disch := (first | assumption | (simp only [Bool.and_eq_true, Bool.and_eq_false_iff, decide_eq_true_eq, decide_eq_false_iff_not, bne_iff_ne, beq_iff_eq, beq_eq_false_iff_ne, bne_eq_false_iff_eq, Bool.not_eq_true', Bool.not_eq_false', bys_length, List.length_append, List.length_cons, List.length_nil, List.length_map, List.length_drop, List.length_take, Int.natCast_add, wrap_i64_eq, wrap_u64, wrap_u8, ne_eq, not_true_eq_false, not_false_eq_true, Nat.zero_add, Nat.mul_one] <;> omega) | omega | (simp; done) | (simp; omega))) only [↓CR, MC, ↓PR, MR, A_nil, isPtr_nilp, isNilp_nilp]
    rfl
  · simp (disch := (first | assumption | (simp only [Bool.and_eq_true, Bool.and_eq_false_iff, decide_eq_true_eq, decide_eq_false_iff_not, bne_iff_ne, beq_iff_eq, beq_eq_false_iff_ne, bne_eq_false_iff_eq, Bool.not_eq_true', Bool.not_eq_false', bys_length, List.length_append, List.length_cons, List.length_nil, List.length_map, List.length_drop, List.length_take, Int.natCast_add, wrap_i64_eq, wrap_u64, wrap_u8, ne_eq, not_true_eq_false, not_false_eq_true, Nat.zero_add, Nat.mul_one] <;> omega) | omega | (simp; done) | (simp; omega))) only [↓CR, MC, ↓PR, MR, isPtr_A, at_nodeN, isNilp_node]
    rfl
theorem with_run {d : Nat} {k v : List UInt8} {a b l r : Nd} {x : Int} {h : Heap} {Q : Res → Prop} {tg : Hid Q} (hl : 0 ≤ l.high ∧ l.high ≤ 2000000) (hr : 0 ≤ r.high ∧ r.high ≤ 2000000) :
    Run (evFn Cw (d + 2) 119 [(Nd.node k v a b x).A, l.A, r.A] h) Q tg = Q ([(Nd.mk k v l r).A], h) := by
  have e : IntKind.i64.wrap (1 + (if r.high > l.high then r.high else l.high)) = 1 + max l.high r.high := by
    rw [wrap_i64_id (by split <;> omega) (by split <;> omega)]
    split <;> omega
  rw [F119_eq]
  simp (disch := (first | assumption | (simp only [Bool.and_eq_true, Bool.and_eq_false_iff, decide_eq_true_eq, decide_eq_false_iff_not, bne_iff_ne, beq_iff_eq, beq_eq_false_iff_ne, bne_eq_false_iff_eq, Bool.not_eq_true', Bool.not_eq_false', bys_length, List.length_append, List.length_cons, List.length_nil, List.length_map, List.length_drop, List.length_take, Int.natCast_add, wrap_i64_eq, wrap_u64, wrap_u8, ne_eq, not_true_eq_false, not_false_eq_true, Nat.zero_add, Nat.mul_one] <;> omega) | omega | (simp; done) | (simp; omega))) only [↓CR, MC, ↓PR, MR, at_nodeN, high_run, isAgg_A, e, Bool.not_false, Bool.and_true]
  rfl
theorem level_run {d : Nat} {k v : List UInt8} {a b l r : Nd} {x : Int} {h : Heap} {Q : Res → Prop} {tg : Hid Q} (hl : l.Avl) (hr : r.Avl) (bl : l.high ≤ 1000000) (br : r.high ≤ 1000000) :
    Run (evFn Cw (d + 3) 101 [(Nd.node k v a b x).A, l.A, r.A] h) Q tg = Q ([(Nd.level k v l r).A], h) := by
  have nl := hl.high_nn
  have nr := hr.high_nn
  have e1 : IntKind.i64.wrap (r.high + 1) = r.high + 1 := wrap_i64_id (by omega) (by omega)
  have e2 : IntKind.i64.wrap (l.high + 1) = l.high + 1 := wrap_i64_id (by omega) (by omega)
  rw [F101_eq]
  unfold Nd.level
  by_cases c1 : l.high > r.high + 1
  · rw [if_pos c1]
    cases l with
    | nil => rw [Nd.high_nil] at c1; omega
    | node lk lv ll lr lh =>
      obtain ⟨a1, a2, a3, a4, a5⟩ := hl
      have n1 := a1.high_nn
      have n2 := a2.high_nn
      simp only [Nd.high_node] at c1 bl nl e2 ⊢
      by_cases c2 : ll.high ≥ lr.high
      · rw [if_pos c2]
        have b1 : 0 ≤ (Nd.mk k v lr r).high ∧ (Nd.mk k v lr r).high ≤ 2000000 := by rw [Nd.high_mk]; omega
        have w1 := fun (Q : Res → Prop) (tg : Hid Q) => with_run (d := d) (k := k) (v := v) (a := a) (b := b) (l := lr) (r := r) (x := x) (h := h) (Q := Q) (tg := tg) (by omega) (by omega)
        have w2 := fun (Q : Res → Prop) (tg : Hid Q) => with_run (d := d) (k := lk) (v := lv) (a := ll) (b := lr) (l := ll) (r := Nd.mk k v lr r) (x := lh) (h := h) (Q := Q) (tg := tg) (by omega) b1
        simp (disch := (first | assumption | (simp only [Bool.and_eq_true, Bool.and_eq_false_iff, decide_eq_true_eq, decide_eq_false_iff_not, bne_iff_ne, beq_iff_eq, beq_eq_false_iff_ne, bne_eq_false_iff_eq, Bool.not_eq_true', Bool.not_eq_false', bys_length, List.length_append, List.length_cons, List.length_nil, List.length_map, List.length_drop, List.length_take, Int.natCast_add, wrap_i64_eq, wrap_u64, wrap_u8, ne_eq, not_true_eq_false, not_false_eq_true, Nat.zero_add, Nat.mul_one] <;> omega) | omega | (simp; done) | (simp; omega))) only [↓CR, MC, ↓PR, MR, high_run, Nd.high_node, e1, at_nodeN, w1, w2]
      · rw [if_neg c2]
        cases lr with
        | nil => rw [Nd.high_nil] at c2; omega
        | node rk rv rl rr rh =>
          obtain ⟨b1, b2, b3, b4, b5⟩ := a2
          have n3 := b1.high_nn
          have n4 := b2.high_nn
          simp only [Nd.high_node] at c2 a3 a4 a5 n2
          have b1' : 0 ≤ (Nd.mk lk lv ll rl).high ∧ (Nd.mk lk lv ll rl).high ≤ 2000000 := by rw [Nd.high_mk]; omega
          have b2' : 0 ≤ (Nd.mk k v rr r).high ∧ (Nd.mk k v rr r).high ≤ 2000000 := by rw [Nd.high_mk]; omega
          have w1 := fun (Q : Res → Prop) (tg : Hid Q) => with_run (d := d) (k := lk) (v := lv) (a := ll) (b := .node rk rv rl rr rh) (l := ll) (r := rl) (x := lh) (h := h) (Q := Q) (tg := tg) (by omega) (by omega)
          have w2 := fun (Q : Res → Prop) (tg : Hid Q) => with_run (d := d) (k := k) (v := v) (a := a) (b := b) (l := rr) (r := r) (x := x) (h := h) (Q := Q) (tg := tg) (by omega) (by omega)
          have w3 := fun (Q : Res → Prop) (tg : Hid Q) => with_run (d := d) (k := rk) (v := rv) (a := rl) (b := rr) (l := Nd.mk lk lv ll rl) (r := Nd.mk k v rr r) (x := rh) (h := h) (Q := Q) (tg := tg) b1' b2'
          have hh : Nd.high (.node rk rv rl rr rh) = rh := rfl
          simp (disch := (first | assumption | (simp only [Bool.and_eq_true, Bool.and_eq_false_iff, decide_eq_true_eq, decide_eq_false_iff_not, bne_iff_ne, beq_iff_eq, beq_eq_false_iff_ne, bne_eq_false_iff_eq, Bool.not_eq_true', Bool.not_eq_false', bys_length, List.length_append, List.length_cons, List.length_nil, List.length_map, List.length_drop, List.length_take, Int.natCast_add, wrap_i64_eq, wrap_u64, wrap_u8, ne_eq, not_true_eq_false, not_false_eq_true, Nat.zero_add, Nat.mul_one] <;> omega) | omega | (simp; done) | (simp; omega))) only [↓CR, MC, ↓PR, MR, high_run, Nd.high_node, e1, at_nodeN, w1, w2, w3]
  · rw [if_neg c1]
    by_cases c2 : r.high > l.high + 1
    · rw [if_pos c2]
      cases r with
      | nil => rw [Nd.high_nil] at c2; omega
      | node rk rv rl rr rh =>
        obtain ⟨a1, a2, a3, a4, a5⟩ := hr
        have n1 := a1.high_nn
        have n2 := a2.high_nn
        simp only [Nd.high_node] at c1 c2 br nr e1 ⊢
        by_cases c3 : rr.high ≥ rl.high
        · rw [if_pos c3]
          have b1 : 0 ≤ (Nd.mk k v l rl).high ∧ (Nd.mk k v l rl).high ≤ 2000000 := by rw [Nd.high_mk]; omega
          have w1 := fun (Q : Res → Prop) (tg : Hid Q) => with_run (d := d) (k := k) (v := v) (a := a) (b := b) (l := l) (r := rl) (x := x) (h := h) (Q := Q) (tg := tg) (by omega) (by omega)
          have w2 := fun (Q : Res → Prop) (tg : Hid Q) => with_run (d := d) (k := rk) (v := rv) (a := rl) (b := rr) (l := Nd.mk k v l rl) (r := rr) (x := rh) (h := h) (Q := Q) (tg := tg) b1 (by omega)
          simp (disch := (first | assumption | (simp only [Bool.and_eq_true, Bool.and_eq_false_iff, decide_eq_true_eq, decide_eq_false_iff_not, bne_iff_ne, beq_iff_eq, beq_eq_false_iff_ne, bne_eq_false_iff_eq, Bool.not_eq_true', Bool.not_eq_false', bys_length, List.length_append, List.length_cons, List.length_nil, List.length_map, List.length_drop, List.length_take, Int.natCast_add, wrap_i64_eq, wrap_u64, wrap_u8, ne_eq, not_true_eq_false, not_false_eq_true, Nat.zero_add, Nat.mul_one] <;> omega) | omega | (simp; done) | (simp; omega))) only [↓CR, MC, ↓PR, MR, high_run, Nd.high_node, e1, e2, at_nodeN, w1, w2]
        · rw [if_neg c3]
          cases rl with
          | nil => rw [Nd.high_nil] at c3; omega
          | node lk lv ll lr lh =>
            obtain ⟨b1, b2, b3, b4, b5⟩ := a1
            have n3 := b1.high_nn
            have n4 := b2.high_nn
            simp only [Nd.high_node] at c3 a3 a4 a5 n1
            have b1' : 0 ≤ (Nd.mk k v l ll).high ∧ (Nd.mk k v l ll).high ≤ 2000000 := by rw [Nd.high_mk]; omega
            have b2' : 0 ≤ (Nd.mk rk rv lr rr).high ∧ (Nd.mk rk rv lr rr).high ≤ 2000000 := by rw [Nd.high_mk]; omega
            have w1 := fun (Q : Res → Prop) (tg : Hid Q) => with_run (d := d) (k := k) (v := v) (a := a) (b := b) (l := l) (r := ll) (x := x) (h := h) (Q := Q) (tg := tg) (by omega) (by omega)
            have w2 := fun (Q : Res → Prop) (tg : Hid Q) => with_run (d := d) (k := rk) (v := rv) (a := .node lk lv ll lr lh) (b := rr) (l := lr) (r := rr) (x := rh) (h := h) (Q := Q) (tg := tg) (by omega) (by omega)
            have w3 := fun (Q : Res → Prop) (tg : Hid Q) => with_run (d := d) (k := lk) (v := lv) (a := ll) (b := lr) (l := Nd.mk k v l ll) (r := Nd.mk rk rv lr rr) (x := lh) (h := h) (Q := Q) (tg := tg) b1' b2'
            simp (disch := (first | assumption | (simp only [Bool.and_eq_true, Bool.and_eq_false_iff, decide_eq_true_eq, decide_eq_false_iff_not, bne_iff_ne, beq_iff_eq, beq_eq_false_iff_ne, bne_eq_false_iff_eq, Bool.not_eq_true', Bool.not_eq_false', bys_length, List.length_append, List.length_cons, List.length_nil, List.length_map, List.length_drop, List.length_take, Int.natCast_add, wrap_i64_eq, wrap_u64, wrap_u8, ne_eq, not_true_eq_false, not_false_eq_true, Nat.zero_add, Nat.mul_one] <;> omega) | omega | (simp; done) | (simp; omega))) only [↓CR, MC, ↓PR, MR, high_run, Nd.high_node, e1, e2, at_nodeN, w1, w2, w3]
    · rw [if_neg c2]
      have w1 := fun (Q : Res → Prop) (tg : Hid Q) => with_run (d := d) (k := k) (v := v) (a := a) (b := b) (l := l) (r := r) (x := x) (h := h) (Q := Q) (tg := tg) (by omega) (by omega)
      simp (disch := (first | assumption | (simp only [Bool.and_eq_true, Bool.and_eq_false_iff, decide_eq_true_eq, decide_eq_false_iff_not, bne_iff_ne, beq_iff_eq, beq_eq_false_iff_ne, bne_eq_false_iff_eq, Bool.not_eq_true', Bool.not_eq_false', bys_length, List.length_append, List.length_cons, List.length_nil, List.length_map, List.length_drop, List.length_take, Int.natCast_add, wrap_i64_eq, wrap_u64, wrap_u8, ne_eq, not_true_eq_false, not_false_eq_true, Nat.zero_add, Nat.mul_one] <;> omega) | omega | (simp; done) | (simp; omega))) only [↓CR, MC, ↓PR, MR, high_run, e1, e2, w1]

theorem put_nd : ∀ (t : Nd) (d : Nat), t.dep + 6 ≤ d → t.Avl → t.high ≤ 900000 → ∀ (k v : List UInt8) (h : Heap) (Q : Res → Prop) (tg : Hid Q),
    Run (evFn Cw d 82 [t.A, .str k, .str v] h) Q tg = Q ([(t.put k v).A], h) := by
  intro t
  induction t with
  | nil =>
    intro d hd _ _ k v h Q tg
    obtain ⟨d, rfl⟩ : ∃ e, d = e + 6 := ⟨d - 6, by omega⟩
    rw [F82_eq]
    simp (disch := (first | assumption | (simp only [Bool.and_eq_true, Bool.and_eq_false_iff, decide_eq_true_eq, decide_eq_false_iff_not, bne_iff_ne, beq_iff_eq, beq_eq_false_iff_ne, bne_eq_false_iff_eq, Bool.not_eq_true', Bool.not_eq_false', bys_length, List.length_append, List.length_cons, List.length_nil, List.length_map, List.length_drop, List.length_take, Int.natCast_add, wrap_i64_eq, wrap_u64, wrap_u8, ne_eq, not_true_eq_false, not_false_eq_true, Nat.zero_add, Nat.mul_one] <;> omega) | omega | (simp; done) | (simp; omega))) only [↓CR, MC, ↓PR, MR, A_nil, isPtr_nilp, isNilp_nilp]
    rfl
  | node k' v' l r x ihl ihr =>
    intro d hd ha hb k v h Q tg
    obtain ⟨d, rfl⟩ : ∃ e, d = e + 4 := ⟨d - 4, by omega⟩
    have ha' := ha
    obtain ⟨a1, a2, a3, a4, a5⟩ := ha
    simp only [Nd.high_node] at hb
    have n1 := a1.high_nn
    have n2 := a2.high_nn
    have q1 := ihl (d + 3) (by simp only [Nd.dep] at hd; omega) a1 (by omega) k v h
    have q2 := ihr (d + 3) (by simp only [Nd.dep] at hd; omega) a2 (by omega) k v h
    have ⟨p1, p2, p3⟩ := Nd.put_avl (k := k) (v := v) a1
    have ⟨p4, p5, p6⟩ := Nd.put_avl (k := k) (v := v) a2
    have w1 := fun (Q : Res → Prop) (tg : Hid Q) => level_run (d := d) (k := k') (v := v') (a := l) (b := r) (l := l.put k v) (r := r) (x := x) (h := h) (Q := Q) (tg := tg) p1 a2 (by omega) (by omega)
    have w2 := fun (Q : Res → Prop) (tg : Hid Q) => level_run (d := d) (k := k') (v := v') (a := l) (b := r) (l := l) (r := r.put k v) (x := x) (h := h) (Q := Q) (tg := tg) a1 p4 (by omega) (by omega)
    rw [F82_eq]
    unfold Nd.put
    by_cases c1 : blt k k' = true
    · have c1' : Go.Op.bytesLess k k' = true := c1
      rw [if_pos c1]
      simp (disch := (first | assumption | (simp only [Bool.and_eq_true, Bool.and_eq_false_iff, decide_eq_true_eq, decide_eq_false_iff_not, bne_iff_ne, beq_iff_eq, beq_eq_false_iff_ne, bne_eq_false_iff_eq, Bool.not_eq_true', Bool.not_eq_false', bys_length, List.length_append, List.length_cons, List.length_nil, List.length_map, List.length_drop, List.length_take, Int.natCast_add, wrap_i64_eq, wrap_u64, wrap_u8, ne_eq, not_true_eq_false, not_false_eq_true, Nat.zero_add, Nat.mul_one] <;> omega) | omega | (simp; done) | (simp; omega))) only [↓CR, MC, ↓PR, MR, isPtr_A, isNilp_node, at_nodeN, c1', q1, w1]
    · have c1' : Go.Op.bytesLess k k' = false := by simpa using c1
      rw [if_neg c1]
      by_cases c2 : blt k' k = true
      · have c2' : (k == k') = false := by simpa using (blt_ne c2).symm
        rw [if_pos c2]
        simp (disch := (first | assumption | (simp only [Bool.and_eq_true, Bool.and_eq_false_iff, decide_eq_true_eq, decide_eq_false_iff_not, bne_iff_ne, beq_iff_eq, beq_eq_false_iff_ne, bne_eq_false_iff_eq, Bool.not_eq_true', Bool.not_eq_false', bys_length, List.length_append, List.length_cons, List.length_nil, List.length_map, List.length_drop, List.length_take, Int.natCast_add, wrap_i64_eq, wrap_u64, wrap_u8, ne_eq, not_true_eq_false, not_false_eq_true, Nat.zero_add, Nat.mul_one] <;> omega) | omega | (simp; done) | (simp; omega))) only [↓CR, MC, ↓PR, MR, isPtr_A, isNilp_node, at_nodeN, c1', c2', Bool.or_false, Bool.not_false, q2, w2]
      · have e : k = k' := blt_tri (by simpa using c1) (by simpa using c2)
        subst e
        rw [if_neg c2]
        have e2 : (k == k) = true := by simp
        simp (disch := (first | assumption | (simp only [Bool.and_eq_true, Bool.and_eq_false_iff, decide_eq_true_eq, decide_eq_false_iff_not, bne_iff_ne, beq_iff_eq, beq_eq_false_iff_ne, bne_eq_false_iff_eq, Bool.not_eq_true', Bool.not_eq_false', bys_length, List.length_append, List.length_cons, List.length_nil, List.length_map, List.length_drop, List.length_take, Int.natCast_add, wrap_i64_eq, wrap_u64, wrap_u8, ne_eq, not_true_eq_false, not_false_eq_true, Nat.zero_add, Nat.mul_one] <;> omega) | omega | (simp; done) | (simp; omega))) only [↓CR, MC, ↓PR, MR, isPtr_A, isNilp_node, at_nodeN, c1', e2, Bool.or_true, Bool.not_true, isAgg_A, Bool.not_false, Bool.and_true]
        rfl
theorem least_loop (d : Nat) (h : Heap) : ∀ (l : Nd) (k v : List UInt8) (r : Nd) (x : Int) (n : Nat), l.dep < n → ∃ a b y, ∀ (Q : Res → Prop) (tg : Hid Q),
    Run (P102_0 d n (Nd.node k v l r x).A h) Q tg = Q ([(Nd.node (l.least k v).1 (l.least k v).2 a b y).A], h) := by
  intro l
  induction l with
  | nil =>
    intro k v r x n hn
    obtain ⟨n, rfl⟩ : ∃ e, n = e + 1 := ⟨n - 1, by omega⟩
    refine ⟨.nil, r, x, fun Q tg => ?_⟩
    rw [P102_0_eq]
    simp (disch := (first | assumption | (simp only [Bool.and_eq_true, Bool.and_eq_false_iff, decide_eq_true_eq, decide_eq_false_iff_not, bne_iff_ne, beq_iff_eq, beq_eq_false_iff_ne, bne_eq_false_iff_eq, Bool.not_eq_true', Bool.not_eq_false', bys_length, List.length_append, List.length_cons, List.length_nil, List.length_map, List.length_drop, List.length_take, Int.natCast_add, wrap_i64_eq, wrap_u64, wrap_u8, ne_eq, not_true_eq_false, not_false_eq_true, Nat.zero_add, Nat.mul_one] <;> omega) | omega | (simp; done) | (simp; omega))) only [↓CR, MC, ↓PR, MR, at_nodeN, A_nil, isPtr_nilp, isNilp_nilp]
    rfl
  | node k' v' l' r' x' ih _ =>
    intro k v r x n hn
    obtain ⟨n, rfl⟩ : ∃ e, n = e + 1 := ⟨n - 1, by omega⟩
    obtain ⟨a, b, y, q⟩ := ih k' v' r' x' n (by simp only [Nd.dep] at hn; omega)
    refine ⟨a, b, y, fun Q tg => ?_⟩
    rw [P102_0_eq]
    simp (disch := (first | assumption | (simp only [Bool.and_eq_true, Bool.and_eq_false_iff, decide_eq_true_eq, decide_eq_false_iff_not, bne_iff_ne, beq_iff_eq, beq_eq_false_iff_ne, bne_eq_false_iff_eq, Bool.not_eq_true', Bool.not_eq_false', bys_length, List.length_append, List.length_cons, List.length_nil, List.length_map, List.length_drop, List.length_take, Int.natCast_add, wrap_i64_eq, wrap_u64, wrap_u8, ne_eq, not_true_eq_false, not_false_eq_true, Nat.zero_add, Nat.mul_one] <;> omega) | omega | (simp; done) | (simp; omega))) only [↓CR, MC, ↓PR, MR, at_nodeN, isPtr_A, isNilp_node, q]
    rfl
theorem least_run (d : Nat) (h : Heap) (l : Nd) (k v : List UInt8) (r : Nd) (x : Int) (hl : l.dep ≤ 1000000) : ∃ a b y, ∀ (Q : Res → Prop) (tg : Hid Q),
    Run (evFn Cw (d + 1) 102 [(Nd.node k v l r x).A] h) Q tg = Q ([(Nd.node (l.least k v).1 (l.least k v).2 a b y).A], h) := by
  obtain ⟨a, b, y, q⟩ := least_loop d h l k v r x rounds (rounds_gt' (by omega))
  refine ⟨a, b, y, fun Q tg => ?_⟩
  rw [F102_eq]
  exact q Q tg
theorem without_nd : ∀ (t : Nd) (d : Nat), t.dep + 6 ≤ d → t.dep ≤ 1000000 → t.Avl → t.high ≤ 900000 → Srt t.toL → ∀ (k : List UInt8), (∃ p ∈ t.toL, p.key = k) → ∀ (h : Heap) (Q : Res → Prop) (tg : Hid Q),
    Run (evFn Cw d 83 [t.A, .str k] h) Q tg = Q ([(t.without k).A], h) := by
  intro t
  induction t with
  | nil =>
    intro d hd _ _ _ _ k hk
    obtain ⟨p, hp, _⟩ := hk
    simp [Nd.toL] at hp
  | node k' v' l r x ihl ihr =>
    intro d hd hdep ha hb hs k hk h Q tg
    obtain ⟨d, rfl⟩ : ∃ e, d = e + 4 := ⟨d - 4, by omega⟩
    obtain ⟨a1, a2, a3, a4, a5⟩ := ha
    simp only [Nd.high_node] at hb
    have n1 := a1.high_nn
    have n2 := a2.high_nn
    simp only [Nd.dep] at hd hdep
    rw [Nd.toL_node] at hs
    simp only [Nd.toL_node] at hk
    obtain ⟨s1, s2, s3, s4⟩ := hs.mid
    rw [F83_eq]
    unfold Nd.without
    by_cases c1 : blt k k' = true
    · have c1' : Go.Op.bytesLess k k' = true := c1
      rw [if_pos c1]
      have hk1 : ∃ p ∈ l.toL, p.key = k := by
        obtain ⟨p, hp, e⟩ := hk
        rcases List.mem_append.1 hp with hp | hp
        · exact ⟨p, hp, e⟩
        · rcases List.mem_cons.1 hp with rfl | hp
          · subst e; rw [blt_irr] at c1; simp at c1
          · have := blt_asym (s4 p hp)
            rw [e] at this
            rw [this] at c1; simp at c1
      obtain ⟨b1, b2, b3, b4⟩ := Nd.without_ok a1 s1 hk1
      have q1 := ihl (d + 3) (by omega) (by omega) a1 (by omega) s1 k hk1 h
      have w1 := fun (Q : Res → Prop) (tg : Hid Q) => level_run (d := d) (k := k') (v := v') (a := l) (b := r) (l := l.without k) (r := r) (x := x) (h := h) (Q := Q) (tg := tg) b1 a2 (by omega) (by omega)
      simp (disch := (first | assumption | (simp only [Bool.and_eq_true, Bool.and_eq_false_iff, decide_eq_true_eq, decide_eq_false_iff_not, bne_iff_ne, beq_iff_eq, beq_eq_false_iff_ne, bne_eq_false_iff_eq, Bool.not_eq_true', Bool.not_eq_false', bys_length, List.length_append, List.length_cons, List.length_nil, List.length_map, List.length_drop, List.length_take, Int.natCast_add, wrap_i64_eq, wrap_u64, wrap_u8, ne_eq, not_true_eq_false, not_false_eq_true, Nat.zero_add, Nat.mul_one] <;> omega) | omega | (simp; done) | (simp; omega))) only [↓CR, MC, ↓PR, MR, at_nodeN, c1', q1, w1]
    · have c1' : Go.Op.bytesLess k k' = false := by simpa using c1
      rw [if_neg c1]
      by_cases c2 : blt k' k = true
      · have c2' : (k == k') = false := by simpa using (blt_ne c2).symm
        rw [if_pos c2]
        have hk1 : ∃ p ∈ r.toL, p.key = k := by
          obtain ⟨p, hp, e⟩ := hk
          rcases List.mem_append.1 hp with hp | hp
          · have := blt_asym (s3 p hp)
            rw [e] at this
            rw [this] at c2; simp at c2
          · rcases List.mem_cons.1 hp with rfl | hp
            · subst e; rw [blt_irr] at c2; simp at c2
            · exact ⟨p, hp, e⟩
        obtain ⟨b1, b2, b3, b4⟩ := Nd.without_ok a2 s2 hk1
        have q1 := ihr (d + 3) (by omega) (by omega) a2 (by omega) s2 k hk1 h
        have w1 := fun (Q : Res → Prop) (tg : Hid Q) => level_run (d := d) (k := k') (v := v') (a := l) (b := r) (l := l) (r := r.without k) (x := x) (h := h) (Q := Q) (tg := tg) a1 b1 (by omega) (by omega)
        simp (disch := (first | assumption | (simp only [Bool.and_eq_true, Bool.and_eq_false_iff, decide_eq_true_eq, decide_eq_false_iff_not, bne_iff_ne, beq_iff_eq, beq_eq_false_iff_ne, bne_eq_false_iff_eq, Bool.not_eq_true', Bool.not_eq_false', bys_length, List.length_append, List.length_cons, List.length_nil, List.length_map, List.length_drop, List.length_take, Int.natCast_add, wrap_i64_eq, wrap_u64, wrap_u8, ne_eq, not_true_eq_false, not_false_eq_true, Nat.zero_add, Nat.mul_one] <;> omega) | omega | (simp; done) | (simp; omega))) only [↓CR, MC, ↓PR, MR, at_nodeN, c1', c2', Bool.or_false, Bool.not_false, q1, w1]
      · have e : k = k' := blt_tri (by simpa using c1) (by simpa using c2)
        subst e
        rw [if_neg c2]
        have e2 : (k == k) = true := by simp
        cases l with
        | nil =>
          simp (disch := (first | assumption | (simp only [Bool.and_eq_true, Bool.and_eq_false_iff, decide_eq_true_eq, decide_eq_false_iff_not, bne_iff_ne, beq_iff_eq, beq_eq_false_iff_ne, bne_eq_false_iff_eq, Bool.not_eq_true', Bool.not_eq_false', bys_length, List.length_append, List.length_cons, List.length_nil, List.length_map, List.length_drop, List.length_take, Int.natCast_add, wrap_i64_eq, wrap_u64, wrap_u8, ne_eq, not_true_eq_false, not_false_eq_true, Nat.zero_add, Nat.mul_one] <;> omega) | omega | (simp; done) | (simp; omega))) only [↓CR, MC, ↓PR, MR, at_nodeN, c1', e2, Bool.or_true, Bool.not_true, A_nil, isPtr_nilp, isNilp_nilp]
        | node lk lv ll lr lh =>
          cases r with
          | nil =>
            simp (disch := (first | assumption | (simp only [Bool.and_eq_true, Bool.and_eq_false_iff, decide_eq_true_eq, decide_eq_false_iff_not, bne_iff_ne, beq_iff_eq, beq_eq_false_iff_ne, bne_eq_false_iff_eq, Bool.not_eq_true', Bool.not_eq_false', bys_length, List.length_append, List.length_cons, List.length_nil, List.length_map, List.length_drop, List.length_take, Int.natCast_add, wrap_i64_eq, wrap_u64, wrap_u8, ne_eq, not_true_eq_false, not_false_eq_true, Nat.zero_add, Nat.mul_one] <;> omega) | omega | (simp; done) | (simp; omega))) only [↓CR, MC, ↓PR, MR, at_nodeN, c1', e2, Bool.or_true, Bool.not_true, isPtr_A, isNilp_node, A_nil, isPtr_nilp, isNilp_nilp]
          | node rk rv rl rr rh =>
            simp only [Nd.dep] at hd hdep
            obtain ⟨a, b, y, ql⟩ := least_run (d + 2) h rl rk rv rr rh (by omega)
            obtain ⟨rest, hrest⟩ := Nd.least_toL (t := rl) (k := rk) (v := rv) rr.toL
            have hR : (Nd.node rk rv rl rr rh).toL = ⟨(rl.least rk rv).1, (rl.least rk rv).2⟩ :: rest := hrest
            have hmem : ∃ p ∈ (Nd.node rk rv rl rr rh).toL, p.key = (rl.least rk rv).1 := ⟨_, by rw [hR]; exact List.mem_cons_self, rfl⟩
            obtain ⟨b1, b2, b3, b4⟩ := Nd.without_ok (k := (rl.least rk rv).1) a2 s2 hmem
            have q1 := ihr (d + 3) (by simp only [Nd.dep]; omega) (by simp only [Nd.dep]; omega) a2 (by omega) s2 (rl.least rk rv).1 hmem h
            have w1 := fun (Q : Res → Prop) (tg : Hid Q) => level_run (d := d) (k := (rl.least rk rv).1) (v := (rl.least rk rv).2) (a := a) (b := b) (l := .node lk lv ll lr lh) (r := (Nd.node rk rv rl rr rh).without (rl.least rk rv).1) (x := y) (h := h) (Q := Q) (tg := tg) a1 b1 (by omega) (by omega)
            simp (disch := (first | assumption | (simp only [Bool.and_eq_true, Bool.and_eq_false_iff, decide_eq_true_eq, decide_eq_false_iff_not, bne_iff_ne, beq_iff_eq, beq_eq_false_iff_ne, bne_eq_false_iff_eq, Bool.not_eq_true', Bool.not_eq_false', bys_length, List.length_append, List.length_cons, List.length_nil, List.length_map, List.length_drop, List.length_take, Int.natCast_add, wrap_i64_eq, wrap_u64, wrap_u8, ne_eq, not_true_eq_false, not_false_eq_true, Nat.zero_add, Nat.mul_one] <;> omega) | omega | (simp; done) | (simp; omega))) only [↓CR, MC, ↓PR, MR, at_nodeN, c1', e2, Bool.or_true, Bool.not_true, isPtr_A, isNilp_node, ql, q1, w1]

/-! ### Looks -/
def tellK : Option KPair → List AVal
  | none => [.str [], .str [], .bool false]
  | some p => [.str p.key, .str p.val, .bool true]
theorem told_run {d : Nat} {t : Nd} {h : Heap} {Q : Res → Prop} {tg : Hid Q} : Run (evFn Cw (d + 1) 99 [t.A] h) Q tg = Q (tellK t.kv, h) := by
  rw [F99_eq]
  cases t
  · simp (disch := (first | assumption | (simp only [Bool.and_eq_true, Bool.and_eq_false_iff, decide_eq_true_eq, decide_eq_false_iff_not, bne_iff_ne, beq_iff_eq, beq_eq_false_iff_ne, bne_eq_false_iff_eq, Bool.not_eq_true', Bool.not_eq_false', bys_length, List.length_append, List.length_cons, List.length_nil, List.length_map, List.length_drop, List.length_take, Int.natCast_add, wrap_i64_eq, wrap_u64, wrap_u8, ne_eq, not_true_eq_false, not_false_eq_true, Nat.zero_add, Nat.mul_one] <;> omega) | omega | (simp; done) | (simp; omega))) only [↓CR, MC, ↓PR, MR, A_nil, isPtr_nilp, isNilp_nilp]
    rfl
  · simp (disch := (first | assumption | (simp only [Bool.and_eq_true, Bool.and_eq_false_iff, decide_eq_true_eq, decide_eq_false_iff_not, bne_iff_ne, beq_iff_eq, beq_eq_false_iff_ne, bne_eq_false_iff_eq, Bool.not_eq_true', Bool.not_eq_false', bys_length, List.length_append, List.length_cons, List.length_nil, List.length_map, List.length_drop, List.length_take, Int.natCast_add, wrap_i64_eq, wrap_u64, wrap_u8, ne_eq, not_true_eq_false, not_false_eq_true, Nat.zero_add, Nat.mul_one] <;> omega) | omega | (simp; done) | (simp; omega))) only [↓CR, MC, ↓PR, MR, isPtr_A, isNilp_node, at_nodeN]
    rfl
theorem seek_find {s : List UInt8} {a b : List KPair} {p : KPair} (hs : Srt (a ++ p :: b)) : lseek s (a ++ p :: b) = if blt p.key s then lseek s b else (lseek s a).or (some p) := by
  obtain ⟨_, _, h3, _⟩ := hs.mid
  unfold lseek
  rw [List.find?_append, List.find?_cons]
  by_cases c : blt p.key s = true
  · rw [if_pos c]
    have : List.find? (fun q => !blt q.key s) a = none := by
      rw [List.find?_eq_none]
      intro x hx
      simp [blt_trans (h3 x hx) c]
    rw [this, c]; rfl
  · have c' : blt p.key s = false := by simpa using c
    rw [if_neg c, c']; rfl
theorem seek_loop (d : Nat) (h : Heap) (s : List UInt8) : ∀ (t best : Nd) (n : Nat), t.dep < n → Srt t.toL → ∀ (Q : Res → Prop) (tg : Hid Q),
    Run (P75_0 (d + 1) n s best.A t.A h) Q tg = Q (tellK ((lseek s t.toL).or best.kv), h) := by
  intro t
  induction t with
  | nil =>
    intro best n hn _ Q tg
    obtain ⟨n, rfl⟩ : ∃ e, n = e + 1 := ⟨n - 1, by omega⟩
    have e : (lseek s Nd.nil.toL).or best.kv = best.kv := of_eq_true (eq_self _)
    rw [P75_0_eq, e]
    cases hb : best.kv <;> simp (disch := (first | assumption | (simp only [Bool.and_eq_true, Bool.and_eq_false_iff, decide_eq_true_eq, decide_eq_false_iff_not, bne_iff_ne, beq_iff_eq, beq_eq_false_iff_ne, bne_eq_false_iff_eq, Bool.not_eq_true', Bool.not_eq_false', bys_length, List.length_append, List.length_cons, List.length_nil, List.length_map, List.length_drop, List.length_take, Int.natCast_add, wrap_i64_eq, wrap_u64, wrap_u8, ne_eq, not_true_eq_false, not_false_eq_true, Nat.zero_add, Nat.mul_one] <;> omega) | omega | (simp; done) | (simp; omega))) only [↓CR, MC, ↓PR, MR, A_nil, isPtr_nilp, isNilp_nilp, told_run, hb, tellK]
  | node k v l r x ihl ihr =>
    intro best n hn hs Q tg
    obtain ⟨n, rfl⟩ : ∃ e, n = e + 1 := ⟨n - 1, by omega⟩
    simp only [Nd.dep] at hn
    rw [Nd.toL_node] at hs ⊢
    obtain ⟨s1, s2, _, _⟩ := hs.mid
    rw [seek_find hs, P75_0_eq]
    by_cases c : blt k s = true
    · have c' : Go.Op.bytesLess k s = true := c
      rw [if_pos c]
      simp (disch := (first | assumption | (simp only [Bool.and_eq_true, Bool.and_eq_false_iff, decide_eq_true_eq, decide_eq_false_iff_not, bne_iff_ne, beq_iff_eq, beq_eq_false_iff_ne, bne_eq_false_iff_eq, Bool.not_eq_true', Bool.not_eq_false', bys_length, List.length_append, List.length_cons, List.length_nil, List.length_map, List.length_drop, List.length_take, Int.natCast_add, wrap_i64_eq, wrap_u64, wrap_u8, ne_eq, not_true_eq_false, not_false_eq_true, Nat.zero_add, Nat.mul_one] <;> omega) | omega | (simp; done) | (simp; omega))) only [↓CR, MC, ↓PR, MR, isPtr_A, isNilp_node, Bool.not_false, at_nodeN, c']
      exact ihr best n (by omega) s2 Q ⟨⟩
    · have c' : Go.Op.bytesLess k s = false := by simpa using c
      rw [if_neg c]
      simp (disch := (first | assumption | (simp only [Bool.and_eq_true, Bool.and_eq_false_iff, decide_eq_true_eq, decide_eq_false_iff_not, bne_iff_ne, beq_iff_eq, beq_eq_false_iff_ne, bne_eq_false_iff_eq, Bool.not_eq_true', Bool.not_eq_false', bys_length, List.length_append, List.length_cons, List.length_nil, List.length_map, List.length_drop, List.length_take, Int.natCast_add, wrap_i64_eq, wrap_u64, wrap_u8, ne_eq, not_true_eq_false, not_false_eq_true, Nat.zero_add, Nat.mul_one] <;> omega) | omega | (simp; done) | (simp; omega))) only [↓CR, MC, ↓PR, MR, isPtr_A, isNilp_node, Bool.not_false, at_nodeN, c']
      refine (ihl (.node k v l r x) n (by omega) s1 Q ⟨⟩).trans ?_
      cases hl : lseek s l.toL <;> rfl
end Go.Proofs.Ytdlcjibefbnckaa.Wa
end

section
/- Sorted lists of pairs, by the reference; trees, by the program. -/
namespace Go.Proofs.Ytdlcjibefbnckaa.Wa
open Go Go.Weave
set_option maxRecDepth 100000
set_option linter.unusedSimpArgs false
set_option linter.unusedVariables false
set_option linter.unusedSectionVars false

def prs (l : List KPair) : List AVal := l.map KPair.A
theorem prs_length (l : List KPair) : (prs l).length = l.length := by simp [prs]
theorem prs_nil : prs [] = [] := of_eq_true (eq_self _)
theorem prs_getD {l : List KPair} {i : Nat} (h : i < l.length) : (prs l).getD i AVal.undef = .agg [.str l[i].key, .str l[i].val] := by simp [prs, h, KPair.A, KPair.C]
theorem prs_snoc (l : List KPair) (k v : List UInt8) : prs l ++ [.agg [.str k, .str v]] = prs (l ++ [⟨k, v⟩]) := by simp [prs, KPair.A, KPair.C]
theorem str_beq_self (a : List UInt8) : (a == a) = true := by simp

/-! ### What is told of a pair that there may be -/
def oKey : Option KPair → List UInt8 | none => [] | some p => p.key
def oVal : Option KPair → List UInt8 | none => [] | some p => p.val
theorem tellK_eq (o : Option KPair) : tellK o = [.str (oKey o), .str (oVal o), .bool o.isSome] := by cases o <;> rfl

theorem lget_cons (k : List UInt8) (p : KPair) (l : List KPair) : lget k (p :: l) = if p.key = k then some p else lget k l := by
  unfold lget
  rw [List.find?_cons]
  by_cases h : p.key = k
  · have : (p.key == k) = true := by simp [h]
    rw [this, if_pos h]
  · have : (p.key == k) = false := by simpa using h
    rw [this, if_neg h]
theorem lseek_cons (k : List UInt8) (p : KPair) (l : List KPair) : lseek k (p :: l) = if blt p.key k then lseek k l else some p := by
  unfold lseek
  rw [List.find?_cons]
  cases h : blt p.key k <;> rfl
theorem ldel_cons (k : List UInt8) (p : KPair) (l : List KPair) : ldel k (p :: l) = if p.key = k then ldel k l else p :: ldel k l := by
  unfold ldel
  rw [List.filter_cons]
  by_cases h : p.key = k
  · rw [if_neg (by simp [h]), if_pos h]
  · rw [if_pos (by simpa using h), if_neg h]
/-- A key is found where seeking stops. -/
theorem lget_seek {k : List UInt8} : ∀ {l : List KPair}, Srt l → lget k l = if oKey (lseek k l) = k ∧ (lseek k l).isSome = true then lseek k l else none
  | [], _ => by simp [lget, lseek]
  | p :: l, hs => by
    have ⟨h1, h2⟩ := List.pairwise_cons.1 hs
    rw [lget_cons, lseek_cons]
    by_cases c : blt p.key k = true
    · rw [if_neg (blt_ne c), if_pos c]
      exact lget_seek h2
    · rw [if_neg c]
      by_cases e : p.key = k
      · rw [if_pos e, if_pos ⟨e, rfl⟩]
      · rw [if_neg e, if_neg (fun h => e h.1)]
        unfold lget
        rw [List.find?_eq_none]
        intro x hx
        have h3 : blt k p.key = true := by
          cases hh : blt k p.key
          · exact absurd (blt_tri (by simpa using c) hh) e
          · rfl
        have := blt_ne (blt_trans h3 (h1 x hx))
        simpa using this.symm
theorem lget_mem {k : List UInt8} {l : List KPair} (h : (lget k l).isSome = true) : ∃ p ∈ l, p.key = k := by
  cases hp : lget k l with
  | none => rw [hp] at h; simp at h
  | some p =>
    unfold lget at hp
    exact ⟨p, List.mem_of_find?_eq_some hp, by simpa using List.find?_some hp⟩
theorem lget_none {k : List UInt8} {l : List KPair} (h : (lget k l).isSome = false) : ∀ p ∈ l, p.key ≠ k := by
  have : lget k l = none := by cases hp : lget k l <;> simp_all
  unfold lget at this
  rw [List.find?_eq_none] at this
  intro p hp e
  exact this p hp (by simp [e])
theorem ldel_len {k : List UInt8} {l : List KPair} (hs : Srt l) (h : (lget k l).isSome = true) : (ldel k l).length + 1 = l.length := by
  obtain ⟨p, hp, e⟩ := lget_mem h
  obtain ⟨a, b, rfl⟩ := List.append_of_mem hp
  subst e
  rw [ldel_eq hs]; simp; omega
theorem lput_len_new {k v : List UInt8} : ∀ {l : List KPair}, Srt l → (lget k l).isSome = false → (lput k v l).length = l.length + 1 := by
  intro l hs h
  have h0 := lget_none h
  have : ∀ l : List KPair, (∀ p ∈ l, p.key ≠ k) → (l.filter (fun p => blt p.key k)).length + (l.filter (fun p => blt k p.key)).length = l.length := by
    intro l
    induction l with
    | nil => intro _; rfl
    | cons p l ih =>
      intro h
      have ih := ih fun q hq => h q (List.mem_cons_of_mem _ hq)
      have hp := h p List.mem_cons_self
      rw [List.filter_cons, List.filter_cons]
      by_cases c : blt p.key k = true
      · rw [if_pos c, if_neg (by rw [blt_asym c]; simp)]
        simp only [List.length_cons]; omega
      · have c2 : blt k p.key = true := by
          cases hh : blt k p.key
          · exact absurd (blt_tri (by simpa using c) hh) hp
          · rfl
        rw [if_neg c, if_pos c2]
        simp only [List.length_cons]; omega
  unfold lput
  rw [List.length_append, List.length_cons]
  have := this l h0
  omega
theorem lput_len_old {k v : List UInt8} {l : List KPair} (hs : Srt l) (h : (lget k l).isSome = true) : (lput k v l).length = l.length := by
  obtain ⟨⟨pk, pv⟩, hp, e⟩ := lget_mem h
  obtain ⟨a, b, rfl⟩ := List.append_of_mem hp
  simp only at e
  subst e
  rw [lput_eq hs]; simp

/-! ### The reference's lists -/
theorem rget31_loop (d : Nat) (f : Bool) (s : List UInt8) (h : Heap) (l : List KPair) (hl : l.length ≤ 1000000) (Q : Res → Prop) : ∀ (n i k : Nat) (tg : Hid Q), l.length = i + n → n < k →
    Run (P26_0 d k f (prs l) s i h) Q tg = Q ([.str (oVal (lget s (l.drop i))), .bool (lget s (l.drop i)).isSome], h) := by
  intro n
  induction n with
  | zero =>
    intro i k tg hi hk
    obtain ⟨k, rfl⟩ : ∃ m, k = m + 1 := ⟨k - 1, by omega⟩
    have hd : l.drop i = [] := List.drop_eq_nil_of_le (by omega)
    rw [P26_0_eq, hd]
    simp (disch := (first | assumption | (simp only [Bool.and_eq_true, Bool.and_eq_false_iff, decide_eq_true_eq, decide_eq_false_iff_not, bne_iff_ne, beq_iff_eq, beq_eq_false_iff_ne, bne_eq_false_iff_eq, Bool.not_eq_true', Bool.not_eq_false', bys_length, List.length_append, List.length_cons, List.length_nil, List.length_map, List.length_drop, List.length_take, Int.natCast_add, wrap_i64_eq, wrap_u64, wrap_u8, ne_eq, not_true_eq_false, not_false_eq_true, Nat.zero_add, Nat.mul_one] <;> omega) | omega | (simp; done) | (simp; omega))) only [↓CR, MC, ↓PR, MR, prs_length]
    rfl
  | succ n ih =>
    intro i k tg hi hk
    obtain ⟨k, rfl⟩ : ∃ m, k = m + 1 := ⟨k - 1, by omega⟩
    have h1 : i < l.length := by omega
    have e1 := succ_wrap (i := i) (by omega)
    have ih' := fun tg => ih (i + 1) k tg (by omega) (by omega)
    rw [P26_0_eq, List.drop_eq_getElem_cons h1, lget_cons]
    by_cases c : l[i].key = s
    · have c' : (l[i].key == s) = true := by simp [c]
      rw [if_pos c]
      simp (disch := (first | assumption | (simp only [Bool.and_eq_true, Bool.and_eq_false_iff, decide_eq_true_eq, decide_eq_false_iff_not, bne_iff_ne, beq_iff_eq, beq_eq_false_iff_ne, bne_eq_false_iff_eq, Bool.not_eq_true', Bool.not_eq_false', bys_length, List.length_append, List.length_cons, List.length_nil, List.length_map, List.length_drop, List.length_take, Int.natCast_add, wrap_i64_eq, wrap_u64, wrap_u8, ne_eq, not_true_eq_false, not_false_eq_true, Nat.zero_add, Nat.mul_one] <;> omega) | omega | (simp; done) | (simp; omega))) only [↓CR, MC, ↓PR, MR, prs_length, prs_getD h1, c']
      rfl
    · have c' : (l[i].key == s) = false := by simpa using c
      rw [if_neg c]
      simp (disch := (first | assumption | (simp only [Bool.and_eq_true, Bool.and_eq_false_iff, decide_eq_true_eq, decide_eq_false_iff_not, bne_iff_ne, beq_iff_eq, beq_eq_false_iff_ne, bne_eq_false_iff_eq, Bool.not_eq_true', Bool.not_eq_false', bys_length, List.length_append, List.length_cons, List.length_nil, List.length_map, List.length_drop, List.length_take, Int.natCast_add, wrap_i64_eq, wrap_u64, wrap_u8, ne_eq, not_true_eq_false, not_false_eq_true, Nat.zero_add, Nat.mul_one] <;> omega) | omega | (simp; done) | (simp; omega))) only [↓CR, MC, ↓PR, MR, prs_length, prs_getD h1, c', e1, ih']
theorem rget31_run {d : Nat} {f : Bool} {l : List KPair} {s : List UInt8} {h : Heap} {Q : Res → Prop} {tg : Hid Q} (hl : l.length ≤ 1000000) :
    Run (evFn Cw (d + 1) 26 [.sl f 3 (prs l), .str s] h) Q tg = Q ([.str (oVal (lget s l)), .bool (lget s l).isSome], h) := by
  rw [F26_eq]
  have := rget31_loop d f s h l hl Q l.length 0 rounds ⟨⟩ (by omega) (rounds_gt' (by omega))
  rw [e0] at this
  exact this
theorem rdel31_loop (d : Nat) (f : Bool) (s : List UInt8) (h : Heap) (l : List KPair) (hl : l.length ≤ 1000000) (Q : Res → Prop) : ∀ (n i k : Nat) (acc : List KPair) (tg : Hid Q), acc.length ≤ i → l.length = i + n → n < k →
    Run (P24_0 d k f (prs l) s (prs acc) i h) Q tg = Q ([.sl false 3 (prs (acc ++ ldel s (l.drop i)))], h) := by
  intro n
  induction n with
  | zero =>
    intro i k acc tg ha hi hk
    obtain ⟨k, rfl⟩ : ∃ m, k = m + 1 := ⟨k - 1, by omega⟩
    have hd : l.drop i = [] := List.drop_eq_nil_of_le (by omega)
    have hb : acc ++ ldel s [] = acc := by simp [ldel]
    rw [P24_0_eq, hd, hb]
    simp (disch := (first | assumption | (simp only [Bool.and_eq_true, Bool.and_eq_false_iff, decide_eq_true_eq, decide_eq_false_iff_not, bne_iff_ne, beq_iff_eq, beq_eq_false_iff_ne, bne_eq_false_iff_eq, Bool.not_eq_true', Bool.not_eq_false', bys_length, List.length_append, List.length_cons, List.length_nil, List.length_map, List.length_drop, List.length_take, Int.natCast_add, wrap_i64_eq, wrap_u64, wrap_u8, ne_eq, not_true_eq_false, not_false_eq_true, Nat.zero_add, Nat.mul_one] <;> omega) | omega | (simp; done) | (simp; omega))) only [↓CR, MC, ↓PR, MR, prs_length]
  | succ n ih =>
    intro i k acc tg ha hi hk
    obtain ⟨k, rfl⟩ : ∃ m, k = m + 1 := ⟨k - 1, by omega⟩
    have h1 : i < l.length := by omega
    have e1 := succ_wrap (i := i) (by omega)
    rw [P24_0_eq, List.drop_eq_getElem_cons h1, ldel_cons]
    by_cases c : l[i].key = s
    · have c' : (l[i].key == s) = true := by simp [c]
      have ih' := fun tg => ih (i + 1) k acc tg (by omega) (by omega) (by omega)
      rw [if_pos c]
      simp (disch := (first | assumption | (simp only [Bool.and_eq_true, Bool.and_eq_false_iff, decide_eq_true_eq, decide_eq_false_iff_not, bne_iff_ne, beq_iff_eq, beq_eq_false_iff_ne, bne_eq_false_iff_eq, Bool.not_eq_true', Bool.not_eq_false', bys_length, List.length_append, List.length_cons, List.length_nil, List.length_map, List.length_drop, List.length_take, Int.natCast_add, wrap_i64_eq, wrap_u64, wrap_u8, ne_eq, not_true_eq_false, not_false_eq_true, Nat.zero_add, Nat.mul_one] <;> omega) | omega | (simp; done) | (simp; omega))) only [↓CR, MC, ↓PR, MR, prs_length, prs_getD h1, c', Bool.not_true, e1, ih']
    · have c' : (l[i].key == s) = false := by simpa using c
      have ih' := fun tg => ih (i + 1) k (acc ++ [l[i]]) tg (by simp; omega) (by omega) (by omega)
      have ea : prs acc ++ [.agg [.str l[i].key, .str l[i].val]] = prs (acc ++ [l[i]]) := prs_snoc acc l[i].key l[i].val
      rw [if_neg c]
      simp (disch := (first | assumption | (simp only [Bool.and_eq_true, Bool.and_eq_false_iff, decide_eq_true_eq, decide_eq_false_iff_not, bne_iff_ne, beq_iff_eq, beq_eq_false_iff_ne, bne_eq_false_iff_eq, Bool.not_eq_true', Bool.not_eq_false', bys_length, List.length_append, List.length_cons, List.length_nil, List.length_map, List.length_drop, List.length_take, Int.natCast_add, wrap_i64_eq, wrap_u64, wrap_u8, ne_eq, not_true_eq_false, not_false_eq_true, Nat.zero_add, Nat.mul_one] <;> omega) | omega | (simp; done) | (simp; omega))) only [↓CR, MC, ↓PR, MR, prs_length, prs_getD h1, c', Bool.not_false, e1, ea, ih']
      simp
theorem rdel31_run {d : Nat} {f : Bool} {l : List KPair} {s : List UInt8} {h : Heap} {Q : Res → Prop} {tg : Hid Q} (hl : l.length ≤ 1000000) :
    Run (evFn Cw (d + 1) 24 [.sl f 3 (prs l), .str s] h) Q tg = Q ([.sl false 3 (prs (ldel s l))], h) := by
  rw [F24_eq]
  have := rdel31_loop d f s h l hl Q l.length 0 rounds [] ⟨⟩ (by simp) (by omega) (rounds_gt' (by omega))
  rw [e0, prs_nil] at this
  exact this
def insF (k v : List UInt8) : Bool → List KPair → List KPair
  | true, l => l
  | false, [] => [⟨k, v⟩]
  | false, p :: l => if blt k p.key then ⟨k, v⟩ :: p :: l else p :: insF k v false l
theorem insF_lput {k v : List UInt8} : ∀ {l : List KPair}, Srt l → (∀ p ∈ l, p.key ≠ k) → insF k v false l = lput k v l
  | [], _, _ => rfl
  | p :: l, hs, hk => by
    have ⟨h1, h2⟩ := List.pairwise_cons.1 hs
    unfold insF
    by_cases c : blt k p.key = true
    · rw [if_pos c]
      have := lput_lt (a := []) (p := p) (b := l) (k := k) (v := v) hs c
      simp only [List.nil_append] at this
      rw [this]; rfl
    · have c2 : blt p.key k = true := by
        cases hh : blt p.key k
        · exact absurd (blt_tri hh (by simpa using c)) (hk p List.mem_cons_self)
        · rfl
      rw [if_neg c]
      have := lput_gt (a := []) (p := p) (b := l) (k := k) (v := v) hs c2
      simp only [List.nil_append] at this
      rw [this, insF_lput h2 fun q hq => hk q (List.mem_cons_of_mem _ hq)]
theorem lput_ldel (k v : List UInt8) (l : List KPair) : lput k v (ldel k l) = lput k v l := by
  unfold lput ldel
  rw [List.filter_filter, List.filter_filter]
  congr 1
  · refine List.filter_congr fun x _ => ?_
    cases h : blt x.key k
    · simp
    · simpa using blt_ne h
  · congr 1
    refine List.filter_congr fun x _ => ?_
    cases h : blt k x.key
    · simp
    · simpa using (blt_ne h).symm
theorem rput31_loop (d : Nat) (s v : List UInt8) (h : Heap) (l : List KPair) (hl : l.length ≤ 1000000) (Q : Res → Prop) : ∀ (n i k : Nat) (b : Bool) (acc : List KPair) (tg : Hid Q), acc.length ≤ i + b.toNat → l.length = i + n → n < k →
    Run (P22_0 d k (prs l) s v (prs acc) b i h) Q tg = Q ([.sl false 3 (prs (acc ++ insF s v b (l.drop i)))], h) := by
  intro n
  induction n with
  | zero =>
    intro i k b acc tg ha hi hk
    obtain ⟨k, rfl⟩ : ∃ m, k = m + 1 := ⟨k - 1, by omega⟩
    have hd : l.drop i = [] := List.drop_eq_nil_of_le (by omega)
    rw [P22_0_eq, hd]
    cases b <;> simp only [Bool.toNat_false, Bool.toNat_true] at ha
    · simp (disch := (first | assumption | (simp only [Bool.and_eq_true, Bool.and_eq_false_iff, decide_eq_true_eq, decide_eq_false_iff_not, bne_iff_ne, beq_iff_eq, beq_eq_false_iff_ne, bne_eq_false_iff_eq, Bool.not_eq_true', Bool.not_eq_false', bys_length, List.length_append, List.length_cons, List.length_nil, List.length_map, List.length_drop, List.length_take, Int.natCast_add, wrap_i64_eq, wrap_u64, wrap_u8, ne_eq, not_true_eq_false, not_false_eq_true, Nat.zero_add, Nat.mul_one] <;> omega) | omega | (simp; done) | (simp; omega))) only [↓CR, MC, ↓PR, MR, prs_length, Bool.not_false, prs_snoc]
      rfl
    · have hb : acc ++ insF s v true [] = acc := by simp [insF]
      rw [hb]
      simp (disch := (first | assumption | (simp only [Bool.and_eq_true, Bool.and_eq_false_iff, decide_eq_true_eq, decide_eq_false_iff_not, bne_iff_ne, beq_iff_eq, beq_eq_false_iff_ne, bne_eq_false_iff_eq, Bool.not_eq_true', Bool.not_eq_false', bys_length, List.length_append, List.length_cons, List.length_nil, List.length_map, List.length_drop, List.length_take, Int.natCast_add, wrap_i64_eq, wrap_u64, wrap_u8, ne_eq, not_true_eq_false, not_false_eq_true, Nat.zero_add, Nat.mul_one] <;> omega) | omega | (simp; done) | (simp; omega))) only [↓CR, MC, ↓PR, MR, prs_length, Bool.not_true]
  | succ n ih =>
    intro i k b acc tg ha hi hk
    obtain ⟨k, rfl⟩ : ∃ m, k = m + 1 := ⟨k - 1, by omega⟩
    have h1 : i < l.length := by omega
    have e1 := succ_wrap (i := i) (by omega)
    have ea : ∀ acc, prs acc ++ [.agg [.str l[i].key, .str l[i].val]] = prs (acc ++ [l[i]]) := fun acc => prs_snoc acc l[i].key l[i].val
    rw [P22_0_eq, List.drop_eq_getElem_cons h1]
    cases b <;> simp only [Bool.toNat_false, Bool.toNat_true] at ha
    · unfold insF
      by_cases c : blt s l[i].key = true
      · have c1 : Go.Op.bytesLess l[i].key s = false := blt_asym c
        have c2 : (l[i].key == s) = false := by simpa using (blt_ne c).symm
        have ih' := fun tg => ih (i + 1) k true (acc ++ [⟨s, v⟩] ++ [l[i]]) tg (by simp; omega) (by omega) (by omega)
        rw [if_pos c]
        simp (disch := (first | assumption | (simp only [Bool.and_eq_true, Bool.and_eq_false_iff, decide_eq_true_eq, decide_eq_false_iff_not, bne_iff_ne, beq_iff_eq, beq_eq_false_iff_ne, bne_eq_false_iff_eq, Bool.not_eq_true', Bool.not_eq_false', bys_length, List.length_append, List.length_cons, List.length_nil, List.length_map, List.length_drop, List.length_take, Int.natCast_add, wrap_i64_eq, wrap_u64, wrap_u8, ne_eq, not_true_eq_false, not_false_eq_true, Nat.zero_add, Nat.mul_one] <;> omega) | omega | (simp; done) | (simp; omega))) only [↓CR, MC, ↓PR, MR, prs_length, prs_getD h1, Bool.not_false, c1, c2, Bool.or_false, e1, prs_snoc, ea, ih']
        simp [insF]
      · have ih' := fun tg => ih (i + 1) k false (acc ++ [l[i]]) tg (by simp; omega) (by omega) (by omega)
        rw [if_neg c]
        have c3 : (Go.Op.bytesLess l[i].key s || (l[i].key == s)) = true := by
          cases hh : blt l[i].key s
          · have := blt_tri hh (by simpa using c)
            simp [this]
          · have : Go.Op.bytesLess l[i].key s = true := hh
            simp [this]
        simp (disch := (first | assumption | (simp only [Bool.and_eq_true, Bool.and_eq_false_iff, decide_eq_true_eq, decide_eq_false_iff_not, bne_iff_ne, beq_iff_eq, beq_eq_false_iff_ne, bne_eq_false_iff_eq, Bool.not_eq_true', Bool.not_eq_false', bys_length, List.length_append, List.length_cons, List.length_nil, List.length_map, List.length_drop, List.length_take, Int.natCast_add, wrap_i64_eq, wrap_u64, wrap_u8, ne_eq, not_true_eq_false, not_false_eq_true, Nat.zero_add, Nat.mul_one] <;> omega) | omega | (simp; done) | (simp; omega))) only [↓CR, MC, ↓PR, MR, prs_length, prs_getD h1, Bool.not_false, c3, Bool.not_true, e1, ea, ih']
        simp
    · have ih' := fun tg => ih (i + 1) k true (acc ++ [l[i]]) tg (by simp; omega) (by omega) (by omega)
      simp (disch := (first | assumption | (simp only [Bool.and_eq_true, Bool.and_eq_false_iff, decide_eq_true_eq, decide_eq_false_iff_not, bne_iff_ne, beq_iff_eq, beq_eq_false_iff_ne, bne_eq_false_iff_eq, Bool.not_eq_true', Bool.not_eq_false', bys_length, List.length_append, List.length_cons, List.length_nil, List.length_map, List.length_drop, List.length_take, Int.natCast_add, wrap_i64_eq, wrap_u64, wrap_u8, ne_eq, not_true_eq_false, not_false_eq_true, Nat.zero_add, Nat.mul_one] <;> omega) | omega | (simp; done) | (simp; omega))) only [↓CR, MC, ↓PR, MR, prs_length, prs_getD h1, Bool.not_true, e1, ea, ih']
      simp [insF]
theorem rput31_run {d : Nat} {f : Bool} {l : List KPair} {s v : List UInt8} {h : Heap} {Q : Res → Prop} {tg : Hid Q} (hs : Srt l) (hl : l.length ≤ 900000) :
    Run (evFn Cw (d + 2) 22 [.sl f 3 (prs l), .str s, .str v] h) Q tg = Q ([.sl false 3 (prs (lput s v l))], h) := by
  have hlen : (ldel s l).length ≤ l.length := List.length_filter_le _ _
  have := rput31_loop (d + 1) s v h (ldel s l) (by omega) Q (ldel s l).length 0 rounds false [] ⟨⟩ (by simp) (by omega) (rounds_gt' (by omega))
  rw [e0, prs_nil, List.drop_zero, List.nil_append, insF_lput hs.del (fun p hp => by simpa using (List.mem_filter.1 hp).2), lput_ldel] at this
  rw [F22_eq]
  simp (disch := (first | assumption | (simp only [Bool.and_eq_true, Bool.and_eq_false_iff, decide_eq_true_eq, decide_eq_false_iff_not, bne_iff_ne, beq_iff_eq, beq_eq_false_iff_ne, bne_eq_false_iff_eq, Bool.not_eq_true', Bool.not_eq_false', bys_length, List.length_append, List.length_cons, List.length_nil, List.length_map, List.length_drop, List.length_take, Int.natCast_add, wrap_i64_eq, wrap_u64, wrap_u8, ne_eq, not_true_eq_false, not_false_eq_true, Nat.zero_add, Nat.mul_one] <;> omega) | omega | (simp; done) | (simp; omega))) only [↓CR, MC, ↓PR, MR, rdel31_run, this]
theorem same31_loop (d : Nat) (f g : Bool) (h : Heap) (l : List KPair) (hl : l.length ≤ 1000000) (Q : Res → Prop) : ∀ (n i k : Nat) (tg : Hid Q), l.length = i + n → n < k →
    Run (P36_0 d k f (prs l) g (prs l) i h) Q tg = Q ([.bool true], h) := by
  intro n
  induction n with
  | zero =>
    intro i k tg hi hk
    obtain ⟨k, rfl⟩ : ∃ m, k = m + 1 := ⟨k - 1, by omega⟩
    rw [P36_0_eq]
    simp (disch := (first | assumption | (simp only [Bool.and_eq_true, Bool.and_eq_false_iff, decide_eq_true_eq, decide_eq_false_iff_not, bne_iff_ne, beq_iff_eq, beq_eq_false_iff_ne, bne_eq_false_iff_eq, Bool.not_eq_true', Bool.not_eq_false', bys_length, List.length_append, List.length_cons, List.length_nil, List.length_map, List.length_drop, List.length_take, Int.natCast_add, wrap_i64_eq, wrap_u64, wrap_u8, ne_eq, not_true_eq_false, not_false_eq_true, Nat.zero_add, Nat.mul_one] <;> omega) | omega | (simp; done) | (simp; omega))) only [↓CR, MC, ↓PR, MR, prs_length]
  | succ n ih =>
    intro i k tg hi hk
    obtain ⟨k, rfl⟩ : ∃ m, k = m + 1 := ⟨k - 1, by omega⟩
    have h1 : i < l.length := by omega
    have e1 := succ_wrap (i := i) (by omega)
    have ih' := fun tg => ih (i + 1) k tg (by omega) (by omega)
    rw [P36_0_eq]
    simp (disch := (first | assumption | (simp only [Bool.and_eq_true, Bool.and_eq_false_iff, decide_eq_true_eq, decide_eq_false_iff_not, bne_iff_ne, beq_iff_eq, beq_eq_false_iff_ne, bne_eq_false_iff_eq, Bool.not_eq_true', Bool.not_eq_false', bys_length, List.length_append, List.length_cons, List.length_nil, List.length_map, List.length_drop, List.length_take, Int.natCast_add, wrap_i64_eq, wrap_u64, wrap_u8, ne_eq, not_true_eq_false, not_false_eq_true, Nat.zero_add, Nat.mul_one] <;> omega) | omega | (simp; done) | (simp; omega))) only [↓CR, MC, ↓PR, MR, prs_length, prs_getD h1, plain43, Bool.and_self, str_beq_self, Bool.not_true, e1, ih']
theorem same31_run {d : Nat} {f g : Bool} {l : List KPair} {h : Heap} {Q : Res → Prop} {tg : Hid Q} (hl : l.length ≤ 1000000) :
    Run (evFn Cw (d + 1) 36 [.sl f 3 (prs l), .sl g 3 (prs l)] h) Q tg = Q ([.bool true], h) := by
  have := same31_loop d f g h l hl Q l.length 0 rounds ⟨⟩ (by omega) (rounds_gt' (by omega))
  rw [e0] at this
  rw [F36_eq]
  simp (disch := (first | assumption | (simp only [Bool.and_eq_true, Bool.and_eq_false_iff, decide_eq_true_eq, decide_eq_false_iff_not, bne_iff_ne, beq_iff_eq, beq_eq_false_iff_ne, bne_eq_false_iff_eq, Bool.not_eq_true', Bool.not_eq_false', bys_length, List.length_append, List.length_cons, List.length_nil, List.length_map, List.length_drop, List.length_take, Int.natCast_add, wrap_i64_eq, wrap_u64, wrap_u8, ne_eq, not_true_eq_false, not_false_eq_true, Nat.zero_add, Nat.mul_one] <;> omega) | omega | (simp; done) | (simp; omega))) only [↓CR, MC, ↓PR, MR, prs_length, this]
end Go.Proofs.Ytdlcjibefbnckaa.Wa
end

section
/- Trees: what the program does with them; TreePlays. -/
namespace Go.Proofs.Ytdlcjibefbnckaa.Wa
open Go Go.Weave
set_option maxRecDepth 100000
set_option linter.unusedSimpArgs false
set_option linter.unusedVariables false
set_option linter.unusedSectionVars false

def trT (t : Nd) : Weave.Obj := .cells [HCell.val t.A, HCell.val (.int .i64 t.toL.length)]
structure TOk' (t : Nd) : Prop where
  avl : t.Avl
  srt : Srt t.toL
  len : t.toL.length ≤ 31000
theorem trT_root {h : Heap} {i : Nat} {t : Nd} (hm : h.objs[i]? = some (trT t)) : h.cell? i 0 = some (HCell.val t.A) := by rw [Heap.cell_at hm]; rfl
theorem trT_n {h : Heap} {i : Nat} {t : Nd} (hm : h.objs[i]? = some (trT t)) : h.cell? i 1 = some (HCell.val (.int .i64 t.toL.length)) := by rw [Heap.cell_at hm]; rfl
theorem TOk'.put {t : Nd} (ok : TOk' t) (k v : List UInt8) (hl : t.toL.length ≤ 30999) : TOk' (t.put k v) ∧ (t.put k v).toL = lput k v t.toL := by
  have e := Nd.put_toL (k := k) (v := v) ok.srt
  refine ⟨⟨(Nd.put_avl ok.avl).1, by rw [e]; exact ok.srt.put, ?_⟩, e⟩
  rw [e]
  cases hg : (lget k t.toL).isSome
  · rw [lput_len_new ok.srt hg]; omega
  · rw [lput_len_old ok.srt hg]; omega
theorem TOk'.del {t : Nd} (ok : TOk' t) {k : List UInt8} (hk : (lget k t.toL).isSome = true) : TOk' (t.without k) ∧ (t.without k).toL = ldel k t.toL := by
  obtain ⟨a1, _, _, a4⟩ := Nd.without_ok ok.avl ok.srt (lget_mem hk)
  refine ⟨⟨a1, by rw [a4]; exact ok.srt.del, ?_⟩, a4⟩
  rw [a4]
  exact Nat.le_trans (List.length_filter_le _ _) ok.len

theorem tseek_run {d i : Nat} {t : Nd} {s : List UInt8} {h : Heap} {Q : Res → Prop} {tg : Hid Q} (ok : TOk' t) (hm : h.objs[i]? = some (trT t)) :
    Run (evFn Cw (d + 2) 75 [.obj i 0, .str s] h) Q tg = Q ([.str (oKey (lseek s t.toL)), .str (oVal (lseek s t.toL)), .bool (lseek s t.toL).isSome], h) := by
  have hl := ok.len
  have hd := Nd.dep_le t
  have := seek_loop d h s t .nil rounds (rounds_gt' (by omega)) ok.srt Q ⟨⟩
  have e : (lseek s t.toL).or Nd.nil.kv = lseek s t.toL := by cases lseek s t.toL <;> rfl
  rw [e, tellK_eq, A_nil] at this
  rw [F75_eq]
  simp (disch := (first | assumption | (simp only [Bool.and_eq_true, Bool.and_eq_false_iff, decide_eq_true_eq, decide_eq_false_iff_not, bne_iff_ne, beq_iff_eq, beq_eq_false_iff_ne, bne_eq_false_iff_eq, Bool.not_eq_true', Bool.not_eq_false', bys_length, List.length_append, List.length_cons, List.length_nil, List.length_map, List.length_drop, List.length_take, Int.natCast_add, wrap_i64_eq, wrap_u64, wrap_u8, ne_eq, not_true_eq_false, not_false_eq_true, Nat.zero_add, Nat.mul_one] <;> omega) | omega | (simp; done) | (simp; omega))) only [↓CR, MC, ↓PR, MR, trT_root hm, this]
theorem tget_run {d i : Nat} {t : Nd} {s : List UInt8} {h : Heap} {Q : Res → Prop} {tg : Hid Q} (ok : TOk' t) (hm : h.objs[i]? = some (trT t)) :
    Run (evFn Cw (d + 3) 81 [.obj i 0, .str s] h) Q tg = Q ([.str (oVal (lget s t.toL)), .bool (lget s t.toL).isSome], h) := by
  have hs := fun (Q : Res → Prop) (tg : Hid Q) => tseek_run (d := d) (s := s) (Q := Q) (tg := tg) ok hm
  rw [F81_eq, lget_seek ok.srt]
  cases h1 : (lseek s t.toL).isSome
  · rw [h1] at hs
    rw [if_neg (by simp)]
    simp (disch := (first | assumption | (simp only [Bool.and_eq_true, Bool.and_eq_false_iff, decide_eq_true_eq, decide_eq_false_iff_not, bne_iff_ne, beq_iff_eq, beq_eq_false_iff_ne, bne_eq_false_iff_eq, Bool.not_eq_true', Bool.not_eq_false', bys_length, List.length_append, List.length_cons, List.length_nil, List.length_map, List.length_drop, List.length_take, Int.natCast_add, wrap_i64_eq, wrap_u64, wrap_u8, ne_eq, not_true_eq_false, not_false_eq_true, Nat.zero_add, Nat.mul_one] <;> omega) | omega | (simp; done) | (simp; omega))) only [↓CR, MC, ↓PR, MR, hs, Bool.not_false]
    rfl
  · rw [h1] at hs
    by_cases h2 : oKey (lseek s t.toL) = s
    · have h2' : (oKey (lseek s t.toL) == s) = true := by simp [h2]
      rw [if_pos ⟨h2, rfl⟩]
      simp (disch := (first | assumption | (simp only [Bool.and_eq_true, Bool.and_eq_false_iff, decide_eq_true_eq, decide_eq_false_iff_not, bne_iff_ne, beq_iff_eq, beq_eq_false_iff_ne, bne_eq_false_iff_eq, Bool.not_eq_true', Bool.not_eq_false', bys_length, List.length_append, List.length_cons, List.length_nil, List.length_map, List.length_drop, List.length_take, Int.natCast_add, wrap_i64_eq, wrap_u64, wrap_u8, ne_eq, not_true_eq_false, not_false_eq_true, Nat.zero_add, Nat.mul_one] <;> omega) | omega | (simp; done) | (simp; omega))) only [↓CR, MC, ↓PR, MR, hs, Bool.not_true, h2']
      rw [h1]
    · have h2' : (oKey (lseek s t.toL) == s) = false := by simpa using h2
      rw [if_neg (by simp [h2])]
      simp (disch := (first | assumption | (simp only [Bool.and_eq_true, Bool.and_eq_false_iff, decide_eq_true_eq, decide_eq_false_iff_not, bne_iff_ne, beq_iff_eq, beq_eq_false_iff_ne, bne_eq_false_iff_eq, Bool.not_eq_true', Bool.not_eq_false', bys_length, List.length_append, List.length_cons, List.length_nil, List.length_map, List.length_drop, List.length_take, Int.natCast_add, wrap_i64_eq, wrap_u64, wrap_u8, ne_eq, not_true_eq_false, not_false_eq_true, Nat.zero_add, Nat.mul_one] <;> omega) | omega | (simp; done) | (simp; omega))) only [↓CR, MC, ↓PR, MR, hs, Bool.not_true, h2', Bool.not_false]
      rfl
theorem tput_run {d i : Nat} {t : Nd} {k v : List UInt8} {h : Heap} {Q : Res → Prop} {tg : Hid Q} (ok : TOk' t) (hl : t.toL.length ≤ 30999) (hm : h.objs[i]? = some (trT t)) (hd : 31010 ≤ d) :
    Run (evFn Cw d 21 [.obj i 0, .str k, .str v] h) Q tg = Q ([.str (oVal (lget k t.toL)), .bool (lget k t.toL).isSome], h.put i (trT (t.put k v))) := by
  have hdp := Nd.dep_le t
  have hh := ok.avl.high_le
  have hlen := ok.len
  obtain ⟨d, rfl⟩ : ∃ e, d = e + 4 := ⟨d - 4, by omega⟩
  have hg := fun (Q : Res → Prop) (tg : Hid Q) => tget_run (d := d) (s := k) (Q := Q) (tg := tg) ok hm
  have hp := put_nd t (d + 3) (by omega) ok.avl (by omega) k v h
  have e := (ok.put k v hl).2
  have s1 : h.setCell i 0 (HCell.val (t.put k v).A) = h.put i (.cells [HCell.val (t.put k v).A, HCell.val (.int .i64 t.toL.length)]) := by rw [Heap.set_at hm]; rfl
  have hm2 : (h.put i (.cells [HCell.val (t.put k v).A, HCell.val (.int .i64 t.toL.length)])).objs[i]? = some (.cells [HCell.val (t.put k v).A, HCell.val (.int .i64 t.toL.length)]) := Heap.put_get hm
  have c2 : (h.put i (.cells [HCell.val (t.put k v).A, HCell.val (.int .i64 t.toL.length)])).cell? i 1 = some (HCell.val (.int .i64 t.toL.length)) := by rw [Heap.cell_at hm2]; rfl
  have e1 : IntKind.i64.wrap ((t.toL.length : Int) + 1) = ((t.toL.length + 1 : Nat) : Int) := succ_wrap (by omega)
  rw [F21_eq]
  cases h1 : (lget k t.toL).isSome
  · have e2 : (t.put k v).toL.length = t.toL.length + 1 := by rw [e, lput_len_new ok.srt h1]
    have s2 : (h.put i (.cells [HCell.val (t.put k v).A, HCell.val (.int .i64 t.toL.length)])).setCell i 1 (HCell.val (.int .i64 ((t.toL.length + 1 : Nat) : Int))) = h.put i (trT (t.put k v)) := by
      rw [Heap.set_at hm2, Heap.put_put]; unfold trT; rw [e2]; rfl
    simp (disch := (first | assumption | (simp only [Bool.and_eq_true, Bool.and_eq_false_iff, decide_eq_true_eq, decide_eq_false_iff_not, bne_iff_ne, beq_iff_eq, beq_eq_false_iff_ne, bne_eq_false_iff_eq, Bool.not_eq_true', Bool.not_eq_false', bys_length, List.length_append, List.length_cons, List.length_nil, List.length_map, List.length_drop, List.length_take, Int.natCast_add, wrap_i64_eq, wrap_u64, wrap_u8, ne_eq, not_true_eq_false, not_false_eq_true, Nat.zero_add, Nat.mul_one] <;> omega) | omega | (simp; done) | (simp; omega))) only [↓CR, MC, ↓PR, MR, hg, h1, trT_root hm, hp, isAgg_A, s1, c2, e1, s2, Bool.not_false]
  · have e2 : (t.put k v).toL.length = t.toL.length := by rw [e, lput_len_old ok.srt h1]
    have s2 : h.put i (.cells [HCell.val (t.put k v).A, HCell.val (.int .i64 t.toL.length)]) = h.put i (trT (t.put k v)) := by unfold trT; rw [e2]
    rw [s2] at s1
    simp (disch := (first | assumption | (simp only [Bool.and_eq_true, Bool.and_eq_false_iff, decide_eq_true_eq, decide_eq_false_iff_not, bne_iff_ne, beq_iff_eq, beq_eq_false_iff_ne, bne_eq_false_iff_eq, Bool.not_eq_true', Bool.not_eq_false', bys_length, List.length_append, List.length_cons, List.length_nil, List.length_map, List.length_drop, List.length_take, Int.natCast_add, wrap_i64_eq, wrap_u64, wrap_u8, ne_eq, not_true_eq_false, not_false_eq_true, Nat.zero_add, Nat.mul_one] <;> omega) | omega | (simp; done) | (simp; omega))) only [↓CR, MC, ↓PR, MR, hg, h1, trT_root hm, hp, isAgg_A, s1, Bool.not_true]
theorem tdel_run {d i : Nat} {t : Nd} {k : List UInt8} {h : Heap} {Q : Res → Prop} {tg : Hid Q} (ok : TOk' t) (hm : h.objs[i]? = some (trT t)) (hd : 31010 ≤ d) :
    Run (evFn Cw d 23 [.obj i 0, .str k] h) Q tg = Q ([.str (oVal (lget k t.toL)), .bool (lget k t.toL).isSome], h.put i (trT (if (lget k t.toL).isSome then t.without k else t))) := by
  have hdp := Nd.dep_le t
  have hh := ok.avl.high_le
  have hlen := ok.len
  obtain ⟨d, rfl⟩ : ∃ e, d = e + 4 := ⟨d - 4, by omega⟩
  have hg := fun (Q : Res → Prop) (tg : Hid Q) => tget_run (d := d) (s := k) (Q := Q) (tg := tg) ok hm
  rw [F23_eq]
  cases h1 : (lget k t.toL).isSome
  · rw [if_neg (by simp), Heap.put_self' hm]
    simp (disch := (first | assumption | (simp only [Bool.and_eq_true, Bool.and_eq_false_iff, decide_eq_true_eq, decide_eq_false_iff_not, bne_iff_ne, beq_iff_eq, beq_eq_false_iff_ne, bne_eq_false_iff_eq, Bool.not_eq_true', Bool.not_eq_false', bys_length, List.length_append, List.length_cons, List.length_nil, List.length_map, List.length_drop, List.length_take, Int.natCast_add, wrap_i64_eq, wrap_u64, wrap_u8, ne_eq, not_true_eq_false, not_false_eq_true, Nat.zero_add, Nat.mul_one] <;> omega) | omega | (simp; done) | (simp; omega))) only [↓CR, MC, ↓PR, MR, hg, h1]
  · rw [if_pos rfl]
    have e := (ok.del h1).2
    have hp := without_nd t (d + 3) (by omega) (by omega) ok.avl (by omega) ok.srt k (lget_mem h1) h
    have s1 : h.setCell i 0 (HCell.val (t.without k).A) = h.put i (.cells [HCell.val (t.without k).A, HCell.val (.int .i64 t.toL.length)]) := by rw [Heap.set_at hm]; rfl
    have hm2 : (h.put i (.cells [HCell.val (t.without k).A, HCell.val (.int .i64 t.toL.length)])).objs[i]? = some (.cells [HCell.val (t.without k).A, HCell.val (.int .i64 t.toL.length)]) := Heap.put_get hm
    have c2 : (h.put i (.cells [HCell.val (t.without k).A, HCell.val (.int .i64 t.toL.length)])).cell? i 1 = some (HCell.val (.int .i64 t.toL.length)) := by rw [Heap.cell_at hm2]; rfl
    have e3 := ldel_len ok.srt h1
    have e1 : IntKind.i64.wrap ((t.toL.length : Int) - 1) = (((t.without k).toL.length : Nat) : Int) := by rw [wrap_i64_id (by omega) (by omega), e]; omega
    have s2 : (h.put i (.cells [HCell.val (t.without k).A, HCell.val (.int .i64 t.toL.length)])).setCell i 1 (HCell.val (.int .i64 (((t.without k).toL.length : Nat) : Int))) = h.put i (trT (t.without k)) := by
      rw [Heap.set_at hm2, Heap.put_put]; rfl
    simp (disch := (first | assumption | (simp only [Bool.and_eq_true, Bool.and_eq_false_iff, decide_eq_true_eq, decide_eq_false_iff_not, bne_iff_ne, beq_iff_eq, beq_eq_false_iff_ne, bne_eq_false_iff_eq, Bool.not_eq_true', Bool.not_eq_false', bys_length, List.length_append, List.length_cons, List.length_nil, List.length_map, List.length_drop, List.length_take, Int.natCast_add, wrap_i64_eq, wrap_u64, wrap_u8, ne_eq, not_true_eq_false, not_false_eq_true, Nat.zero_add, Nat.mul_one] <;> omega) | omega | (simp; done) | (simp; omega))) only [↓CR, MC, ↓PR, MR, hg, h1, trT_root hm, hp, isAgg_A, s1, c2, e1, s2]
theorem tlen_run {d i : Nat} {t : Nd} {h : Heap} {Q : Res → Prop} {tg : Hid Q} (hm : h.objs[i]? = some (trT t)) :
    Run (evFn Cw (d + 1) 87 [.obj i 0] h) Q tg = Q ([.int .i64 t.toL.length], h) := by
  rw [F87_eq]
  simp (disch := (first | assumption | (simp only [Bool.and_eq_true, Bool.and_eq_false_iff, decide_eq_true_eq, decide_eq_false_iff_not, bne_iff_ne, beq_iff_eq, beq_eq_false_iff_ne, bne_eq_false_iff_eq, Bool.not_eq_true', Bool.not_eq_false', bys_length, List.length_append, List.length_cons, List.length_nil, List.length_map, List.length_drop, List.length_take, Int.natCast_add, wrap_i64_eq, wrap_u64, wrap_u8, ne_eq, not_true_eq_false, not_false_eq_true, Nat.zero_add, Nat.mul_one] <;> omega) | omega | (simp; done) | (simp; omega))) only [↓CR, MC, ↓PR, MR, trT_n hm]
theorem tnew_run {d : Nat} {h : Heap} {Q : Res → Prop} {tg : Hid Q} : Run (evFn Cw (d + 1) 13 [] h) Q tg = Q ([.obj h.objs.length 0], h.push (trT .nil)) := by
  rw [F13_eq]
  simp (disch := (first | assumption | (simp only [Bool.and_eq_true, Bool.and_eq_false_iff, decide_eq_true_eq, decide_eq_false_iff_not, bne_iff_ne, beq_iff_eq, beq_eq_false_iff_ne, bne_eq_false_iff_eq, Bool.not_eq_true', Bool.not_eq_false', bys_length, List.length_append, List.length_cons, List.length_nil, List.length_map, List.length_drop, List.length_take, Int.natCast_add, wrap_i64_eq, wrap_u64, wrap_u8, ne_eq, not_true_eq_false, not_false_eq_true, Nat.zero_add, Nat.mul_one] <;> omega) | omega | (simp; done) | (simp; omega))) only [↓CR, MC, ↓PR, MR]
  rfl

/-! ### All of a tree -/
/-- The variable in which pairs are gathered. -/
def pvO (o : Weave.Obj) (l : List KPair) : Prop := (o = .cells [HCell.val (.sl true 3 [])] ∧ l = []) ∨ o = .cells [HCell.own 3 (prs l)]
theorem pvO.cell {o : Weave.Obj} {l : List KPair} (ho : pvO o l) {h : Heap} {i : Nat} (hm : h.objs[i]? = some o) : ∃ c, h.cell? i 0 = some c ∧ ∃ f, c.toA = .sl f 3 (prs l) := by
  rcases ho with ⟨rfl, rfl⟩ | rfl
  · exact ⟨_, by rw [Heap.cell_at hm]; rfl, true, rfl⟩
  · exact ⟨_, by rw [Heap.cell_at hm]; rfl, false, rfl⟩

/-! ### How many keys a balanced tree has at least -/
/-! ### A tree tells what a list does -/
end Go.Proofs.Ytdlcjibefbnckaa.Wa
end

section
/- TreePlays. -/
namespace Go.Proofs.Ytdlcjibefbnckaa.Wa
open Go Go.Weave
set_option maxRecDepth 100000
set_option linter.unusedSimpArgs false
set_option linter.unusedVariables false
set_option linter.unusedSectionVars false

def kops (l : List KOp) : List AVal := l.map fun x => KOp.A x
theorem kops_length (l : List KOp) : (kops l).length = l.length := by simp [kops]
theorem kops_getD {l : List KOp} {i : Nat} (h : i < l.length) : (kops l).getD i AVal.undef = .agg [.int .i64 l[i].kind, .str l[i].key, .str l[i].val] := by simp [kops, h, KOp.A, KOp.C]
theorem ldel_len_le (k : List UInt8) (l : List KPair) : (ldel k l).length ≤ l.length := List.length_filter_le _ _
theorem lput_len_le {k v : List UInt8} {l : List KPair} (hs : Srt l) : (lput k v l).length ≤ l.length + 1 := by
  cases h : (lget k l).isSome
  · rw [lput_len_new hs h]; omega
  · rw [lput_len_old hs h]; omega
end Go.Proofs.Ytdlcjibefbnckaa.Wa
end

section
/- TreeClones. -/
namespace Go.Proofs.Ytdlcjibefbnckaa.Wa
open Go Go.Weave
set_option maxRecDepth 100000
set_option linter.unusedSimpArgs false
set_option linter.unusedVariables false
set_option linter.unusedSectionVars false

/-! ### A tree that is nil -/
theorem nseek_run {d : Nat} {s : List UInt8} {h : Heap} {Q : Res → Prop} {tg : Hid Q} : Run (evFn Cw (d + 2) 75 [.nilp, .str s] h) Q tg = Q ([.str [], .str [], .bool false], h) := by
  have r := fun (Q : Res → Prop) (tg : Hid Q) => told_run (d := d) (t := .nil) (h := h) (Q := Q) (tg := tg)
  rw [A_nil] at r
  rw [F75nil_eq]
  simp (disch := (first | assumption | (simp only [Bool.and_eq_true, Bool.and_eq_false_iff, decide_eq_true_eq, decide_eq_false_iff_not, bne_iff_ne, beq_iff_eq, beq_eq_false_iff_ne, bne_eq_false_iff_eq, Bool.not_eq_true', Bool.not_eq_false', bys_length, List.length_append, List.length_cons, List.length_nil, List.length_map, List.length_drop, List.length_take, Int.natCast_add, wrap_i64_eq, wrap_u64, wrap_u8, ne_eq, not_true_eq_false, not_false_eq_true, Nat.zero_add, Nat.mul_one] <;> omega) | omega | (simp; done) | (simp; omega))) only [↓CR, MC, ↓PR, MR, r, Nd.kv, tellK]
theorem nlen_run {d : Nat} {h : Heap} {Q : Res → Prop} {tg : Hid Q} : Run (evFn Cw (d + 1) 87 [.nilp] h) Q tg = Q ([.int .i64 0], h) := (at_eq (F87nil_eq _ _)).trans at_ret
/-! ### Each ends when it is told -/
def cl (most : Int) : Nat → Int → Bool × Int
  | 0, c => (true, c)
  | m + 1, c => if c + 1 < most then cl most m (c + 1) else (false, c + 1)
end Go.Proofs.Ytdlcjibefbnckaa.Wa
end
