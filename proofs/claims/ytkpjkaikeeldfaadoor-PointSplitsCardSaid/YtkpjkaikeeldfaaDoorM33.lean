/- Texts of this proof, laid together: the evaluator, what it comes to, and the laws. No condition. -/
import Derived.Test.YtkpjkaikeeldfaaDoorWvSp
import Derived.Test.YtkpjkaikeeldfaaDoorWvZ
import Derived.Test.YtkpjkaikeeldfaaDoorProg
import Derived.KernelRfl
import Derived.Test.YtkpjkaikeeldfaaDoorWvLa
import Derived.Test.YtkpjkaikeeldfaaDoorWvLb
import Derived.Test.YtkpjkaikeeldfaaDoorWvY
import Derived.Test.YtkpjkaikeeldfaaDoorWvLc
import Derived.Test.YtkpjkaikeeldfaaDoorWvU
import Derived.Test.YtkpjkaikeeldfaaDoorWvS
section
/- What the evaluator is told ahead of each function (nothing of it is trusted). -/
namespace Go.Proofs.YtkpjkaikeeldfaaDoor.Wa
open Go Go.Weave
set_option maxRecDepth 100000
set_option linter.unusedVariables false
def annw : FuncId → Ann := fun f => match f with
  | 26 => { keep := [(2, [.plain 1, .own 5 0])], rown := [0] }
  | 33 => { keep := [(3, [.plain 5, .plain 8, .plain 9, .plain 10])] }
  | 21 => { keep := [(2, [.plain 1, .own 5 0])], rown := [0] }
  | 32 => { keep := [(4, [.plain 0, .plain 5, .plain 6, .plain 7])] }
  | 31 => { rown := [0] }
  | 29 => { rown := [0] }
  | 20 => { rown := [0] }
  | 15 => { keep := [(3, [.own 3 0, .plain 6, .plain 7, .plain 8])], rown := [0] }
  | 16 => { keep := [(3, [.plain 0, .own 3 0, .plain 4])], rown := [0] }
  | 27 => { keep := [(2, [.plain 0, .own 4 0])], rown := [0] }
  | 24 => { keep := [(3, [.plain 0, .own 4 0, .plain 5])], rown := [0] }
  | 10 => { keep := [(4, [.plain 0, .plain 1, .plain 5])] }
  | 12 => { keep := [(4, [.plain 0, .plain 1, .plain 5])] }
  | 13 => { keep := [(2, [.plain 0, .plain 5, .plain 6, .plain 7])], loc := [(4, false)] }
  | 5 => { keep := [(7, [.plain 4, .plain 5, .plain 6, .plain 14, .plain 15, .plain 16])], loc := [(8, false)] }
  | 22 => { keep := [(6, [.own 4 0, .own 6 3, .plain 7])], rown := [0] }
  | 23 => { keep := [(3, [.plain 5, .plain 10, .plain 11, .plain 12])] }
  | 17 => { keep := [(4, [.box 3 [], .own 5 3, .box 6 [], .plain 14, .plain 15, .plain 16])], loc := [(3, false), (6, false)], rown := [0] }
  | 8 => { loc := [(2, false), (5, false)] }
  | 4 => { loc := [(3, false)] }
  | 6 => { keep := [(2, [.plain 0, .plain 3])] }
  | 9 => { loc := [(2, false), (7, false)], rown := [0] }
  | 18 => { keep := [(3, [.plain 0, .own 4 3, .plain 5]), (9, [.plain 0, .own 4 3, .plain 5, .own 6 0, .plain 8])], rown := [0] }
  | 25 => { keep := [(3, [.plain 1, .plain 5, .plain 6]), (7, [.plain 1, .plain 5, .plain 6, .plain 7])] }
  | 11 => { keep := [(4, [.plain 0, .box 2 [], .own 3 3, .own 5 0, .plain 6])], loc := [(2, false)] }
  | 3 => { loc := [(6, false)] }
  | _ => {}
noncomputable def Cw : Cfg := ⟨Tryd.prog, annw, fun f => match f with | 7 => some splitG | _ => none, fun g => match g with | 0 => some (AVal.elt (AVal.agg [(AVal.int .u32 0), (AVal.int .u32 274646895), (AVal.int .u32 549293790), (AVal.int .u32 820201905), (AVal.int .u32 1098587580), (AVal.int .u32 1361435347), (AVal.int .u32 1640403810), (AVal.int .u32 1905808397), (AVal.int .u32 2197175160), (AVal.int .u32 2460548119), (AVal.int .u32 2722870694), (AVal.int .u32 2987750089), (AVal.int .u32 3280807620), (AVal.int .u32 3553878443), (AVal.int .u32 3811616794), (AVal.int .u32 4084100981)]) true 16 0) | _ => none⟩
@[simp] theorem plain38 (x0 : Int) (x1 : Int) (x2 : Int) : plainOk Cw.P 38 (AVal.agg [AVal.int .i64 x0, AVal.int .i64 x1, AVal.int .u32 x2]) = true := by kernel_rfl
@[simp] theorem plain42 (x0 : List UInt8) (x1 : List UInt8) : plainOk Cw.P 42 (AVal.agg [AVal.str x0, AVal.str x1]) = true := by kernel_rfl
end Go.Proofs.YtkpjkaikeeldfaaDoor.Wa
end

section
/- What the evaluator comes to in these functions. -/
namespace Go.Proofs.YtkpjkaikeeldfaaDoor.Wa
open Go Go.Weave
set_option maxRecDepth 100000
set_option linter.unusedVariables false
/- f26 strandline/varint.Put -/
noncomputable def P26_0 (d k : Nat) (x0 : Int) (l1 : List AVal) (h : Heap) : Tr Res :=
  loopPt Cw d 26 [true, true, false, true] [] k ⟨[(1, (EV.one (SV.val (AVal.int .u64 x0)))), (5, (EV.one (SV.own (tokOf 5 0) 0 l1)))], []⟩ h
theorem P26_0_eq (d k : Nat) (x0 : Int) (l1 : List AVal) (h : Heap) : P26_0 d (k + 1) x0 l1 h =
  (bif (decide ((x0 : Int) ≥ 128)) then
    (bif decide ((l1.length + (1 : Nat)) * 1 ≤ 140737488355328) then
      (P26_0 d k (Int.fdiv x0 (2 ^ 7)) (l1 ++ [(AVal.int .u8 (IntKind.u8.wrap (BitVec.ofInt 8 (IntKind.u8.wrap x0) ||| BitVec.ofInt 8 128).toNat))]) h)
    else
      Tr.fail)
  else
    (bif decide ((l1.length + (1 : Nat)) * 1 ≤ 140737488355328) then (Tr.ret ([(AVal.sl false 0 (l1 ++ [(AVal.int .u8 (IntKind.u8.wrap x0))]))], h)) else Tr.fail)) := by kernel_rfl
theorem F26_eq (d : Nat) (f0 : Bool) (l1 : List AVal) (x2 : Int) (h : Heap) : evFn Cw (d + 1) 26 [(AVal.sl f0 0 l1), (AVal.int .u64 x2)] h =
  (bif decide (((0 : Nat) + l1.length) * 1 ≤ 140737488355328) then (P26_0 d rounds x2 ([] ++ l1) h) else Tr.fail) := by kernel_rfl
/- f33 strandline/varint.Get -/
noncomputable def P33_0 (d k : Nat) (x0 : Int) (f1 : Bool) (l2 : List AVal) (x3 : Int) (x4 : Int) (h : Heap) : Tr Res :=
  loopPt Cw d 33 [true, true, false, true, true] [] k ⟨[(5, (EV.one (SV.val (AVal.int .u64 x0)))), (8, (EV.one (SV.val (AVal.sl f1 0 l2)))), (9, (EV.one (SV.val (AVal.int .i64 x3)))), (10, (EV.one (SV.val (AVal.int .i64 x4))))], []⟩ h
theorem P33_0_eq (d k : Nat) (x0 : Int) (f1 : Bool) (l2 : List AVal) (x3 : Int) (x4 : Int) (h : Heap) : P33_0 d (k + 1) x0 f1 l2 x3 x4 h =
  (bif (decide ((x4 : Int) < x3)) then
    (bif (decide ((0 : Int) ≤ x4) && decide ((x4 : Int) < (l2.length : Int))) then
      (bif AVal.isInt .u8 (l2.getD (Int.toNat x4) AVal.undef) then
        (bif ((x4 : Int) == 9) then
          (bif (decide (((AVal.toInt (l2.getD (Int.toNat x4) AVal.undef)) : Int) > 1)) then
            (Tr.ret ([(AVal.int .u64 0), (AVal.int .i64 0), (AVal.int .i64 4)], h))
          else
            (bif decide ((IntKind.i64.wrap (7 * x4)) < 0) then
              Tr.fail
            else
              (bif (decide (((AVal.toInt (l2.getD (Int.toNat x4) AVal.undef)) : Int) < 128)) then
                (bif (((AVal.toInt (l2.getD (Int.toNat x4) AVal.undef)) : Int) == 0) then
                  (bif (decide ((x4 : Int) > 0)) then
                    (Tr.ret ([(AVal.int .u64 0), (AVal.int .i64 0), (AVal.int .i64 2)], h))
                  else
                    (Tr.ret ([(AVal.int .u64 (IntKind.u64.wrap (BitVec.ofInt 64 x0 ||| BitVec.ofInt 64 (IntKind.u64.wrap ((IntKind.u64.wrap (IntKind.u8.wrap (BitVec.ofInt 8 (AVal.toInt (l2.getD (Int.toNat x4) AVal.undef)) &&& BitVec.ofInt 8 127).toNat)) * 2 ^ (min (Int.toNat (IntKind.i64.wrap (7 * x4))) 64)))).toNat)), (AVal.int .i64 (IntKind.i64.wrap (x4 + 1))), (AVal.int .i64 0)], h)))
                else
                  (Tr.ret ([(AVal.int .u64 (IntKind.u64.wrap (BitVec.ofInt 64 x0 ||| BitVec.ofInt 64 (IntKind.u64.wrap ((IntKind.u64.wrap (IntKind.u8.wrap (BitVec.ofInt 8 (AVal.toInt (l2.getD (Int.toNat x4) AVal.undef)) &&& BitVec.ofInt 8 127).toNat)) * 2 ^ (min (Int.toNat (IntKind.i64.wrap (7 * x4))) 64)))).toNat)), (AVal.int .i64 (IntKind.i64.wrap (x4 + 1))), (AVal.int .i64 0)], h)))
              else
                (P33_0 d k (IntKind.u64.wrap (BitVec.ofInt 64 x0 ||| BitVec.ofInt 64 (IntKind.u64.wrap ((IntKind.u64.wrap (IntKind.u8.wrap (BitVec.ofInt 8 (AVal.toInt (l2.getD (Int.toNat x4) AVal.undef)) &&& BitVec.ofInt 8 127).toNat)) * 2 ^ (min (Int.toNat (IntKind.i64.wrap (7 * x4))) 64)))).toNat) f1 l2 x3 (IntKind.i64.wrap (x4 + 1)) h))))
        else
          (bif decide ((IntKind.i64.wrap (7 * x4)) < 0) then
            Tr.fail
          else
            (bif (decide (((AVal.toInt (l2.getD (Int.toNat x4) AVal.undef)) : Int) < 128)) then
              (bif (((AVal.toInt (l2.getD (Int.toNat x4) AVal.undef)) : Int) == 0) then
                (bif (decide ((x4 : Int) > 0)) then
                  (Tr.ret ([(AVal.int .u64 0), (AVal.int .i64 0), (AVal.int .i64 2)], h))
                else
                  (Tr.ret ([(AVal.int .u64 (IntKind.u64.wrap (BitVec.ofInt 64 x0 ||| BitVec.ofInt 64 (IntKind.u64.wrap ((IntKind.u64.wrap (IntKind.u8.wrap (BitVec.ofInt 8 (AVal.toInt (l2.getD (Int.toNat x4) AVal.undef)) &&& BitVec.ofInt 8 127).toNat)) * 2 ^ (min (Int.toNat (IntKind.i64.wrap (7 * x4))) 64)))).toNat)), (AVal.int .i64 (IntKind.i64.wrap (x4 + 1))), (AVal.int .i64 0)], h)))
              else
                (Tr.ret ([(AVal.int .u64 (IntKind.u64.wrap (BitVec.ofInt 64 x0 ||| BitVec.ofInt 64 (IntKind.u64.wrap ((IntKind.u64.wrap (IntKind.u8.wrap (BitVec.ofInt 8 (AVal.toInt (l2.getD (Int.toNat x4) AVal.undef)) &&& BitVec.ofInt 8 127).toNat)) * 2 ^ (min (Int.toNat (IntKind.i64.wrap (7 * x4))) 64)))).toNat)), (AVal.int .i64 (IntKind.i64.wrap (x4 + 1))), (AVal.int .i64 0)], h)))
            else
              (P33_0 d k (IntKind.u64.wrap (BitVec.ofInt 64 x0 ||| BitVec.ofInt 64 (IntKind.u64.wrap ((IntKind.u64.wrap (IntKind.u8.wrap (BitVec.ofInt 8 (AVal.toInt (l2.getD (Int.toNat x4) AVal.undef)) &&& BitVec.ofInt 8 127).toNat)) * 2 ^ (min (Int.toNat (IntKind.i64.wrap (7 * x4))) 64)))).toNat) f1 l2 x3 (IntKind.i64.wrap (x4 + 1)) h))))
      else
        Tr.fail)
    else
      Tr.fail)
  else
    (Tr.ret ([(AVal.int .u64 0), (AVal.int .i64 0), (AVal.int .i64 1)], h))) := by kernel_rfl
theorem F33_eq (d : Nat) (f0 : Bool) (l1 : List AVal) (h : Heap) : evFn Cw (d + 1) 33 [(AVal.sl f0 0 l1)] h =
  (P33_0 d rounds 0 f0 l1 (l1.length : Int) 0 h) := by kernel_rfl
/- f21 strandline/strandlineref02.Put -/
noncomputable def P21_0 (d k : Nat) (x0 : Int) (l1 : List AVal) (h : Heap) : Tr Res :=
  loopPt Cw d 21 [true, true, false, true] [] k ⟨[(1, (EV.one (SV.val (AVal.int .u64 x0)))), (5, (EV.one (SV.own (tokOf 5 0) 0 l1)))], []⟩ h
theorem P21_0_eq (d k : Nat) (x0 : Int) (l1 : List AVal) (h : Heap) : P21_0 d (k + 1) x0 l1 h =
  (bif (decide (((IntKind.u64.wrap (Int.tdiv x0 128)) : Int) > 0)) then
    (bif decide ((l1.length + (1 : Nat)) * 1 ≤ 140737488355328) then
      (P21_0 d k (IntKind.u64.wrap (Int.tdiv x0 128)) (l1 ++ [(AVal.int .u8 (IntKind.u8.wrap (IntKind.u64.wrap (128 + (Int.tmod x0 128)))))]) h)
    else
      Tr.fail)
  else
    (bif decide ((l1.length + (1 : Nat)) * 1 ≤ 140737488355328) then (Tr.ret ([(AVal.sl false 0 (l1 ++ [(AVal.int .u8 (IntKind.u8.wrap x0))]))], h)) else Tr.fail)) := by kernel_rfl
theorem F21_eq (d : Nat) (f0 : Bool) (l1 : List AVal) (x2 : Int) (h : Heap) : evFn Cw (d + 1) 21 [(AVal.sl f0 0 l1), (AVal.int .u64 x2)] h =
  (bif decide (((0 : Nat) + l1.length) * 1 ≤ 140737488355328) then (P21_0 d rounds x2 ([] ++ l1) h) else Tr.fail) := by kernel_rfl
/- f32 strandline/strandlineref02.Get -/
noncomputable def P32_0 (d k : Nat) (f0 : Bool) (l1 : List AVal) (x2 : Int) (x3 : Int) (x4 : Int) (h : Heap) : Tr Res :=
  loopPt Cw d 32 [true, true, true, false, true, true] [] k ⟨[(0, (EV.one (SV.val (AVal.sl f0 0 l1)))), (5, (EV.one (SV.val (AVal.int .u64 x2)))), (6, (EV.one (SV.val (AVal.int .u64 x3)))), (7, (EV.one (SV.val (AVal.int .i64 x4))))], []⟩ h
theorem P32_0_eq (d k : Nat) (f0 : Bool) (l1 : List AVal) (x2 : Int) (x3 : Int) (x4 : Int) (h : Heap) : P32_0 d (k + 1) f0 l1 x2 x3 x4 h =
  (bif (decide ((x4 : Int) < (l1.length : Int))) then
    (bif (decide ((0 : Int) ≤ x4) && decide ((x4 : Int) < (l1.length : Int))) then
      (bif AVal.isInt .u8 (l1.getD (Int.toNat x4) AVal.undef) then
        (bif ((x4 : Int) == 9) then
          (bif (decide (((IntKind.u64.wrap (AVal.toInt (l1.getD (Int.toNat x4) AVal.undef))) : Int) > 1)) then
            (Tr.ret ([(AVal.int .u64 0), (AVal.int .i64 0), (AVal.int .i64 4)], h))
          else
            (bif (decide (((IntKind.u64.wrap (AVal.toInt (l1.getD (Int.toNat x4) AVal.undef))) : Int) < 128)) then
              (bif (((IntKind.u64.wrap (AVal.toInt (l1.getD (Int.toNat x4) AVal.undef))) : Int) == 0) then
                (bif (decide ((x4 : Int) > 0)) then
                  (Tr.ret ([(AVal.int .u64 0), (AVal.int .i64 0), (AVal.int .i64 2)], h))
                else
                  (bif (decide (((IntKind.u64.wrap (AVal.toInt (l1.getD (Int.toNat x4) AVal.undef))) : Int) < 128)) then
                    (Tr.ret ([(AVal.int .u64 (IntKind.u64.wrap (x2 + (IntKind.u64.wrap ((Int.tmod (IntKind.u64.wrap (AVal.toInt (l1.getD (Int.toNat x4) AVal.undef))) 128) * x3))))), (AVal.int .i64 (IntKind.i64.wrap (x4 + 1))), (AVal.int .i64 0)], h))
                  else
                    (P32_0 d k f0 l1 (IntKind.u64.wrap (x2 + (IntKind.u64.wrap ((Int.tmod (IntKind.u64.wrap (AVal.toInt (l1.getD (Int.toNat x4) AVal.undef))) 128) * x3)))) (IntKind.u64.wrap (x3 * 128)) (IntKind.i64.wrap (x4 + 1)) h)))
              else
                (bif (decide (((IntKind.u64.wrap (AVal.toInt (l1.getD (Int.toNat x4) AVal.undef))) : Int) < 128)) then
                  (Tr.ret ([(AVal.int .u64 (IntKind.u64.wrap (x2 + (IntKind.u64.wrap ((Int.tmod (IntKind.u64.wrap (AVal.toInt (l1.getD (Int.toNat x4) AVal.undef))) 128) * x3))))), (AVal.int .i64 (IntKind.i64.wrap (x4 + 1))), (AVal.int .i64 0)], h))
                else
                  (P32_0 d k f0 l1 (IntKind.u64.wrap (x2 + (IntKind.u64.wrap ((Int.tmod (IntKind.u64.wrap (AVal.toInt (l1.getD (Int.toNat x4) AVal.undef))) 128) * x3)))) (IntKind.u64.wrap (x3 * 128)) (IntKind.i64.wrap (x4 + 1)) h)))
            else
              (bif (decide (((IntKind.u64.wrap (AVal.toInt (l1.getD (Int.toNat x4) AVal.undef))) : Int) < 128)) then
                (Tr.ret ([(AVal.int .u64 (IntKind.u64.wrap (x2 + (IntKind.u64.wrap ((Int.tmod (IntKind.u64.wrap (AVal.toInt (l1.getD (Int.toNat x4) AVal.undef))) 128) * x3))))), (AVal.int .i64 (IntKind.i64.wrap (x4 + 1))), (AVal.int .i64 0)], h))
              else
                (P32_0 d k f0 l1 (IntKind.u64.wrap (x2 + (IntKind.u64.wrap ((Int.tmod (IntKind.u64.wrap (AVal.toInt (l1.getD (Int.toNat x4) AVal.undef))) 128) * x3)))) (IntKind.u64.wrap (x3 * 128)) (IntKind.i64.wrap (x4 + 1)) h))))
        else
          (bif (decide (((IntKind.u64.wrap (AVal.toInt (l1.getD (Int.toNat x4) AVal.undef))) : Int) < 128)) then
            (bif (((IntKind.u64.wrap (AVal.toInt (l1.getD (Int.toNat x4) AVal.undef))) : Int) == 0) then
              (bif (decide ((x4 : Int) > 0)) then
                (Tr.ret ([(AVal.int .u64 0), (AVal.int .i64 0), (AVal.int .i64 2)], h))
              else
                (bif (decide (((IntKind.u64.wrap (AVal.toInt (l1.getD (Int.toNat x4) AVal.undef))) : Int) < 128)) then
                  (Tr.ret ([(AVal.int .u64 (IntKind.u64.wrap (x2 + (IntKind.u64.wrap ((Int.tmod (IntKind.u64.wrap (AVal.toInt (l1.getD (Int.toNat x4) AVal.undef))) 128) * x3))))), (AVal.int .i64 (IntKind.i64.wrap (x4 + 1))), (AVal.int .i64 0)], h))
                else
                  (P32_0 d k f0 l1 (IntKind.u64.wrap (x2 + (IntKind.u64.wrap ((Int.tmod (IntKind.u64.wrap (AVal.toInt (l1.getD (Int.toNat x4) AVal.undef))) 128) * x3)))) (IntKind.u64.wrap (x3 * 128)) (IntKind.i64.wrap (x4 + 1)) h)))
            else
              (bif (decide (((IntKind.u64.wrap (AVal.toInt (l1.getD (Int.toNat x4) AVal.undef))) : Int) < 128)) then
                (Tr.ret ([(AVal.int .u64 (IntKind.u64.wrap (x2 + (IntKind.u64.wrap ((Int.tmod (IntKind.u64.wrap (AVal.toInt (l1.getD (Int.toNat x4) AVal.undef))) 128) * x3))))), (AVal.int .i64 (IntKind.i64.wrap (x4 + 1))), (AVal.int .i64 0)], h))
              else
                (P32_0 d k f0 l1 (IntKind.u64.wrap (x2 + (IntKind.u64.wrap ((Int.tmod (IntKind.u64.wrap (AVal.toInt (l1.getD (Int.toNat x4) AVal.undef))) 128) * x3)))) (IntKind.u64.wrap (x3 * 128)) (IntKind.i64.wrap (x4 + 1)) h)))
          else
            (bif (decide (((IntKind.u64.wrap (AVal.toInt (l1.getD (Int.toNat x4) AVal.undef))) : Int) < 128)) then
              (Tr.ret ([(AVal.int .u64 (IntKind.u64.wrap (x2 + (IntKind.u64.wrap ((Int.tmod (IntKind.u64.wrap (AVal.toInt (l1.getD (Int.toNat x4) AVal.undef))) 128) * x3))))), (AVal.int .i64 (IntKind.i64.wrap (x4 + 1))), (AVal.int .i64 0)], h))
            else
              (P32_0 d k f0 l1 (IntKind.u64.wrap (x2 + (IntKind.u64.wrap ((Int.tmod (IntKind.u64.wrap (AVal.toInt (l1.getD (Int.toNat x4) AVal.undef))) 128) * x3)))) (IntKind.u64.wrap (x3 * 128)) (IntKind.i64.wrap (x4 + 1)) h))))
      else
        Tr.fail)
    else
      Tr.fail)
  else
    (Tr.ret ([(AVal.int .u64 0), (AVal.int .i64 0), (AVal.int .i64 1)], h))) := by kernel_rfl
theorem F32_eq (d : Nat) (f0 : Bool) (l1 : List AVal) (h : Heap) : evFn Cw (d + 1) 32 [(AVal.sl f0 0 l1)] h =
  (P32_0 d rounds f0 l1 0 1 0 h) := by kernel_rfl
end Go.Proofs.YtkpjkaikeeldfaaDoor.Wa
end

section
/- What the functions of the short numbers come to. -/
namespace Go.Proofs.YtkpjkaikeeldfaaDoor.Wa
open Go Go.Weave
set_option maxRecDepth 100000
set_option linter.unusedSimpArgs false
set_option linter.unusedVariables false
set_option linter.unusedSectionVars false

def encW (n : Nat) : List UInt8 := if n < 128 then [UInt8.ofNat n] else UInt8.ofNat (n % 128 + 128) :: encW (n / 128)
  termination_by n
  decreasing_by omega
theorem enc_ex : ∃ f : Nat → List UInt8, ∀ n, f n = if n < 128 then [UInt8.ofNat n] else UInt8.ofNat (n % 128 + 128) :: f (n / 128) := ⟨encW, fun n => by rw [encW]⟩
/-- A number's short bytes. (By choice: so that no reduction looks into it.) -/
noncomputable def enc : Nat → List UInt8 := Classical.choose enc_ex
theorem enc_lt {n : Nat} (h : n < 128) : enc n = [UInt8.ofNat n] := by
  have := Classical.choose_spec enc_ex n
  rw [if_pos h] at this; exact this
theorem enc_ge {n : Nat} (h : ¬ n < 128) : enc n = UInt8.ofNat (n % 128 + 128) :: enc (n / 128) := by
  have := Classical.choose_spec enc_ex n
  rw [if_neg h] at this; exact this

theorem enc_length : ∀ (j n : Nat), n < 128 ^ (j + 1) → 1 ≤ (enc n).length ∧ (enc n).length ≤ j + 1
  | 0, n, h => by rw [enc_lt (by simpa using h)]; simp
  | j + 1, n, h => by
    by_cases hn : n < 128
    · rw [enc_lt hn]; simp
    · rw [enc_ge hn]
      have := enc_length j (n / 128) (Nat.div_lt_of_lt_mul (by rw [Nat.pow_succ] at h; omega))
      simp; omega

theorem or128 (m : Nat) (h : m < 256) : m ||| 128 = m % 128 + 128 := by
  have : ∀ m : Fin 256, (m.val ||| 128) = m.val % 128 + 128 := by decide +kernel
  exact this ⟨m, h⟩
theorem and127 (m : Nat) (h : m < 256) : m &&& 127 = m % 128 := by
  have : ∀ m : Fin 256, (m.val &&& 127) = m.val % 128 := by decide +kernel
  exact this ⟨m, h⟩

theorem put_byte (n : Nat) : IntKind.u8.wrap (BitVec.ofInt 8 (IntKind.u8.wrap (n : Int)) ||| BitVec.ofInt 8 128).toNat = ((n % 128 + 128 : Nat) : Int) := by
  have e1 : IntKind.u8.wrap (n : Int) = ((n % 256 : Nat) : Int) := by rw [wrap_u8]; omega
  have e2 : (BitVec.ofInt 8 ((n % 256 : Nat) : Int)).toNat = n % 256 := by simp [BitVec.toNat_ofInt]; omega
  have e3 : (BitVec.ofInt 8 128).toNat = 128 := by decide
  rw [e1, BitVec.toNat_or, e2, e3, or128 _ (by omega), wrap_u8]
  omega

/-- varint.Put's loop. -/
theorem put_loop (d : Nat) (h : Heap) : ∀ (j k n : Nat) (l : List UInt8), n < 128 ^ (j + 1) → j < k → l.length + j + 1 ≤ 140737488355328 →
    Ans (P26_0 d k n (bys l) h) ([.sl false 0 (bys (l ++ enc n))], h) := by
  intro j
  induction j with
  | zero =>
    intro k n l hn hk hl
    obtain ⟨k, rfl⟩ : ∃ m, k = m + 1 := ⟨k - 1, by omega⟩
    have h1 : n < 128 := by simpa using hn
    rw [P26_0_eq, cond_of_not (by simp; omega), cond_of (by simp [bys_length]; omega), enc_lt h1, wrap_u8_id (by omega) (by omega), bys_one n (by omega), ← bys_append]
    exact Ans.ret _
  | succ j ih =>
    intro k n l hn hk hl
    obtain ⟨k, rfl⟩ : ∃ m, k = m + 1 := ⟨k - 1, by omega⟩
    by_cases h1 : n < 128
    · rw [P26_0_eq, cond_of_not (by simp; omega), cond_of (by simp [bys_length]; omega), enc_lt h1, wrap_u8_id (by omega) (by omega), bys_one n (by omega), ← bys_append]
      exact Ans.ret _
    · rw [P26_0_eq, cond_of (by simp; omega), cond_of (by simp [bys_length]; omega), enc_ge h1, put_byte, bys_one _ (by omega), ← bys_append]
      have e : Int.fdiv (n : Int) (2 ^ 7) = ((n / 128 : Nat) : Int) := by
        have : (2 ^ 7 : Int) = 128 := by decide
        rw [this, Int.fdiv_eq_ediv_of_nonneg _ (by omega)]; omega
      rw [e]
      have := ih k (n / 128) (l ++ [UInt8.ofNat (n % 128 + 128)]) (Nat.div_lt_of_lt_mul (by rw [Nat.pow_succ] at hn; omega)) (by omega) (by simp; omega)
      rw [List.append_assoc] at this
      exact this

theorem lt_128_10 {n : Nat} (h : n < 18446744073709551616) : n < 128 ^ (9 + 1) := Nat.lt_trans h (by decide)
theorem rounds_gt (n : Nat) (h : n < 4611686018427387904) : n < rounds := Nat.lt_of_lt_of_le h rounds_ge

theorem put_ok (d : Nat) (f : Bool) (l : List UInt8) (n : Nat) (h : Heap) (hn : n < 18446744073709551616) (hl : l.length ≤ 140737488355000) :
    Ans (evFn Cw (d + 1) 26 [.sl f 0 (bys l), .int .u64 n] h) ([.sl false 0 (bys (l ++ enc n))], h) := by
  rw [F26_eq, cond_of (by simp [bys_length]; omega), List.nil_append]
  exact put_loop d h 9 rounds n l (lt_128_10 hn) (rounds_gt _ (by omega)) (by omega)

/-- The document's. -/
theorem rput_loop (d : Nat) (h : Heap) : ∀ (j k n : Nat) (l : List UInt8), n < 18446744073709551616 → n < 128 ^ (j + 1) → j < k → l.length + j + 1 ≤ 140737488355328 →
    Ans (P21_0 d k n (bys l) h) ([.sl false 0 (bys (l ++ enc n))], h) := by
  intro j
  have hd : ∀ n : Nat, n < 18446744073709551616 → IntKind.u64.wrap (Int.tdiv (n : Int) 128) = ((n / 128 : Nat) : Int) := fun n hn => by
    rw [Int.tdiv_eq_ediv_of_nonneg (by omega), wrap_u64_id (by omega) (by omega)]; omega
  have hb : ∀ n : Nat, IntKind.u8.wrap (IntKind.u64.wrap (128 + (Int.tmod (n : Int) 128))) = ((n % 128 + 128 : Nat) : Int) := fun n => by
    rw [Int.tmod_eq_emod_of_nonneg (by omega), wrap_u64_id (by omega) (by omega), wrap_u8_id (by omega) (by omega)]; omega
  induction j with
  | zero =>
    intro k n l hm hn hk hl
    obtain ⟨k, rfl⟩ : ∃ m, k = m + 1 := ⟨k - 1, by omega⟩
    have h1 : n < 128 := by simpa using hn
    rw [P21_0_eq, hd n hm, cond_of_not (by simp; omega), cond_of (by simp [bys_length]; omega), enc_lt h1, wrap_u8_id (by omega) (by omega), bys_one n (by omega), ← bys_append]
    exact Ans.ret _
  | succ j ih =>
    intro k n l hm hn hk hl
    obtain ⟨k, rfl⟩ : ∃ m, k = m + 1 := ⟨k - 1, by omega⟩
    by_cases h1 : n < 128
    · rw [P21_0_eq, hd n hm, cond_of_not (by simp; omega), cond_of (by simp [bys_length]; omega), enc_lt h1, wrap_u8_id (by omega) (by omega), bys_one n (by omega), ← bys_append]
      exact Ans.ret _
    · rw [P21_0_eq, hd n hm, cond_of (by simp; omega), cond_of (by simp [bys_length]; omega), enc_ge h1, hb, bys_one _ (by omega), ← bys_append]
      have := ih k (n / 128) (l ++ [UInt8.ofNat (n % 128 + 128)]) (by omega) (Nat.div_lt_of_lt_mul (by rw [Nat.pow_succ] at hn; omega)) (by omega) (by simp; omega)
      rw [List.append_assoc] at this
      exact this

theorem rput_ok (d : Nat) (f : Bool) (l : List UInt8) (n : Nat) (h : Heap) (hn : n < 18446744073709551616) (hl : l.length ≤ 140737488355000) :
    Ans (evFn Cw (d + 1) 21 [.sl f 0 (bys l), .int .u64 n] h) ([.sl false 0 (bys (l ++ enc n))], h) := by
  rw [F21_eq, cond_of (by simp [bys_length]; omega), List.nil_append]
  exact rput_loop d h 9 rounds n l hn (lt_128_10 hn) (rounds_gt _ (by omega)) (by omega)

/-- The number that bytes begin with: from the i-th byte on. -/
def getF : List UInt8 → Nat → Nat → Nat × Nat × Nat
  | [], _, _ => (0, 0, 1)
  | c :: r, i, acc =>
    if i = 9 ∧ 1 < c.toNat then (0, 0, 4) else
    if c.toNat < 128 then (if c.toNat = 0 ∧ 0 < i then (0, 0, 2) else (acc + c.toNat * 2 ^ (7 * i), i + 1, 0)) else getF r (i + 1) (acc + (c.toNat % 128) * 2 ^ (7 * i))
def tri (x : Nat × Nat × Nat) : List AVal := [.int .u64 x.1, .int .i64 x.2.1, .int .i64 x.2.2]

theorem pow_le {i : Nat} (h : i ≤ 9) : 2 ^ (7 * i) ≤ 9223372036854775808 := by
  have : 2 ^ (7 * i) ≤ 2 ^ 63 := Nat.pow_le_pow_right (by omega) (by omega)
  simpa using this

theorem get_or {acc i c : Nat} (h : acc < 2 ^ (7 * i)) (hi : i ≤ 9) (hc : c < 256) (h9 : i = 9 → c ≤ 1) :
    IntKind.u64.wrap (BitVec.ofInt 64 (acc : Int) ||| BitVec.ofInt 64 (IntKind.u64.wrap ((IntKind.u64.wrap (IntKind.u8.wrap (BitVec.ofInt 8 (c : Int) &&& BitVec.ofInt 8 127).toNat)) * 2 ^ (min (Int.toNat (IntKind.i64.wrap (7 * (i : Int)))) 64)))).toNat
      = ((acc + (c % 128) * 2 ^ (7 * i) : Nat) : Int) ∧ acc + (c % 128) * 2 ^ (7 * i) < 18446744073709551616 := by
  have e1 : (BitVec.ofInt 8 (c : Int)).toNat = c := by simp; omega
  have e2 : (BitVec.ofInt 8 127).toNat = 127 := by decide
  have e3 : IntKind.u8.wrap (BitVec.ofInt 8 (c : Int) &&& BitVec.ofInt 8 127).toNat = ((c % 128 : Nat) : Int) := by
    rw [BitVec.toNat_and, e1, e2, and127 _ hc, wrap_u8]; omega
  have e4 : min (Int.toNat (IntKind.i64.wrap (7 * (i : Int)))) 64 = 7 * i := by rw [wrap_i64_id (by omega) (by omega)]; omega
  have hp := pow_le hi
  have hle : (c % 128) * 2 ^ (7 * i) ≤ 18446744073709551616 - 2 ^ (7 * i) := by
    by_cases h' : i = 9
    · have := h9 h'
      subst h'
      have : c % 128 ≤ 1 := by omega
      have h2 : (c % 128) * 2 ^ (7 * 9) ≤ 1 * 2 ^ (7 * 9) := Nat.mul_le_mul_right _ this
      have h3 : (2 : Nat) ^ (7 * 9) = 9223372036854775808 := by decide
      rw [h3] at h2 ⊢
      omega
    · have h2 : (c % 128) * 2 ^ (7 * i) ≤ 127 * 2 ^ (7 * i) := Nat.mul_le_mul_right _ (by omega)
      have h3 : 2 ^ (7 * i) ≤ 2 ^ 56 := Nat.pow_le_pow_right (by omega) (by omega)
      have h4 : (2 : Nat) ^ 56 = 72057594037927936 := by decide
      rw [h4] at h3
      omega
  have hsum : acc + (c % 128) * 2 ^ (7 * i) < 18446744073709551616 := by omega
  refine ⟨?_, hsum⟩
  rw [e3, e4]
  have e5 : IntKind.u64.wrap ((c % 128 : Nat) : Int) = ((c % 128 : Nat) : Int) := wrap_u64_id (by omega) (by omega)
  have e6 : ((c % 128 : Nat) : Int) * 2 ^ (7 * i) = (((c % 128) * 2 ^ (7 * i) : Nat) : Int) := by rw [Int.natCast_mul, Int.natCast_pow]; rfl
  rw [e5, e6, wrap_u64_id (n := (((c % 128) * 2 ^ (7 * i) : Nat) : Int)) (by omega) (by omega)]
  have e7 : (BitVec.ofInt 64 (acc : Int)).toNat = acc := by simp; omega
  have e8 : (BitVec.ofInt 64 (((c % 128) * 2 ^ (7 * i) : Nat) : Int)).toNat = (c % 128) * 2 ^ (7 * i) := by
    rw [BitVec.toNat_ofInt]
    have : ((2 ^ 64 : Nat) : Int) = 18446744073709551616 := by decide
    rw [this]; omega
  have e9 : acc ||| (c % 128) * 2 ^ (7 * i) = acc + (c % 128) * 2 ^ (7 * i) := by
    rw [Nat.or_comm, Nat.mul_comm (c % 128), Nat.add_comm]
    exact (Nat.two_pow_add_eq_or_of_lt h (c % 128)).symm
  rw [BitVec.toNat_or, e7, e8, e9]
  exact wrap_u64_id (by omega) (by omega)

theorem get_loop (d : Nat) (f : Bool) (h : Heap) : ∀ (r pre : List UInt8) (k acc : Nat), pre.length ≤ 9 → acc < 2 ^ (7 * pre.length) → r.length < k → pre.length + r.length ≤ 140737488355328 →
    Ans (P33_0 d k acc f (bys (pre ++ r)) ((pre ++ r).length : Nat) (pre.length : Nat) h) (tri (getF r pre.length acc), h) := by
  intro r
  induction r with
  | nil =>
    intro pre k acc hi ha hk hb
    obtain ⟨k, rfl⟩ : ∃ m, k = m + 1 := ⟨k - 1, by omega⟩
    rw [P33_0_eq, cond_of_not (by simp)]
    exact Ans.ret _
  | cons c r ih =>
    intro pre k acc hi ha hk hb
    obtain ⟨k, rfl⟩ : ∃ m, k = m + 1 := ⟨k - 1, by omega⟩
    have hc : c.toNat < 256 := c.toNat_lt
    have hlt : pre.length < (pre ++ c :: r).length := by simp
    have hget : (bys (pre ++ c :: r)).getD (Int.toNat (pre.length : Int)) AVal.undef = ofByte c := by
      rw [Int.toNat_natCast, bys_getD hlt]
      congr 1
      simp
    have hneg : decide ((IntKind.i64.wrap (7 * (pre.length : Int))) < 0) = false := by
      rw [wrap_i64_id (by omega) (by omega)]; simp; omega
    have hnext : IntKind.i64.wrap ((pre.length : Int) + 1) = ((pre.length + 1 : Nat) : Int) := by rw [wrap_i64_id (by omega) (by omega)]; omega
    have hrec : (pre.length = 9 → c.toNat ≤ 1) → ¬ c.toNat < 128 → Ans (P33_0 d k ((acc + (c.toNat % 128) * 2 ^ (7 * pre.length) : Nat) : Int) f (bys (pre ++ c :: r)) ((pre ++ c :: r).length : Nat) ((pre.length + 1 : Nat) : Int) h)
        (tri (getF r (pre.length + 1) (acc + (c.toNat % 128) * 2 ^ (7 * pre.length))), h) := fun h9 h128 => by
      have hp : pre.length < 9 := by
        have : pre.length ≠ 9 := fun e => by have := h9 e; omega
        omega
      have e1 : pre ++ c :: r = (pre ++ [c]) ++ r := by simp
      have e2 : (pre ++ [c]).length = pre.length + 1 := by simp
      have := ih (pre ++ [c]) k (acc + (c.toNat % 128) * 2 ^ (7 * pre.length)) (by rw [e2]; omega) (by
        rw [e2, show 7 * (pre.length + 1) = 7 * pre.length + 7 by omega, Nat.pow_add]
        have h3 : (c.toNat % 128) * 2 ^ (7 * pre.length) ≤ 127 * 2 ^ (7 * pre.length) := Nat.mul_le_mul_right _ (by omega)
        have h4 : (2 : Nat) ^ 7 = 128 := by decide
        rw [h4]
        omega) (by simp at hk; omega) (by rw [e2]; simp at hb; omega)
      rw [← e1, e2] at this
      exact this
    rw [P33_0_eq, cond_of (by simp; omega), cond_of (by simp [bys_length]; omega), hget, isInt_ofByte, cond_true, toInt_ofByte, hneg, cond_false, hnext]
    unfold getF
    by_cases h9 : pre.length = 9
    · rw [cond_of (by simp; omega)]
      by_cases h1 : 1 < c.toNat
      · rw [cond_of (by simp; omega), if_pos ⟨h9, h1⟩]; exact Ans.ret _
      · rw [cond_of_not (by simp; omega), if_neg (by omega), (get_or ha hi hc (fun _ => by omega)).1, cond_of (by simp; omega), if_pos (by omega)]
        by_cases h0 : c.toNat = 0
        · rw [cond_of (by simp [h0]), cond_of (by simp; omega), if_pos (by omega)]; exact Ans.ret _
        · rw [cond_of_not (by simp; omega), if_neg (by omega), Nat.mod_eq_of_lt (by omega : c.toNat < 128)]; exact Ans.ret _
    · have hno : pre.length = 9 → c.toNat ≤ 1 := fun e => absurd e h9
      rw [cond_of_not (by simp; omega), if_neg (by omega), (get_or ha hi hc hno).1]
      by_cases h128 : c.toNat < 128
      · rw [cond_of (by simp; omega), if_pos h128]
        by_cases h0 : c.toNat = 0
        · rw [cond_of (by simp [h0])]
          by_cases hz : 0 < pre.length
          · rw [cond_of (by simp; omega), if_pos ⟨h0, hz⟩]; exact Ans.ret _
          · rw [cond_of_not (by rw [decide_eq_false_iff_not]; omega), if_neg (fun e => hz e.2), Nat.mod_eq_of_lt h128]; exact Ans.ret _
        · rw [cond_of_not (by simp; omega), if_neg (fun e => h0 e.1), Nat.mod_eq_of_lt h128]; exact Ans.ret _
      · rw [cond_of_not (by simp; omega), if_neg h128]
        exact hrec hno h128

theorem get_ok (d : Nat) (f : Bool) (l : List UInt8) (h : Heap) (hl : l.length ≤ 140737488355328) : Ans (evFn Cw (d + 1) 33 [.sl f 0 (bys l)] h) (tri (getF l 0 0), h) := by
  rw [F33_eq]
  have := get_loop d f h l [] rounds 0 (by simp) (by simp) (rounds_gt _ (by omega)) (by simpa using hl)
  simpa [bys_length] using this

/-- What is put is got, whatever stands behind. -/
theorem get_enc : ∀ (j n i acc : Nat) (rest : List UInt8), n < 128 ^ (j + 1) → i + j ≤ 9 → (i + j = 9 → n < 2 * 128 ^ j) → (0 < i → 0 < n) → getF (enc n ++ rest) i acc = (acc + n * 2 ^ (7 * i), i + (enc n).length, 0)
  | 0, n, i, acc, rest, hn, hi, h9, h0 => by
    have h1 : n < 128 := by simpa using hn
    have e : (UInt8.ofNat n).toNat = n := by simp; omega
    rw [enc_lt h1]
    simp only [List.singleton_append, getF, e]
    rw [if_neg (by intro ⟨a, b⟩; have := h9 (by omega); omega), if_pos h1, if_neg (by intro ⟨a, b⟩; have := h0 b; omega)]
    simp
  | j + 1, n, i, acc, rest, hn, hi, h9, h0 => by
    by_cases h1 : n < 128
    · have e : (UInt8.ofNat n).toNat = n := by simp; omega
      rw [enc_lt h1]
      simp only [List.singleton_append, getF, e]
      rw [if_neg (by intro ⟨a, b⟩; omega), if_pos h1, if_neg (by intro ⟨a, b⟩; have := h0 b; omega)]
      simp
    · have e : (UInt8.ofNat (n % 128 + 128)).toNat = n % 128 + 128 := by simp; omega
      rw [enc_ge h1]
      simp only [List.cons_append, getF, e]
      rw [if_neg (by intro ⟨a, b⟩; omega), if_neg (by omega)]
      rw [get_enc j (n / 128) (i + 1) _ rest (Nat.div_lt_of_lt_mul (by rw [Nat.pow_succ] at hn; omega)) (by omega) (fun hh => by
        have := h9 (by omega)
        rw [Nat.pow_succ] at this
        exact Nat.div_lt_of_lt_mul (by omega)) (fun _ => by omega)]
      have e2 : (n % 128 + 128) % 128 = n % 128 := by omega
      have e3 : 2 ^ (7 * (i + 1)) = 128 * 2 ^ (7 * i) := by rw [show 7 * (i + 1) = 7 + 7 * i by omega, Nat.pow_add]
      rw [e2, e3]
      have e4 : n = n % 128 + n / 128 * 128 := by omega
      simp only [List.length_cons, Prod.mk.injEq, and_true]
      refine ⟨?_, by omega⟩
      have : n * 2 ^ (7 * i) = (n % 128) * 2 ^ (7 * i) + n / 128 * (128 * 2 ^ (7 * i)) := by
        rw [← Nat.mul_assoc, ← Nat.add_mul]; congr 1
      omega

theorem get_enc0 (n : Nat) (rest : List UInt8) (hn : n < 18446744073709551616) : getF (enc n ++ rest) 0 0 = (n, (enc n).length, 0) := by
  have := get_enc 9 n 0 0 rest (lt_128_10 hn) (by omega) (fun _ => Nat.lt_of_lt_of_le hn (by decide)) (fun h => by omega)
  simpa using this

end Go.Proofs.YtkpjkaikeeldfaaDoor.Wa
end

section
/- The number that bytes begin with, as the document has it; and VarintGets. -/
namespace Go.Proofs.YtkpjkaikeeldfaaDoor.Wa
open Go Go.Weave
set_option maxRecDepth 100000
set_option linter.unusedSimpArgs false
set_option linter.unusedVariables false
set_option linter.unusedSectionVars false

theorem rget_sum {acc i c : Nat} (h : acc < 2 ^ (7 * i)) (hi : i ≤ 9) (hc : c < 256) (h9 : i = 9 → c ≤ 1) :
    IntKind.u64.wrap ((acc : Int) + (IntKind.u64.wrap ((Int.tmod (c : Int) 128) * ((2 ^ (7 * i) : Nat) : Int)))) = ((acc + (c % 128) * 2 ^ (7 * i) : Nat) : Int) := by
  have hs := (get_or h hi hc h9).2
  have e1 : Int.tmod (c : Int) 128 = ((c % 128 : Nat) : Int) := by rw [Int.tmod_eq_emod_of_nonneg (by omega)]; omega
  have e2 : ((c % 128 : Nat) : Int) * ((2 ^ (7 * i) : Nat) : Int) = (((c % 128) * 2 ^ (7 * i) : Nat) : Int) := by rw [Int.natCast_mul]
  rw [e1, e2, wrap_u64_id (n := (((c % 128) * 2 ^ (7 * i) : Nat) : Int)) (by omega) (by omega), wrap_u64_id (by omega) (by omega)]
  omega

theorem rget_loop (d : Nat) (f : Bool) (h : Heap) : ∀ (r pre : List UInt8) (k acc : Nat), pre.length ≤ 9 → acc < 2 ^ (7 * pre.length) → r.length < k → pre.length + r.length ≤ 140737488355328 →
    Ans (P32_0 d k f (bys (pre ++ r)) acc ((2 ^ (7 * pre.length) : Nat) : Int) (pre.length : Nat) h) (tri (getF r pre.length acc), h) := by
  intro r
  induction r with
  | nil =>
    intro pre k acc hi ha hk hb
    obtain ⟨k, rfl⟩ : ∃ m, k = m + 1 := ⟨k - 1, by omega⟩
    rw [P32_0_eq, cond_of_not (by simp [bys_length])]
    exact Ans.ret _
  | cons c r ih =>
    intro pre k acc hi ha hk hb
    obtain ⟨k, rfl⟩ : ∃ m, k = m + 1 := ⟨k - 1, by omega⟩
    have hc : c.toNat < 256 := c.toNat_lt
    have hlt : pre.length < (pre ++ c :: r).length := by simp
    have hget : (bys (pre ++ c :: r)).getD (Int.toNat (pre.length : Int)) AVal.undef = ofByte c := by
      rw [Int.toNat_natCast, bys_getD hlt]
      congr 1
      simp
    have hw : IntKind.u64.wrap ((c.toNat : Nat) : Int) = ((c.toNat : Nat) : Int) := wrap_u64_id (by omega) (by omega)
    have hnext : IntKind.i64.wrap ((pre.length : Int) + 1) = ((pre.length + 1 : Nat) : Int) := by rw [wrap_i64_id (by omega) (by omega)]; omega
    have hrec : (pre.length = 9 → c.toNat ≤ 1) → ¬ c.toNat < 128 → Ans (P32_0 d k f (bys (pre ++ c :: r)) ((acc + (c.toNat % 128) * 2 ^ (7 * pre.length) : Nat) : Int) (IntKind.u64.wrap (((2 ^ (7 * pre.length) : Nat) : Int) * 128)) ((pre.length + 1 : Nat) : Int) h)
        (tri (getF r (pre.length + 1) (acc + (c.toNat % 128) * 2 ^ (7 * pre.length))), h) := fun h9 h128 => by
      have hp : pre.length < 9 := by
        have : pre.length ≠ 9 := fun e => by have := h9 e; omega
        omega
      have e1 : pre ++ c :: r = (pre ++ [c]) ++ r := by simp
      have e2 : (pre ++ [c]).length = pre.length + 1 := by simp
      have e4 : 2 ^ (7 * (pre.length + 1)) = 2 ^ (7 * pre.length) * 128 := by
        rw [show 7 * (pre.length + 1) = 7 * pre.length + 7 by omega, Nat.pow_add]
      have e5 := pow_le (i := pre.length + 1) (by omega)
      have e6 : IntKind.u64.wrap (((2 ^ (7 * pre.length) : Nat) : Int) * 128) = ((2 ^ (7 * (pre.length + 1)) : Nat) : Int) := by
        rw [e4] at e5 ⊢
        rw [wrap_u64_id (by omega) (by omega)]
        omega
      have := ih (pre ++ [c]) k (acc + (c.toNat % 128) * 2 ^ (7 * pre.length)) (by rw [e2]; omega) (by
        rw [e2, e4]
        have h3 : (c.toNat % 128) * 2 ^ (7 * pre.length) ≤ 127 * 2 ^ (7 * pre.length) := Nat.mul_le_mul_right _ (by omega)
        omega) (by simp at hk; omega) (by rw [e2]; simp at hb; omega)
      rw [← e1, e2] at this
      rw [e6]
      exact this
    rw [P32_0_eq, cond_of (by simp [bys_length]; omega), cond_of (by simp [bys_length]; omega), hget, isInt_ofByte, cond_true, toInt_ofByte, hw, hnext]
    unfold getF
    by_cases h9 : pre.length = 9
    · rw [cond_of (by simp; omega)]
      by_cases h1 : 1 < c.toNat
      · rw [cond_of (by simp; omega), if_pos ⟨h9, h1⟩]; exact Ans.ret _
      · rw [cond_of_not (by simp; omega), if_neg (by omega), rget_sum ha hi hc (fun _ => by omega), cond_of (by simp; omega), if_pos (by omega)]
        by_cases h0 : c.toNat = 0
        · rw [cond_of (by simp [h0]), cond_of (by simp; omega), if_pos (by omega)]; exact Ans.ret _
        · rw [cond_of_not (by simp; omega), if_neg (fun e => h0 e.1), cond_of (by simp; omega), Nat.mod_eq_of_lt (by omega : c.toNat < 128)]; exact Ans.ret _
    · have hno : pre.length = 9 → c.toNat ≤ 1 := fun e => absurd e h9
      rw [cond_of_not (by simp; omega), if_neg (fun e => h9 e.1), rget_sum ha hi hc hno]
      by_cases h128 : c.toNat < 128
      · rw [cond_of (by simp; omega), if_pos h128]
        by_cases h0 : c.toNat = 0
        · rw [cond_of (by simp [h0])]
          by_cases hz : 0 < pre.length
          · rw [cond_of (by rw [decide_eq_true_iff]; omega), if_pos ⟨h0, hz⟩]; exact Ans.ret _
          · rw [cond_of_not (by rw [decide_eq_false_iff_not]; omega), if_neg (fun e => hz e.2), cond_of (by simp; omega), Nat.mod_eq_of_lt h128]; exact Ans.ret _
        · rw [cond_of_not (by simp; omega), if_neg (fun e => h0 e.1), cond_of (by simp; omega), Nat.mod_eq_of_lt h128]; exact Ans.ret _
      · rw [cond_of_not (by simp; omega), if_neg h128, cond_of_not (by simp; omega)]
        exact hrec hno h128

theorem rget_ok (d : Nat) (f : Bool) (l : List UInt8) (h : Heap) (hl : l.length ≤ 140737488355328) : Ans (evFn Cw (d + 1) 32 [.sl f 0 (bys l)] h) (tri (getF l 0 0), h) := by
  rw [F32_eq]
  have := rget_loop d f h l [] rounds 0 (by simp) (by simp) (rounds_gt _ (by omega)) (by simpa using hl)
  simpa using this

/-- What is got: a number that is put by the same bytes; or why there is none. -/
theorem getF_spec : ∀ (r : List UInt8) (i acc : Nat), i ≤ 9 →
    (∃ m, getF r i acc = (acc + m * 2 ^ (7 * i), i + (enc m).length, 0) ∧ r.take (enc m).length = enc m ∧ (enc m).length ≤ r.length ∧ m < 2 * 128 ^ (9 - i) ∧ (0 < i → 0 < m)) ∨
    (∃ e, getF r i acc = (0, 0, e) ∧ (e = 1 ∨ e = 2 ∨ e = 4))
  | [], i, acc, _ => .inr ⟨1, rfl, .inl rfl⟩
  | c :: r, i, acc, hi => by
    have hc : c.toNat < 256 := c.toNat_lt
    unfold getF
    by_cases h9 : i = 9 ∧ 1 < c.toNat
    · rw [if_pos h9]; exact .inr ⟨4, rfl, .inr (.inr rfl)⟩
    · rw [if_neg h9]
      by_cases h128 : c.toNat < 128
      · rw [if_pos h128]
        by_cases h0 : c.toNat = 0 ∧ 0 < i
        · rw [if_pos h0]; exact .inr ⟨2, rfl, .inr (.inl rfl)⟩
        · rw [if_neg h0]
          have e : enc c.toNat = [c] := by rw [enc_lt h128]; simp
          refine .inl ⟨c.toNat, by rw [e]; rfl, by rw [e]; rfl, by rw [e]; simp, ?_, fun hi0 => by
            have : c.toNat ≠ 0 := fun e => h0 ⟨e, hi0⟩
            omega⟩
          by_cases hi9 : i = 9
          · subst hi9
            have : ¬ 1 < c.toNat := fun e => h9 ⟨rfl, e⟩
            simp; omega
          · have h1 : (128 : Nat) ^ 1 ≤ 128 ^ (9 - i) := Nat.pow_le_pow_right (by omega) (by omega)
            simp at h1
            omega
      · rw [if_neg h128]
        have hi9 : i ≠ 9 := fun e => h9 ⟨e, by omega⟩
        rcases getF_spec r (i + 1) (acc + (c.toNat % 128) * 2 ^ (7 * i)) (by omega) with ⟨m, h1, h2, h3, h4, h5⟩ | h
        · left
          have hm := h5 (by omega)
          have e : enc (c.toNat % 128 + 128 * m) = c :: enc m := by
            rw [enc_ge (by omega)]
            have e1 : (c.toNat % 128 + 128 * m) % 128 + 128 = c.toNat := by omega
            have e2 : (c.toNat % 128 + 128 * m) / 128 = m := by omega
            rw [e1, e2]
            simp
          refine ⟨c.toNat % 128 + 128 * m, ?_, by rw [e]; simp [h2], by rw [e]; simp; exact h3, ?_, fun _ => by omega⟩
          · rw [h1, e]
            have e3 : 2 ^ (7 * (i + 1)) = 128 * 2 ^ (7 * i) := by rw [show 7 * (i + 1) = 7 + 7 * i by omega, Nat.pow_add]
            rw [e3]
            simp only [List.length_cons, Prod.mk.injEq, and_true]
            refine ⟨?_, by omega⟩
            rw [Nat.add_mul, Nat.mul_comm 128 m, Nat.mul_assoc]
            omega
          · have e4 : 9 - i = (9 - (i + 1)) + 1 := by omega
            rw [e4, Nat.pow_succ]
            omega
        · exact .inr h

theorem getF_spec0 (l : List UInt8) : (∃ m, getF l 0 0 = (m, (enc m).length, 0) ∧ l.take (enc m).length = enc m ∧ (enc m).length ≤ l.length ∧ m < 18446744073709551616) ∨ (∃ e, getF l 0 0 = (0, 0, e) ∧ (e = 1 ∨ e = 2 ∨ e = 4)) := by
  rcases getF_spec l 0 0 (by omega) with ⟨m, h1, h2, h3, h4, _⟩ | h
  · refine .inl ⟨m, by simpa using h1, h2, h3, Nat.lt_of_lt_of_le h4 (by decide)⟩
  · exact .inr h

end Go.Proofs.YtkpjkaikeeldfaaDoor.Wa
end

section
/- All the numbers that bytes are; VarintAll. -/
namespace Go.Proofs.YtkpjkaikeeldfaaDoor.Wa
open Go Go.Weave
set_option maxRecDepth 100000
set_option linter.unusedSimpArgs false
set_option linter.unusedVariables false
set_option linter.unusedSectionVars false

theorem get_run {d : Nat} {f : Bool} {l : List UInt8} {h : Heap} {Q : Res → Prop} {tg : Hid Q} (hl : l.length ≤ 140737488355328) :
    Run (evFn Cw (d + 1) 33 [.sl f 0 (bys l)] h) Q tg = Q ([.int .u64 (getF l 0 0).1, .int .i64 (getF l 0 0).2.1, .int .i64 (getF l 0 0).2.2], h) := (get_ok d f l h hl).at
theorem rget_run {d : Nat} {f : Bool} {l : List UInt8} {h : Heap} {Q : Res → Prop} {tg : Hid Q} (hl : l.length ≤ 140737488355328) :
    Run (evFn Cw (d + 1) 32 [.sl f 0 (bys l)] h) Q tg = Q ([.int .u64 (getF l 0 0).1, .int .i64 (getF l 0 0).2.1, .int .i64 (getF l 0 0).2.2], h) := (rget_ok d f l h hl).at
theorem put_run {d : Nat} {f : Bool} {l : List UInt8} {n : Nat} {h : Heap} {Q : Res → Prop} {tg : Hid Q} (hn : n < 18446744073709551616) (hl : l.length ≤ 140737488355000) :
    Run (evFn Cw (d + 1) 26 [.sl f 0 (bys l), .int .u64 n] h) Q tg = Q ([.sl false 0 (bys (l ++ enc n))], h) := (put_ok d f l n h hn hl).at
theorem getF_ok {l : List UInt8} (h : (getF l 0 0).2.2 = 0) : 1 ≤ (getF l 0 0).2.1 ∧ (getF l 0 0).2.1 ≤ l.length ∧ (getF l 0 0).1 < 18446744073709551616 := by
  rcases getF_spec0 l with ⟨m, h1, _, h3, h4⟩ | ⟨e, h1, he⟩
  · rw [h1]; exact ⟨(enc_length 9 m (lt_128_10 h4)).1, h3, h4⟩
  · rw [h1] at h; simp at h; omega

theorem part_drop {l : List UInt8} {k : Nat} : Weave.part (k : Int) ((bys l).length : Int) (bys l) = bys (l.drop k) := by
  rw [part_bys, bys_length]
  congr 1
  simp only [Weave.part, Int.toNat_natCast]
  rw [List.take_of_length_le (by simp)]

theorem e0 : ((0 : Nat) : Int) = 0 := by omega
end Go.Proofs.YtkpjkaikeeldfaaDoor.Wa
end

section
/- What the evaluator comes to in these functions. -/
namespace Go.Proofs.YtkpjkaikeeldfaaDoor.Wa
open Go Go.Weave
set_option maxRecDepth 100000
set_option linter.unusedVariables false
/- f31 strandline/field.Get -/
theorem F31_eq (d : Nat) (f0 : Bool) (l1 : List AVal) (h : Heap) : evFn Cw (d + 1) 31 [(AVal.sl f0 0 l1)] h =
  (runK (evFn Cw d 33 [(AVal.sl f0 0 l1)] h) fun r1 h1 =>
    (consK r1 fun w2 ws3 =>
      (intK .u64 w2 fun y4 =>
        (consK ws3 fun w5 ws6 =>
          (intK .i64 w5 fun y7 =>
            (consK ws6 fun w8 ws9 =>
              (intK .i64 w8 fun y10 =>
                (nilK ws9
                  (bif ((y10 : Int) != 0) then
                    (Tr.ret ([(AVal.sl true 0 []), (AVal.int .i64 0), (AVal.int .i64 y10)], h1))
                  else
                    (bif (decide ((y4 : Int) > 65536)) then
                      (Tr.ret ([(AVal.sl true 0 []), (AVal.int .i64 0), (AVal.int .i64 5)], h1))
                    else
                      (bif (decide (((IntKind.i64.wrap (y7 + (IntKind.i64.wrap y4))) : Int) > (l1.length : Int))) then
                        (Tr.ret ([(AVal.sl true 0 []), (AVal.int .i64 0), (AVal.int .i64 1)], h1))
                      else
                        (bif ((decide ((0 : Int) ≤ y7) && decide ((y7 : Int) ≤ (IntKind.i64.wrap (y7 + (IntKind.i64.wrap y4))))) && decide (((IntKind.i64.wrap (y7 + (IntKind.i64.wrap y4))) : Int) ≤ (l1.length : Int))) then
                          (bif decide (((IntKind.i64.wrap (y7 + (IntKind.i64.wrap y4))) : Int) = (IntKind.i64.wrap (y7 + (IntKind.i64.wrap y4)))) then
                            (bif decide (((0 : Nat) + (Go.Weave.part y7 (IntKind.i64.wrap (y7 + (IntKind.i64.wrap y4))) l1).length) * 1 ≤ 140737488355328) then
                              (Tr.ret ([(AVal.sl false 0 ([] ++ (Go.Weave.part y7 (IntKind.i64.wrap (y7 + (IntKind.i64.wrap y4))) l1))), (AVal.int .i64 (IntKind.i64.wrap (y7 + (IntKind.i64.wrap y4)))), (AVal.int .i64 0)], h1))
                            else
                              Tr.fail)
                          else
                            Tr.fail)
                        else
                          Tr.fail)))))))))))) := by kernel_rfl
/- f29 strandline/strandlineref04.Get -/
theorem F29_eq (d : Nat) (f0 : Bool) (l1 : List AVal) (h : Heap) : evFn Cw (d + 1) 29 [(AVal.sl f0 0 l1)] h =
  (runK (evFn Cw d 32 [(AVal.sl f0 0 l1)] h) fun r1 h1 =>
    (consK r1 fun w2 ws3 =>
      (intK .u64 w2 fun y4 =>
        (consK ws3 fun w5 ws6 =>
          (intK .i64 w5 fun y7 =>
            (consK ws6 fun w8 ws9 =>
              (intK .i64 w8 fun y10 =>
                (nilK ws9
                  (bif ((y10 : Int) != 0) then
                    (Tr.ret ([(AVal.sl true 0 []), (AVal.int .i64 0), (AVal.int .i64 y10)], h1))
                  else
                    (bif (decide ((y4 : Int) > 65536)) then
                      (Tr.ret ([(AVal.sl true 0 []), (AVal.int .i64 0), (AVal.int .i64 5)], h1))
                    else
                      (bif (decide (((IntKind.i64.wrap y4) : Int) > (IntKind.i64.wrap ((l1.length : Int) - y7)))) then
                        (Tr.ret ([(AVal.sl true 0 []), (AVal.int .i64 0), (AVal.int .i64 1)], h1))
                      else
                        (bif ((decide ((0 : Int) ≤ y7) && decide ((y7 : Int) ≤ (IntKind.i64.wrap (y7 + (IntKind.i64.wrap y4))))) && decide (((IntKind.i64.wrap (y7 + (IntKind.i64.wrap y4))) : Int) ≤ (l1.length : Int))) then
                          (bif decide (((0 : Nat) + (Go.Weave.part y7 (IntKind.i64.wrap (y7 + (IntKind.i64.wrap y4))) l1).length) * 1 ≤ 140737488355328) then
                            (Tr.ret ([(AVal.sl false 0 ([] ++ (Go.Weave.part y7 (IntKind.i64.wrap (y7 + (IntKind.i64.wrap y4))) l1))), (AVal.int .i64 (IntKind.i64.wrap (y7 + (IntKind.i64.wrap y4)))), (AVal.int .i64 0)], h1))
                          else
                            Tr.fail)
                        else
                          Tr.fail)))))))))))) := by kernel_rfl
/- f20 strandline/field.Put -/
theorem F20_eq (d : Nat) (f0 : Bool) (l1 : List AVal) (f2 : Bool) (l3 : List AVal) (h : Heap) : evFn Cw (d + 1) 20 [(AVal.sl f0 0 l1), (AVal.sl f2 0 l3)] h =
  (bif (decide (((l3.length : Int) : Int) > 65536)) then
    (bif decide (((0 : Nat) + l1.length) * 1 ≤ 140737488355328) then (Tr.ret ([(AVal.sl false 0 ([] ++ l1))], h)) else Tr.fail)
  else
    (runK (evFn Cw d 26 [(AVal.sl f0 0 l1), (AVal.int .u64 (IntKind.u64.wrap (l3.length : Int)))] h) fun r1 h1 =>
      (consK r1 fun w2 ws3 =>
        (slOK 0 w2 fun es4 =>
          (nilK ws3
            (bif decide ((es4.length + l3.length) * 1 ≤ 140737488355328) then (Tr.ret ([(AVal.sl false 0 (es4 ++ l3))], h1)) else Tr.fail)))))) := by kernel_rfl
/- f15 strandline/field.Pack -/
noncomputable def P15_0 (d k : Nat) (l0 : List AVal) (f1 : Bool) (l2 : List AVal) (x3 : Int) (x4 : Int) (h : Heap) : Tr Res :=
  loopPt Cw d 15 [true, true, false, true, true] [] k ⟨[(3, (EV.one (SV.own (tokOf 3 0) 0 l0))), (6, (EV.one (SV.val (AVal.sl f1 0 l2)))), (7, (EV.one (SV.val (AVal.int .i64 x3)))), (8, (EV.one (SV.val (AVal.int .i64 x4))))], []⟩ h
theorem P15_0_eq (d k : Nat) (l0 : List AVal) (f1 : Bool) (l2 : List AVal) (x3 : Int) (x4 : Int) (h : Heap) : P15_0 d (k + 1) l0 f1 l2 x3 x4 h =
  (bif (decide ((x4 : Int) < x3)) then
    (bif (decide ((0 : Int) ≤ x4) && decide ((x4 : Int) < (l2.length : Int))) then
      (slK 0 (l2.getD (Int.toNat x4) AVal.undef) fun fl1 es2 =>
        (runK (evFn Cw d 20 [(AVal.sl false 0 l0), (AVal.sl fl1 0 es2)] h) fun r3 h3 =>
          (consK r3 fun w4 ws5 =>
            (slOK 0 w4 fun es6 =>
              (nilK ws5
                (P15_0 d k es6 f1 l2 x3 (IntKind.i64.wrap (x4 + 1)) h3))))))
    else
      Tr.fail)
  else
    (Tr.ret ([(AVal.sl false 0 l0)], h))) := by kernel_rfl
theorem F15_eq (d : Nat) (f0 : Bool) (l1 : List AVal) (h : Heap) : evFn Cw (d + 1) 15 [(AVal.sl f0 0 l1)] h =
  (P15_0 d rounds [] f0 l1 (l1.length : Int) 0 h) := by kernel_rfl
/- f16 strandline/strandlineref04.Pack -/
noncomputable def P16_0 (d k : Nat) (f0 : Bool) (l1 : List AVal) (l2 : List AVal) (x3 : Int) (h : Heap) : Tr Res :=
  loopPt Cw d 16 [true, true, false, true, true] [] k ⟨[(0, (EV.one (SV.val (AVal.sl f0 0 l1)))), (3, (EV.one (SV.own (tokOf 3 0) 0 l2))), (4, (EV.one (SV.val (AVal.int .i64 x3))))], []⟩ h
theorem P16_0_eq (d k : Nat) (f0 : Bool) (l1 : List AVal) (l2 : List AVal) (x3 : Int) (h : Heap) : P16_0 d (k + 1) f0 l1 l2 x3 h =
  (bif (decide ((x3 : Int) < (l1.length : Int))) then
    (bif (decide ((0 : Int) ≤ x3) && decide ((x3 : Int) < (l1.length : Int))) then
      (slK 0 (l1.getD (Int.toNat x3) AVal.undef) fun fl1 es2 =>
        (bif (decide (((es2.length : Int) : Int) ≤ 65536)) then
          (bif (decide ((0 : Int) ≤ x3) && decide ((x3 : Int) < (l1.length : Int))) then
            (slK 0 (l1.getD (Int.toNat x3) AVal.undef) fun fl3 es4 =>
              (runK (evFn Cw d 21 [(AVal.sl false 0 l2), (AVal.int .u64 (IntKind.u64.wrap (es4.length : Int)))] h) fun r5 h5 =>
                (consK r5 fun w6 ws7 =>
                  (slOK 0 w6 fun es8 =>
                    (nilK ws7
                      (bif (decide ((0 : Int) ≤ x3) && decide ((x3 : Int) < (l1.length : Int))) then
                        (slK 0 (l1.getD (Int.toNat x3) AVal.undef) fun fl9 es10 =>
                          (bif decide ((es8.length + es10.length) * 1 ≤ 140737488355328) then (P16_0 d k f0 l1 (es8 ++ es10) (IntKind.i64.wrap (x3 + 1)) h5) else Tr.fail))
                      else
                        Tr.fail))))))
          else
            Tr.fail)
        else
          (P16_0 d k f0 l1 l2 (IntKind.i64.wrap (x3 + 1)) h)))
    else
      Tr.fail)
  else
    (Tr.ret ([(AVal.sl false 0 l2)], h))) := by kernel_rfl
theorem F16_eq (d : Nat) (f0 : Bool) (l1 : List AVal) (h : Heap) : evFn Cw (d + 1) 16 [(AVal.sl f0 0 l1)] h =
  (P16_0 d rounds f0 l1 [] 0 h) := by kernel_rfl
/- f27 strandline/field.Unpack -/
noncomputable def P27_0 (d k : Nat) (f0 : Bool) (l1 : List AVal) (l2 : List AVal) (h : Heap) : Tr Res :=
  loopPt Cw d 27 [true, true, false, true] [] k ⟨[(0, (EV.one (SV.val (AVal.sl f0 0 l1)))), (4, (EV.one (SV.own (tokOf 4 0) 0 l2)))], []⟩ h
theorem P27_0_eq (d k : Nat) (f0 : Bool) (l1 : List AVal) (l2 : List AVal) (h : Heap) : P27_0 d (k + 1) f0 l1 l2 h =
  (bif (decide (((l1.length : Int) : Int) > 0)) then
    (runK (evFn Cw d 31 [(AVal.sl f0 0 l1)] h) fun r1 h1 =>
      (consK r1 fun w2 ws3 =>
        (slOK 0 w2 fun es4 =>
          (consK ws3 fun w5 ws6 =>
            (intK .i64 w5 fun y7 =>
              (consK ws6 fun w8 ws9 =>
                (intK .i64 w8 fun y10 =>
                  (nilK ws9
                    (bif ((y10 : Int) != 0) then
                      (Tr.ret ([(AVal.sl true 0 []), (AVal.int .i64 y10)], h1))
                    else
                      (bif ((decide ((0 : Int) ≤ y7) && decide ((y7 : Int) ≤ (l1.length : Int))) && decide (((l1.length : Int) : Int) ≤ (l1.length : Int))) then
                        (bif decide ((l2.length + (1 : Nat)) * 24 ≤ 140737488355328) then
                          (P27_0 d k f0 (Go.Weave.part y7 (l1.length : Int) l1) (l2 ++ [(AVal.sl false 0 es4)]) h1)
                        else
                          Tr.fail)
                      else
                        Tr.fail))))))))))
  else
    (Tr.ret ([(AVal.sl false 0 l2), (AVal.int .i64 0)], h))) := by kernel_rfl
theorem F27_eq (d : Nat) (f0 : Bool) (l1 : List AVal) (h : Heap) : evFn Cw (d + 1) 27 [(AVal.sl f0 0 l1)] h =
  (P27_0 d rounds f0 l1 [] h) := by kernel_rfl
/- f24 strandline/strandlineref04.Unpack -/
noncomputable def P24_0 (d k : Nat) (f0 : Bool) (l1 : List AVal) (l2 : List AVal) (x3 : Int) (h : Heap) : Tr Res :=
  loopPt Cw d 24 [true, true, false, true, true] [] k ⟨[(0, (EV.one (SV.val (AVal.sl f0 0 l1)))), (4, (EV.one (SV.own (tokOf 4 0) 0 l2))), (5, (EV.one (SV.val (AVal.int .i64 x3))))], []⟩ h
theorem P24_0_eq (d k : Nat) (f0 : Bool) (l1 : List AVal) (l2 : List AVal) (x3 : Int) (h : Heap) : P24_0 d (k + 1) f0 l1 l2 x3 h =
  (bif (decide ((x3 : Int) < (l1.length : Int))) then
    (bif ((decide ((0 : Int) ≤ x3) && decide ((x3 : Int) ≤ (l1.length : Int))) && decide (((l1.length : Int) : Int) ≤ (l1.length : Int))) then
      (runK (evFn Cw d 29 [(AVal.sl f0 0 (Go.Weave.part x3 (l1.length : Int) l1))] h) fun r1 h1 =>
        (consK r1 fun w2 ws3 =>
          (slOK 0 w2 fun es4 =>
            (consK ws3 fun w5 ws6 =>
              (intK .i64 w5 fun y7 =>
                (consK ws6 fun w8 ws9 =>
                  (intK .i64 w8 fun y10 =>
                    (nilK ws9
                      (bif ((y10 : Int) != 0) then
                        (Tr.ret ([(AVal.sl true 0 []), (AVal.int .i64 y10)], h1))
                      else
                        (bif decide ((l2.length + (1 : Nat)) * 24 ≤ 140737488355328) then (P24_0 d k f0 l1 (l2 ++ [(AVal.sl false 0 es4)]) (IntKind.i64.wrap (x3 + y7)) h1) else Tr.fail))))))))))
    else
      Tr.fail)
  else
    (Tr.ret ([(AVal.sl false 0 l2), (AVal.int .i64 0)], h))) := by kernel_rfl
theorem F24_eq (d : Nat) (f0 : Bool) (l1 : List AVal) (h : Heap) : evFn Cw (d + 1) 24 [(AVal.sl f0 0 l1)] h =
  (P24_0 d rounds f0 l1 [] 0 h) := by kernel_rfl
/- f10 strandline/strandlineref04.Same -/
noncomputable def P10_0 (d k : Nat) (f0 : Bool) (l1 : List AVal) (f2 : Bool) (l3 : List AVal) (x4 : Int) (h : Heap) : Tr Res :=
  loopPt Cw d 10 [true, true, false, true, true] [] k ⟨[(0, (EV.one (SV.val (AVal.sl f0 0 l1)))), (1, (EV.one (SV.val (AVal.sl f2 0 l3)))), (5, (EV.one (SV.val (AVal.int .i64 x4))))], []⟩ h
theorem P10_0_eq (d k : Nat) (f0 : Bool) (l1 : List AVal) (f2 : Bool) (l3 : List AVal) (x4 : Int) (h : Heap) : P10_0 d (k + 1) f0 l1 f2 l3 x4 h =
  (bif (decide ((x4 : Int) < (l1.length : Int))) then
    (bif (decide ((0 : Int) ≤ x4) && decide ((x4 : Int) < (l1.length : Int))) then
      (slK 0 (l1.getD (Int.toNat x4) AVal.undef) fun fl1 es2 =>
        (optK (toBytes es2) fun ss3 =>
          (bif (decide ((0 : Int) ≤ x4) && decide ((x4 : Int) < (l3.length : Int))) then
            (slK 0 (l3.getD (Int.toNat x4) AVal.undef) fun fl4 es5 =>
              (optK (toBytes es5) fun ss6 =>
                (bif (!(ss3 == ss6)) then (Tr.ret ([(AVal.bool false)], h)) else (P10_0 d k f0 l1 f2 l3 (IntKind.i64.wrap (x4 + 1)) h))))
          else
            Tr.fail)))
    else
      Tr.fail)
  else
    (Tr.ret ([(AVal.bool true)], h))) := by kernel_rfl
theorem F10_eq (d : Nat) (f0 : Bool) (l1 : List AVal) (f2 : Bool) (l3 : List AVal) (h : Heap) : evFn Cw (d + 1) 10 [(AVal.sl f0 0 l1), (AVal.sl f2 0 l3)] h =
  (bif (((l1.length : Int) : Int) != (l3.length : Int)) then (Tr.ret ([(AVal.bool false)], h)) else (P10_0 d rounds f0 l1 f2 l3 0 h)) := by kernel_rfl
end Go.Proofs.YtkpjkaikeeldfaaDoor.Wa
end

section
/- Fields: got, put, packed, unpacked; FieldGets, FieldUnpacks, FieldPacks. -/
namespace Go.Proofs.YtkpjkaikeeldfaaDoor.Wa
open Go Go.Weave
set_option maxRecDepth 100000
set_option linter.unusedSimpArgs false
set_option linter.unusedVariables false
set_option linter.unusedSectionVars false

theorem rput_run {d : Nat} {f : Bool} {l : List UInt8} {n : Nat} {h : Heap} {Q : Res → Prop} {tg : Hid Q} (hn : n < 18446744073709551616) (hl : l.length ≤ 140737488355000) :
    Run (evFn Cw (d + 1) 21 [.sl f 0 (bys l), .int .u64 n] h) Q tg = Q ([.sl false 0 (bys (l ++ enc n))], h) := (rput_ok d f l n h hn hl).at
/-- The field that bytes begin with. -/
def fgetW (l : List UInt8) : List UInt8 × Nat × Nat :=
  if (getF l 0 0).2.2 ≠ 0 then ([], 0, (getF l 0 0).2.2) else if 65536 < (getF l 0 0).1 then ([], 0, 5) else if l.length < (getF l 0 0).2.1 + (getF l 0 0).1 then ([], 0, 1) else
    ((l.drop (getF l 0 0).2.1).take (getF l 0 0).1, (getF l 0 0).2.1 + (getF l 0 0).1, 0)
theorem fget_ex : ∃ f : List UInt8 → List UInt8 × Nat × Nat, ∀ l, f l = fgetW l := ⟨fgetW, fun _ => rfl⟩
noncomputable def fget : List UInt8 → List UInt8 × Nat × Nat := Classical.choose fget_ex
theorem fget_eq (l : List UInt8) : fget l = fgetW l := Classical.choose_spec fget_ex l

theorem part_mid {l : List UInt8} {k m : Nat} : Weave.part (k : Int) ((k + m : Nat) : Int) (bys l) = bys ((l.drop k).take m) := by
  rw [part_bys]
  congr 1
  simp only [Weave.part, Int.toNat_natCast]
  congr 1
  omega

theorem fget_ok (d : Nat) (f : Bool) (l : List UInt8) (h : Heap) (hl : l.length ≤ 140737488351232) :
    Ans (evFn Cw (d + 2) 31 [.sl f 0 (bys l)] h) ([.sl (decide ((fget l).2.2 ≠ 0)) 0 (bys (fget l).1), .int .i64 (fget l).2.1, .int .i64 (fget l).2.2], h) := by
  refine Run.ans ?_
  rw [F31_eq, fget_eq]
  unfold fgetW
  by_cases he : (getF l 0 0).2.2 = 0
  · have ⟨h1, h2, h3⟩ := getF_ok he
    rw [if_neg (by omega)]
    by_cases hb : 65536 < (getF l 0 0).1
    · rw [if_pos hb]
      simp (disch := (first | assumption | (simp only [Bool.and_eq_true, Bool.and_eq_false_iff, decide_eq_true_eq, decide_eq_false_iff_not, bne_iff_ne, beq_iff_eq, beq_eq_false_iff_ne, bne_eq_false_iff_eq, Bool.not_eq_true', Bool.not_eq_false', bys_length, List.length_append, List.length_cons, List.length_nil, List.length_map, List.length_drop, List.length_take, Int.natCast_add, wrap_i64_eq, wrap_u64, wrap_u8, ne_eq, not_true_eq_false, not_false_eq_true, Nat.zero_add, Nat.mul_one] <;> omega) | omega | (simp; done) | (simp; omega))) only [↓CR, MC, get_run]
      simp [bys_nil]
    · have e1 : IntKind.i64.wrap (((getF l 0 0).1 : Nat) : Int) = (((getF l 0 0).1 : Nat) : Int) := wrap_i64_id (by omega) (by omega)
      have e2 : IntKind.i64.wrap ((((getF l 0 0).2.1 : Nat) : Int) + (((getF l 0 0).1 : Nat) : Int)) = (((getF l 0 0).2.1 + (getF l 0 0).1 : Nat) : Int) := by rw [wrap_i64_id (by omega) (by omega)]; omega
      rw [if_neg hb]
      by_cases hs : l.length < (getF l 0 0).2.1 + (getF l 0 0).1
      · rw [if_pos hs]
        simp (disch := (first | assumption | (simp only [Bool.and_eq_true, Bool.and_eq_false_iff, decide_eq_true_eq, decide_eq_false_iff_not, bne_iff_ne, beq_iff_eq, beq_eq_false_iff_ne, bne_eq_false_iff_eq, Bool.not_eq_true', Bool.not_eq_false', bys_length, List.length_append, List.length_cons, List.length_nil, List.length_map, List.length_drop, List.length_take, Int.natCast_add, wrap_i64_eq, wrap_u64, wrap_u8, ne_eq, not_true_eq_false, not_false_eq_true, Nat.zero_add, Nat.mul_one] <;> omega) | omega | (simp; done) | (simp; omega))) only [↓CR, MC, get_run, e1, e2]
        simp [bys_nil]
      · rw [if_neg hs]
        simp (disch := (first | assumption | (simp only [Bool.and_eq_true, Bool.and_eq_false_iff, decide_eq_true_eq, decide_eq_false_iff_not, bne_iff_ne, beq_iff_eq, beq_eq_false_iff_ne, bne_eq_false_iff_eq, Bool.not_eq_true', Bool.not_eq_false', bys_length, List.length_append, List.length_cons, List.length_nil, List.length_map, List.length_drop, List.length_take, Int.natCast_add, wrap_i64_eq, wrap_u64, wrap_u8, ne_eq, not_true_eq_false, not_false_eq_true, Nat.zero_add, Nat.mul_one] <;> omega) | omega | (simp; done) | (simp; omega))) only [↓CR, MC, get_run, e1, e2, part_mid, List.length_take]
        simp
  · rw [if_pos he]
    simp (disch := (first | assumption | (simp only [Bool.and_eq_true, Bool.and_eq_false_iff, decide_eq_true_eq, decide_eq_false_iff_not, bne_iff_ne, beq_iff_eq, beq_eq_false_iff_ne, bne_eq_false_iff_eq, Bool.not_eq_true', Bool.not_eq_false', bys_length, List.length_append, List.length_cons, List.length_nil, List.length_map, List.length_drop, List.length_take, Int.natCast_add, wrap_i64_eq, wrap_u64, wrap_u8, ne_eq, not_true_eq_false, not_false_eq_true, Nat.zero_add, Nat.mul_one] <;> omega) | omega | (simp; done) | (simp; omega))) only [↓CR, MC, get_run]
    simp [he, bys_nil]

theorem rfget_ok (d : Nat) (f : Bool) (l : List UInt8) (h : Heap) (hl : l.length ≤ 140737488351232) :
    Ans (evFn Cw (d + 2) 29 [.sl f 0 (bys l)] h) ([.sl (decide ((fget l).2.2 ≠ 0)) 0 (bys (fget l).1), .int .i64 (fget l).2.1, .int .i64 (fget l).2.2], h) := by
  refine Run.ans ?_
  rw [F29_eq, fget_eq]
  unfold fgetW
  by_cases he : (getF l 0 0).2.2 = 0
  · have ⟨h1, h2, h3⟩ := getF_ok he
    rw [if_neg (by omega)]
    by_cases hb : 65536 < (getF l 0 0).1
    · rw [if_pos hb]
      simp (disch := (first | assumption | (simp only [Bool.and_eq_true, Bool.and_eq_false_iff, decide_eq_true_eq, decide_eq_false_iff_not, bne_iff_ne, beq_iff_eq, beq_eq_false_iff_ne, bne_eq_false_iff_eq, Bool.not_eq_true', Bool.not_eq_false', bys_length, List.length_append, List.length_cons, List.length_nil, List.length_map, List.length_drop, List.length_take, Int.natCast_add, wrap_i64_eq, wrap_u64, wrap_u8, ne_eq, not_true_eq_false, not_false_eq_true, Nat.zero_add, Nat.mul_one] <;> omega) | omega | (simp; done) | (simp; omega))) only [↓CR, MC, rget_run]
      simp [bys_nil]
    · have e1 : IntKind.i64.wrap (((getF l 0 0).1 : Nat) : Int) = (((getF l 0 0).1 : Nat) : Int) := wrap_i64_id (by omega) (by omega)
      have e2 : IntKind.i64.wrap ((((getF l 0 0).2.1 : Nat) : Int) + (((getF l 0 0).1 : Nat) : Int)) = (((getF l 0 0).2.1 + (getF l 0 0).1 : Nat) : Int) := by rw [wrap_i64_id (by omega) (by omega)]; omega
      rw [if_neg hb]
      by_cases hs : l.length < (getF l 0 0).2.1 + (getF l 0 0).1
      · rw [if_pos hs]
        simp (disch := (first | assumption | (simp only [Bool.and_eq_true, Bool.and_eq_false_iff, decide_eq_true_eq, decide_eq_false_iff_not, bne_iff_ne, beq_iff_eq, beq_eq_false_iff_ne, bne_eq_false_iff_eq, Bool.not_eq_true', Bool.not_eq_false', bys_length, List.length_append, List.length_cons, List.length_nil, List.length_map, List.length_drop, List.length_take, Int.natCast_add, wrap_i64_eq, wrap_u64, wrap_u8, ne_eq, not_true_eq_false, not_false_eq_true, Nat.zero_add, Nat.mul_one] <;> omega) | omega | (simp; done) | (simp; omega))) only [↓CR, MC, rget_run, e1, e2]
        simp [bys_nil]
      · rw [if_neg hs]
        simp (disch := (first | assumption | (simp only [Bool.and_eq_true, Bool.and_eq_false_iff, decide_eq_true_eq, decide_eq_false_iff_not, bne_iff_ne, beq_iff_eq, beq_eq_false_iff_ne, bne_eq_false_iff_eq, Bool.not_eq_true', Bool.not_eq_false', bys_length, List.length_append, List.length_cons, List.length_nil, List.length_map, List.length_drop, List.length_take, Int.natCast_add, wrap_i64_eq, wrap_u64, wrap_u8, ne_eq, not_true_eq_false, not_false_eq_true, Nat.zero_add, Nat.mul_one] <;> omega) | omega | (simp; done) | (simp; omega))) only [↓CR, MC, rget_run, e1, e2, part_mid, List.length_take]
        simp
  · rw [if_pos he]
    simp (disch := (first | assumption | (simp only [Bool.and_eq_true, Bool.and_eq_false_iff, decide_eq_true_eq, decide_eq_false_iff_not, bne_iff_ne, beq_iff_eq, beq_eq_false_iff_ne, bne_eq_false_iff_eq, Bool.not_eq_true', Bool.not_eq_false', bys_length, List.length_append, List.length_cons, List.length_nil, List.length_map, List.length_drop, List.length_take, Int.natCast_add, wrap_i64_eq, wrap_u64, wrap_u8, ne_eq, not_true_eq_false, not_false_eq_true, Nat.zero_add, Nat.mul_one] <;> omega) | omega | (simp; done) | (simp; omega))) only [↓CR, MC, rget_run]
    simp [he, bys_nil]
theorem fget_run {d : Nat} {f : Bool} {l : List UInt8} {h : Heap} {Q : Res → Prop} {tg : Hid Q} (hl : l.length ≤ 140737488351232) :
    Run (evFn Cw (d + 2) 31 [.sl f 0 (bys l)] h) Q tg = Q ([.sl (decide ((fget l).2.2 ≠ 0)) 0 (bys (fget l).1), .int .i64 (fget l).2.1, .int .i64 (fget l).2.2], h) := (fget_ok d f l h hl).at
theorem rfget_run {d : Nat} {f : Bool} {l : List UInt8} {h : Heap} {Q : Res → Prop} {tg : Hid Q} (hl : l.length ≤ 140737488351232) :
    Run (evFn Cw (d + 2) 29 [.sl f 0 (bys l)] h) Q tg = Q ([.sl (decide ((fget l).2.2 ≠ 0)) 0 (bys (fget l).1), .int .i64 (fget l).2.1, .int .i64 (fget l).2.2], h) := (rfget_ok d f l h hl).at

/-- A field's bytes. -/
noncomputable def pk (f : List UInt8) : List UInt8 := if 65536 < f.length then [] else enc f.length ++ f
theorem fget_spec {l : List UInt8} (h : (fget l).2.2 = 0) : (fget l).1.length ≤ 65536 ∧ 1 ≤ (fget l).2.1 ∧ (fget l).2.1 ≤ l.length ∧ l.take (fget l).2.1 = pk (fget l).1 := by
  rw [fget_eq] at h ⊢
  unfold fgetW at h ⊢
  rcases getF_spec0 l with ⟨m, h1, h2, h3, h4⟩ | ⟨e, h1, he⟩
  · rw [h1] at h ⊢
    simp only [ne_eq, not_true_eq_false, if_false] at h ⊢
    split at h
    · simp at h
    · rename_i hm
      rw [if_neg hm]
      split at h
      · simp at h
      · rename_i hs
        rw [if_neg hs]
        have hlen := (enc_length 9 m (lt_128_10 h4)).1
        have e1 : ((l.drop (enc m).length).take m).length = m := by simp; omega
        refine ⟨by rw [e1]; omega, by simp only; omega, by simp only; omega, ?_⟩
        unfold pk
        rw [e1, if_neg hm]
        simp only
        rw [List.take_add, h2]
  · rw [h1] at h
    rw [if_pos (by simp; omega)] at h
    simp at h; omega

theorem fput_ok (d : Nat) (f g : Bool) (b x : List UInt8) (h : Heap) (hb : b.length ≤ 140737488200000) :
    Ans (evFn Cw (d + 2) 20 [.sl f 0 (bys b), .sl g 0 (bys x)] h) ([.sl false 0 (bys (b ++ pk x))], h) := by
  refine Run.ans ?_
  rw [F20_eq]
  unfold pk
  by_cases hx : 65536 < x.length
  · rw [if_pos hx]
    simp (disch := (first | assumption | (simp only [Bool.and_eq_true, Bool.and_eq_false_iff, decide_eq_true_eq, decide_eq_false_iff_not, bne_iff_ne, beq_iff_eq, beq_eq_false_iff_ne, bne_eq_false_iff_eq, Bool.not_eq_true', Bool.not_eq_false', bys_length, List.length_append, List.length_cons, List.length_nil, List.length_map, List.length_drop, List.length_take, Int.natCast_add, wrap_i64_eq, wrap_u64, wrap_u8, ne_eq, not_true_eq_false, not_false_eq_true, Nat.zero_add, Nat.mul_one] <;> omega) | omega | (simp; done) | (simp; omega))) only [↓CR, MC]
  · rw [if_neg hx]
    have e1 : IntKind.u64.wrap (((bys x).length : Nat) : Int) = ((x.length : Nat) : Int) := by rw [bys_length, wrap_u64_id (by omega) (by omega)]
    have h2 := (enc_length 9 x.length (lt_128_10 (by omega))).2
    simp (disch := (first | assumption | (simp only [Bool.and_eq_true, Bool.and_eq_false_iff, decide_eq_true_eq, decide_eq_false_iff_not, bne_iff_ne, beq_iff_eq, beq_eq_false_iff_ne, bne_eq_false_iff_eq, Bool.not_eq_true', Bool.not_eq_false', bys_length, List.length_append, List.length_cons, List.length_nil, List.length_map, List.length_drop, List.length_take, Int.natCast_add, wrap_i64_eq, wrap_u64, wrap_u8, ne_eq, not_true_eq_false, not_false_eq_true, Nat.zero_add, Nat.mul_one] <;> omega) | omega | (simp; done) | (simp; omega))) only [↓CR, MC, put_run, e1, ← bys_append, List.append_assoc]
theorem fput_run {d : Nat} {f g : Bool} {b x : List UInt8} {h : Heap} {Q : Res → Prop} {tg : Hid Q} (hb : b.length ≤ 140737488200000) :
    Run (evFn Cw (d + 2) 20 [.sl f 0 (bys b), .sl g 0 (bys x)] h) Q tg = Q ([.sl false 0 (bys (b ++ pk x))], h) := (fput_ok d f g b x h hb).at
/-- Rows of bytes. -/
def flds (l : List (List UInt8)) : List AVal := l.map fun b => .sl false 0 (bys b)
theorem flds_length (l : List (List UInt8)) : (flds l).length = l.length := by simp [flds]
theorem flds_nil : flds [] = [] := of_eq_true (eq_self _)
theorem flds_snoc (l : List (List UInt8)) (n : List UInt8) : flds l ++ [AVal.sl false 0 (bys n)] = flds (l ++ [n]) := by simp [flds]
theorem flds_getD {l : List (List UInt8)} {i : Nat} (h : i < l.length) : (flds l).getD i AVal.undef = .sl false 0 (bys l[i]) := by simp [flds, h]

/-- All fields that bytes are. -/
noncomputable def unpW : Nat → List UInt8 → List (List UInt8) → List (List UInt8) × Nat
  | 0, _, acc => (acc, 0)
  | n + 1, l, acc => if l.length = 0 then (acc, 0) else if (fget l).2.2 = 0 then unpW n (l.drop (fget l).2.1) (acc ++ [(fget l).1]) else ([], (fget l).2.2)
theorem unp_ex : ∃ f : Nat → List UInt8 → List (List UInt8) → List (List UInt8) × Nat, (∀ l acc, f 0 l acc = (acc, 0)) ∧ ∀ n l acc, f (n + 1) l acc = if l.length = 0 then (acc, 0) else if (fget l).2.2 = 0 then f n (l.drop (fget l).2.1) (acc ++ [(fget l).1]) else ([], (fget l).2.2) := ⟨unpW, fun _ _ => rfl, fun _ _ _ => rfl⟩
noncomputable def unpF : Nat → List UInt8 → List (List UInt8) → List (List UInt8) × Nat := Classical.choose unp_ex
theorem unpF_zero (l : List UInt8) (acc : List (List UInt8)) : unpF 0 l acc = (acc, 0) := (Classical.choose_spec unp_ex).1 l acc
theorem unpF_succ (n : Nat) (l : List UInt8) (acc : List (List UInt8)) : unpF (n + 1) l acc = if l.length = 0 then (acc, 0) else if (fget l).2.2 = 0 then unpF n (l.drop (fget l).2.1) (acc ++ [(fget l).1]) else ([], (fget l).2.2) := (Classical.choose_spec unp_ex).2 n l acc

theorem unp_loop (d : Nat) (f : Bool) (h : Heap) : ∀ (n : Nat) (l : List UInt8) (acc : List (List UInt8)) (k : Nat), l.length ≤ n → n < k → acc.length + n ≤ 40000000 →
    Ans (P27_0 (d + 2) k f (bys l) (flds acc) h) ([.sl (decide ((unpF n l acc).2 ≠ 0)) 0 (flds (unpF n l acc).1), .int .i64 (unpF n l acc).2], h) := by
  intro n
  induction n with
  | zero =>
    intro l acc k hl hk hb
    obtain ⟨k, rfl⟩ : ∃ m, k = m + 1 := ⟨k - 1, by omega⟩
    refine Run.ans ?_
    rw [P27_0_eq]
    simp (disch := (first | assumption | (simp only [Bool.and_eq_true, Bool.and_eq_false_iff, decide_eq_true_eq, decide_eq_false_iff_not, bne_iff_ne, beq_iff_eq, beq_eq_false_iff_ne, bne_eq_false_iff_eq, Bool.not_eq_true', Bool.not_eq_false', bys_length, List.length_append, List.length_cons, List.length_nil, List.length_map, List.length_drop, List.length_take, Int.natCast_add, wrap_i64_eq, wrap_u64, wrap_u8, ne_eq, not_true_eq_false, not_false_eq_true, Nat.zero_add, Nat.mul_one] <;> omega) | omega | (simp; done) | (simp; omega))) only [↓CR, MC, unpF_zero]
    simp
  | succ n ih =>
    intro l acc k hl hk hb
    obtain ⟨k, rfl⟩ : ∃ m, k = m + 1 := ⟨k - 1, by omega⟩
    refine Run.ans ?_
    rw [P27_0_eq, unpF_succ]
    by_cases h0 : l.length = 0
    · rw [if_pos h0]
      simp (disch := (first | assumption | (simp only [Bool.and_eq_true, Bool.and_eq_false_iff, decide_eq_true_eq, decide_eq_false_iff_not, bne_iff_ne, beq_iff_eq, beq_eq_false_iff_ne, bne_eq_false_iff_eq, Bool.not_eq_true', Bool.not_eq_false', bys_length, List.length_append, List.length_cons, List.length_nil, List.length_map, List.length_drop, List.length_take, Int.natCast_add, wrap_i64_eq, wrap_u64, wrap_u8, ne_eq, not_true_eq_false, not_false_eq_true, Nat.zero_add, Nat.mul_one] <;> omega) | omega | (simp; done) | (simp; omega))) only [↓CR, MC]
      simp
    · rw [if_neg h0]
      by_cases he : (fget l).2.2 = 0
      · rw [if_pos he]
        have ⟨h1, h2, h3, h4⟩ := fget_spec he
        have := ih (l.drop (fget l).2.1) (acc ++ [(fget l).1]) k (by simp; omega) (by omega) (by simp; omega)
        simp (disch := (first | assumption | (simp only [Bool.and_eq_true, Bool.and_eq_false_iff, decide_eq_true_eq, decide_eq_false_iff_not, bne_iff_ne, beq_iff_eq, beq_eq_false_iff_ne, bne_eq_false_iff_eq, Bool.not_eq_true', Bool.not_eq_false', bys_length, List.length_append, List.length_cons, List.length_nil, List.length_map, List.length_drop, List.length_take, Int.natCast_add, wrap_i64_eq, wrap_u64, wrap_u8, ne_eq, not_true_eq_false, not_false_eq_true, Nat.zero_add, Nat.mul_one] <;> omega) | omega | (simp; done) | (simp; omega))) only [↓CR, MC, fget_run, part_drop, flds_length, flds_snoc, Ans.at this]
      · rw [if_neg he]
        simp (disch := (first | assumption | (simp only [Bool.and_eq_true, Bool.and_eq_false_iff, decide_eq_true_eq, decide_eq_false_iff_not, bne_iff_ne, beq_iff_eq, beq_eq_false_iff_ne, bne_eq_false_iff_eq, Bool.not_eq_true', Bool.not_eq_false', bys_length, List.length_append, List.length_cons, List.length_nil, List.length_map, List.length_drop, List.length_take, Int.natCast_add, wrap_i64_eq, wrap_u64, wrap_u8, ne_eq, not_true_eq_false, not_false_eq_true, Nat.zero_add, Nat.mul_one] <;> omega) | omega | (simp; done) | (simp; omega))) only [↓CR, MC, fget_run]
        simp [he, flds_nil]
theorem runp_loop (d : Nat) (f : Bool) (h : Heap) (l : List UInt8) (hbig : l.length ≤ 40000000) : ∀ (n at_ : Nat) (acc : List (List UInt8)) (k : Nat), l.length ≤ n + at_ → at_ ≤ l.length → n < k → acc.length + n ≤ 40000000 →
    Ans (P24_0 (d + 2) k f (bys l) (flds acc) at_ h) ([.sl (decide ((unpF n (l.drop at_) acc).2 ≠ 0)) 0 (flds (unpF n (l.drop at_) acc).1), .int .i64 (unpF n (l.drop at_) acc).2], h) := by
  intro n
  induction n with
  | zero =>
    intro at_ acc k hl hle hk hb
    obtain ⟨k, rfl⟩ : ∃ m, k = m + 1 := ⟨k - 1, by omega⟩
    refine Run.ans ?_
    rw [P24_0_eq]
    simp (disch := (first | assumption | (simp only [Bool.and_eq_true, Bool.and_eq_false_iff, decide_eq_true_eq, decide_eq_false_iff_not, bne_iff_ne, beq_iff_eq, beq_eq_false_iff_ne, bne_eq_false_iff_eq, Bool.not_eq_true', Bool.not_eq_false', bys_length, List.length_append, List.length_cons, List.length_nil, List.length_map, List.length_drop, List.length_take, Int.natCast_add, wrap_i64_eq, wrap_u64, wrap_u8, ne_eq, not_true_eq_false, not_false_eq_true, Nat.zero_add, Nat.mul_one] <;> omega) | omega | (simp; done) | (simp; omega))) only [↓CR, MC, unpF_zero]
    simp
  | succ n ih =>
    intro at_ acc k hl hle hk hb
    obtain ⟨k, rfl⟩ : ∃ m, k = m + 1 := ⟨k - 1, by omega⟩
    refine Run.ans ?_
    rw [P24_0_eq, unpF_succ]
    by_cases h0 : at_ = l.length
    · rw [if_pos (by simp; omega)]
      simp (disch := (first | assumption | (simp only [Bool.and_eq_true, Bool.and_eq_false_iff, decide_eq_true_eq, decide_eq_false_iff_not, bne_iff_ne, beq_iff_eq, beq_eq_false_iff_ne, bne_eq_false_iff_eq, Bool.not_eq_true', Bool.not_eq_false', bys_length, List.length_append, List.length_cons, List.length_nil, List.length_map, List.length_drop, List.length_take, Int.natCast_add, wrap_i64_eq, wrap_u64, wrap_u8, ne_eq, not_true_eq_false, not_false_eq_true, Nat.zero_add, Nat.mul_one] <;> omega) | omega | (simp; done) | (simp; omega))) only [↓CR, MC]
      simp
    · rw [if_neg (by simp; omega)]
      by_cases he : (fget (l.drop at_)).2.2 = 0
      · rw [if_pos he]
        have ⟨h1, h2, h3, h4⟩ := fget_spec he
        rw [List.length_drop] at h3
        have := ih (at_ + (fget (l.drop at_)).2.1) (acc ++ [(fget (l.drop at_)).1]) k (by omega) (by omega) (by omega) (by simp; omega)
        have e : IntKind.i64.wrap ((at_ : Int) + ((fget (l.drop at_)).2.1 : Int)) = ((at_ + (fget (l.drop at_)).2.1 : Nat) : Int) := by rw [wrap_i64_id (by omega) (by omega)]; omega
        rw [← List.drop_drop] at this
        simp (disch := (first | assumption | (simp only [Bool.and_eq_true, Bool.and_eq_false_iff, decide_eq_true_eq, decide_eq_false_iff_not, bne_iff_ne, beq_iff_eq, beq_eq_false_iff_ne, bne_eq_false_iff_eq, Bool.not_eq_true', Bool.not_eq_false', bys_length, List.length_append, List.length_cons, List.length_nil, List.length_map, List.length_drop, List.length_take, Int.natCast_add, wrap_i64_eq, wrap_u64, wrap_u8, ne_eq, not_true_eq_false, not_false_eq_true, Nat.zero_add, Nat.mul_one] <;> omega) | omega | (simp; done) | (simp; omega))) only [↓CR, MC, rfget_run, part_drop, flds_length, flds_snoc, e, Ans.at this]
      · rw [if_neg he]
        simp (disch := (first | assumption | (simp only [Bool.and_eq_true, Bool.and_eq_false_iff, decide_eq_true_eq, decide_eq_false_iff_not, bne_iff_ne, beq_iff_eq, beq_eq_false_iff_ne, bne_eq_false_iff_eq, Bool.not_eq_true', Bool.not_eq_false', bys_length, List.length_append, List.length_cons, List.length_nil, List.length_map, List.length_drop, List.length_take, Int.natCast_add, wrap_i64_eq, wrap_u64, wrap_u8, ne_eq, not_true_eq_false, not_false_eq_true, Nat.zero_add, Nat.mul_one] <;> omega) | omega | (simp; done) | (simp; omega))) only [↓CR, MC, rfget_run, part_drop]
        simp [he, flds_nil]
noncomputable def unp (l : List UInt8) : List (List UInt8) × Nat := unpF l.length l []
theorem unp_run {d : Nat} {f : Bool} {l : List UInt8} {h : Heap} {Q : Res → Prop} {tg : Hid Q} (hl : l.length ≤ 40000000) :
    Run (evFn Cw (d + 3) 27 [.sl f 0 (bys l)] h) Q tg = Q ([.sl (decide ((unp l).2 ≠ 0)) 0 (flds (unp l).1), .int .i64 (unp l).2], h) := by
  have h1 := unp_loop d f h l.length l [] rounds (by omega) (rounds_gt l.length (by omega)) (by simp; omega)
  rw [flds_nil] at h1
  rw [F27_eq]
  exact h1.at
theorem runp_run {d : Nat} {f : Bool} {l : List UInt8} {h : Heap} {Q : Res → Prop} {tg : Hid Q} (hl : l.length ≤ 40000000) :
    Run (evFn Cw (d + 3) 24 [.sl f 0 (bys l)] h) Q tg = Q ([.sl (decide ((unp l).2 ≠ 0)) 0 (flds (unp l).1), .int .i64 (unp l).2], h) := by
  have h1 := runp_loop d f h l (by omega) l.length 0 [] rounds (by omega) (by omega) (rounds_gt l.length (by omega)) (by simp; omega)
  rw [e0, List.drop_zero, flds_nil] at h1
  rw [F24_eq]
  exact h1.at

/-- The bytes of fields. -/
noncomputable def pks (l : List (List UInt8)) : List UInt8 := l.flatMap pk
theorem pks_take (l : List (List UInt8)) (i : Nat) (h : i < l.length) : pks (l.take i) ++ pk l[i] = pks (l.take (i + 1)) := by
  rw [List.take_succ_eq_append_getElem h]
  simp only [pks, List.flatMap_append, List.flatMap_cons, List.flatMap_nil, List.append_nil]
theorem pks_le (l : List (List UInt8)) (i : Nat) : (pks (l.take i)).length ≤ (pks l).length := by
  have : pks l = pks (l.take i) ++ pks (l.drop i) := by
    unfold pks
    rw [← List.flatMap_append, List.take_append_drop]
  rw [this, List.length_append]; omega
theorem pack_loop (d : Nat) (f : Bool) (h : Heap) (l : List (List UInt8)) (hb : (pks l).length ≤ 140737488200000) (hlen : l.length ≤ 40000000) : ∀ (n i k : Nat), l.length = i + n → n < k →
    Ans (P15_0 (d + 2) k (bys (pks (l.take i))) f (flds l) ((flds l).length : Nat) i h) ([.sl false 0 (bys (pks l))], h) := by
  intro n
  induction n with
  | zero =>
    intro i k hi hk
    obtain ⟨k, rfl⟩ : ∃ m, k = m + 1 := ⟨k - 1, by omega⟩
    refine Run.ans ?_
    rw [P15_0_eq, List.take_of_length_le (by omega)]
    simp (disch := (first | assumption | (simp only [Bool.and_eq_true, Bool.and_eq_false_iff, decide_eq_true_eq, decide_eq_false_iff_not, bne_iff_ne, beq_iff_eq, beq_eq_false_iff_ne, bne_eq_false_iff_eq, Bool.not_eq_true', Bool.not_eq_false', bys_length, List.length_append, List.length_cons, List.length_nil, List.length_map, List.length_drop, List.length_take, Int.natCast_add, wrap_i64_eq, wrap_u64, wrap_u8, ne_eq, not_true_eq_false, not_false_eq_true, Nat.zero_add, Nat.mul_one] <;> omega) | omega | (simp; done) | (simp; omega))) only [↓CR, MC, flds_length]
  | succ n ih =>
    intro i k hi hk
    obtain ⟨k, rfl⟩ : ∃ m, k = m + 1 := ⟨k - 1, by omega⟩
    have hi' : i < l.length := by omega
    have e : IntKind.i64.wrap ((i : Int) + 1) = ((i + 1 : Nat) : Int) := by rw [wrap_i64_id (by omega) (by omega)]; omega
    have hle := pks_le l i
    refine Run.ans ?_
    rw [P15_0_eq]
    rw [flds_length] at ih ⊢
    simp (disch := (first | assumption | (simp only [Bool.and_eq_true, Bool.and_eq_false_iff, decide_eq_true_eq, decide_eq_false_iff_not, bne_iff_ne, beq_iff_eq, beq_eq_false_iff_ne, bne_eq_false_iff_eq, Bool.not_eq_true', Bool.not_eq_false', bys_length, List.length_append, List.length_cons, List.length_nil, List.length_map, List.length_drop, List.length_take, Int.natCast_add, wrap_i64_eq, wrap_u64, wrap_u8, ne_eq, not_true_eq_false, not_false_eq_true, Nat.zero_add, Nat.mul_one] <;> omega) | omega | (simp; done) | (simp; omega))) only [↓CR, MC, flds_length, Int.toNat_natCast, flds_getD hi', e, fput_run, pks_take l i hi', Ans.at (ih (i + 1) k (by omega) (by omega))]
theorem rpack_loop (d : Nat) (f : Bool) (h : Heap) (l : List (List UInt8)) (hb : (pks l).length ≤ 140737488200000) (hlen : l.length ≤ 40000000) : ∀ (n i k : Nat), l.length = i + n → n < k →
    Ans (P16_0 (d + 1) k f (flds l) (bys (pks (l.take i))) i h) ([.sl false 0 (bys (pks l))], h) := by
  intro n
  induction n with
  | zero =>
    intro i k hi hk
    obtain ⟨k, rfl⟩ : ∃ m, k = m + 1 := ⟨k - 1, by omega⟩
    refine Run.ans ?_
    rw [P16_0_eq, List.take_of_length_le (by omega)]
    simp (disch := (first | assumption | (simp only [Bool.and_eq_true, Bool.and_eq_false_iff, decide_eq_true_eq, decide_eq_false_iff_not, bne_iff_ne, beq_iff_eq, beq_eq_false_iff_ne, bne_eq_false_iff_eq, Bool.not_eq_true', Bool.not_eq_false', bys_length, List.length_append, List.length_cons, List.length_nil, List.length_map, List.length_drop, List.length_take, Int.natCast_add, wrap_i64_eq, wrap_u64, wrap_u8, ne_eq, not_true_eq_false, not_false_eq_true, Nat.zero_add, Nat.mul_one] <;> omega) | omega | (simp; done) | (simp; omega))) only [↓CR, MC, flds_length]
  | succ n ih =>
    intro i k hi hk
    obtain ⟨k, rfl⟩ : ∃ m, k = m + 1 := ⟨k - 1, by omega⟩
    have hi' : i < l.length := by omega
    have e : IntKind.i64.wrap ((i : Int) + 1) = ((i + 1 : Nat) : Int) := by rw [wrap_i64_id (by omega) (by omega)]; omega
    have hle := pks_le l i
    have ht := pks_take l i hi'
    refine Run.ans ?_
    rw [P16_0_eq]
    by_cases hx : 65536 < (l[i]).length
    · have e0 : pk l[i] = [] := by unfold pk; rw [if_pos hx]
      rw [e0, List.append_nil] at ht
      simp (disch := (first | assumption | (simp only [Bool.and_eq_true, Bool.and_eq_false_iff, decide_eq_true_eq, decide_eq_false_iff_not, bne_iff_ne, beq_iff_eq, beq_eq_false_iff_ne, bne_eq_false_iff_eq, Bool.not_eq_true', Bool.not_eq_false', bys_length, List.length_append, List.length_cons, List.length_nil, List.length_map, List.length_drop, List.length_take, Int.natCast_add, wrap_i64_eq, wrap_u64, wrap_u8, ne_eq, not_true_eq_false, not_false_eq_true, Nat.zero_add, Nat.mul_one] <;> omega) | omega | (simp; done) | (simp; omega))) only [↓CR, MC, flds_length, Int.toNat_natCast, flds_getD hi', e, ht, Ans.at (ih (i + 1) k (by omega) (by omega))]
    · have e0 : pk l[i] = enc (l[i]).length ++ l[i] := by unfold pk; rw [if_neg hx]
      have e1 : IntKind.u64.wrap (((bys l[i]).length : Nat) : Int) = (((l[i]).length : Nat) : Int) := by rw [bys_length, wrap_u64_id (by omega) (by omega)]
      have h2 := (enc_length 9 (l[i]).length (lt_128_10 (by omega))).2
      rw [e0, ← List.append_assoc] at ht
      simp (disch := (first | assumption | (simp only [Bool.and_eq_true, Bool.and_eq_false_iff, decide_eq_true_eq, decide_eq_false_iff_not, bne_iff_ne, beq_iff_eq, beq_eq_false_iff_ne, bne_eq_false_iff_eq, Bool.not_eq_true', Bool.not_eq_false', bys_length, List.length_append, List.length_cons, List.length_nil, List.length_map, List.length_drop, List.length_take, Int.natCast_add, wrap_i64_eq, wrap_u64, wrap_u8, ne_eq, not_true_eq_false, not_false_eq_true, Nat.zero_add, Nat.mul_one] <;> omega) | omega | (simp; done) | (simp; omega))) only [↓CR, MC, flds_length, Int.toNat_natCast, flds_getD hi', e, e1, rput_run, ← bys_append, ht, Ans.at (ih (i + 1) k (by omega) (by omega))]
theorem pack_run {d : Nat} {f : Bool} {l : List (List UInt8)} {h : Heap} {Q : Res → Prop} {tg : Hid Q} (hb : (pks l).length ≤ 140737488200000) (hlen : l.length ≤ 40000000) :
    Run (evFn Cw (d + 3) 15 [.sl f 0 (flds l)] h) Q tg = Q ([.sl false 0 (bys (pks l))], h) := by
  have h1 := pack_loop d f h l hb hlen l.length 0 rounds (by omega) (rounds_gt _ (by omega))
  have e : pks (l.take 0) = [] := by simp [pks]
  rw [e0, e, bys_nil] at h1
  rw [F15_eq]
  exact h1.at
theorem rpack_run {d : Nat} {f : Bool} {l : List (List UInt8)} {h : Heap} {Q : Res → Prop} {tg : Hid Q} (hb : (pks l).length ≤ 140737488200000) (hlen : l.length ≤ 40000000) :
    Run (evFn Cw (d + 2) 16 [.sl f 0 (flds l)] h) Q tg = Q ([.sl false 0 (bys (pks l))], h) := by
  have h1 := rpack_loop d f h l hb hlen l.length 0 rounds (by omega) (rounds_gt _ (by omega))
  have e : pks (l.take 0) = [] := by simp [pks]
  rw [e0, e, bys_nil] at h1
  rw [F16_eq]
  exact h1.at
theorem same_loop (d : Nat) (f g : Bool) (h : Heap) (l : List (List UInt8)) (hlen : l.length ≤ 40000000) : ∀ (n i k : Nat), l.length = i + n → n < k →
    Ans (P10_0 d k f (flds l) g (flds l) i h) ([.bool true], h) := by
  intro n
  induction n with
  | zero =>
    intro i k hi hk
    obtain ⟨k, rfl⟩ : ∃ m, k = m + 1 := ⟨k - 1, by omega⟩
    refine Run.ans ?_
    rw [P10_0_eq]
    simp (disch := (first | assumption | (simp only [Bool.and_eq_true, Bool.and_eq_false_iff, decide_eq_true_eq, decide_eq_false_iff_not, bne_iff_ne, beq_iff_eq, beq_eq_false_iff_ne, bne_eq_false_iff_eq, Bool.not_eq_true', Bool.not_eq_false', bys_length, List.length_append, List.length_cons, List.length_nil, List.length_map, List.length_drop, List.length_take, Int.natCast_add, wrap_i64_eq, wrap_u64, wrap_u8, ne_eq, not_true_eq_false, not_false_eq_true, Nat.zero_add, Nat.mul_one] <;> omega) | omega | (simp; done) | (simp; omega))) only [↓CR, MC, flds_length]
  | succ n ih =>
    intro i k hi hk
    obtain ⟨k, rfl⟩ : ∃ m, k = m + 1 := ⟨k - 1, by omega⟩
    have hi' : i < l.length := by omega
    have e : IntKind.i64.wrap ((i : Int) + 1) = ((i + 1 : Nat) : Int) := by rw [wrap_i64_id (by omega) (by omega)]; omega
    refine Run.ans ?_
    rw [P10_0_eq]
    simp (disch := (first | assumption | (simp only [Bool.and_eq_true, Bool.and_eq_false_iff, decide_eq_true_eq, decide_eq_false_iff_not, bne_iff_ne, beq_iff_eq, beq_eq_false_iff_ne, bne_eq_false_iff_eq, Bool.not_eq_true', Bool.not_eq_false', bys_length, List.length_append, List.length_cons, List.length_nil, List.length_map, List.length_drop, List.length_take, Int.natCast_add, wrap_i64_eq, wrap_u64, wrap_u8, ne_eq, not_true_eq_false, not_false_eq_true, Nat.zero_add, Nat.mul_one] <;> omega) | omega | (simp; done) | (simp; omega))) only [↓CR, MC, flds_length, Int.toNat_natCast, flds_getD hi', e, Ans.at (ih (i + 1) k (by omega) (by omega))]
theorem same4_run {d : Nat} {f g : Bool} {l : List (List UInt8)} {h : Heap} {Q : Res → Prop} {tg : Hid Q} (hlen : l.length ≤ 40000000) :
    Run (evFn Cw (d + 1) 10 [.sl f 0 (flds l), .sl g 0 (flds l)] h) Q tg = Q ([.bool true], h) := by
  have h1 := same_loop d f g h l hlen l.length 0 rounds (by omega) (rounds_gt _ (by omega))
  rw [e0] at h1
  rw [F10_eq]
  simp (disch := (first | assumption | (simp only [Bool.and_eq_true, Bool.and_eq_false_iff, decide_eq_true_eq, decide_eq_false_iff_not, bne_iff_ne, beq_iff_eq, beq_eq_false_iff_ne, bne_eq_false_iff_eq, Bool.not_eq_true', Bool.not_eq_false', bys_length, List.length_append, List.length_cons, List.length_nil, List.length_map, List.length_drop, List.length_take, Int.natCast_add, wrap_i64_eq, wrap_u64, wrap_u8, ne_eq, not_true_eq_false, not_false_eq_true, Nat.zero_add, Nat.mul_one] <;> omega) | omega | (simp; done) | (simp; omega))) only [↓CR, MC, Ans.at h1]

theorem unpF_len : ∀ (n : Nat) (l : List UInt8) (acc : List (List UInt8)), (unpF n l acc).1.length ≤ acc.length + n
  | 0, l, acc => by rw [unpF_zero]; simp
  | n + 1, l, acc => by
    rw [unpF_succ]
    split
    · simp
    · split
      · have := unpF_len n (l.drop (fget l).2.1) (acc ++ [(fget l).1])
        simp at this
        omega
      · simp
theorem unp_len (l : List UInt8) : (unp l).1.length ≤ l.length := by
  have := unpF_len l.length l []
  unfold unp
  simpa using this

end Go.Proofs.YtkpjkaikeeldfaaDoor.Wa
end

section
/- The program's plain types, as Lean's. -/
namespace Go.Weave
structure Rec where
  kind : Int
  chain : Int
  lsn : Int
  prev : Int
  full : Bool
  data : List UInt8
def Rec.C (r : Rec) : List AVal := [.int .i64 r.kind, .int .i64 r.chain, .int .i64 r.lsn, .int .i64 r.prev, .sl r.full 0 (bys r.data)]
def Rec.A (r : Rec) : AVal := .agg r.C
def i64ok (n : Int) : Prop := -9223372036854775808 ≤ n ∧ n ≤ 9223372036854775807
def Rec.ok (r : Rec) : Prop := i64ok r.kind ∧ i64ok r.chain ∧ i64ok r.lsn ∧ i64ok r.prev ∧ r.data.length ≤ 140737488351232 ∧ r.full = false
structure Change where
  key : List UInt8
  was : Bool
  is : Bool
  old : List UInt8
  new : List UInt8
  next : Int
def Change.C (c : Change) : List AVal := [.str c.key, .bool c.was, .bool c.is, .str c.old, .str c.new, .int .i64 c.next]
def Change.A (c : Change) : AVal := .agg c.C
def Change.ok (c : Change) : Prop := c.key.length ≤ 140737488351232 ∧ True ∧ True ∧ c.old.length ≤ 140737488351232 ∧ c.new.length ≤ 140737488351232 ∧ i64ok c.next
structure KOp where
  kind : Int
  key : List UInt8
  val : List UInt8
def KOp.C (o : KOp) : List AVal := [.int .i64 o.kind, .str o.key, .str o.val]
def KOp.A (o : KOp) : AVal := .agg o.C
def KOp.ok (o : KOp) : Prop := i64ok o.kind ∧ o.key.length ≤ 140737488351232 ∧ o.val.length ≤ 140737488351232
structure KPair where
  key : List UInt8
  val : List UInt8
def KPair.C (o : KPair) : List AVal := [.str o.key, .str o.val]
def KPair.A (o : KPair) : AVal := .agg o.C
def KPair.ok (o : KPair) : Prop := o.key.length ≤ 140737488351232 ∧ o.val.length ≤ 140737488351232
structure IPlace where
  seq : Int
  at' : Int
  deriving DecidableEq
def IPlace.C (o : IPlace) : List AVal := [.int .i64 o.seq, .int .i64 o.at']
def IPlace.A (o : IPlace) : AVal := .agg o.C
def IPlace.ok (o : IPlace) : Prop := i64ok o.seq ∧ i64ok o.at'
structure Act26 where
  kind : Int
  chain : Int
  at' : IPlace
  n : Int
def Act26.C (a : Act26) : List AVal := [.int .u64 a.kind, .int .i64 a.chain, .int .i64 a.at'.seq, .int .i64 a.at'.at', .int .i64 a.n]
def Act26.A (a : Act26) : AVal := .agg a.C
def Act26.ok (a : Act26) : Prop := (0 ≤ a.kind ∧ a.kind ≤ 18446744073709551615) ∧ i64ok a.chain ∧ a.at'.ok ∧ i64ok a.n
structure Act32 where
  kind : Int
  key : List UInt8
def Act32.C (a : Act32) : List AVal := [.int .u64 a.kind, .str a.key]
def Act32.A (a : Act32) : AVal := .agg a.C
def Act32.ok (a : Act32) : Prop := (0 ≤ a.kind ∧ a.kind ≤ 18446744073709551615) ∧ a.key.length ≤ 140737488351232
structure Act43 where
  drop : Bool
  who : Int
  key : List UInt8
def Act43.C (a : Act43) : List AVal := [.bool a.drop, .int .i64 a.who, .str a.key]
def Act43.A (a : Act43) : AVal := .agg a.C
def Act43.ok (a : Act43) : Prop := True ∧ i64ok a.who ∧ a.key.length ≤ 140737488351232
structure RPoint where
  pieces : Int
  pairs : Int
  sum : Int
def RPoint.C (a : RPoint) : List AVal := [.int .i64 a.pieces, .int .i64 a.pairs, .int .u32 a.sum]
def RPoint.A (a : RPoint) : AVal := .agg a.C
def RPoint.ok (a : RPoint) : Prop := i64ok a.pieces ∧ i64ok a.pairs ∧ (0 ≤ a.sum ∧ a.sum ≤ 4294967295)
end Go.Weave
end

section
/- What the evaluator comes to in these functions. -/
namespace Go.Proofs.YtkpjkaikeeldfaaDoor.Wa
open Go Go.Weave
set_option maxRecDepth 100000
set_option linter.unusedVariables false
/- f13 strandline/point.right -/
noncomputable def P13_0 (d k : Nat) (f0 : Bool) (l1 : List AVal) (f2 : Bool) (l3 : List AVal) (x4 : Int) (x5 : Int) (h : Heap) : Tr Res :=
  loopPt Cw d 13 [true, false, true, true] [] k ⟨[(0, (EV.one (SV.val (AVal.sl f0 3 l1)))), (5, (EV.one (SV.val (AVal.sl f2 3 l3)))), (6, (EV.one (SV.val (AVal.int .i64 x4)))), (7, (EV.one (SV.val (AVal.int .i64 x5))))], []⟩ h
theorem P13_0_eq (d k : Nat) (f0 : Bool) (l1 : List AVal) (f2 : Bool) (l3 : List AVal) (x4 : Int) (x5 : Int) (h : Heap) : P13_0 d (k + 1) f0 l1 f2 l3 x4 x5 h =
  (bif (decide ((x5 : Int) < x4)) then
    (bif (decide ((0 : Int) ≤ x5) && decide ((x5 : Int) < (l3.length : Int))) then
      (aggK 2 (l3.getD (Int.toNat x5) AVal.undef) fun cc1 =>
        (bif ((cc1.length == 2) && true) then
          (optK (cc1[0]?) fun w2 =>
            (strK w2 fun ss3 =>
              (bif (decide (((ss3.length : Int) : Int) < 1)) then
                (Tr.ret ([(AVal.bool false)], h))
              else
                (optK (cc1[0]?) fun w4 =>
                  (strK w4 fun ss5 =>
                    (bif (decide (((ss5.length : Int) : Int) > 24)) then
                      (Tr.ret ([(AVal.bool false)], h))
                    else
                      (optK (cc1[1]?) fun w6 =>
                        (strK w6 fun ss7 =>
                          (bif (decide (((ss7.length : Int) : Int) > 128)) then
                            (Tr.ret ([(AVal.bool false)], h))
                          else
                            (bif (decide ((x5 : Int) > 0)) then
                              (optK (cc1[0]?) fun w8 =>
                                (strK w8 fun ss9 =>
                                  (bif (decide ((0 : Int) ≤ (IntKind.i64.wrap (x5 - 1))) && decide (((IntKind.i64.wrap (x5 - 1)) : Int) < (l1.length : Int))) then
                                    (optK ((AVal.cells (l1.getD (Int.toNat (IntKind.i64.wrap (x5 - 1))) AVal.undef))[0]?) fun w10 =>
                                      (strK w10 fun ss11 =>
                                        (bif ((Go.Op.bytesLess ss9 ss11) || (ss9 == ss11)) then (Tr.ret ([(AVal.bool false)], h)) else (P13_0 d k f0 l1 f2 l3 x4 (IntKind.i64.wrap (x5 + 1)) h))))
                                  else
                                    Tr.fail)))
                            else
                              (P13_0 d k f0 l1 f2 l3 x4 (IntKind.i64.wrap (x5 + 1)) h)))))))))))
        else
          Tr.fail))
    else
      Tr.fail)
  else
    (Tr.ret ([(AVal.bool true)], h))) := by kernel_rfl
theorem F13_eq (d : Nat) (f0 : Bool) (l1 : List AVal) (h : Heap) : evFn Cw (d + 1) 13 [(AVal.sl f0 3 l1)] h =
  (P13_0 d rounds f0 l1 f0 l1 (l1.length : Int) 0 h) := by kernel_rfl
/- f14 strandline/point.Split$1 -/
theorem F14_eq (d : Nat) (i0 : Nat) (i1 : Nat) (h : Heap) : evFn Cw (d + 1) 14 [(AVal.obj i0 0), (AVal.obj i1 0)] h =
  (optK (Heap.cell? h i0 0) fun z1 =>
    (slK 0 (HCell.toA z1) fun _ es2 =>
      (bif (decide (((es2.length : Int) : Int) > 0)) then
        (optK (Heap.cell? h i1 0) fun z3 =>
          (slK 0 (HCell.toA z3) fun _ es4 =>
            (optK (Heap.cell? h i0 0) fun z5 =>
              (slK 0 (HCell.toA z5) fun _ es6 =>
                (bif decide ((es4.length + (1 : Nat)) * 24 ≤ 140737488355328) then
                  (lentK h i1 0 0 es4 fun h7 =>
                    (optK (Heap.cell? h7 i1 0) fun _ =>
                      (optK (Heap.cell? (Heap.setCell h7 i1 0 (HCell.own 0 (es4 ++ [(AVal.sl false 0 es6)]))) i0 0) fun _ =>
                        (Tr.ret ([], (Heap.setCell (Heap.setCell h7 i1 0 (HCell.own 0 (es4 ++ [(AVal.sl false 0 es6)]))) i0 0 (HCell.val (AVal.sl true 0 []))))))))
                else
                  Tr.fail)))))
      else
        (optK (Heap.cell? h i0 0) fun _ =>
          (Tr.ret ([], (Heap.setCell h i0 0 (HCell.val (AVal.sl true 0 []))))))))) := by kernel_rfl
/- f5 strandline/point.Split -/
noncomputable def P5_0 (d k : Nat) (i0 : Nat) (i1 : Nat) (i2 : Nat) (i3 : Nat) (f4 : Bool) (l5 : List AVal) (x6 : Int) (x7 : Int) (h : Heap) : Tr Res :=
  loopPt Cw d 5 [true, true, true, true, true, false, true, true] [] k ⟨[(4, (EV.one (SV.val (AVal.obj i0 0)))), (5, (EV.one (SV.val (AVal.obj i1 0)))), (6, (EV.one (SV.val (AVal.fn 14 [] [(AVal.obj i2 0), (AVal.obj i3 0)])))), (14, (EV.one (SV.val (AVal.sl f4 3 l5)))), (15, (EV.one (SV.val (AVal.int .i64 x6)))), (16, (EV.one (SV.val (AVal.int .i64 x7))))], []⟩ h
theorem P5_0_eq (d k : Nat) (i0 : Nat) (i1 : Nat) (i2 : Nat) (i3 : Nat) (f4 : Bool) (l5 : List AVal) (x6 : Int) (x7 : Int) (h : Heap) : P5_0 d (k + 1) i0 i1 i2 i3 f4 l5 x6 x7 h =
  (bif (decide ((x7 : Int) < x6)) then
    (bif (decide ((0 : Int) ≤ x7) && decide ((x7 : Int) < (l5.length : Int))) then
      (aggK 2 (l5.getD (Int.toNat x7) AVal.undef) fun cc1 =>
        (bif ((cc1.length == 2) && true) then
          (optK (cc1[0]?) fun w2 =>
            (strK w2 fun ss3 =>
              (optK (cc1[1]?) fun w4 =>
                (strK w4 fun ss5 =>
                  (runK (evFn Cw d 15 [(AVal.sl true 0 [(AVal.sl false 0 (ss3.map ofByte)), (AVal.sl false 0 (ss5.map ofByte))])] h) fun r6 h6 =>
                    (consK r6 fun w7 ws8 =>
                      (slOK 0 w7 fun es9 =>
                        (nilK ws8
                          (optK (Heap.cell? h6 i1 0) fun z10 =>
                            (slK 0 (HCell.toA z10) fun _ es11 =>
                              (bif (decide (((IntKind.i64.wrap ((es11.length : Int) + (es9.length : Int))) : Int) > 400)) then
                                (runK (evFn Cw d 14 [(AVal.obj i2 0), (AVal.obj i3 0)] h6) fun r12 h12 =>
                                  (nilK r12
                                    (optK (Heap.cell? h12 i1 0) fun z13 =>
                                      (slK 0 (HCell.toA z13) fun _ es14 =>
                                        (bif decide ((es14.length + es9.length) * 1 ≤ 140737488355328) then
                                          (lentK h12 i1 0 0 es14 fun h15 =>
                                            (optK (Heap.cell? h15 i1 0) fun _ =>
                                              (P5_0 d k i0 i1 i2 i3 f4 l5 x6 (IntKind.i64.wrap (x7 + 1)) (Heap.setCell h15 i1 0 (HCell.own 0 (es14 ++ es9))))))
                                        else
                                          Tr.fail)))))
                              else
                                (optK (Heap.cell? h6 i1 0) fun z16 =>
                                  (slK 0 (HCell.toA z16) fun _ es17 =>
                                    (bif decide ((es17.length + es9.length) * 1 ≤ 140737488355328) then
                                      (lentK h6 i1 0 0 es17 fun h18 =>
                                        (optK (Heap.cell? h18 i1 0) fun _ =>
                                          (P5_0 d k i0 i1 i2 i3 f4 l5 x6 (IntKind.i64.wrap (x7 + 1)) (Heap.setCell h18 i1 0 (HCell.own 0 (es17 ++ es9))))))
                                    else
                                      Tr.fail))))))))))))))
        else
          Tr.fail))
    else
      Tr.fail)
  else
    (runK (evFn Cw d 14 [(AVal.obj i2 0), (AVal.obj i3 0)] h) fun r19 h19 =>
      (nilK r19
        (optK (Heap.cell? h19 i0 0) fun z20 =>
          (slK 0 (HCell.toA z20) fun _ es21 =>
            (Tr.ret ([(AVal.sl false 0 es21), (AVal.int .i64 0)], h19))))))) := by kernel_rfl
theorem F5_eq (d : Nat) (f0 : Bool) (l1 : List AVal) (h : Heap) : evFn Cw (d + 1) 5 [(AVal.sl f0 3 l1)] h =
  (runK (evFn Cw d 13 [(AVal.sl f0 3 l1)] h) fun r1 h1 =>
    (consK r1 fun w2 ws3 =>
      (boolK w2 fun bb4 =>
        (nilK ws3
          (bif (!bb4) then
            (Tr.ret ([(AVal.sl true 0 []), (AVal.int .i64 13)], h1))
          else
            (P5_0 d rounds h1.objs.length ((Heap.push h1 (Go.Weave.Obj.cells [(HCell.val (AVal.sl true 0 []))])).objs.length) ((Heap.push h1 (Go.Weave.Obj.cells [(HCell.val (AVal.sl true 0 []))])).objs.length) h1.objs.length f0 l1 (l1.length : Int) 0 (Heap.push (Heap.push h1 (Go.Weave.Obj.cells [(HCell.val (AVal.sl true 0 []))])) (Go.Weave.Obj.cells [(HCell.val (AVal.sl true 0 []))])))))))) := by kernel_rfl
/- f22 strandline/point.pairs -/
noncomputable def P22_0 (d k : Nat) (l0 : List AVal) (l1 : List AVal) (x2 : Int) (h : Heap) : Tr Res :=
  loopPt Cw d 22 [true, true, true, true, false, true, true] [] k ⟨[(4, (EV.one (SV.own (tokOf 4 0) 0 l0))), (6, (EV.one (SV.own (tokOf 6 0) 3 l1))), (7, (EV.one (SV.val (AVal.int .i64 x2))))], []⟩ h
theorem P22_0_eq (d k : Nat) (l0 : List AVal) (l1 : List AVal) (x2 : Int) (h : Heap) : P22_0 d (k + 1) l0 l1 x2 h =
  (bif (decide ((x2 : Int) < (l0.length : Int))) then
    (bif (decide ((0 : Int) ≤ x2) && decide ((x2 : Int) < (l0.length : Int))) then
      (slK 0 (l0.getD (Int.toNat x2) AVal.undef) fun fl1 es2 =>
        (optK (toBytes es2) fun ss3 =>
          (bif (decide ((0 : Int) ≤ (IntKind.i64.wrap (x2 + 1))) && decide (((IntKind.i64.wrap (x2 + 1)) : Int) < (l0.length : Int))) then
            (slK 0 (l0.getD (Int.toNat (IntKind.i64.wrap (x2 + 1))) AVal.undef) fun fl4 es5 =>
              (optK (toBytes es5) fun ss6 =>
                (bif decide ((l1.length + (1 : Nat)) * 32 ≤ 140737488355328) then
                  (P22_0 d k l0 (l1 ++ [(AVal.agg [(AVal.str ss3), (AVal.str ss6)])]) (IntKind.i64.wrap (x2 + 2)) h)
                else
                  Tr.fail)))
          else
            Tr.fail)))
    else
      Tr.fail)
  else
    (Tr.ret ([(AVal.sl false 3 l1), (AVal.bool true)], h))) := by kernel_rfl
theorem F22_eq (d : Nat) (f0 : Bool) (l1 : List AVal) (h : Heap) : evFn Cw (d + 1) 22 [(AVal.sl f0 0 l1)] h =
  (runK (evFn Cw d 27 [(AVal.sl f0 0 l1)] h) fun r1 h1 =>
    (consK r1 fun w2 ws3 =>
      (slOK 0 w2 fun es4 =>
        (consK ws3 fun w5 ws6 =>
          (intK .i64 w5 fun y7 =>
            (nilK ws6
              (bif ((y7 : Int) != 0) then
                (Tr.ret ([(AVal.sl true 0 []), (AVal.bool false)], h1))
              else
                (bif (((Int.tmod (es4.length : Int) 2) : Int) != 0) then
                  (Tr.ret ([(AVal.sl true 0 []), (AVal.bool false)], h1))
                else
                  (bif (decide (((l1.length : Int) : Int) > 400)) then (Tr.ret ([(AVal.sl true 0 []), (AVal.bool false)], h1)) else (P22_0 d rounds es4 [] 0 h1)))))))))) := by kernel_rfl
/- f28 strandline/crc.four -/
theorem F28_eq (d : Nat) (x0 : Int) (h : Heap) : evFn Cw (d + 1) 28 [(AVal.int .u32 x0)] h =
  (bif (decide ((0 : Int) ≤ (IntKind.u32.wrap (BitVec.ofInt 32 x0 &&& BitVec.ofInt 32 15).toNat)) && decide (((IntKind.u32.wrap (BitVec.ofInt 32 x0 &&& BitVec.ofInt 32 15).toNat) : Int) < 16)) then
    (optK ([(AVal.int .u32 0), (AVal.int .u32 274646895), (AVal.int .u32 549293790), (AVal.int .u32 820201905), (AVal.int .u32 1098587580), (AVal.int .u32 1361435347), (AVal.int .u32 1640403810), (AVal.int .u32 1905808397), (AVal.int .u32 2197175160), (AVal.int .u32 2460548119), (AVal.int .u32 2722870694), (AVal.int .u32 2987750089), (AVal.int .u32 3280807620), (AVal.int .u32 3553878443), (AVal.int .u32 3811616794), (AVal.int .u32 4084100981)][(0 + ((Int.toNat (IntKind.u32.wrap (BitVec.ofInt 32 x0 &&& BitVec.ofInt 32 15).toNat)) * 1))]?) fun w1 =>
      (intK .u32 w1 fun y2 =>
        (Tr.ret ([(AVal.int .u32 (IntKind.u32.wrap (BitVec.ofInt 32 y2 ^^^ BitVec.ofInt 32 (Int.fdiv x0 (2 ^ 4))).toNat))], h))))
  else
    Tr.fail) := by kernel_rfl
/- f23 strandline/crc.More -/
noncomputable def P23_0 (d k : Nat) (x0 : Int) (f1 : Bool) (l2 : List AVal) (x3 : Int) (x4 : Int) (h : Heap) : Tr Res :=
  loopPt Cw d 23 [true, true, false, true, true] [] k ⟨[(5, (EV.one (SV.val (AVal.int .u32 x0)))), (10, (EV.one (SV.val (AVal.sl f1 0 l2)))), (11, (EV.one (SV.val (AVal.int .i64 x3)))), (12, (EV.one (SV.val (AVal.int .i64 x4))))], []⟩ h
theorem P23_0_eq (d k : Nat) (x0 : Int) (f1 : Bool) (l2 : List AVal) (x3 : Int) (x4 : Int) (h : Heap) : P23_0 d (k + 1) x0 f1 l2 x3 x4 h =
  (bif (decide ((x4 : Int) < x3)) then
    (bif (decide ((0 : Int) ≤ x4) && decide ((x4 : Int) < (l2.length : Int))) then
      (intK .u8 (l2.getD (Int.toNat x4) AVal.undef) fun y1 =>
        (runK (evFn Cw d 28 [(AVal.int .u32 (IntKind.u32.wrap (BitVec.ofInt 32 x0 ^^^ BitVec.ofInt 32 (IntKind.u32.wrap y1)).toNat))] h) fun r2 h2 =>
          (consK r2 fun w3 ws4 =>
            (intK .u32 w3 fun y5 =>
              (nilK ws4
                (runK (evFn Cw d 28 [(AVal.int .u32 y5)] h2) fun r6 h6 =>
                  (consK r6 fun w7 ws8 =>
                    (intK .u32 w7 fun y9 =>
                      (nilK ws8
                        (P23_0 d k y9 f1 l2 x3 (IntKind.i64.wrap (x4 + 1)) h6))))))))))
    else
      Tr.fail)
  else
    (Tr.ret ([(AVal.int .u32 (IntKind.u32.wrap (BitVec.ofInt 32 (IntKind.u32.max) ^^^ BitVec.ofInt 32 x0).toNat))], h))) := by kernel_rfl
theorem F23_eq (d : Nat) (x0 : Int) (f1 : Bool) (l2 : List AVal) (h : Heap) : evFn Cw (d + 1) 23 [(AVal.int .u32 x0), (AVal.sl f1 0 l2)] h =
  (P23_0 d rounds (IntKind.u32.wrap (BitVec.ofInt 32 (IntKind.u32.max) ^^^ BitVec.ofInt 32 x0).toNat) f1 l2 (l2.length : Int) 0 h) := by kernel_rfl
/- f17 strandline/point.all -/
noncomputable def P17_0 (d k : Nat) (l0 : List AVal) (f1 : Bool) (l2 : List AVal) (x3 : Int) (x4 : Int) (x5 : Int) (x6 : Int) (x7 : Int) (x8 : Int) (x9 : Int) (x10 : Int) (h : Heap) : Tr Res :=
  loopPt Cw d 17 [true, true, true, false, true, true] [] k ⟨[(3, (EV.one (SV.loc 3 0))), (5, (EV.one (SV.own (tokOf 5 0) 3 l0))), (6, (EV.one (SV.loc 6 0))), (14, (EV.one (SV.val (AVal.sl f1 0 l2)))), (15, (EV.one (SV.val (AVal.int .i64 x3)))), (16, (EV.one (SV.val (AVal.int .i64 x4))))], [(3, (Box.plain [(AVal.int .i64 x5), (AVal.int .i64 x6), (AVal.int .u32 x7)])), (6, (Box.plain [(AVal.int .i64 x8), (AVal.int .i64 x9), (AVal.int .u32 x10)]))]⟩ h
theorem P17_0_eq (d k : Nat) (l0 : List AVal) (f1 : Bool) (l2 : List AVal) (x3 : Int) (x4 : Int) (x5 : Int) (x6 : Int) (x7 : Int) (x8 : Int) (x9 : Int) (x10 : Int) (h : Heap) : P17_0 d (k + 1) l0 f1 l2 x3 x4 x5 x6 x7 x8 x9 x10 h =
  (bif (decide ((x4 : Int) < x3)) then
    (bif (decide ((0 : Int) ≤ x4) && decide ((x4 : Int) < (l2.length : Int))) then
      (slK 0 (l2.getD (Int.toNat x4) AVal.undef) fun fl1 es2 =>
        (runK (evFn Cw d 22 [(AVal.sl fl1 0 es2)] h) fun r3 h3 =>
          (consK r3 fun w4 ws5 =>
            (slOK 3 w4 fun es6 =>
              (consK ws5 fun w7 ws8 =>
                (boolK w7 fun bb9 =>
                  (nilK ws8
                    (bif (!bb9) then
                      (Tr.ret ([(AVal.sl true 0 []), (AVal.agg [(AVal.int .i64 0), (AVal.int .i64 0), (AVal.int .u32 0)]), (AVal.bool false)], h3))
                    else
                      (bif decide ((l0.length + es6.length) * 32 ≤ 140737488355328) then
                        (runK (evFn Cw d 23 [(AVal.int .u32 x10), (AVal.sl fl1 0 es2)] h3) fun r10 h10 =>
                          (consK r10 fun w11 ws12 =>
                            (intK .u32 w11 fun y13 =>
                              (nilK ws12
                                (P17_0 d k (l0 ++ es6) f1 l2 x3 (IntKind.i64.wrap (x4 + 1)) x5 x6 x7 x8 x9 y13 h10)))))
                      else
                        Tr.fail)))))))))
    else
      Tr.fail)
  else
    (Tr.ret ([(AVal.sl false 3 l0), (AVal.agg [(AVal.int .i64 x8), (AVal.int .i64 (l0.length : Int)), (AVal.int .u32 x10)]), (AVal.bool true)], h))) := by kernel_rfl
theorem F17_eq (d : Nat) (f0 : Bool) (l1 : List AVal) (h : Heap) : evFn Cw (d + 1) 17 [(AVal.sl f0 0 l1)] h =
  (P17_0 d rounds [] f0 l1 (l1.length : Int) 0 0 0 0 (l1.length : Int) 0 0 h) := by kernel_rfl
/- f8 strandline/point.Of -/
theorem F8_eq (d : Nat) (f0 : Bool) (l1 : List AVal) (h : Heap) : evFn Cw (d + 1) 8 [(AVal.sl f0 0 l1)] h =
  (runK (evFn Cw d 17 [(AVal.sl f0 0 l1)] h) fun r1 h1 =>
    (consK r1 fun w2 ws3 =>
      (slOK 3 w2 fun es4 =>
        (consK ws3 fun w5 ws6 =>
          (aggK 3 w5 fun cc7 =>
            (consK ws6 fun w8 ws9 =>
              (boolK w8 fun bb10 =>
                (nilK ws9
                  (bif ((cc7.length == 3) && true) then
                    (bif (!bb10) then
                      (Tr.ret ([(AVal.agg [(AVal.int .i64 0), (AVal.int .i64 0), (AVal.int .u32 0)]), (AVal.int .i64 2)], h1))
                    else
                      (bif decide (0 + 3 ≤ cc7.length) then
                        (bif ((((cc7.drop 0).take 3).length == 3) && true) then
                          (bif decide (0 + 3 ≤ ((cc7.drop 0).take 3).length) then (Tr.ret ([(AVal.agg ((((cc7.drop 0).take 3).drop 0).take 3)), (AVal.int .i64 0)], h1)) else Tr.fail)
                        else
                          Tr.fail)
                      else
                        Tr.fail))
                  else
                    Tr.fail))))))))) := by kernel_rfl
/- f4 strandline/strandlinelaw34.awake -/
theorem F4_eq (d : Nat) (h : Heap) : evFn Cw (d + 1) 4 [] h =
  (runK (evFn Cw d 5 [(AVal.sl true 3 [(AVal.agg [(AVal.str [97]), (AVal.str [98])])])] h) fun r1 h1 =>
    (consK r1 fun w2 ws3 =>
      (slK 0 w2 fun fl4 es5 =>
        (consK ws3 fun w6 ws7 =>
          (intK .i64 w6 fun y8 =>
            (nilK ws7
              (runK (evFn Cw d 8 [(AVal.sl fl4 0 es5)] h1) fun r9 h9 =>
                (consK r9 fun w10 ws11 =>
                  (aggK 3 w10 fun cc12 =>
                    (consK ws11 fun w13 ws14 =>
                      (intK .i64 w13 fun y15 =>
                        (nilK ws14
                          (bif ((cc12.length == 3) && true) then
                            (bif ((y8 : Int) == 0) then
                              (bif ((y15 : Int) == 0) then
                                (bif (((es5.length : Int) : Int) == 1) then
                                  (bif decide ((0 : Int) < (es5.length : Int)) then
                                    (slK 0 (es5.getD 0 AVal.undef) fun fl16 es17 =>
                                      (optK (toBytes es17) fun ss18 =>
                                        (bif (ss18 == [1, 97, 1, 98]) then
                                          (optK (cc12[1]?) fun w19 =>
                                            (intK .i64 w19 fun y20 =>
                                              (bif ((y20 : Int) == 1) then (Tr.ret ([(AVal.bool true)], h9)) else (Tr.ret ([(AVal.bool false)], h9)))))
                                        else
                                          (Tr.ret ([(AVal.bool false)], h9)))))
                                  else
                                    Tr.fail)
                                else
                                  (Tr.ret ([(AVal.bool false)], h9)))
                              else
                                (Tr.ret ([(AVal.bool false)], h9)))
                            else
                              (Tr.ret ([(AVal.bool false)], h9)))
                          else
                            Tr.fail))))))))))))) := by kernel_rfl
/- f6 strandline/strandlineref34.Right -/
noncomputable def P6_0 (d k : Nat) (f0 : Bool) (l1 : List AVal) (x2 : Int) (h : Heap) : Tr Res :=
  loopPt Cw d 6 [true, false, true, true] [] k ⟨[(0, (EV.one (SV.val (AVal.sl f0 3 l1)))), (3, (EV.one (SV.val (AVal.int .i64 x2))))], []⟩ h
theorem P6_0_eq (d k : Nat) (f0 : Bool) (l1 : List AVal) (x2 : Int) (h : Heap) : P6_0 d (k + 1) f0 l1 x2 h =
  (bif (decide ((x2 : Int) < (l1.length : Int))) then
    (bif (decide ((0 : Int) ≤ x2) && decide ((x2 : Int) < (l1.length : Int))) then
      (optK ((AVal.cells (l1.getD (Int.toNat x2) AVal.undef))[0]?) fun w1 =>
        (strK w1 fun ss2 =>
          (bif (ss2 == []) then
            (Tr.ret ([(AVal.bool false)], h))
          else
            (bif (decide ((0 : Int) ≤ x2) && decide ((x2 : Int) < (l1.length : Int))) then
              (optK ((AVal.cells (l1.getD (Int.toNat x2) AVal.undef))[0]?) fun w3 =>
                (strK w3 fun ss4 =>
                  (bif (decide (((ss4.length : Int) : Int) > 24)) then
                    (Tr.ret ([(AVal.bool false)], h))
                  else
                    (bif (decide ((0 : Int) ≤ x2) && decide ((x2 : Int) < (l1.length : Int))) then
                      (optK ((AVal.cells (l1.getD (Int.toNat x2) AVal.undef))[1]?) fun w5 =>
                        (strK w5 fun ss6 =>
                          (bif (decide (((ss6.length : Int) : Int) > 128)) then
                            (Tr.ret ([(AVal.bool false)], h))
                          else
                            (bif (decide ((x2 : Int) > 0)) then
                              (bif (decide ((0 : Int) ≤ x2) && decide ((x2 : Int) < (l1.length : Int))) then
                                (optK ((AVal.cells (l1.getD (Int.toNat x2) AVal.undef))[0]?) fun w7 =>
                                  (strK w7 fun ss8 =>
                                    (bif (decide ((0 : Int) ≤ (IntKind.i64.wrap (x2 - 1))) && decide (((IntKind.i64.wrap (x2 - 1)) : Int) < (l1.length : Int))) then
                                      (optK ((AVal.cells (l1.getD (Int.toNat (IntKind.i64.wrap (x2 - 1))) AVal.undef))[0]?) fun w9 =>
                                        (strK w9 fun ss10 =>
                                          (bif ((Go.Op.bytesLess ss8 ss10) || (ss8 == ss10)) then (Tr.ret ([(AVal.bool false)], h)) else (P6_0 d k f0 l1 (IntKind.i64.wrap (x2 + 1)) h))))
                                    else
                                      Tr.fail)))
                              else
                                Tr.fail)
                            else
                              (P6_0 d k f0 l1 (IntKind.i64.wrap (x2 + 1)) h)))))
                    else
                      Tr.fail))))
            else
              Tr.fail))))
    else
      Tr.fail)
  else
    (Tr.ret ([(AVal.bool true)], h))) := by kernel_rfl
theorem F6_eq (d : Nat) (f0 : Bool) (l1 : List AVal) (h : Heap) : evFn Cw (d + 1) 6 [(AVal.sl f0 3 l1)] h =
  (P6_0 d rounds f0 l1 0 h) := by kernel_rfl
/- f9 strandline/point.Join -/
theorem F9_eq (d : Nat) (x0 : Int) (x1 : Int) (x2 : Int) (f3 : Bool) (l4 : List AVal) (h : Heap) : evFn Cw (d + 1) 9 [(AVal.agg [(AVal.int .i64 x0), (AVal.int .i64 x1), (AVal.int .u32 x2)]), (AVal.sl f3 0 l4)] h =
  (bif (decide (((l4.length : Int) : Int) < x0)) then
    (Tr.ret ([(AVal.sl true 0 []), (AVal.int .i64 1)], h))
  else
    (runK (evFn Cw d 17 [(AVal.sl f3 0 l4)] h) fun r1 h1 =>
      (consK r1 fun w2 ws3 =>
        (slOK 3 w2 fun es4 =>
          (consK ws3 fun w5 ws6 =>
            (aggK 3 w5 fun cc7 =>
              (consK ws6 fun w8 ws9 =>
                (boolK w8 fun bb10 =>
                  (nilK ws9
                    (bif ((cc7.length == 3) && true) then
                      (bif (!bb10) then
                        (Tr.ret ([(AVal.sl true 0 []), (AVal.int .i64 2)], h1))
                      else
                        (optK (cc7[0]?) fun w11 =>
                          (intK .i64 w11 fun y12 =>
                            (bif ((y12 : Int) != x0) then
                              (Tr.ret ([(AVal.sl true 0 []), (AVal.int .i64 2)], h1))
                            else
                              (optK (cc7[1]?) fun w13 =>
                                (intK .i64 w13 fun y14 =>
                                  (bif ((y14 : Int) != x1) then
                                    (Tr.ret ([(AVal.sl true 0 []), (AVal.int .i64 2)], h1))
                                  else
                                    (runK (evFn Cw d 13 [(AVal.sl false 3 es4)] h1) fun r15 h15 =>
                                      (consK r15 fun w16 ws17 =>
                                        (boolK w16 fun bb18 =>
                                          (nilK ws17
                                            (bif (!bb18) then
                                              (Tr.ret ([(AVal.sl true 0 []), (AVal.int .i64 2)], h15))
                                            else
                                              (optK (cc7[2]?) fun w19 =>
                                                (intK .u32 w19 fun y20 =>
                                                  (bif ((y20 : Int) != x2) then (Tr.ret ([(AVal.sl true 0 []), (AVal.int .i64 3)], h15)) else (Tr.ret ([(AVal.sl false 3 es4), (AVal.int .i64 0)], h15)))))))))))))))))
                    else
                      Tr.fail)))))))))) := by kernel_rfl
/- f18 strandline/strandlineref34.Pairs -/
noncomputable def P18_0 (d k : Nat) (f0 : Bool) (l1 : List AVal) (l2 : List AVal) (x3 : Int) (h : Heap) : Tr Res :=
  loopPt Cw d 18 [true, true, false, true, true] [] k ⟨[(0, (EV.one (SV.val (AVal.sl f0 0 l1)))), (4, (EV.one (SV.own (tokOf 4 0) 3 l2))), (5, (EV.one (SV.val (AVal.int .i64 x3))))], []⟩ h
noncomputable def P18_1 (d n0 k : Nat) (f0 : Bool) (l1 : List AVal) (l2 : List AVal) (x3 : Int) (l4 : List AVal) (x5 : Int) (h : Heap) : Tr Res :=
  loopPt Cw d 18 [true, true, false, true, true, true, true, false, true, true, true, true, true] [n0] k ⟨[(0, (EV.one (SV.val (AVal.sl f0 0 l1)))), (4, (EV.one (SV.own (tokOf 4 0) 3 l2))), (5, (EV.one (SV.val (AVal.int .i64 x3)))), (6, (EV.one (SV.own (tokOf 6 0) 0 l4))), (8, (EV.one (SV.val (AVal.int .i64 x5))))], []⟩ h
theorem P18_0_eq (d k : Nat) (f0 : Bool) (l1 : List AVal) (l2 : List AVal) (x3 : Int) (h : Heap) : P18_0 d (k + 1) f0 l1 l2 x3 h =
  (bif (decide ((x3 : Int) < (l1.length : Int))) then
    (bif (decide ((0 : Int) ≤ x3) && decide ((x3 : Int) < (l1.length : Int))) then
      (slK 0 (l1.getD (Int.toNat x3) AVal.undef) fun fl1 es2 =>
        (runK (evFn Cw d 24 [(AVal.sl fl1 0 es2)] h) fun r3 h3 =>
          (consK r3 fun w4 ws5 =>
            (slOK 0 w4 fun es6 =>
              (consK ws5 fun w7 ws8 =>
                (intK .i64 w7 fun y9 =>
                  (nilK ws8
                    (bif ((y9 : Int) != 0) then
                      (Tr.ret ([(AVal.sl true 0 []), (AVal.bool false)], h3))
                    else
                      (bif (((Int.tmod (es6.length : Int) 2) : Int) == 1) then
                        (Tr.ret ([(AVal.sl true 0 []), (AVal.bool false)], h3))
                      else
                        (bif (decide ((0 : Int) ≤ x3) && decide ((x3 : Int) < (l1.length : Int))) then
                          (slK 0 (l1.getD (Int.toNat x3) AVal.undef) fun fl10 es11 =>
                            (bif (decide (((es11.length : Int) : Int) > 400)) then (Tr.ret ([(AVal.sl true 0 []), (AVal.bool false)], h3)) else (P18_1 d k rounds f0 l1 l2 x3 es6 0 h3)))
                        else
                          Tr.fail))))))))))
    else
      Tr.fail)
  else
    (Tr.ret ([(AVal.sl false 3 l2), (AVal.bool true)], h))) := by kernel_rfl
theorem P18_1_eq (d n0 k : Nat) (f0 : Bool) (l1 : List AVal) (l2 : List AVal) (x3 : Int) (l4 : List AVal) (x5 : Int) (h : Heap) : P18_1 d n0 (k + 1) f0 l1 l2 x3 l4 x5 h =
  (bif (decide (((IntKind.i64.wrap (x5 + 1)) : Int) < (l4.length : Int))) then
    (bif (decide ((0 : Int) ≤ x5) && decide ((x5 : Int) < (l4.length : Int))) then
      (slK 0 (l4.getD (Int.toNat x5) AVal.undef) fun fl1 es2 =>
        (optK (toBytes es2) fun ss3 =>
          (bif (decide ((0 : Int) ≤ (IntKind.i64.wrap (x5 + 1))) && decide (((IntKind.i64.wrap (x5 + 1)) : Int) < (l4.length : Int))) then
            (slK 0 (l4.getD (Int.toNat (IntKind.i64.wrap (x5 + 1))) AVal.undef) fun fl4 es5 =>
              (optK (toBytes es5) fun ss6 =>
                (bif decide ((l2.length + (1 : Nat)) * 32 ≤ 140737488355328) then
                  (P18_1 d n0 k f0 l1 (l2 ++ [(AVal.agg [(AVal.str ss3), (AVal.str ss6)])]) x3 l4 (IntKind.i64.wrap (x5 + 2)) h)
                else
                  Tr.fail)))
          else
            Tr.fail)))
    else
      Tr.fail)
  else
    (P18_0 d n0 f0 l1 l2 (IntKind.i64.wrap (x3 + 1)) h)) := by kernel_rfl
theorem F18_eq (d : Nat) (f0 : Bool) (l1 : List AVal) (h : Heap) : evFn Cw (d + 1) 18 [(AVal.sl f0 0 l1)] h =
  (P18_0 d rounds f0 l1 [] 0 h) := by kernel_rfl
/- f30 strandline/strandlineref03.Step -/
theorem F30_eq (d : Nat) (x0 : Int) (h : Heap) : evFn Cw (d + 1) 30 [(AVal.int .u32 x0)] h =
  (bif (((Int.tmod x0 2) : Int) == 1) then
    (Tr.ret ([(AVal.int .u32 (IntKind.u32.wrap (BitVec.ofInt 32 (IntKind.u32.wrap (Int.tdiv x0 2)) ^^^ BitVec.ofInt 32 2197175160).toNat))], h))
  else
    (Tr.ret ([(AVal.int .u32 (IntKind.u32.wrap (Int.tdiv x0 2)))], h))) := by kernel_rfl
/- f25 strandline/strandlineref03.More -/
noncomputable def P25_0 (d k : Nat) (f0 : Bool) (l1 : List AVal) (x2 : Int) (x3 : Int) (h : Heap) : Tr Res :=
  loopPt Cw d 25 [true, true, false, true, true] [] k ⟨[(1, (EV.one (SV.val (AVal.sl f0 0 l1)))), (5, (EV.one (SV.val (AVal.int .u32 x2)))), (6, (EV.one (SV.val (AVal.int .i64 x3))))], []⟩ h
noncomputable def P25_1 (d n0 k : Nat) (f0 : Bool) (l1 : List AVal) (x2 : Int) (x3 : Int) (x4 : Int) (h : Heap) : Tr Res :=
  loopPt Cw d 25 [true, true, false, true, true, true, true, false, true, true, true, true] [n0] k ⟨[(1, (EV.one (SV.val (AVal.sl f0 0 l1)))), (5, (EV.one (SV.val (AVal.int .u32 x2)))), (6, (EV.one (SV.val (AVal.int .i64 x3)))), (7, (EV.one (SV.val (AVal.int .i64 x4))))], []⟩ h
theorem P25_0_eq (d k : Nat) (f0 : Bool) (l1 : List AVal) (x2 : Int) (x3 : Int) (h : Heap) : P25_0 d (k + 1) f0 l1 x2 x3 h =
  (bif (decide ((x3 : Int) < (l1.length : Int))) then
    (bif (decide ((0 : Int) ≤ x3) && decide ((x3 : Int) < (l1.length : Int))) then
      (intK .u8 (l1.getD (Int.toNat x3) AVal.undef) fun y1 =>
        (P25_1 d k rounds f0 l1 (IntKind.u32.wrap (BitVec.ofInt 32 x2 ^^^ BitVec.ofInt 32 (IntKind.u32.wrap y1)).toNat) x3 0 h))
    else
      Tr.fail)
  else
    (Tr.ret ([(AVal.int .u32 (IntKind.u32.wrap (4294967295 - x2)))], h))) := by kernel_rfl
theorem P25_1_eq (d n0 k : Nat) (f0 : Bool) (l1 : List AVal) (x2 : Int) (x3 : Int) (x4 : Int) (h : Heap) : P25_1 d n0 (k + 1) f0 l1 x2 x3 x4 h =
  (bif (decide ((x4 : Int) < 8)) then
    (runK (evFn Cw d 30 [(AVal.int .u32 x2)] h) fun r1 h1 =>
      (consK r1 fun w2 ws3 =>
        (intK .u32 w2 fun y4 =>
          (nilK ws3
            (P25_1 d n0 k f0 l1 y4 x3 (IntKind.i64.wrap (x4 + 1)) h1)))))
  else
    (P25_0 d n0 f0 l1 x2 (IntKind.i64.wrap (x3 + 1)) h)) := by kernel_rfl
theorem F25_eq (d : Nat) (x0 : Int) (f1 : Bool) (l2 : List AVal) (h : Heap) : evFn Cw (d + 1) 25 [(AVal.int .u32 x0), (AVal.sl f1 0 l2)] h =
  (P25_0 d rounds f1 l2 (IntKind.u32.wrap (4294967295 - x0)) 0 h) := by kernel_rfl
/- f19 strandline/strandlineref03.Of -/
theorem F19_eq (d : Nat) (f0 : Bool) (l1 : List AVal) (h : Heap) : evFn Cw (d + 1) 19 [(AVal.sl f0 0 l1)] h =
  (runK (evFn Cw d 25 [(AVal.int .u32 0), (AVal.sl f0 0 l1)] h) fun r1 h1 =>
    (consK r1 fun w2 ws3 =>
      (intK .u32 w2 fun y4 =>
        (nilK ws3
          (Tr.ret ([(AVal.int .u32 y4)], h1)))))) := by kernel_rfl
/- f11 strandline/strandlineref34.Of -/
noncomputable def P11_0 (d k : Nat) (f0 : Bool) (l1 : List AVal) (l2 : List AVal) (l3 : List AVal) (x4 : Int) (x5 : Int) (x6 : Int) (x7 : Int) (h : Heap) : Tr Res :=
  loopPt Cw d 11 [true, true, true, false, true, true] [] k ⟨[(0, (EV.one (SV.val (AVal.sl f0 0 l1)))), (2, (EV.one (SV.loc 2 0))), (3, (EV.one (SV.own (tokOf 3 0) 3 l2))), (5, (EV.one (SV.own (tokOf 5 0) 0 l3))), (6, (EV.one (SV.val (AVal.int .i64 x4))))], [(2, (Box.plain [(AVal.int .i64 x5), (AVal.int .i64 x6), (AVal.int .u32 x7)]))]⟩ h
theorem P11_0_eq (d k : Nat) (f0 : Bool) (l1 : List AVal) (l2 : List AVal) (l3 : List AVal) (x4 : Int) (x5 : Int) (x6 : Int) (x7 : Int) (h : Heap) : P11_0 d (k + 1) f0 l1 l2 l3 x4 x5 x6 x7 h =
  (bif (decide ((x4 : Int) < (l1.length : Int))) then
    (bif (decide ((0 : Int) ≤ x4) && decide ((x4 : Int) < (l1.length : Int))) then
      (slK 0 (l1.getD (Int.toNat x4) AVal.undef) fun fl1 es2 =>
        (bif decide ((l3.length + es2.length) * 1 ≤ 140737488355328) then (P11_0 d k f0 l1 l2 (l3 ++ es2) (IntKind.i64.wrap (x4 + 1)) x5 x6 x7 h) else Tr.fail))
    else
      Tr.fail)
  else
    (runK (evFn Cw d 19 [(AVal.sl false 0 l3)] h) fun r3 h3 =>
      (consK r3 fun w4 ws5 =>
        (intK .u32 w4 fun y6 =>
          (nilK ws5
            (Tr.ret ([(AVal.agg [(AVal.int .i64 (l1.length : Int)), (AVal.int .i64 (l2.length : Int)), (AVal.int .u32 y6)])], h3))))))) := by kernel_rfl
theorem F11_eq (d : Nat) (f0 : Bool) (l1 : List AVal) (h : Heap) : evFn Cw (d + 1) 11 [(AVal.sl f0 0 l1)] h =
  (runK (evFn Cw d 18 [(AVal.sl f0 0 l1)] h) fun r1 h1 =>
    (consK r1 fun w2 ws3 =>
      (slOK 3 w2 fun es4 =>
        (consK ws3 fun w5 ws6 =>
          (boolK w5 fun bb7 =>
            (nilK ws6
              (P11_0 d rounds f0 l1 es4 [] 0 0 0 0 h1))))))) := by kernel_rfl
/- f3 strandline/strandlinelaw34.PointSplits -/
theorem F3_eq (d : Nat) (f0 : Bool) (l1 : List AVal) (h : Heap) : evFn Cw (d + 1) 3 [(AVal.sl f0 3 l1)] h =
  (bif (decide (((l1.length : Int) : Int) > 100)) then
    (runK (evFn Cw d 4 [] h) fun r1 h1 =>
      (consK r1 fun w2 ws3 =>
        (boolK w2 fun bb4 =>
          (nilK ws3
            (Tr.ret ([(AVal.bool bb4)], h1))))))
  else
    (runK (evFn Cw d 5 [(AVal.sl f0 3 l1)] h) fun r5 h5 =>
      (consK r5 fun w6 ws7 =>
        (slK 0 w6 fun fl8 es9 =>
          (consK ws7 fun w10 ws11 =>
            (intK .i64 w10 fun y12 =>
              (nilK ws11
                (runK (evFn Cw d 6 [(AVal.sl f0 3 l1)] h5) fun r13 h13 =>
                  (consK r13 fun w14 ws15 =>
                    (boolK w14 fun bb16 =>
                      (nilK ws15
                        (bif (!bb16) then
                          (bif ((y12 : Int) == 13) then
                            (bif (((es9.length : Int) : Int) == 0) then
                              (runK (evFn Cw d 4 [] h13) fun r17 h17 =>
                                (consK r17 fun w18 ws19 =>
                                  (boolK w18 fun bb20 =>
                                    (nilK ws19
                                      (Tr.ret ([(AVal.bool bb20)], h17))))))
                            else
                              (Tr.ret ([(AVal.bool false)], h13)))
                          else
                            (Tr.ret ([(AVal.bool false)], h13)))
                        else
                          (runK (evFn Cw d 7 [(AVal.sl f0 3 l1)] h13) fun r21 h21 =>
                            (consK r21 fun w22 ws23 =>
                              (slK 0 w22 fun fl24 es25 =>
                                (nilK ws23
                                  (runK (evFn Cw d 8 [(AVal.sl fl8 0 es9)] h21) fun r26 h26 =>
                                    (consK r26 fun w27 ws28 =>
                                      (aggK 3 w27 fun cc29 =>
                                        (consK ws28 fun w30 ws31 =>
                                          (intK .i64 w30 fun y32 =>
                                            (nilK ws31
                                              (bif ((cc29.length == 3) && true) then
                                                (bif decide (0 + 3 ≤ cc29.length) then
                                                  (runK (evFn Cw d 9 [(AVal.agg ((cc29.drop 0).take 3)), (AVal.sl fl8 0 es9)] h26) fun r33 h33 =>
                                                    (consK r33 fun w34 ws35 =>
                                                      (slOK 3 w34 fun es36 =>
                                                        (consK ws35 fun w37 ws38 =>
                                                          (intK .i64 w37 fun y39 =>
                                                            (nilK ws38
                                                              (bif ((y12 : Int) == 0) then
                                                                (runK (evFn Cw d 10 [(AVal.sl fl8 0 es9), (AVal.sl fl24 0 es25)] h33) fun r40 h40 =>
                                                                  (consK r40 fun w41 ws42 =>
                                                                    (boolK w41 fun bb43 =>
                                                                      (nilK ws42
                                                                        (bif bb43 then
                                                                          (bif ((y32 : Int) == 0) then
                                                                            (bif decide (0 + 3 ≤ cc29.length) then
                                                                              (runK (evFn Cw d 11 [(AVal.sl fl24 0 es25)] h40) fun r44 h44 =>
                                                                                (consK r44 fun w45 ws46 =>
                                                                                  (aggK 3 w45 fun cc47 =>
                                                                                    (nilK ws46
                                                                                      (bif ((plainOk Cw.P 38 (AVal.agg ((cc29.drop 0).take 3))) && (plainOk Cw.P 38 (AVal.agg cc47))) then
                                                                                        (bif (eqCells ((cc29.drop 0).take 3) cc47) then
                                                                                          (bif ((y39 : Int) == 0) then
                                                                                            (runK (evFn Cw d 12 [(AVal.sl false 3 es36), (AVal.sl f0 3 l1)] h44) fun r48 h48 =>
                                                                                              (consK r48 fun w49 ws50 =>
                                                                                                (boolK w49 fun bb51 =>
                                                                                                  (nilK ws50
                                                                                                    (bif bb51 then
                                                                                                      (runK (evFn Cw d 4 [] h48) fun r52 h52 =>
                                                                                                        (consK r52 fun w53 ws54 =>
                                                                                                          (boolK w53 fun bb55 =>
                                                                                                            (nilK ws54
                                                                                                              (Tr.ret ([(AVal.bool bb55)], h52))))))
                                                                                                    else
                                                                                                      (Tr.ret ([(AVal.bool false)], h48)))))))
                                                                                          else
                                                                                            (Tr.ret ([(AVal.bool false)], h44)))
                                                                                        else
                                                                                          (Tr.ret ([(AVal.bool false)], h44)))
                                                                                      else
                                                                                        Tr.fail)))))
                                                                            else
                                                                              Tr.fail)
                                                                          else
                                                                            (Tr.ret ([(AVal.bool false)], h40)))
                                                                        else
                                                                          (Tr.ret ([(AVal.bool false)], h40)))))))
                                                              else
                                                                (Tr.ret ([(AVal.bool false)], h33)))))))))
                                                else
                                                  Tr.fail)
                                              else
                                                Tr.fail))))))))))))))))))))))) := by kernel_rfl
end Go.Proofs.YtkpjkaikeeldfaaDoor.Wa
end

section
/- Points: their bytes. -/
namespace Go.Proofs.YtkpjkaikeeldfaaDoor.Wa
open Go Go.Weave
set_option maxRecDepth 100000
set_option linter.unusedSimpArgs false
set_option linter.unusedVariables false
set_option linter.unusedSectionVars false

/-! ### Words of four bytes -/
theorem fdiv_nat (x p : Nat) : Int.fdiv (x : Int) (p : Int) = ((x / p : Nat) : Int) := by
  rw [Int.fdiv_eq_ediv_of_nonneg _ (by omega)]; rfl
end Go.Proofs.YtkpjkaikeeldfaaDoor.Wa
end

section
/- Points: coded. -/
namespace Go.Proofs.YtkpjkaikeeldfaaDoor.Wa
open Go Go.Weave
set_option maxRecDepth 100000
set_option linter.unusedSimpArgs false
set_option linter.unusedVariables false
set_option linter.unusedSectionVars false

theorem u32_id {n : Nat} (h : n < 4294967296) : IntKind.u32.wrap (n : Int) = (n : Int) := by
  simp [IntKind.wrap, IntKind.bits, IntKind.signed]; omega
end Go.Proofs.YtkpjkaikeeldfaaDoor.Wa
end

section
/- Sums; points, awake; PointCodes. -/
namespace Go.Proofs.YtkpjkaikeeldfaaDoor.Wa
open Go Go.Weave
set_option maxRecDepth 100000
set_option linter.unusedSimpArgs false
set_option linter.unusedVariables false
set_option linter.unusedSectionVars false

/-! ### The sum -/
def t16 : List Nat := [0, 274646895, 549293790, 820201905, 1098587580, 1361435347, 1640403810, 1905808397, 2197175160, 2460548119, 2722870694, 2987750089, 3280807620, 3553878443, 3811616794, 4084100981]
def tabL : List AVal := t16.map fun (n : Nat) => AVal.int .u32 (n : Int)
theorem tabL_eq : [(AVal.int .u32 0), (AVal.int .u32 274646895), (AVal.int .u32 549293790), (AVal.int .u32 820201905), (AVal.int .u32 1098587580), (AVal.int .u32 1361435347), (AVal.int .u32 1640403810), (AVal.int .u32 1905808397), (AVal.int .u32 2197175160), (AVal.int .u32 2460548119), (AVal.int .u32 2722870694), (AVal.int .u32 2987750089), (AVal.int .u32 3280807620), (AVal.int .u32 3553878443), (AVal.int .u32 3811616794), (AVal.int .u32 4084100981)] = tabL := rfl
theorem t16_lt : ∀ r, r < 16 → t16.getD r 0 < 4294967296 := by decide
theorem tabL_get {r : Nat} (h : r < 16) : tabL[0 + r * 1]? = some (AVal.int .u32 (t16.getD r 0 : Nat)) := by
  have hl : t16.length = 16 := rfl
  rw [Nat.zero_add, Nat.mul_one]
  unfold tabL
  rw [List.getElem?_map, List.getElem?_eq_getElem (by omega)]
  simp [List.getD_eq_getElem?_getD, List.getElem?_eq_getElem (show r < t16.length by omega)]
def fourN (x : Nat) : Nat := t16.getD (x % 16) 0 ^^^ (x / 16)
theorem bv32 {n : Nat} (h : n < 4294967296) : (BitVec.ofInt 32 (n : Int)).toNat = n := by simp; omega
theorem xor_lt {a b : Nat} (ha : a < 4294967296) (hb : b < 4294967296) : a ^^^ b < 4294967296 := Nat.xor_lt_two_pow (n := 32) ha hb
theorem xor_wrap {a b : Nat} (ha : a < 4294967296) (hb : b < 4294967296) : IntKind.u32.wrap (BitVec.ofInt 32 (a : Int) ^^^ BitVec.ofInt 32 (b : Int)).toNat = ((a ^^^ b : Nat) : Int) := by
  rw [BitVec.toNat_xor, bv32 ha, bv32 hb]; exact u32_id (xor_lt ha hb)
theorem fourN_lt {x : Nat} (h : x < 4294967296) : fourN x < 4294967296 := xor_lt (t16_lt _ (by omega)) (by omega)
theorem four_run {d x : Nat} (hx : x < 4294967296) {h : Heap} {Q : Res → Prop} {tg : Hid Q} : Run (evFn Cw (d + 1) 28 [.int .u32 x] h) Q tg = Q ([.int .u32 (fourN x : Nat)], h) := by
  have e1 : IntKind.u32.wrap (BitVec.ofInt 32 (x : Int) &&& BitVec.ofInt 32 15).toNat = ((x % 16 : Nat) : Int) := by
    have h15 : (BitVec.ofInt 32 15).toNat = 15 := by decide
    have h2 : x &&& 15 = x % 16 := Nat.and_two_pow_sub_one_eq_mod x 4
    rw [BitVec.toNat_and, bv32 hx, h15, h2]; exact u32_id (by omega)
  have e2 : Int.fdiv (x : Int) (2 ^ 4) = ((x / 16 : Nat) : Int) := fdiv_nat x 16
  have e3 := xor_wrap (t16_lt (x % 16) (by omega)) (show x / 16 < 4294967296 by omega)
  have e4 := tabL_get (r := x % 16) (by omega)
  rw [F28_eq, tabL_eq]
  simp (disch := (first | assumption | (simp only [Bool.and_eq_true, Bool.and_eq_false_iff, decide_eq_true_eq, decide_eq_false_iff_not, bne_iff_ne, beq_iff_eq, beq_eq_false_iff_ne, bne_eq_false_iff_eq, Bool.not_eq_true', Bool.not_eq_false', bys_length, List.length_append, List.length_cons, List.length_nil, List.length_map, List.length_drop, List.length_take, Int.natCast_add, wrap_i64_eq, wrap_u64, wrap_u8, ne_eq, not_true_eq_false, not_false_eq_true, Nat.zero_add, Nat.mul_one] <;> omega) | omega | (simp; done) | (simp; omega))) only [↓CR, MC, ↓PR, MR, e1, e4, e2, e3]
  rfl
def moreN (s : Nat) (l : List UInt8) : Nat := 4294967295 ^^^ (l.foldl (fun x c => fourN (fourN (x ^^^ c.toNat))) (4294967295 ^^^ s))
theorem more_lt : ∀ (l : List UInt8) (x : Nat), x < 4294967296 → l.foldl (fun x c => fourN (fourN (x ^^^ c.toNat))) x < 4294967296
  | [], _, h => h
  | c :: l, x, h => more_lt l _ (fourN_lt (fourN_lt (xor_lt h (by have := c.toNat_lt; omega))))
theorem moreN_lt {s : Nat} (hs : s < 4294967296) (l : List UInt8) : moreN s l < 4294967296 := xor_lt (by omega) (more_lt l _ (xor_lt (by omega) hs))
theorem more_loop (d : Nat) (f : Bool) (l : List UInt8) (hl : l.length ≤ 140737488351232) (h : Heap) (Q : Res → Prop) : ∀ (n j k x : Nat) (tg : Hid Q), l.length = j + n → n < k → x < 4294967296 →
    Run (P23_0 (d + 1) k x f (bys l) (l.length : Nat) j h) Q tg = Q ([.int .u32 (4294967295 ^^^ ((l.drop j).foldl (fun x c => fourN (fourN (x ^^^ c.toNat))) x) : Nat)], h) := by
  intro n
  induction n with
  | zero =>
    intro j k x tg hj hk hx
    obtain ⟨k, rfl⟩ : ∃ m, k = m + 1 := ⟨k - 1, by omega⟩
    have hd : l.drop j = [] := List.drop_eq_nil_of_le (by omega)
    have e : IntKind.u32.wrap (BitVec.ofInt 32 (IntKind.u32.max) ^^^ BitVec.ofInt 32 (x : Int)).toNat = ((4294967295 ^^^ x : Nat) : Int) := xor_wrap (a := 4294967295) (by omega) hx
    rw [P23_0_eq, hd]
    simp (disch := (first | assumption | (simp only [Bool.and_eq_true, Bool.and_eq_false_iff, decide_eq_true_eq, decide_eq_false_iff_not, bne_iff_ne, beq_iff_eq, beq_eq_false_iff_ne, bne_eq_false_iff_eq, Bool.not_eq_true', Bool.not_eq_false', bys_length, List.length_append, List.length_cons, List.length_nil, List.length_map, List.length_drop, List.length_take, Int.natCast_add, wrap_i64_eq, wrap_u64, wrap_u8, ne_eq, not_true_eq_false, not_false_eq_true, Nat.zero_add, Nat.mul_one] <;> omega) | omega | (simp; done) | (simp; omega))) only [↓CR, MC, ↓PR, MR, e]
    rfl
  | succ n ih =>
    intro j k x tg hj hk hx
    obtain ⟨k, rfl⟩ : ∃ m, k = m + 1 := ⟨k - 1, by omega⟩
    have h1 : j < l.length := by omega
    have hc := (l[j]).toNat_lt
    have e1 := succ_wrap (i := j) (by omega)
    have w := u32_id (n := (l[j]).toNat) (by omega)
    have e2 := xor_wrap hx (show (l[j]).toNat < 4294967296 by omega)
    have hx1 := xor_lt hx (show (l[j]).toNat < 4294967296 by omega)
    have r1 := fun (Q : Res → Prop) (tg : Hid Q) => four_run (d := d) hx1 (h := h) (Q := Q) (tg := tg)
    have r2 := fun (Q : Res → Prop) (tg : Hid Q) => four_run (d := d) (fourN_lt hx1) (h := h) (Q := Q) (tg := tg)
    have ih' := fun tg => ih (j + 1) k _ tg (by omega) (by omega) (fourN_lt (fourN_lt hx1))
    have g : (bys l).getD j AVal.undef = .int .u8 ((l[j]).toNat : Int) := by rw [bys_getD h1]; rfl
    rw [P23_0_eq, List.drop_eq_getElem_cons h1, List.foldl_cons]
    simp (disch := (first | assumption | (simp only [Bool.and_eq_true, Bool.and_eq_false_iff, decide_eq_true_eq, decide_eq_false_iff_not, bne_iff_ne, beq_iff_eq, beq_eq_false_iff_ne, bne_eq_false_iff_eq, Bool.not_eq_true', Bool.not_eq_false', bys_length, List.length_append, List.length_cons, List.length_nil, List.length_map, List.length_drop, List.length_take, Int.natCast_add, wrap_i64_eq, wrap_u64, wrap_u8, ne_eq, not_true_eq_false, not_false_eq_true, Nat.zero_add, Nat.mul_one] <;> omega) | omega | (simp; done) | (simp; omega))) only [↓CR, MC, ↓PR, MR, bys_length, g, w, e2, r1, r2, e1, ih']
theorem more_run {d s : Nat} {f : Bool} {l : List UInt8} (hs : s < 4294967296) (hl : l.length ≤ 140737488351232) {h : Heap} {Q : Res → Prop} {tg : Hid Q} :
    Run (evFn Cw (d + 2) 23 [.int .u32 s, .sl f 0 (bys l)] h) Q tg = Q ([.int .u32 (moreN s l : Nat)], h) := by
  have e : IntKind.u32.wrap (BitVec.ofInt 32 (IntKind.u32.max) ^^^ BitVec.ofInt 32 (s : Int)).toNat = ((4294967295 ^^^ s : Nat) : Int) := xor_wrap (a := 4294967295) (by omega) hs
  have r := more_loop d f l hl h Q l.length 0 rounds (4294967295 ^^^ s) ⟨⟩ (by omega) (Nat.lt_of_lt_of_le (by omega) rounds_ge) (xor_lt (by omega) hs)
  rw [e0, List.drop_zero] at r
  rw [F23_eq, e, bys_length]
  exact r

/-! ### Awake -/
theorem pk_short {l : List UInt8} (h : l.length < 128) : pk l = UInt8.ofNat l.length :: l := by
  unfold pk
  rw [if_neg (by omega), enc_lt h]; rfl
theorem fget_short {l r : List UInt8} (h : l.length < 128) : fget (UInt8.ofNat l.length :: l ++ r) = (l, l.length + 1, 0) := by
  have e : UInt8.ofNat l.length :: l ++ r = enc l.length ++ (l ++ r) := by rw [enc_lt h]; rfl
  have e1 : (enc l.length).length = 1 := by rw [enc_lt h]; rfl
  rw [e, fget_eq]
  unfold fgetW
  rw [get_enc0 _ _ (by omega)]
  simp only [e1]
  rw [if_neg (by simp), if_neg (by omega), if_neg (by simp [e1])]
  have e2 : (enc l.length ++ (l ++ r)).drop 1 = l ++ r := by rw [enc_lt h]; rfl
  rw [e2]
  simp [Nat.add_comm]
def aB : List UInt8 := [1, 97, 1, 98]
theorem aB_pks : pks [[97], [98]] = aB := by
  unfold pks
  simp only [List.flatMap_cons, List.flatMap_nil]
  rw [pk_short (by decide), pk_short (by decide)]; rfl
theorem aB_unp : unp aB = ([[97], [98]], 0) := by
  have g1 : fget aB = ([97], 2, 0) := fget_short (l := [97]) (r := [1, 98]) (by decide)
  have g2 : fget [1, 98] = ([98], 2, 0) := fget_short (l := [98]) (r := []) (by decide)
  unfold unp
  have e : aB.length = 3 + 1 := rfl
  rw [e, unpF_succ, g1, if_neg (by decide), if_pos rfl]
  have e2 : aB.drop (([97], 2, 0) : List UInt8 × Nat × Nat).2.1 = [1, 98] := rfl
  rw [e2, unpF_succ, g2, if_neg (by decide), if_pos rfl]
  have e3 : ([1, 98] : List UInt8).drop (([98], 2, 0) : List UInt8 × Nat × Nat).2.1 = [] := rfl
  rw [e3, unpF_succ, if_pos (by decide)]
  rfl
theorem ptpairs_a {d : Nat} {f : Bool} {h : Heap} {Q : Res → Prop} {tg : Hid Q} : Run (evFn Cw (d + 4) 22 [.sl f 0 (bys aB)] h) Q tg = Q ([.sl false 3 [.agg [.str [97], .str [98]]], .bool true], h) := by
  obtain ⟨k, hk⟩ : ∃ m, rounds = m + 2 := ⟨rounds - 2, by have := rounds_ge; omega⟩
  have r := fun (Q : Res → Prop) (tg : Hid Q) => unp_run (d := d) (f := f) (l := aB) (h := h) (Q := Q) (tg := tg) (by decide)
  rw [aB_unp] at r
  have c0 : ((((0 : Nat)) : Int) != 0) = false := rfl
  have cd : decide ((0 : Nat) ≠ 0) = false := rfl
  have hL : (flds [[97], [98]]).length = 2 := rfl
  have c1 : (Int.tmod ((2 : Nat) : Int) 2 != 0) = false := by decide
  have hA : (bys aB).length = 4 := rfl
  have g0 : (flds [[97], [98]]).getD (Int.toNat 0) AVal.undef = .sl false 0 (bys [97]) := rfl
  have a1 : IntKind.i64.wrap ((0 : Int) + 1) = 1 := by decide
  have a2 : IntKind.i64.wrap ((0 : Int) + 2) = 2 := by decide
  have g1 : (flds [[97], [98]]).getD (Int.toNat 1) AVal.undef = .sl false 0 (bys [98]) := rfl
  rw [F22_eq, hk]
  simp (disch := (first | assumption | (simp only [Bool.and_eq_true, Bool.and_eq_false_iff, decide_eq_true_eq, decide_eq_false_iff_not, bne_iff_ne, beq_iff_eq, beq_eq_false_iff_ne, bne_eq_false_iff_eq, Bool.not_eq_true', Bool.not_eq_false', bys_length, List.length_append, List.length_cons, List.length_nil, List.length_map, List.length_drop, List.length_take, Int.natCast_add, wrap_i64_eq, wrap_u64, wrap_u8, ne_eq, not_true_eq_false, not_false_eq_true, Nat.zero_add, Nat.mul_one] <;> omega) | omega | (simp; done) | (simp; omega))) only [↓CR, MC, ↓PR, MR, r, c0, cd, hL, c1, hA]
  rw [P22_0_eq]
  simp (disch := (first | assumption | (simp only [Bool.and_eq_true, Bool.and_eq_false_iff, decide_eq_true_eq, decide_eq_false_iff_not, bne_iff_ne, beq_iff_eq, beq_eq_false_iff_ne, bne_eq_false_iff_eq, Bool.not_eq_true', Bool.not_eq_false', bys_length, List.length_append, List.length_cons, List.length_nil, List.length_map, List.length_drop, List.length_take, Int.natCast_add, wrap_i64_eq, wrap_u64, wrap_u8, ne_eq, not_true_eq_false, not_false_eq_true, Nat.zero_add, Nat.mul_one] <;> omega) | omega | (simp; done) | (simp; omega))) only [↓CR, MC, ↓PR, MR, hL, g0, a1, g1, a2, List.length_nil]
  rw [P22_0_eq]
  simp (disch := (first | assumption | (simp only [Bool.and_eq_true, Bool.and_eq_false_iff, decide_eq_true_eq, decide_eq_false_iff_not, bne_iff_ne, beq_iff_eq, beq_eq_false_iff_ne, bne_eq_false_iff_eq, Bool.not_eq_true', Bool.not_eq_false', bys_length, List.length_append, List.length_cons, List.length_nil, List.length_map, List.length_drop, List.length_take, Int.natCast_add, wrap_i64_eq, wrap_u64, wrap_u8, ne_eq, not_true_eq_false, not_false_eq_true, Nat.zero_add, Nat.mul_one] <;> omega) | omega | (simp; done) | (simp; omega))) only [↓CR, MC, ↓PR, MR, hL]
theorem ptof_a {d : Nat} {h : Heap} : ∃ s : Nat, ∀ (Q : Res → Prop) (tg : Hid Q), Run (evFn Cw (d + 6) 8 [.sl false 0 [.sl false 0 (bys aB)]] h) Q tg = Q ([.agg [.int .i64 1, .int .i64 1, .int .u32 s], .int .i64 0], h) := by
  obtain ⟨k, hk⟩ : ∃ m, rounds = m + 2 := ⟨rounds - 2, by have := rounds_ge; omega⟩
  refine ⟨moreN 0 aB, fun Q tg => ?_⟩
  have r := fun (Q : Res → Prop) (tg : Hid Q) => more_run (d := d + 2) (s := 0) (f := false) (l := aB) (by omega) (by decide) (h := h) (Q := Q) (tg := tg)
  have z : ((0 : Nat) : Int) = 0 := rfl
  rw [z] at r
  have hL : ([.sl false 0 (bys aB)] : List AVal).length = 1 := rfl
  have g0 : ([.sl false 0 (bys aB)] : List AVal).getD (Int.toNat 0) AVal.undef = .sl false 0 (bys aB) := rfl
  have a1 : IntKind.i64.wrap ((0 : Int) + 1) = 1 := by decide
  have hP : ([.agg [.str [97], .str [98]]] : List AVal).length = 1 := rfl
  have ra : ∀ (Q : Res → Prop) (tg : Hid Q), Run (evFn Cw (d + 5) 17 [.sl false 0 [.sl false 0 (bys aB)]] h) Q tg = Q ([.sl false 3 [.agg [.str [97], .str [98]]], .agg [.int .i64 1, .int .i64 1, .int .u32 (moreN 0 aB : Nat)], .bool true], h) := fun Q tg => by
    rw [F17_eq, hk, hL]
    rw [P17_0_eq]
    simp (disch := (first | assumption | (simp only [Bool.and_eq_true, Bool.and_eq_false_iff, decide_eq_true_eq, decide_eq_false_iff_not, bne_iff_ne, beq_iff_eq, beq_eq_false_iff_ne, bne_eq_false_iff_eq, Bool.not_eq_true', Bool.not_eq_false', bys_length, List.length_append, List.length_cons, List.length_nil, List.length_map, List.length_drop, List.length_take, Int.natCast_add, wrap_i64_eq, wrap_u64, wrap_u8, ne_eq, not_true_eq_false, not_false_eq_true, Nat.zero_add, Nat.mul_one] <;> omega) | omega | (simp; done) | (simp; omega))) only [↓CR, MC, ↓PR, MR, hL, g0, ptpairs_a, r, a1, List.length_nil, hP]
    rw [P17_0_eq]
    simp (disch := (first | assumption | (simp only [Bool.and_eq_true, Bool.and_eq_false_iff, decide_eq_true_eq, decide_eq_false_iff_not, bne_iff_ne, beq_iff_eq, beq_eq_false_iff_ne, bne_eq_false_iff_eq, Bool.not_eq_true', Bool.not_eq_false', bys_length, List.length_append, List.length_cons, List.length_nil, List.length_map, List.length_drop, List.length_take, Int.natCast_add, wrap_i64_eq, wrap_u64, wrap_u8, ne_eq, not_true_eq_false, not_false_eq_true, Nat.zero_add, Nat.mul_one] <;> omega) | omega | (simp; done) | (simp; omega))) only [↓CR, MC, ↓PR, MR, hL, hP]
    rfl
  rw [F8_eq]
  simp (disch := (first | assumption | (simp only [Bool.and_eq_true, Bool.and_eq_false_iff, decide_eq_true_eq, decide_eq_false_iff_not, bne_iff_ne, beq_iff_eq, beq_eq_false_iff_ne, bne_eq_false_iff_eq, Bool.not_eq_true', Bool.not_eq_false', bys_length, List.length_append, List.length_cons, List.length_nil, List.length_map, List.length_drop, List.length_take, Int.natCast_add, wrap_i64_eq, wrap_u64, wrap_u8, ne_eq, not_true_eq_false, not_false_eq_true, Nat.zero_add, Nat.mul_one] <;> omega) | omega | (simp; done) | (simp; omega))) only [↓CR, MC, ↓PR, MR, ra, Bool.not_true]
def pvA : Weave.Obj := .cells [HCell.val (.sl true 0 [])]
theorem split_a {d : Nat} {h : Heap} : ∃ h', h.ext h' ∧ ∀ (Q : Res → Prop) (tg : Hid Q), Run (evFn Cw (d + 5) 5 [.sl true 3 [.agg [.str [97], .str [98]]]] h) Q tg = Q ([.sl false 0 [.sl false 0 (bys aB)], .int .i64 0], h') := by
  obtain ⟨k, hk⟩ : ∃ m, rounds = m + 2 := ⟨rounds - 2, by have := rounds_ge; omega⟩
  have hL : ([.agg [.str [97], .str [98]]] : List AVal).length = 1 := rfl
  have g0 : ([.agg [.str [97], .str [98]]] : List AVal).getD (Int.toNat 0) AVal.undef = .agg [.str [97], .str [98]] := rfl
  have a1 : IntKind.i64.wrap ((0 : Int) + 1) = 1 := by decide
  have n1 : ([97] : List UInt8).length = 1 := rfl
  have n2 : ([98] : List UInt8).length = 1 := rfl
  have rr : ∀ (Q : Res → Prop) (tg : Hid Q), Run (evFn Cw (d + 4) 13 [.sl true 3 [.agg [.str [97], .str [98]]]] h) Q tg = Q ([.bool true], h) := fun Q tg => by
    rw [F13_eq, hk, hL]
    rw [P13_0_eq]
    simp (disch := (first | assumption | (simp only [Bool.and_eq_true, Bool.and_eq_false_iff, decide_eq_true_eq, decide_eq_false_iff_not, bne_iff_ne, beq_iff_eq, beq_eq_false_iff_ne, bne_eq_false_iff_eq, Bool.not_eq_true', Bool.not_eq_false', bys_length, List.length_append, List.length_cons, List.length_nil, List.length_map, List.length_drop, List.length_take, Int.natCast_add, wrap_i64_eq, wrap_u64, wrap_u8, ne_eq, not_true_eq_false, not_false_eq_true, Nat.zero_add, Nat.mul_one] <;> omega) | omega | (simp; done) | (simp; omega))) only [↓CR, MC, ↓PR, MR, hL, g0, n1, n2, a1]
    rw [P13_0_eq]
    simp (disch := (first | assumption | (simp only [Bool.and_eq_true, Bool.and_eq_false_iff, decide_eq_true_eq, decide_eq_false_iff_not, bne_iff_ne, beq_iff_eq, beq_eq_false_iff_ne, bne_eq_false_iff_eq, Bool.not_eq_true', Bool.not_eq_false', bys_length, List.length_append, List.length_cons, List.length_nil, List.length_map, List.length_drop, List.length_take, Int.natCast_add, wrap_i64_eq, wrap_u64, wrap_u8, ne_eq, not_true_eq_false, not_false_eq_true, Nat.zero_add, Nat.mul_one] <;> omega) | omega | (simp; done) | (simp; omega))) only [↓CR, MC, ↓PR, MR, hL]
  have e1 : (h.push pvA).objs.length = h.objs.length + 1 := Heap.push_len _ _
  have m1 : ((h.push pvA).push pvA).objs[h.objs.length]? = some pvA := (Heap.ext.push (h.push pvA) _).get (Heap.push_new h _)
  have m2 : ((h.push pvA).push pvA).objs[h.objs.length + 1]? = some pvA := by rw [← e1]; exact Heap.push_new _ _
  generalize hB : (h.push pvA).push pvA = hh at m1 m2
  have EB : h.ext hh := by rw [← hB]; exact (Heap.ext.push h _).trans (Heap.ext.push _ _)
  have hB' : (h.push (Weave.Obj.cells [HCell.val (.sl true 0 [])])).push (Weave.Obj.cells [HCell.val (.sl true 0 [])]) = hh := hB
  have e1' : (h.push (Weave.Obj.cells [HCell.val (.sl true 0 [])])).objs.length = h.objs.length + 1 := e1
  have rp := fun (Q : Res → Prop) (tg : Hid Q) => pack_run (d := d + 1) (f := true) (l := [[97], [98]]) (h := hh) (Q := Q) (tg := tg) (by rw [aB_pks]; decide) (by decide)
  rw [aB_pks] at rp
  have ep : [AVal.sl false 0 ([97].map ofByte), AVal.sl false 0 ([98].map ofByte)] = flds [[97], [98]] := rfl
  have hA : (bys aB).length = 4 := rfl
  have w4 : IntKind.i64.wrap (((0 : Nat) : Int) + ((4 : Nat) : Int)) = 4 := by decide
  have c1 : hh.cell? (h.objs.length + 1) 0 = some (HCell.val (.sl true 0 [])) := by rw [Heap.cell_at m2]; rfl
  have s1 : hh.setCell (h.objs.length + 1) 0 (HCell.own 0 (bys aB)) = hh.put (h.objs.length + 1) (.cells [HCell.own 0 (bys aB)]) := by rw [Heap.set_at m2]; rfl
  have m3 : (hh.put (h.objs.length + 1) (.cells [HCell.own 0 (bys aB)])).objs[h.objs.length + 1]? = some (.cells [HCell.own 0 (bys aB)]) := Heap.put_get m2
  have m4 : (hh.put (h.objs.length + 1) (.cells [HCell.own 0 (bys aB)])).objs[h.objs.length]? = some pvA := by rw [Heap.put_ne (by omega)]; exact m1
  have c3 : (hh.put (h.objs.length + 1) (.cells [HCell.own 0 (bys aB)])).cell? (h.objs.length + 1) 0 = some (HCell.own 0 (bys aB)) := by rw [Heap.cell_at m3]; rfl
  have c4 : (hh.put (h.objs.length + 1) (.cells [HCell.own 0 (bys aB)])).cell? h.objs.length 0 = some (HCell.val (.sl true 0 [])) := by rw [Heap.cell_at m4]; rfl
  have s4 : (hh.put (h.objs.length + 1) (.cells [HCell.own 0 (bys aB)])).setCell h.objs.length 0 (HCell.own 0 [.sl false 0 (bys aB)]) = (hh.put (h.objs.length + 1) (.cells [HCell.own 0 (bys aB)])).put h.objs.length (.cells [HCell.own 0 [.sl false 0 (bys aB)]]) := by rw [Heap.set_at m4]; rfl
  have m5 : ((hh.put (h.objs.length + 1) (.cells [HCell.own 0 (bys aB)])).put h.objs.length (.cells [HCell.own 0 [.sl false 0 (bys aB)]])).objs[h.objs.length + 1]? = some (.cells [HCell.own 0 (bys aB)]) := by rw [Heap.put_ne (by omega)]; exact m3
  have c5 : ((hh.put (h.objs.length + 1) (.cells [HCell.own 0 (bys aB)])).put h.objs.length (.cells [HCell.own 0 [.sl false 0 (bys aB)]])).cell? (h.objs.length + 1) 0 = some (HCell.own 0 (bys aB)) := by rw [Heap.cell_at m5]; rfl
  have s5 : ((hh.put (h.objs.length + 1) (.cells [HCell.own 0 (bys aB)])).put h.objs.length (.cells [HCell.own 0 [.sl false 0 (bys aB)]])).setCell (h.objs.length + 1) 0 (HCell.val (.sl true 0 [])) = ((hh.put (h.objs.length + 1) (.cells [HCell.own 0 (bys aB)])).put h.objs.length (.cells [HCell.own 0 [.sl false 0 (bys aB)]])).put (h.objs.length + 1) pvA := by rw [Heap.set_at m5]; rfl
  have m6 : (((hh.put (h.objs.length + 1) (.cells [HCell.own 0 (bys aB)])).put h.objs.length (.cells [HCell.own 0 [.sl false 0 (bys aB)]])).put (h.objs.length + 1) pvA).objs[h.objs.length]? = some (.cells [HCell.own 0 [.sl false 0 (bys aB)]]) := by rw [Heap.put_ne (by omega)]; exact Heap.put_get m4
  have c6 : (((hh.put (h.objs.length + 1) (.cells [HCell.own 0 (bys aB)])).put h.objs.length (.cells [HCell.own 0 [.sl false 0 (bys aB)]])).put (h.objs.length + 1) pvA).cell? h.objs.length 0 = some (HCell.own 0 [.sl false 0 (bys aB)]) := by rw [Heap.cell_at m6]; rfl
  refine ⟨_, ((EB.put (id := h.objs.length + 1) (o := .cells [HCell.own 0 (bys aB)]) (by omega)).put (id := h.objs.length) (o := .cells [HCell.own 0 [.sl false 0 (bys aB)]]) (by omega)).put (id := h.objs.length + 1) (o := pvA) (by omega), fun Q tg => ?_⟩
  have r1 : ∀ (Q : Res → Prop) (tg : Hid Q), Run (evFn Cw (d + 4) 14 [.obj (h.objs.length + 1) 0, .obj h.objs.length 0] (hh.put (h.objs.length + 1) (.cells [HCell.own 0 (bys aB)]))) Q tg
      = Q ([], ((hh.put (h.objs.length + 1) (.cells [HCell.own 0 (bys aB)])).put h.objs.length (.cells [HCell.own 0 [.sl false 0 (bys aB)]])).put (h.objs.length + 1) pvA) := fun Q tg => by
    rw [F14_eq]
    simp (disch := (first | assumption | (simp only [Bool.and_eq_true, Bool.and_eq_false_iff, decide_eq_true_eq, decide_eq_false_iff_not, bne_iff_ne, beq_iff_eq, beq_eq_false_iff_ne, bne_eq_false_iff_eq, Bool.not_eq_true', Bool.not_eq_false', bys_length, List.length_append, List.length_cons, List.length_nil, List.length_map, List.length_drop, List.length_take, Int.natCast_add, wrap_i64_eq, wrap_u64, wrap_u8, ne_eq, not_true_eq_false, not_false_eq_true, Nat.zero_add, Nat.mul_one] <;> omega) | omega | (simp; done) | (simp; omega))) only [↓CR, MC, ↓PR, MR, c3, c4, at_lentK_full c4, hA, List.length_nil, s4, c5, s5]
  rw [F5_eq, hk]
  simp (disch := (first | assumption | (simp only [Bool.and_eq_true, Bool.and_eq_false_iff, decide_eq_true_eq, decide_eq_false_iff_not, bne_iff_ne, beq_iff_eq, beq_eq_false_iff_ne, bne_eq_false_iff_eq, Bool.not_eq_true', Bool.not_eq_false', bys_length, List.length_append, List.length_cons, List.length_nil, List.length_map, List.length_drop, List.length_take, Int.natCast_add, wrap_i64_eq, wrap_u64, wrap_u8, ne_eq, not_true_eq_false, not_false_eq_true, Nat.zero_add, Nat.mul_one] <;> omega) | omega | (simp; done) | (simp; omega))) only [↓CR, MC, ↓PR, MR, rr, Bool.not_true, e1', hB', hL]
  rw [P5_0_eq]
  simp (disch := (first | assumption | (simp only [Bool.and_eq_true, Bool.and_eq_false_iff, decide_eq_true_eq, decide_eq_false_iff_not, bne_iff_ne, beq_iff_eq, beq_eq_false_iff_ne, bne_eq_false_iff_eq, Bool.not_eq_true', Bool.not_eq_false', bys_length, List.length_append, List.length_cons, List.length_nil, List.length_map, List.length_drop, List.length_take, Int.natCast_add, wrap_i64_eq, wrap_u64, wrap_u8, ne_eq, not_true_eq_false, not_false_eq_true, Nat.zero_add, Nat.mul_one] <;> omega) | omega | (simp; done) | (simp; omega))) only [↓CR, MC, ↓PR, MR, hL, g0, ep, rp, c1, at_lentK_full c1, hA, List.length_nil, w4, s1, a1]
  rw [P5_0_eq]
  simp (disch := (first | assumption | (simp only [Bool.and_eq_true, Bool.and_eq_false_iff, decide_eq_true_eq, decide_eq_false_iff_not, bne_iff_ne, beq_iff_eq, beq_eq_false_iff_ne, bne_eq_false_iff_eq, Bool.not_eq_true', Bool.not_eq_false', bys_length, List.length_append, List.length_cons, List.length_nil, List.length_map, List.length_drop, List.length_take, Int.natCast_add, wrap_i64_eq, wrap_u64, wrap_u8, ne_eq, not_true_eq_false, not_false_eq_true, Nat.zero_add, Nat.mul_one] <;> omega) | omega | (simp; done) | (simp; omega))) only [↓CR, MC, ↓PR, MR, hL, r1, c6]
theorem awake34_run (d : Nat) (h : Heap) : ∃ h', h.ext h' ∧ ∀ (Q : Res → Prop) (tg : Hid Q), Run (evFn Cw (d + 7) 4 [] h) Q tg = Q ([.bool true], h') := by
  obtain ⟨h', E, r⟩ := split_a (d := d + 1) (h := h)
  obtain ⟨s, r2⟩ := ptof_a (d := d) (h := h')
  refine ⟨h', E, fun Q tg => ?_⟩
  have hL : ([.sl false 0 (bys aB)] : List AVal).length = 1 := rfl
  have g0 : ([.sl false 0 (bys aB)] : List AVal).getD 0 AVal.undef = .sl false 0 (bys aB) := rfl
  have c1 : (((1 : Nat) : Int) == 1) = true := rfl
  have c2 : (aB == [1, 97, 1, 98]) = true := by decide
  rw [F4_eq]
  simp (disch := (first | assumption | (simp only [Bool.and_eq_true, Bool.and_eq_false_iff, decide_eq_true_eq, decide_eq_false_iff_not, bne_iff_ne, beq_iff_eq, beq_eq_false_iff_ne, bne_eq_false_iff_eq, Bool.not_eq_true', Bool.not_eq_false', bys_length, List.length_append, List.length_cons, List.length_nil, List.length_map, List.length_drop, List.length_take, Int.natCast_add, wrap_i64_eq, wrap_u64, wrap_u8, ne_eq, not_true_eq_false, not_false_eq_true, Nat.zero_add, Nat.mul_one] <;> omega) | omega | (simp; done) | (simp; omega))) only [↓CR, MC, ↓PR, MR, r, r2, hL, c1, g0, c2]
end Go.Proofs.YtkpjkaikeeldfaaDoor.Wa
end

section
/- What the evaluator comes to in these functions. -/
namespace Go.Proofs.YtkpjkaikeeldfaaDoor.Wa
open Go Go.Weave
set_option maxRecDepth 100000
set_option linter.unusedVariables false
/- f12 strandline/strandlineref31.Same -/
noncomputable def P12_0 (d k : Nat) (f0 : Bool) (l1 : List AVal) (f2 : Bool) (l3 : List AVal) (x4 : Int) (h : Heap) : Tr Res :=
  loopPt Cw d 12 [true, true, false, true, true] [] k ⟨[(0, (EV.one (SV.val (AVal.sl f0 3 l1)))), (1, (EV.one (SV.val (AVal.sl f2 3 l3)))), (5, (EV.one (SV.val (AVal.int .i64 x4))))], []⟩ h
theorem P12_0_eq (d k : Nat) (f0 : Bool) (l1 : List AVal) (f2 : Bool) (l3 : List AVal) (x4 : Int) (h : Heap) : P12_0 d (k + 1) f0 l1 f2 l3 x4 h =
  (bif (decide ((x4 : Int) < (l1.length : Int))) then
    (bif (decide ((0 : Int) ≤ x4) && decide ((x4 : Int) < (l1.length : Int))) then
      (aggK 2 (l1.getD (Int.toNat x4) AVal.undef) fun cc1 =>
        (bif (decide ((0 : Int) ≤ x4) && decide ((x4 : Int) < (l3.length : Int))) then
          (aggK 2 (l3.getD (Int.toNat x4) AVal.undef) fun cc2 =>
            (bif ((plainOk Cw.P 42 (AVal.agg cc1)) && (plainOk Cw.P 42 (AVal.agg cc2))) then
              (bif (!(eqCells cc1 cc2)) then (Tr.ret ([(AVal.bool false)], h)) else (P12_0 d k f0 l1 f2 l3 (IntKind.i64.wrap (x4 + 1)) h))
            else
              Tr.fail))
        else
          Tr.fail))
    else
      Tr.fail)
  else
    (Tr.ret ([(AVal.bool true)], h))) := by kernel_rfl
theorem F12_eq (d : Nat) (f0 : Bool) (l1 : List AVal) (f2 : Bool) (l3 : List AVal) (h : Heap) : evFn Cw (d + 1) 12 [(AVal.sl f0 3 l1), (AVal.sl f2 3 l3)] h =
  (bif (((l1.length : Int) : Int) != (l3.length : Int)) then (Tr.ret ([(AVal.bool false)], h)) else (P12_0 d rounds f0 l1 f2 l3 0 h)) := by kernel_rfl
end Go.Proofs.YtkpjkaikeeldfaaDoor.Wa
end

section
/- Balanced trees of texts, as plain Lean. -/
namespace Go.Weave
set_option maxRecDepth 100000
set_option linter.unusedSimpArgs false
set_option linter.unusedVariables false
set_option linter.unusedSectionVars false

/-! ### The order of texts -/
abbrev blt (a b : List UInt8) : Bool := Go.Op.bytesLess a b
theorem blt_trans : ∀ {a b c : List UInt8}, blt a b = true → blt b c = true → blt a c = true
  | [], [], _, h, _ => by simp [blt, Go.Op.bytesLess] at h
  | [], _ :: _, [], _, h => by simp [blt, Go.Op.bytesLess] at h
  | [], _ :: _, _ :: _, _, _ => rfl
  | _ :: _, [], _, h, _ => by simp [blt, Go.Op.bytesLess] at h
  | _ :: _, _ :: _, [], _, h => by simp [blt, Go.Op.bytesLess] at h
  | a :: x, b :: y, c :: z, h1, h2 => by
    have ih := fun h1 h2 => blt_trans (a := x) (b := y) (c := z) h1 h2
    simp only [blt] at ih
    simp only [blt, Go.Op.bytesLess, Bool.or_eq_true, decide_eq_true_eq, Bool.and_eq_true, beq_iff_eq] at h1 h2 ⊢
    rcases h1 with h1 | ⟨h1, h1'⟩ <;> rcases h2 with h2 | ⟨h2, h2'⟩
    · exact .inl (UInt8.lt_trans h1 h2)
    · subst h2; exact .inl h1
    · subst h1; exact .inl h2
    · subst h1; subst h2; exact .inr ⟨rfl, ih h1' h2'⟩
/-! ### Sorted pairs -/
def Srt (l : List KPair) : Prop := l.Pairwise fun a b => blt a.key b.key = true
def lput (k v : List UInt8) (l : List KPair) : List KPair := l.filter (fun p => blt p.key k) ++ ⟨k, v⟩ :: l.filter (fun p => blt k p.key)
def ldel (k : List UInt8) (l : List KPair) : List KPair := l.filter (fun p => p.key != k)
theorem Srt.put {k v : List UInt8} {l : List KPair} (h : Srt l) : Srt (lput k v l) := by
  unfold lput
  refine List.pairwise_append.2 ⟨h.sublist List.filter_sublist, List.pairwise_cons.2 ⟨fun x hx => (List.mem_filter.1 hx).2, h.sublist List.filter_sublist⟩, fun x hx y hy => ?_⟩
  have h1 := (List.mem_filter.1 hx).2
  rcases List.mem_cons.1 hy with rfl | hy
  · exact h1
  · exact blt_trans h1 (List.mem_filter.1 hy).2
theorem Srt.del {k : List UInt8} {l : List KPair} (h : Srt l) : Srt (ldel k l) := h.sublist List.filter_sublist

/-! ### Trees -/
inductive Nd where
  | nil
  | node (k v : List UInt8) (l r : Nd) (h : Int)
def Nd.A : Nd → AVal
  | .nil => .nilp
  | .node k v l r h => .elt (.agg [.str k, .str v, l.A, r.A, .int .i64 h]) true 5 0
def Nd.high : Nd → Int
  | .nil => 0
  | .node _ _ _ _ h => h
def Nd.toL : Nd → List KPair
  | .nil => []
  | .node k v l r _ => l.toL ++ ⟨k, v⟩ :: r.toL
def Nd.Avl : Nd → Prop
  | .nil => True
  | .node _ _ l r h => l.Avl ∧ r.Avl ∧ h = 1 + max l.high r.high ∧ l.high - r.high ≤ 1 ∧ r.high - l.high ≤ 1
def Nd.mk (k v : List UInt8) (l r : Nd) : Nd := .node k v l r (1 + max l.high r.high)
def Nd.level (k v : List UInt8) (l r : Nd) : Nd :=
  if l.high > r.high + 1 then
    match l with
    | .node lk lv ll lr _ => if ll.high ≥ lr.high then .mk lk lv ll (.mk k v lr r) else
        (match lr with
        | .node rk rv rl rr _ => .mk rk rv (.mk lk lv ll rl) (.mk k v rr r)
        | .nil => .mk k v l r)
    | .nil => .mk k v l r
  else if r.high > l.high + 1 then
    match r with
    | .node rk rv rl rr _ => if rr.high ≥ rl.high then .mk rk rv (.mk k v l rl) rr else
        (match rl with
        | .node lk lv ll lr _ => .mk lk lv (.mk k v l ll) (.mk rk rv lr rr)
        | .nil => .mk k v l r)
    | .nil => .mk k v l r
  else .mk k v l r
def Nd.put (k v : List UInt8) : Nd → Nd
  | .nil => .node k v .nil .nil 1
  | .node k' v' l r h => if blt k k' then .level k' v' (l.put k v) r else if blt k' k then .level k' v' l (r.put k v) else .node k v l r h
def Nd.least (k v : List UInt8) : Nd → List UInt8 × List UInt8
  | .nil => (k, v)
  | .node k' v' l _ _ => l.least k' v'
def Nd.without (k : List UInt8) : Nd → Nd
  | .nil => .nil
  | .node k' v' l r h => if blt k k' then .level k' v' (l.without k) r else if blt k' k then .level k' v' l (r.without k) else
      match l, r with
      | .nil, r => r
      | l, .nil => l
      | l, .node rk rv rl rr rh => .level (rl.least rk rv).1 (rl.least rk rv).2 l ((Nd.node rk rv rl rr rh).without (rl.least rk rv).1)

theorem Nd.Avl.mk {k v : List UInt8} {l r : Nd} (hl : l.Avl) (hr : r.Avl) (h1 : l.high - r.high ≤ 1) (h2 : r.high - l.high ≤ 1) : (Nd.mk k v l r).Avl := ⟨hl, hr, rfl, h1, h2⟩
theorem rounds_gt' {n : Nat} (h : n < 4611686018427387904) : n < rounds := Nat.lt_of_lt_of_le h rounds_ge
end Go.Weave
end

section
/- Balanced trees: what the program's nodes do. -/
namespace Go.Proofs.YtkpjkaikeeldfaaDoor.Wa
open Go Go.Weave
set_option maxRecDepth 100000
set_option linter.unusedSimpArgs false
set_option linter.unusedVariables false
set_option linter.unusedSectionVars false

/-! ### Looks -/
end Go.Proofs.YtkpjkaikeeldfaaDoor.Wa
end

section
/- Sorted lists of pairs, by the reference; trees, by the program. -/
namespace Go.Proofs.YtkpjkaikeeldfaaDoor.Wa
open Go Go.Weave
set_option maxRecDepth 100000
set_option linter.unusedSimpArgs false
set_option linter.unusedVariables false
set_option linter.unusedSectionVars false

def prs (l : List KPair) : List AVal := l.map KPair.A
theorem prs_length (l : List KPair) : (prs l).length = l.length := by simp [prs]
theorem prs_nil : prs [] = [] := of_eq_true (eq_self _)
theorem prs_getD {l : List KPair} {i : Nat} (h : i < l.length) : (prs l).getD i AVal.undef = .agg [.str l[i].key, .str l[i].val] := by simp [prs, h, KPair.A, KPair.C]
theorem prs_snoc (l : List KPair) (k v : List UInt8) : prs l ++ [.agg [.str k, .str v]] = prs (l ++ [⟨k, v⟩]) := by simp [prs, KPair.A, KPair.C]
theorem str_beq_self (a : List UInt8) : (a == a) = true := by simp

/-! ### What is told of a pair that there may be -/
/-! ### The reference's lists -/
theorem same31_loop (d : Nat) (f g : Bool) (h : Heap) (l : List KPair) (hl : l.length ≤ 1000000) (Q : Res → Prop) : ∀ (n i k : Nat) (tg : Hid Q), l.length = i + n → n < k →
    Run (P12_0 d k f (prs l) g (prs l) i h) Q tg = Q ([.bool true], h) := by
  intro n
  induction n with
  | zero =>
    intro i k tg hi hk
    obtain ⟨k, rfl⟩ : ∃ m, k = m + 1 := ⟨k - 1, by omega⟩
    rw [P12_0_eq]
    simp (disch := (first | assumption | (simp only [Bool.and_eq_true, Bool.and_eq_false_iff, decide_eq_true_eq, decide_eq_false_iff_not, bne_iff_ne, beq_iff_eq, beq_eq_false_iff_ne, bne_eq_false_iff_eq, Bool.not_eq_true', Bool.not_eq_false', bys_length, List.length_append, List.length_cons, List.length_nil, List.length_map, List.length_drop, List.length_take, Int.natCast_add, wrap_i64_eq, wrap_u64, wrap_u8, ne_eq, not_true_eq_false, not_false_eq_true, Nat.zero_add, Nat.mul_one] <;> omega) | omega | (simp; done) | (simp; omega))) only [↓CR, MC, ↓PR, MR, prs_length]
  | succ n ih =>
    intro i k tg hi hk
    obtain ⟨k, rfl⟩ : ∃ m, k = m + 1 := ⟨k - 1, by omega⟩
    have h1 : i < l.length := by omega
    have e1 := succ_wrap (i := i) (by omega)
    have ih' := fun tg => ih (i + 1) k tg (by omega) (by omega)
    rw [P12_0_eq]
    simp (disch := (first | assumption | (simp only [Bool.and_eq_true, Bool.and_eq_false_iff, decide_eq_true_eq, decide_eq_false_iff_not, bne_iff_ne, beq_iff_eq, beq_eq_false_iff_ne, bne_eq_false_iff_eq, Bool.not_eq_true', Bool.not_eq_false', bys_length, List.length_append, List.length_cons, List.length_nil, List.length_map, List.length_drop, List.length_take, Int.natCast_add, wrap_i64_eq, wrap_u64, wrap_u8, ne_eq, not_true_eq_false, not_false_eq_true, Nat.zero_add, Nat.mul_one] <;> omega) | omega | (simp; done) | (simp; omega))) only [↓CR, MC, ↓PR, MR, prs_length, prs_getD h1, plain42, Bool.and_self, str_beq_self, Bool.not_true, e1, ih']
theorem same31_run {d : Nat} {f g : Bool} {l : List KPair} {h : Heap} {Q : Res → Prop} {tg : Hid Q} (hl : l.length ≤ 1000000) :
    Run (evFn Cw (d + 1) 12 [.sl f 3 (prs l), .sl g 3 (prs l)] h) Q tg = Q ([.bool true], h) := by
  have := same31_loop d f g h l hl Q l.length 0 rounds ⟨⟩ (by omega) (rounds_gt' (by omega))
  rw [e0] at this
  rw [F12_eq]
  simp (disch := (first | assumption | (simp only [Bool.and_eq_true, Bool.and_eq_false_iff, decide_eq_true_eq, decide_eq_false_iff_not, bne_iff_ne, beq_iff_eq, beq_eq_false_iff_ne, bne_eq_false_iff_eq, Bool.not_eq_true', Bool.not_eq_false', bys_length, List.length_append, List.length_cons, List.length_nil, List.length_map, List.length_drop, List.length_take, Int.natCast_add, wrap_i64_eq, wrap_u64, wrap_u8, ne_eq, not_true_eq_false, not_false_eq_true, Nat.zero_add, Nat.mul_one] <;> omega) | omega | (simp; done) | (simp; omega))) only [↓CR, MC, ↓PR, MR, prs_length, this]
end Go.Proofs.YtkpjkaikeeldfaaDoor.Wa
end

section
/- What the evaluator comes to in these functions. -/
namespace Go.Proofs.YtkpjkaikeeldfaaDoor.Wa
open Go Go.Weave
set_option maxRecDepth 100000
set_option linter.unusedVariables false
end Go.Proofs.YtkpjkaikeeldfaaDoor.Wa
end

section
/- Points: pieces joined. -/
namespace Go.Proofs.YtkpjkaikeeldfaaDoor.Wa
open Go Go.Weave
set_option maxRecDepth 100000
set_option linter.unusedSimpArgs false
set_option linter.unusedVariables false
set_option linter.unusedSectionVars false

/-! ### The sum, by the reference -/
def stepN (x : Nat) : Nat := (x / 2) ^^^ (if x % 2 = 1 then 2197175160 else 0)
theorem stepN_xor (a b : Nat) : stepN (a ^^^ b) = stepN a ^^^ stepN b := by
  unfold stepN
  have h1 : (a ^^^ b) / 2 = a / 2 ^^^ b / 2 := Nat.xor_div_two
  have h2 : (a ^^^ b) % 2 = 1 ↔ ¬ (a % 2 = 1 ↔ b % 2 = 1) := Nat.xor_mod_two_eq_one
  have key : ∀ x y p : Nat, x ^^^ p ^^^ (y ^^^ p) = x ^^^ y := fun x y p => by
    rw [Nat.xor_comm y p, ← Nat.xor_assoc, Nat.xor_assoc x p p, Nat.xor_self, Nat.xor_zero]
  rw [h1]
  by_cases ha : a % 2 = 1 <;> by_cases hb : b % 2 = 1
  · rw [if_neg (fun h => (h2.1 h) ⟨fun _ => hb, fun _ => ha⟩), if_pos ha, if_pos hb, key, Nat.xor_zero]
  · rw [if_pos (h2.2 fun h => hb (h.1 ha)), if_pos ha, if_neg hb, Nat.xor_zero, Nat.xor_assoc, Nat.xor_comm (b / 2), ← Nat.xor_assoc]
  · rw [if_pos (h2.2 fun h => ha (h.2 hb)), if_neg ha, if_pos hb, Nat.xor_zero, Nat.xor_assoc]
  · rw [if_neg (fun h => (h2.1 h) ⟨fun h => absurd h ha, fun h => absurd h hb⟩), if_neg ha, if_neg hb, Nat.xor_zero, Nat.xor_zero, Nat.xor_zero]
theorem stepN_even (q : Nat) : stepN (2 * q) = q := by
  unfold stepN
  rw [if_neg (by omega), Nat.xor_zero]; omega
theorem t16_step : ∀ r, r < 16 → stepN (stepN (stepN (stepN r))) = t16.getD r 0 := by decide
theorem split16 (x : Nat) : x = (2 * (2 * (2 * (2 * (x / 16))))) ^^^ (x % 16) := by
  have e : 2 * (2 * (2 * (2 * (x / 16)))) = 2 ^ 4 * (x / 16) := by omega
  have e2 : x = 2 ^ 4 * (x / 16) + x % 16 := by omega
  rw [e]
  conv => lhs; rw [e2]
  have hr : x % 16 < 2 ^ 4 := by omega
  generalize x % 16 = r at hr
  generalize x / 16 = q
  apply Nat.eq_of_testBit_eq
  intro i
  rw [Nat.testBit_two_pow_mul_add q hr, Nat.testBit_xor, Nat.testBit_two_pow_mul]
  by_cases h : i < 4
  · rw [if_pos h]
    have : decide (i ≥ 4) = false := by simp; omega
    rw [this]; simp
  · rw [if_neg h]
    have h1 : decide (i ≥ 4) = true := by simp; omega
    have h2 : r.testBit i = false := Nat.testBit_lt_two_pow (Nat.lt_of_lt_of_le hr (Nat.pow_le_pow_right (by omega) (by omega)))
    rw [h1, h2]; simp
theorem fourN_step (x : Nat) : stepN (stepN (stepN (stepN x))) = fourN x := by
  conv => lhs; rw [split16 x]
  rw [stepN_xor, stepN_xor, stepN_xor, stepN_xor, stepN_even, stepN_even, stepN_even, stepN_even, t16_step _ (by omega)]
  unfold fourN
  rw [Nat.xor_comm]
theorem stepN_lt {x : Nat} (h : x < 4294967296) : stepN x < 4294967296 := by
  unfold stepN
  refine xor_lt (by omega) ?_
  split <;> omega
theorem rstep_run {d x : Nat} (hx : x < 4294967296) {h : Heap} {Q : Res → Prop} {tg : Hid Q} : Run (evFn Cw (d + 1) 30 [.int .u32 x] h) Q tg = Q ([.int .u32 (stepN x : Nat)], h) := by
  have e1 : Int.tdiv (x : Int) 2 = ((x / 2 : Nat) : Int) := by rw [Int.tdiv_eq_ediv_of_nonneg (by omega)]; omega
  have e2 : Int.tmod (x : Int) 2 = ((x % 2 : Nat) : Int) := by rw [Int.tmod_eq_emod_of_nonneg (by omega)]; omega
  have w := u32_id (n := x / 2) (by omega)
  have e3 : IntKind.u32.wrap (BitVec.ofInt 32 ((x / 2 : Nat) : Int) ^^^ BitVec.ofInt 32 2197175160).toNat = ((x / 2 ^^^ 2197175160 : Nat) : Int) := xor_wrap (b := 2197175160) (by omega) (by omega)
  rw [F30_eq, e1, e2, w, e3]
  by_cases c : x % 2 = 1
  · have c' : (((x % 2 : Nat) : Int) == 1) = true := by rw [c]; rfl
    have e : stepN x = x / 2 ^^^ 2197175160 := by unfold stepN; rw [if_pos c]
    rw [e]
    simp (disch := (first | assumption | (simp only [Bool.and_eq_true, Bool.and_eq_false_iff, decide_eq_true_eq, decide_eq_false_iff_not, bne_iff_ne, beq_iff_eq, beq_eq_false_iff_ne, bne_eq_false_iff_eq, Bool.not_eq_true', Bool.not_eq_false', bys_length, List.length_append, List.length_cons, List.length_nil, List.length_map, List.length_drop, List.length_take, Int.natCast_add, wrap_i64_eq, wrap_u64, wrap_u8, ne_eq, not_true_eq_false, not_false_eq_true, Nat.zero_add, Nat.mul_one] <;> omega) | omega | (simp; done) | (simp; omega))) only [↓CR, MC, ↓PR, MR, c']
  · have c' : (((x % 2 : Nat) : Int) == 1) = false := by simp; omega
    have e : stepN x = x / 2 := by unfold stepN; rw [if_neg c, Nat.xor_zero]
    rw [e]
    simp (disch := (first | assumption | (simp only [Bool.and_eq_true, Bool.and_eq_false_iff, decide_eq_true_eq, decide_eq_false_iff_not, bne_iff_ne, beq_iff_eq, beq_eq_false_iff_ne, bne_eq_false_iff_eq, Bool.not_eq_true', Bool.not_eq_false', bys_length, List.length_append, List.length_cons, List.length_nil, List.length_map, List.length_drop, List.length_take, Int.natCast_add, wrap_i64_eq, wrap_u64, wrap_u8, ne_eq, not_true_eq_false, not_false_eq_true, Nat.zero_add, Nat.mul_one] <;> omega) | omega | (simp; done) | (simp; omega))) only [↓CR, MC, ↓PR, MR, c']
theorem rmore_loop (d : Nat) (f : Bool) (l : List UInt8) (hl : l.length ≤ 140737488351232) (h : Heap) (Q : Res → Prop) : ∀ (n j k x : Nat) (tg : Hid Q), l.length = j + n → n < k → x < 4294967296 →
    Run (P25_0 (d + 1) k f (bys l) x j h) Q tg = Q ([.int .u32 (4294967295 ^^^ ((l.drop j).foldl (fun x c => fourN (fourN (x ^^^ c.toNat))) x) : Nat)], h) := by
  intro n
  induction n with
  | zero =>
    intro j k x tg hj hk hx
    obtain ⟨k, rfl⟩ : ∃ m, k = m + 1 := ⟨k - 1, by omega⟩
    have hd : l.drop j = [] := List.drop_eq_nil_of_le (by omega)
    have hx2 : 4294967295 ^^^ x = 4294967295 - x := by
      apply Nat.eq_of_testBit_eq
      intro i
      have h1 : (4294967295 : Nat).testBit i = decide (i < 32) := Nat.testBit_two_pow_sub_one 32 i
      have h2 : (4294967295 - x).testBit i = (decide (i < 32) && !x.testBit i) := by
        have e : 4294967295 - x = 2 ^ 32 - (x + 1) := by omega
        rw [e]; exact Nat.testBit_two_pow_sub_succ (by omega) i
      rw [Nat.testBit_xor, h1, h2]
      by_cases c : i < 32
      · simp [c]
      · have h3 : x.testBit i = false := Nat.testBit_lt_two_pow (Nat.lt_of_lt_of_le hx (by
          have : (2 : Nat) ^ 32 ≤ 2 ^ i := Nat.pow_le_pow_right (by omega) (by omega)
          omega))
        simp [c, h3]
    have e : IntKind.u32.wrap (4294967295 - (x : Int)) = ((4294967295 ^^^ x : Nat) : Int) := by
      rw [hx2]
      have : (4294967295 - (x : Int)) = ((4294967295 - x : Nat) : Int) := by omega
      rw [this]; exact u32_id (by omega)
    rw [P25_0_eq, hd]
    simp (disch := (first | assumption | (simp only [Bool.and_eq_true, Bool.and_eq_false_iff, decide_eq_true_eq, decide_eq_false_iff_not, bne_iff_ne, beq_iff_eq, beq_eq_false_iff_ne, bne_eq_false_iff_eq, Bool.not_eq_true', Bool.not_eq_false', bys_length, List.length_append, List.length_cons, List.length_nil, List.length_map, List.length_drop, List.length_take, Int.natCast_add, wrap_i64_eq, wrap_u64, wrap_u8, ne_eq, not_true_eq_false, not_false_eq_true, Nat.zero_add, Nat.mul_one] <;> omega) | omega | (simp; done) | (simp; omega))) only [↓CR, MC, ↓PR, MR, bys_length, e]
    rfl
  | succ n ih =>
    intro j k x tg hj hk hx
    obtain ⟨k, rfl⟩ : ∃ m, k = m + 1 := ⟨k - 1, by omega⟩
    obtain ⟨k8, hk8⟩ : ∃ m, rounds = m + 9 := ⟨rounds - 9, by have := rounds_ge; omega⟩
    have h1 : j < l.length := by omega
    have hc := (l[j]).toNat_lt
    have e1 := succ_wrap (i := j) (by omega)
    have w := u32_id (n := (l[j]).toNat) (by omega)
    have e2 := xor_wrap hx (show (l[j]).toNat < 4294967296 by omega)
    have hx1 := xor_lt hx (show (l[j]).toNat < 4294967296 by omega)
    have g : (bys l).getD j AVal.undef = .int .u8 ((l[j]).toNat : Int) := by rw [bys_getD h1]; rfl
    have ih' := fun tg => ih (j + 1) k _ tg (by omega) (by omega) (fourN_lt (fourN_lt hx1))
    have inner : ∀ (tg : Hid Q) (y : Nat), y < 4294967296 → Run (P25_1 (d + 1) k (k8 + 9) f (bys l) y j 0 h) Q tg = Run (P25_0 (d + 1) k f (bys l) (fourN (fourN y) : Nat) (j + 1 : Nat) h) Q ⟨⟩ := fun tg y hy => by
      have a1 : IntKind.i64.wrap ((0 : Int) + 1) = 1 := by decide
      have a2 : IntKind.i64.wrap ((1 : Int) + 1) = 2 := by decide
      have a3 : IntKind.i64.wrap ((2 : Int) + 1) = 3 := by decide
      have a4 : IntKind.i64.wrap ((3 : Int) + 1) = 4 := by decide
      have a5 : IntKind.i64.wrap ((4 : Int) + 1) = 5 := by decide
      have a6 : IntKind.i64.wrap ((5 : Int) + 1) = 6 := by decide
      have a7 : IntKind.i64.wrap ((6 : Int) + 1) = 7 := by decide
      have a8 : IntKind.i64.wrap ((7 : Int) + 1) = 8 := by decide
      have y1 := stepN_lt hy
      have y2 := stepN_lt y1
      have y3 := stepN_lt y2
      have y4 := stepN_lt y3
      have y5 := stepN_lt y4
      have y6 := stepN_lt y5
      have y7 := stepN_lt y6
      have r := fun (z : Nat) (hz : z < 4294967296) (Q : Res → Prop) (tg : Hid Q) => rstep_run (d := d) hz (h := h) (Q := Q) (tg := tg)
      have r0 := r _ hy
      have r1 := r _ y1
      have r2 := r _ y2
      have r3 := r _ y3
      have r4 := r _ y4
      have r5 := r _ y5
      have r6 := r _ y6
      have r7 := r _ y7
      rw [P25_1_eq]
      simp (disch := (first | assumption | (simp only [Bool.and_eq_true, Bool.and_eq_false_iff, decide_eq_true_eq, decide_eq_false_iff_not, bne_iff_ne, beq_iff_eq, beq_eq_false_iff_ne, bne_eq_false_iff_eq, Bool.not_eq_true', Bool.not_eq_false', bys_length, List.length_append, List.length_cons, List.length_nil, List.length_map, List.length_drop, List.length_take, Int.natCast_add, wrap_i64_eq, wrap_u64, wrap_u8, ne_eq, not_true_eq_false, not_false_eq_true, Nat.zero_add, Nat.mul_one] <;> omega) | omega | (simp; done) | (simp; omega))) only [↓CR, MC, ↓PR, MR, r0, a1]
      rw [P25_1_eq]
      simp (disch := (first | assumption | (simp only [Bool.and_eq_true, Bool.and_eq_false_iff, decide_eq_true_eq, decide_eq_false_iff_not, bne_iff_ne, beq_iff_eq, beq_eq_false_iff_ne, bne_eq_false_iff_eq, Bool.not_eq_true', Bool.not_eq_false', bys_length, List.length_append, List.length_cons, List.length_nil, List.length_map, List.length_drop, List.length_take, Int.natCast_add, wrap_i64_eq, wrap_u64, wrap_u8, ne_eq, not_true_eq_false, not_false_eq_true, Nat.zero_add, Nat.mul_one] <;> omega) | omega | (simp; done) | (simp; omega))) only [↓CR, MC, ↓PR, MR, r1, a2]
      rw [P25_1_eq]
      simp (disch := (first | assumption | (simp only [Bool.and_eq_true, Bool.and_eq_false_iff, decide_eq_true_eq, decide_eq_false_iff_not, bne_iff_ne, beq_iff_eq, beq_eq_false_iff_ne, bne_eq_false_iff_eq, Bool.not_eq_true', Bool.not_eq_false', bys_length, List.length_append, List.length_cons, List.length_nil, List.length_map, List.length_drop, List.length_take, Int.natCast_add, wrap_i64_eq, wrap_u64, wrap_u8, ne_eq, not_true_eq_false, not_false_eq_true, Nat.zero_add, Nat.mul_one] <;> omega) | omega | (simp; done) | (simp; omega))) only [↓CR, MC, ↓PR, MR, r2, a3]
      rw [P25_1_eq]
      simp (disch := (first | assumption | (simp only [Bool.and_eq_true, Bool.and_eq_false_iff, decide_eq_true_eq, decide_eq_false_iff_not, bne_iff_ne, beq_iff_eq, beq_eq_false_iff_ne, bne_eq_false_iff_eq, Bool.not_eq_true', Bool.not_eq_false', bys_length, List.length_append, List.length_cons, List.length_nil, List.length_map, List.length_drop, List.length_take, Int.natCast_add, wrap_i64_eq, wrap_u64, wrap_u8, ne_eq, not_true_eq_false, not_false_eq_true, Nat.zero_add, Nat.mul_one] <;> omega) | omega | (simp; done) | (simp; omega))) only [↓CR, MC, ↓PR, MR, r3, a4]
      rw [P25_1_eq]
      simp (disch := (first | assumption | (simp only [Bool.and_eq_true, Bool.and_eq_false_iff, decide_eq_true_eq, decide_eq_false_iff_not, bne_iff_ne, beq_iff_eq, beq_eq_false_iff_ne, bne_eq_false_iff_eq, Bool.not_eq_true', Bool.not_eq_false', bys_length, List.length_append, List.length_cons, List.length_nil, List.length_map, List.length_drop, List.length_take, Int.natCast_add, wrap_i64_eq, wrap_u64, wrap_u8, ne_eq, not_true_eq_false, not_false_eq_true, Nat.zero_add, Nat.mul_one] <;> omega) | omega | (simp; done) | (simp; omega))) only [↓CR, MC, ↓PR, MR, r4, a5]
      rw [P25_1_eq]
      simp (disch := (first | assumption | (simp only [Bool.and_eq_true, Bool.and_eq_false_iff, decide_eq_true_eq, decide_eq_false_iff_not, bne_iff_ne, beq_iff_eq, beq_eq_false_iff_ne, bne_eq_false_iff_eq, Bool.not_eq_true', Bool.not_eq_false', bys_length, List.length_append, List.length_cons, List.length_nil, List.length_map, List.length_drop, List.length_take, Int.natCast_add, wrap_i64_eq, wrap_u64, wrap_u8, ne_eq, not_true_eq_false, not_false_eq_true, Nat.zero_add, Nat.mul_one] <;> omega) | omega | (simp; done) | (simp; omega))) only [↓CR, MC, ↓PR, MR, r5, a6]
      rw [P25_1_eq]
      simp (disch := (first | assumption | (simp only [Bool.and_eq_true, Bool.and_eq_false_iff, decide_eq_true_eq, decide_eq_false_iff_not, bne_iff_ne, beq_iff_eq, beq_eq_false_iff_ne, bne_eq_false_iff_eq, Bool.not_eq_true', Bool.not_eq_false', bys_length, List.length_append, List.length_cons, List.length_nil, List.length_map, List.length_drop, List.length_take, Int.natCast_add, wrap_i64_eq, wrap_u64, wrap_u8, ne_eq, not_true_eq_false, not_false_eq_true, Nat.zero_add, Nat.mul_one] <;> omega) | omega | (simp; done) | (simp; omega))) only [↓CR, MC, ↓PR, MR, r6, a7]
      rw [P25_1_eq]
      simp (disch := (first | assumption | (simp only [Bool.and_eq_true, Bool.and_eq_false_iff, decide_eq_true_eq, decide_eq_false_iff_not, bne_iff_ne, beq_iff_eq, beq_eq_false_iff_ne, bne_eq_false_iff_eq, Bool.not_eq_true', Bool.not_eq_false', bys_length, List.length_append, List.length_cons, List.length_nil, List.length_map, List.length_drop, List.length_take, Int.natCast_add, wrap_i64_eq, wrap_u64, wrap_u8, ne_eq, not_true_eq_false, not_false_eq_true, Nat.zero_add, Nat.mul_one] <;> omega) | omega | (simp; done) | (simp; omega))) only [↓CR, MC, ↓PR, MR, r7, a8]
      rw [P25_1_eq]
      simp (disch := (first | assumption | (simp only [Bool.and_eq_true, Bool.and_eq_false_iff, decide_eq_true_eq, decide_eq_false_iff_not, bne_iff_ne, beq_iff_eq, beq_eq_false_iff_ne, bne_eq_false_iff_eq, Bool.not_eq_true', Bool.not_eq_false', bys_length, List.length_append, List.length_cons, List.length_nil, List.length_map, List.length_drop, List.length_take, Int.natCast_add, wrap_i64_eq, wrap_u64, wrap_u8, ne_eq, not_true_eq_false, not_false_eq_true, Nat.zero_add, Nat.mul_one] <;> omega) | omega | (simp; done) | (simp; omega))) only [↓CR, MC, ↓PR, MR, e1]
      rw [fourN_step, fourN_step]
    rw [P25_0_eq, List.drop_eq_getElem_cons h1, List.foldl_cons, hk8]
    simp (disch := (first | assumption | (simp only [Bool.and_eq_true, Bool.and_eq_false_iff, decide_eq_true_eq, decide_eq_false_iff_not, bne_iff_ne, beq_iff_eq, beq_eq_false_iff_ne, bne_eq_false_iff_eq, Bool.not_eq_true', Bool.not_eq_false', bys_length, List.length_append, List.length_cons, List.length_nil, List.length_map, List.length_drop, List.length_take, Int.natCast_add, wrap_i64_eq, wrap_u64, wrap_u8, ne_eq, not_true_eq_false, not_false_eq_true, Nat.zero_add, Nat.mul_one] <;> omega) | omega | (simp; done) | (simp; omega))) only [↓CR, MC, ↓PR, MR, bys_length, g, w, e2]
    rw [inner _ _ hx1, ih']
theorem rmore_run {d : Nat} {f : Bool} {l : List UInt8} (hl : l.length ≤ 140737488351232) {h : Heap} {Q : Res → Prop} {tg : Hid Q} :
    Run (evFn Cw (d + 3) 19 [.sl f 0 (bys l)] h) Q tg = Q ([.int .u32 (moreN 0 l : Nat)], h) := by
  have e : IntKind.u32.wrap (4294967295 - (0 : Int)) = ((4294967295 ^^^ 0 : Nat) : Int) := by decide
  have r := fun (Q : Res → Prop) (tg : Hid Q) => rmore_loop d f l hl h Q l.length 0 rounds (4294967295 ^^^ 0) tg (by omega) (Nat.lt_of_lt_of_le (by omega) rounds_ge) (by decide)
  rw [e0, List.drop_zero] at r
  have r2 : ∀ (Q : Res → Prop) (tg : Hid Q), Run (evFn Cw (d + 2) 25 [.int .u32 0, .sl f 0 (bys l)] h) Q tg = Q ([.int .u32 (moreN 0 l : Nat)], h) := fun Q tg => by
    rw [F25_eq, e]
    exact r Q tg
  rw [F19_eq]
  simp (disch := (first | assumption | (simp only [Bool.and_eq_true, Bool.and_eq_false_iff, decide_eq_true_eq, decide_eq_false_iff_not, bne_iff_ne, beq_iff_eq, beq_eq_false_iff_ne, bne_eq_false_iff_eq, Bool.not_eq_true', Bool.not_eq_false', bys_length, List.length_append, List.length_cons, List.length_nil, List.length_map, List.length_drop, List.length_take, Int.natCast_add, wrap_i64_eq, wrap_u64, wrap_u8, ne_eq, not_true_eq_false, not_false_eq_true, Nat.zero_add, Nat.mul_one] <;> omega) | omega | (simp; done) | (simp; omega))) only [↓CR, MC, ↓PR, MR, r2]
theorem moreN_append (s : Nat) (a b : List UInt8) : moreN s (a ++ b) = moreN (moreN s a) b := by
  unfold moreN
  rw [List.foldl_append]
  congr 2
  generalize a.foldl _ _ = x
  rw [← Nat.xor_assoc, Nat.xor_self, Nat.zero_xor]

/-! ### Pairs of pieces -/
def pairUp : List (List UInt8) → List KPair
  | k :: v :: r => ⟨k, v⟩ :: pairUp r
  | _ => []
noncomputable def pcF (b : List UInt8) : Option (List KPair) := if (unp b).2 ≠ 0 ∨ (unp b).1.length % 2 = 1 ∨ 400 < b.length then none else some (pairUp (unp b).1)
noncomputable def pcsF : List (List UInt8) → List KPair → Option (List KPair)
  | [], acc => some acc
  | b :: r, acc => match pcF b with | none => none | some l => pcsF r (acc ++ l)
theorem pairUp_len : ∀ l : List (List UInt8), (pairUp l).length ≤ l.length
  | [] => by simp [pairUp]
  | [_] => by simp [pairUp]
  | k :: v :: r => by have := pairUp_len r; simp only [pairUp, List.length_cons]; omega
theorem pcF_len {b : List UInt8} {l : List KPair} (h : pcF b = some l) : l.length ≤ 400 := by
  unfold pcF at h
  split at h
  · cases h
  · rename_i hc
    have h1 := unp_len b
    have h2 := pairUp_len (unp b).1
    simp only [not_or] at hc
    simp only [Option.some.injEq] at h
    rw [← h]; omega
theorem pcF_sz {b : List UInt8} {l : List KPair} (h : pcF b = some l) : b.length ≤ 400 := by
  unfold pcF at h
  split at h
  · cases h
  · rename_i hc
    simp only [not_or] at hc
    omega
theorem ppairs_loop (d : Nat) (fs : List (List UInt8)) (hl : fs.length ≤ 40000000) (h : Heap) (Q : Res → Prop) : ∀ (n i k : Nat) (acc : List KPair) (tg : Hid Q), fs.length = i + 2 * n → n < k → acc.length ≤ i →
    Run (P22_0 d k (flds fs) (prs acc) i h) Q tg = Q ([.sl false 3 (prs (acc ++ pairUp (fs.drop i))), .bool true], h) := by
  intro n
  induction n with
  | zero =>
    intro i k acc tg hi hk ha
    obtain ⟨k, rfl⟩ : ∃ m, k = m + 1 := ⟨k - 1, by omega⟩
    have hd : fs.drop i = [] := List.drop_eq_nil_of_le (by omega)
    rw [P22_0_eq, hd]
    simp (disch := (first | assumption | (simp only [Bool.and_eq_true, Bool.and_eq_false_iff, decide_eq_true_eq, decide_eq_false_iff_not, bne_iff_ne, beq_iff_eq, beq_eq_false_iff_ne, bne_eq_false_iff_eq, Bool.not_eq_true', Bool.not_eq_false', bys_length, List.length_append, List.length_cons, List.length_nil, List.length_map, List.length_drop, List.length_take, Int.natCast_add, wrap_i64_eq, wrap_u64, wrap_u8, ne_eq, not_true_eq_false, not_false_eq_true, Nat.zero_add, Nat.mul_one] <;> omega) | omega | (simp; done) | (simp; omega))) only [↓CR, MC, ↓PR, MR, flds_length]
    simp [pairUp]
  | succ n ih =>
    intro i k acc tg hi hk ha
    obtain ⟨k, rfl⟩ : ∃ m, k = m + 1 := ⟨k - 1, by omega⟩
    have h1 : i < fs.length := by omega
    have h2 : i + 1 < fs.length := by omega
    have e1 := succ_wrap (i := i) (by omega)
    have e2 : IntKind.i64.wrap ((i : Int) + 2) = ((i + 2 : Nat) : Int) := by rw [wrap_i64_id (by omega) (by omega)]; omega
    have ih' := fun tg => ih (i + 2) k (acc ++ [⟨fs[i], fs[i + 1]⟩]) tg (by omega) (by omega) (by simp; omega)
    have hd : fs.drop i = fs[i] :: fs[i + 1] :: fs.drop (i + 2) := by rw [List.drop_eq_getElem_cons h1, List.drop_eq_getElem_cons h2]
    rw [P22_0_eq, hd]
    simp (disch := (first | assumption | (simp only [Bool.and_eq_true, Bool.and_eq_false_iff, decide_eq_true_eq, decide_eq_false_iff_not, bne_iff_ne, beq_iff_eq, beq_eq_false_iff_ne, bne_eq_false_iff_eq, Bool.not_eq_true', Bool.not_eq_false', bys_length, List.length_append, List.length_cons, List.length_nil, List.length_map, List.length_drop, List.length_take, Int.natCast_add, wrap_i64_eq, wrap_u64, wrap_u8, ne_eq, not_true_eq_false, not_false_eq_true, Nat.zero_add, Nat.mul_one] <;> omega) | omega | (simp; done) | (simp; omega))) only [↓CR, MC, ↓PR, MR, flds_length, flds_getD h1, flds_getD h2, e1, e2, prs_length, prs_snoc, ih']
    simp [pairUp]
theorem ppairs_some {d : Nat} {f : Bool} {b : List UInt8} {l : List KPair} (hp : pcF b = some l) {h : Heap} {Q : Res → Prop} {tg : Hid Q} :
    Run (evFn Cw (d + 4) 22 [.sl f 0 (bys b)] h) Q tg = Q ([.sl false 3 (prs l), .bool true], h) := by
  have hb := pcF_sz hp
  have hu := unp_len b
  unfold pcF at hp
  split at hp
  · cases hp
  · rename_i hc
    simp only [not_or, ne_eq, Classical.not_not] at hc
    obtain ⟨c1, c2, c3⟩ := hc
    simp only [Option.some.injEq] at hp
    have r := fun (Q : Res → Prop) (tg : Hid Q) => unp_run (d := d) (f := f) (l := b) (h := h) (Q := Q) (tg := tg) (by omega)
    have q := fun (tg : Hid Q) => ppairs_loop (d + 3) (unp b).1 (by omega) h Q ((unp b).1.length / 2) 0 rounds [] tg (by omega) (Nat.lt_of_lt_of_le (by omega) rounds_ge) (by simp)
    rw [e0, prs_nil, List.drop_zero, List.nil_append, hp] at q
    have e1 : ((((unp b).2 : Nat) : Int) != 0) = false := by simp [c1]
    have e2 : (Int.tmod (((unp b).1.length : Nat) : Int) 2 != 0) = false := by
      have : Int.tmod (((unp b).1.length : Nat) : Int) 2 = (((unp b).1.length % 2 : Nat) : Int) := by rw [Int.tmod_eq_emod_of_nonneg (by omega)]; omega
      rw [this]; simp; omega
    have e3 : decide ((unp b).2 ≠ 0) = false := by simp [c1]
    rw [F22_eq]
    simp (disch := (first | assumption | (simp only [Bool.and_eq_true, Bool.and_eq_false_iff, decide_eq_true_eq, decide_eq_false_iff_not, bne_iff_ne, beq_iff_eq, beq_eq_false_iff_ne, bne_eq_false_iff_eq, Bool.not_eq_true', Bool.not_eq_false', bys_length, List.length_append, List.length_cons, List.length_nil, List.length_map, List.length_drop, List.length_take, Int.natCast_add, wrap_i64_eq, wrap_u64, wrap_u8, ne_eq, not_true_eq_false, not_false_eq_true, Nat.zero_add, Nat.mul_one] <;> omega) | omega | (simp; done) | (simp; omega))) only [↓CR, MC, ↓PR, MR, r, e3, e1, flds_length, e2, bys_length, q]
theorem ppairs_none {d : Nat} {f : Bool} {b : List UInt8} (hp : pcF b = none) (hb : b.length ≤ 40000000) {h : Heap} {Q : Res → Prop} {tg : Hid Q} :
    Run (evFn Cw (d + 4) 22 [.sl f 0 (bys b)] h) Q tg = Q ([.sl true 0 [], .bool false], h) := by
  have hu := unp_len b
  have r := fun (Q : Res → Prop) (tg : Hid Q) => unp_run (d := d) (f := f) (l := b) (h := h) (Q := Q) (tg := tg) (by omega)
  unfold pcF at hp
  split at hp
  · rename_i hc
    rw [F22_eq]
    by_cases c1 : (unp b).2 = 0
    · have e1 : ((((unp b).2 : Nat) : Int) != 0) = false := by simp [c1]
      have e3 : decide ((unp b).2 ≠ 0) = false := by simp [c1]
      have e4 : Int.tmod (((unp b).1.length : Nat) : Int) 2 = (((unp b).1.length % 2 : Nat) : Int) := by rw [Int.tmod_eq_emod_of_nonneg (by omega)]; omega
      by_cases c2 : (unp b).1.length % 2 = 1
      · have e2 : ((((unp b).1.length % 2 : Nat) : Int) != 0) = true := by rw [c2]; rfl
        simp (disch := (first | assumption | (simp only [Bool.and_eq_true, Bool.and_eq_false_iff, decide_eq_true_eq, decide_eq_false_iff_not, bne_iff_ne, beq_iff_eq, beq_eq_false_iff_ne, bne_eq_false_iff_eq, Bool.not_eq_true', Bool.not_eq_false', bys_length, List.length_append, List.length_cons, List.length_nil, List.length_map, List.length_drop, List.length_take, Int.natCast_add, wrap_i64_eq, wrap_u64, wrap_u8, ne_eq, not_true_eq_false, not_false_eq_true, Nat.zero_add, Nat.mul_one] <;> omega) | omega | (simp; done) | (simp; omega))) only [↓CR, MC, ↓PR, MR, r, e3, e1, flds_length, e4, e2]
      · have e2 : ((((unp b).1.length % 2 : Nat) : Int) != 0) = false := by simp; omega
        have c3 : 400 < b.length := by rcases hc with h | h | h <;> first | exact absurd c1 h | exact absurd h c2 | exact h
        simp (disch := (first | assumption | (simp only [Bool.and_eq_true, Bool.and_eq_false_iff, decide_eq_true_eq, decide_eq_false_iff_not, bne_iff_ne, beq_iff_eq, beq_eq_false_iff_ne, bne_eq_false_iff_eq, Bool.not_eq_true', Bool.not_eq_false', bys_length, List.length_append, List.length_cons, List.length_nil, List.length_map, List.length_drop, List.length_take, Int.natCast_add, wrap_i64_eq, wrap_u64, wrap_u8, ne_eq, not_true_eq_false, not_false_eq_true, Nat.zero_add, Nat.mul_one] <;> omega) | omega | (simp; done) | (simp; omega))) only [↓CR, MC, ↓PR, MR, r, e3, e1, flds_length, e4, e2, bys_length]
    · have e1 : ((((unp b).2 : Nat) : Int) != 0) = true := by simp; exact c1
      have e3 : decide ((unp b).2 ≠ 0) = true := by simp [c1]
      simp (disch := (first | assumption | (simp only [Bool.and_eq_true, Bool.and_eq_false_iff, decide_eq_true_eq, decide_eq_false_iff_not, bne_iff_ne, beq_iff_eq, beq_eq_false_iff_ne, bne_eq_false_iff_eq, Bool.not_eq_true', Bool.not_eq_false', bys_length, List.length_append, List.length_cons, List.length_nil, List.length_map, List.length_drop, List.length_take, Int.natCast_add, wrap_i64_eq, wrap_u64, wrap_u8, ne_eq, not_true_eq_false, not_false_eq_true, Nat.zero_add, Nat.mul_one] <;> omega) | omega | (simp; done) | (simp; omega))) only [↓CR, MC, ↓PR, MR, r, e3, e1]
  · cases hp

/-! ### All pieces -/
def sumN : List (List UInt8) → Nat → Nat
  | [], s => s
  | b :: r, s => sumN r (moreN s b)
theorem sumN_flat : ∀ (l : List (List UInt8)) (pre : List UInt8), sumN l (moreN 0 pre) = moreN 0 (pre ++ l.flatten)
  | [], pre => by simp [sumN]
  | b :: r, pre => by
    unfold sumN
    rw [← moreN_append, sumN_flat r (pre ++ b), List.flatten_cons, List.append_assoc]
theorem pcsF_len : ∀ (ps : List (List UInt8)) {acc l : List KPair}, pcsF ps acc = some l → l.length ≤ acc.length + 400 * ps.length
  | [], acc, l, h => by simp only [pcsF, Option.some.injEq] at h; rw [← h]; simp
  | b :: r, acc, l, h => by
    unfold pcsF at h
    split at h
    · cases h
    · rename_i l1 h1
      have h2 := pcsF_len r h
      have h3 := pcF_len h1
      rw [List.length_append] at h2
      simp only [List.length_cons]; omega
theorem all_some (d : Nat) (f : Bool) (ps : List (List UInt8)) (hps : ps.length ≤ 100000) (h : Heap) (Q : Res → Prop) : ∀ (n i k s : Nat) (acc l : List KPair) (tg : Hid Q), ps.length = i + n → n < k → acc.length ≤ 400 * i → s < 4294967296 → pcsF (ps.drop i) acc = some l →
    Run (P17_0 (d + 4) k (prs acc) f (flds ps) (ps.length : Nat) i 0 0 0 (ps.length : Nat) 0 s h) Q tg = Q ([.sl false 3 (prs l), .agg [.int .i64 ps.length, .int .i64 l.length, .int .u32 (sumN (ps.drop i) s : Nat)], .bool true], h) := by
  intro n
  induction n with
  | zero =>
    intro i k s acc l tg hi hk ha hs hp
    obtain ⟨k, rfl⟩ : ∃ m, k = m + 1 := ⟨k - 1, by omega⟩
    have hd : ps.drop i = [] := List.drop_eq_nil_of_le (by omega)
    rw [hd] at hp ⊢
    simp only [pcsF, Option.some.injEq] at hp
    subst hp
    rw [P17_0_eq]
    simp (disch := (first | assumption | (simp only [Bool.and_eq_true, Bool.and_eq_false_iff, decide_eq_true_eq, decide_eq_false_iff_not, bne_iff_ne, beq_iff_eq, beq_eq_false_iff_ne, bne_eq_false_iff_eq, Bool.not_eq_true', Bool.not_eq_false', bys_length, List.length_append, List.length_cons, List.length_nil, List.length_map, List.length_drop, List.length_take, Int.natCast_add, wrap_i64_eq, wrap_u64, wrap_u8, ne_eq, not_true_eq_false, not_false_eq_true, Nat.zero_add, Nat.mul_one] <;> omega) | omega | (simp; done) | (simp; omega))) only [↓CR, MC, ↓PR, MR, prs_length]
    rfl
  | succ n ih =>
    intro i k s acc l tg hi hk ha hs hp
    obtain ⟨k, rfl⟩ : ∃ m, k = m + 1 := ⟨k - 1, by omega⟩
    have h1 : i < ps.length := by omega
    have e1 := succ_wrap (i := i) (by omega)
    rw [List.drop_eq_getElem_cons h1] at hp ⊢
    unfold pcsF at hp
    unfold sumN
    split at hp
    · cases hp
    · rename_i l1 h1'
      have hl1 := pcF_len h1'
      have hsz := pcF_sz h1'
      have rp := fun (Q : Res → Prop) (tg : Hid Q) => ppairs_some (d := d) (f := false) h1' (h := h) (Q := Q) (tg := tg)
      have rm := fun (Q : Res → Prop) (tg : Hid Q) => more_run (d := d + 2) (s := s) (f := false) (l := ps[i]) hs (by omega) (h := h) (Q := Q) (tg := tg)
      have ih' := fun tg => ih (i + 1) k (moreN s ps[i]) (acc ++ l1) l tg (by omega) (by omega) (by rw [List.length_append]; omega) (moreN_lt hs _) hp
      have ea : prs acc ++ prs l1 = prs (acc ++ l1) := by simp [prs]
      rw [P17_0_eq]
      simp (disch := (first | assumption | (simp only [Bool.and_eq_true, Bool.and_eq_false_iff, decide_eq_true_eq, decide_eq_false_iff_not, bne_iff_ne, beq_iff_eq, beq_eq_false_iff_ne, bne_eq_false_iff_eq, Bool.not_eq_true', Bool.not_eq_false', bys_length, List.length_append, List.length_cons, List.length_nil, List.length_map, List.length_drop, List.length_take, Int.natCast_add, wrap_i64_eq, wrap_u64, wrap_u8, ne_eq, not_true_eq_false, not_false_eq_true, Nat.zero_add, Nat.mul_one] <;> omega) | omega | (simp; done) | (simp; omega))) only [↓CR, MC, ↓PR, MR, flds_length, flds_getD h1, rp, prs_length, rm, ea, e1, ih']
theorem all_none (d : Nat) (f : Bool) (ps : List (List UInt8)) (hps : ps.length ≤ 100000) (hb : ∀ b ∈ ps, b.length ≤ 40000000) (h : Heap) (Q : Res → Prop) : ∀ (n i k s : Nat) (acc : List KPair) (tg : Hid Q), ps.length = i + n → n < k → acc.length ≤ 400 * i → s < 4294967296 → pcsF (ps.drop i) acc = none →
    Run (P17_0 (d + 4) k (prs acc) f (flds ps) (ps.length : Nat) i 0 0 0 (ps.length : Nat) 0 s h) Q tg = Q ([.sl true 0 [], .agg [.int .i64 0, .int .i64 0, .int .u32 0], .bool false], h) := by
  intro n
  induction n with
  | zero =>
    intro i k s acc tg hi hk ha hs hp
    have hd : ps.drop i = [] := List.drop_eq_nil_of_le (by omega)
    rw [hd] at hp
    simp [pcsF] at hp
  | succ n ih =>
    intro i k s acc tg hi hk ha hs hp
    obtain ⟨k, rfl⟩ : ∃ m, k = m + 1 := ⟨k - 1, by omega⟩
    have h1 : i < ps.length := by omega
    have e1 := succ_wrap (i := i) (by omega)
    rw [List.drop_eq_getElem_cons h1] at hp
    unfold pcsF at hp
    rw [P17_0_eq]
    split at hp
    · rename_i h1'
      have rp := fun (Q : Res → Prop) (tg : Hid Q) => ppairs_none (d := d) (f := false) h1' (hb _ (List.getElem_mem h1)) (h := h) (Q := Q) (tg := tg)
      simp (disch := (first | assumption | (simp only [Bool.and_eq_true, Bool.and_eq_false_iff, decide_eq_true_eq, decide_eq_false_iff_not, bne_iff_ne, beq_iff_eq, beq_eq_false_iff_ne, bne_eq_false_iff_eq, Bool.not_eq_true', Bool.not_eq_false', bys_length, List.length_append, List.length_cons, List.length_nil, List.length_map, List.length_drop, List.length_take, Int.natCast_add, wrap_i64_eq, wrap_u64, wrap_u8, ne_eq, not_true_eq_false, not_false_eq_true, Nat.zero_add, Nat.mul_one] <;> omega) | omega | (simp; done) | (simp; omega))) only [↓CR, MC, ↓PR, MR, flds_length, flds_getD h1, rp, Bool.not_false]
    · rename_i l1 h1'
      have hl1 := pcF_len h1'
      have hsz := pcF_sz h1'
      have rp := fun (Q : Res → Prop) (tg : Hid Q) => ppairs_some (d := d) (f := false) h1' (h := h) (Q := Q) (tg := tg)
      have rm := fun (Q : Res → Prop) (tg : Hid Q) => more_run (d := d + 2) (s := s) (f := false) (l := ps[i]) hs (by omega) (h := h) (Q := Q) (tg := tg)
      have ih' := fun tg => ih (i + 1) k (moreN s ps[i]) (acc ++ l1) tg (by omega) (by omega) (by rw [List.length_append]; omega) (moreN_lt hs _) hp
      have ea : prs acc ++ prs l1 = prs (acc ++ l1) := by simp [prs]
      simp (disch := (first | assumption | (simp only [Bool.and_eq_true, Bool.and_eq_false_iff, decide_eq_true_eq, decide_eq_false_iff_not, bne_iff_ne, beq_iff_eq, beq_eq_false_iff_ne, bne_eq_false_iff_eq, Bool.not_eq_true', Bool.not_eq_false', bys_length, List.length_append, List.length_cons, List.length_nil, List.length_map, List.length_drop, List.length_take, Int.natCast_add, wrap_i64_eq, wrap_u64, wrap_u8, ne_eq, not_true_eq_false, not_false_eq_true, Nat.zero_add, Nat.mul_one] <;> omega) | omega | (simp; done) | (simp; omega))) only [↓CR, MC, ↓PR, MR, flds_length, flds_getD h1, rp, Bool.not_true, prs_length, rm, ea, e1, ih']
theorem all_run_some {d : Nat} {f : Bool} {ps : List (List UInt8)} {l : List KPair} (hps : ps.length ≤ 100000) (hp : pcsF ps [] = some l) {h : Heap} {Q : Res → Prop} {tg : Hid Q} :
    Run (evFn Cw (d + 5) 17 [.sl f 0 (flds ps)] h) Q tg = Q ([.sl false 3 (prs l), .agg [.int .i64 ps.length, .int .i64 l.length, .int .u32 (sumN ps 0 : Nat)], .bool true], h) := by
  have := all_some d f ps hps h Q ps.length 0 rounds 0 [] l ⟨⟩ (by omega) (Nat.lt_of_lt_of_le (by omega) rounds_ge) (by simp) (by omega) (by rw [List.drop_zero]; exact hp)
  rw [e0, prs_nil, List.drop_zero] at this
  rw [F17_eq, flds_length]
  exact this
theorem all_run_none {d : Nat} {f : Bool} {ps : List (List UInt8)} (hps : ps.length ≤ 100000) (hb : ∀ b ∈ ps, b.length ≤ 40000000) (hp : pcsF ps [] = none) {h : Heap} {Q : Res → Prop} {tg : Hid Q} :
    Run (evFn Cw (d + 5) 17 [.sl f 0 (flds ps)] h) Q tg = Q ([.sl true 0 [], .agg [.int .i64 0, .int .i64 0, .int .u32 0], .bool false], h) := by
  have := all_none d f ps hps hb h Q ps.length 0 rounds 0 [] ⟨⟩ (by omega) (Nat.lt_of_lt_of_le (by omega) rounds_ge) (by simp) (by omega) (by rw [List.drop_zero]; exact hp)
  rw [e0, prs_nil] at this
  rw [F17_eq, flds_length]
  exact this
/-- The reference's pairs. -/
theorem rpairs1_loop (d n0 : Nat) (f : Bool) (ps fs : List (List UInt8)) (j : Nat) (hj : j < 1000000) (hl : fs.length ≤ 40000000) (h : Heap) (Q : Res → Prop) : ∀ (n i k : Nat) (acc : List KPair) (tg : Hid Q), fs.length = i + 2 * n → n < k → acc.length ≤ 400 * j + i →
    Run (P18_1 d n0 k f (flds ps) (prs acc) j (flds fs) i h) Q tg = Run (P18_0 d n0 f (flds ps) (prs (acc ++ pairUp (fs.drop i))) (j + 1 : Nat) h) Q ⟨⟩ := by
  have ej := succ_wrap (i := j) (by omega)
  intro n
  induction n with
  | zero =>
    intro i k acc tg hi hk ha
    obtain ⟨k, rfl⟩ : ∃ m, k = m + 1 := ⟨k - 1, by omega⟩
    have e1 := succ_wrap (i := i) (by omega)
    have hd : fs.drop i = [] := List.drop_eq_nil_of_le (by omega)
    rw [P18_1_eq, hd]
    simp (disch := (first | assumption | (simp only [Bool.and_eq_true, Bool.and_eq_false_iff, decide_eq_true_eq, decide_eq_false_iff_not, bne_iff_ne, beq_iff_eq, beq_eq_false_iff_ne, bne_eq_false_iff_eq, Bool.not_eq_true', Bool.not_eq_false', bys_length, List.length_append, List.length_cons, List.length_nil, List.length_map, List.length_drop, List.length_take, Int.natCast_add, wrap_i64_eq, wrap_u64, wrap_u8, ne_eq, not_true_eq_false, not_false_eq_true, Nat.zero_add, Nat.mul_one] <;> omega) | omega | (simp; done) | (simp; omega))) only [↓CR, MC, ↓PR, MR, flds_length, e1, ej]
    simp [pairUp]
  | succ n ih =>
    intro i k acc tg hi hk ha
    obtain ⟨k, rfl⟩ : ∃ m, k = m + 1 := ⟨k - 1, by omega⟩
    have h1 : i < fs.length := by omega
    have h2 : i + 1 < fs.length := by omega
    have e1 := succ_wrap (i := i) (by omega)
    have e2 : IntKind.i64.wrap ((i : Int) + 2) = ((i + 2 : Nat) : Int) := by rw [wrap_i64_id (by omega) (by omega)]; omega
    have ih' := fun tg => ih (i + 2) k (acc ++ [⟨fs[i], fs[i + 1]⟩]) tg (by omega) (by omega) (by simp; omega)
    have hd : fs.drop i = fs[i] :: fs[i + 1] :: fs.drop (i + 2) := by rw [List.drop_eq_getElem_cons h1, List.drop_eq_getElem_cons h2]
    rw [P18_1_eq, hd]
    simp (disch := (first | assumption | (simp only [Bool.and_eq_true, Bool.and_eq_false_iff, decide_eq_true_eq, decide_eq_false_iff_not, bne_iff_ne, beq_iff_eq, beq_eq_false_iff_ne, bne_eq_false_iff_eq, Bool.not_eq_true', Bool.not_eq_false', bys_length, List.length_append, List.length_cons, List.length_nil, List.length_map, List.length_drop, List.length_take, Int.natCast_add, wrap_i64_eq, wrap_u64, wrap_u8, ne_eq, not_true_eq_false, not_false_eq_true, Nat.zero_add, Nat.mul_one] <;> omega) | omega | (simp; done) | (simp; omega))) only [↓CR, MC, ↓PR, MR, flds_length, flds_getD h1, flds_getD h2, e1, e2, prs_length, prs_snoc, ih']
    simp [pairUp]
def prR (o : Option (List KPair)) : List AVal := match o with | none => [.sl true 0 [], .bool false] | some l => [.sl false 3 (prs l), .bool true]
theorem rpairs_loop (d : Nat) (f : Bool) (ps : List (List UInt8)) (hps : ps.length ≤ 100000) (hb : ∀ b ∈ ps, b.length ≤ 40000000) (h : Heap) (Q : Res → Prop) : ∀ (n i k : Nat) (acc : List KPair) (tg : Hid Q), ps.length = i + n → n < k → acc.length ≤ 400 * i →
    Run (P18_0 (d + 3) k f (flds ps) (prs acc) i h) Q tg = Q (prR (pcsF (ps.drop i) acc), h) := by
  intro n
  induction n with
  | zero =>
    intro i k acc tg hi hk ha
    obtain ⟨k, rfl⟩ : ∃ m, k = m + 1 := ⟨k - 1, by omega⟩
    have hd : ps.drop i = [] := List.drop_eq_nil_of_le (by omega)
    rw [P18_0_eq, hd]
    simp (disch := (first | assumption | (simp only [Bool.and_eq_true, Bool.and_eq_false_iff, decide_eq_true_eq, decide_eq_false_iff_not, bne_iff_ne, beq_iff_eq, beq_eq_false_iff_ne, bne_eq_false_iff_eq, Bool.not_eq_true', Bool.not_eq_false', bys_length, List.length_append, List.length_cons, List.length_nil, List.length_map, List.length_drop, List.length_take, Int.natCast_add, wrap_i64_eq, wrap_u64, wrap_u8, ne_eq, not_true_eq_false, not_false_eq_true, Nat.zero_add, Nat.mul_one] <;> omega) | omega | (simp; done) | (simp; omega))) only [↓CR, MC, ↓PR, MR, flds_length]
    rfl
  | succ n ih =>
    intro i k acc tg hi hk ha
    obtain ⟨k, rfl⟩ : ∃ m, k = m + 1 := ⟨k - 1, by omega⟩
    have h1 : i < ps.length := by omega
    have hbi := hb _ (List.getElem_mem h1)
    have hu := unp_len ps[i]
    have r := fun (Q : Res → Prop) (tg : Hid Q) => runp_run (d := d) (f := false) (l := ps[i]) (h := h) (Q := Q) (tg := tg) hbi
    have e4 : Int.tmod (((unp ps[i]).1.length : Nat) : Int) 2 = (((unp ps[i]).1.length % 2 : Nat) : Int) := by rw [Int.tmod_eq_emod_of_nonneg (by omega)]; omega
    rw [P18_0_eq, List.drop_eq_getElem_cons h1]
    unfold pcsF
    by_cases c1 : (unp ps[i]).2 = 0
    · have e1 : ((((unp ps[i]).2 : Nat) : Int) != 0) = false := by simp [c1]
      have e3 : decide ((unp ps[i]).2 ≠ 0) = false := by simp [c1]
      by_cases c2 : (unp ps[i]).1.length % 2 = 1
      · have e2 : ((((unp ps[i]).1.length % 2 : Nat) : Int) == 1) = true := by rw [c2]; rfl
        have hp : pcF ps[i] = none := by unfold pcF; rw [if_pos (.inr (.inl c2))]
        rw [hp]
        simp (disch := (first | assumption | (simp only [Bool.and_eq_true, Bool.and_eq_false_iff, decide_eq_true_eq, decide_eq_false_iff_not, bne_iff_ne, beq_iff_eq, beq_eq_false_iff_ne, bne_eq_false_iff_eq, Bool.not_eq_true', Bool.not_eq_false', bys_length, List.length_append, List.length_cons, List.length_nil, List.length_map, List.length_drop, List.length_take, Int.natCast_add, wrap_i64_eq, wrap_u64, wrap_u8, ne_eq, not_true_eq_false, not_false_eq_true, Nat.zero_add, Nat.mul_one] <;> omega) | omega | (simp; done) | (simp; omega))) only [↓CR, MC, ↓PR, MR, flds_length, flds_getD h1, r, e3, e1, e4, e2]
        rfl
      · have e2 : ((((unp ps[i]).1.length % 2 : Nat) : Int) == 1) = false := by simp; omega
        by_cases c3 : 400 < (ps[i]).length
        · have hp : pcF ps[i] = none := by unfold pcF; rw [if_pos (.inr (.inr c3))]
          rw [hp]
          simp (disch := (first | assumption | (simp only [Bool.and_eq_true, Bool.and_eq_false_iff, decide_eq_true_eq, decide_eq_false_iff_not, bne_iff_ne, beq_iff_eq, beq_eq_false_iff_ne, bne_eq_false_iff_eq, Bool.not_eq_true', Bool.not_eq_false', bys_length, List.length_append, List.length_cons, List.length_nil, List.length_map, List.length_drop, List.length_take, Int.natCast_add, wrap_i64_eq, wrap_u64, wrap_u8, ne_eq, not_true_eq_false, not_false_eq_true, Nat.zero_add, Nat.mul_one] <;> omega) | omega | (simp; done) | (simp; omega))) only [↓CR, MC, ↓PR, MR, flds_length, flds_getD h1, r, e3, e1, e4, e2, bys_length]
          rfl
        · have hp : pcF ps[i] = some (pairUp (unp ps[i]).1) := by
            unfold pcF; rw [if_neg (by rw [not_or, not_or]; exact ⟨by simp [c1], c2, c3⟩)]
          have hl1 := pcF_len hp
          rw [hp]
          have q := fun (Q : Res → Prop) (tg : Hid Q) => rpairs1_loop (d + 3) k f ps (unp ps[i]).1 i (by omega) (by omega) h Q ((unp ps[i]).1.length / 2) 0 rounds acc tg (by omega) (Nat.lt_of_lt_of_le (by omega) rounds_ge) (by omega)
          rw [e0, List.drop_zero] at q
          have ih' := fun tg => ih (i + 1) k (acc ++ pairUp (unp ps[i]).1) tg (by omega) (by omega) (by rw [List.length_append]; omega)
          simp (disch := (first | assumption | (simp only [Bool.and_eq_true, Bool.and_eq_false_iff, decide_eq_true_eq, decide_eq_false_iff_not, bne_iff_ne, beq_iff_eq, beq_eq_false_iff_ne, bne_eq_false_iff_eq, Bool.not_eq_true', Bool.not_eq_false', bys_length, List.length_append, List.length_cons, List.length_nil, List.length_map, List.length_drop, List.length_take, Int.natCast_add, wrap_i64_eq, wrap_u64, wrap_u8, ne_eq, not_true_eq_false, not_false_eq_true, Nat.zero_add, Nat.mul_one] <;> omega) | omega | (simp; done) | (simp; omega))) only [↓CR, MC, ↓PR, MR, flds_length, flds_getD h1, r, e3, e1, e4, e2, bys_length, q, ih']
    · have e1 : ((((unp ps[i]).2 : Nat) : Int) != 0) = true := by simp; exact c1
      have e3 : decide ((unp ps[i]).2 ≠ 0) = true := by simp [c1]
      have hp : pcF ps[i] = none := by unfold pcF; rw [if_pos (.inl c1)]
      rw [hp]
      simp (disch := (first | assumption | (simp only [Bool.and_eq_true, Bool.and_eq_false_iff, decide_eq_true_eq, decide_eq_false_iff_not, bne_iff_ne, beq_iff_eq, beq_eq_false_iff_ne, bne_eq_false_iff_eq, Bool.not_eq_true', Bool.not_eq_false', bys_length, List.length_append, List.length_cons, List.length_nil, List.length_map, List.length_drop, List.length_take, Int.natCast_add, wrap_i64_eq, wrap_u64, wrap_u8, ne_eq, not_true_eq_false, not_false_eq_true, Nat.zero_add, Nat.mul_one] <;> omega) | omega | (simp; done) | (simp; omega))) only [↓CR, MC, ↓PR, MR, flds_length, flds_getD h1, r, e3, e1]
      rfl
theorem rpairs_run {d : Nat} {f : Bool} {ps : List (List UInt8)} (hps : ps.length ≤ 100000) (hb : ∀ b ∈ ps, b.length ≤ 40000000) {h : Heap} {Q : Res → Prop} {tg : Hid Q} :
    Run (evFn Cw (d + 4) 18 [.sl f 0 (flds ps)] h) Q tg = Q (prR (pcsF ps []), h) := by
  have := rpairs_loop d f ps hps hb h Q ps.length 0 rounds [] ⟨⟩ (by omega) (Nat.lt_of_lt_of_le (by omega) rounds_ge) (by simp)
  rw [e0, prs_nil, List.drop_zero] at this
  rw [F18_eq]
  exact this
theorem rcat_loop (d : Nat) (f : Bool) (ps : List (List UInt8)) (hps : ps.length ≤ 100000) (hb : ∀ b ∈ ps, b.length ≤ 40000000) (l2 : List AVal) (h : Heap) (Q : Res → Prop) : ∀ (n i k : Nat) (acc : List UInt8) (tg : Hid Q), ps.length = i + n → n < k → acc.length ≤ 40000000 * i →
    Run (P11_0 (d + 3) k f (flds ps) l2 (bys acc) i 0 0 0 h) Q tg = Q ([.agg [.int .i64 ps.length, .int .i64 l2.length, .int .u32 (moreN 0 (acc ++ (ps.drop i).flatten) : Nat)]], h) := by
  intro n
  induction n with
  | zero =>
    intro i k acc tg hi hk ha
    obtain ⟨k, rfl⟩ : ∃ m, k = m + 1 := ⟨k - 1, by omega⟩
    have hd : ps.drop i = [] := List.drop_eq_nil_of_le (by omega)
    have rm := fun (Q : Res → Prop) (tg : Hid Q) => rmore_run (d := d) (f := false) (l := acc) (by omega) (h := h) (Q := Q) (tg := tg)
    rw [P11_0_eq, hd, List.flatten_nil, List.append_nil]
    simp (disch := (first | assumption | (simp only [Bool.and_eq_true, Bool.and_eq_false_iff, decide_eq_true_eq, decide_eq_false_iff_not, bne_iff_ne, beq_iff_eq, beq_eq_false_iff_ne, bne_eq_false_iff_eq, Bool.not_eq_true', Bool.not_eq_false', bys_length, List.length_append, List.length_cons, List.length_nil, List.length_map, List.length_drop, List.length_take, Int.natCast_add, wrap_i64_eq, wrap_u64, wrap_u8, ne_eq, not_true_eq_false, not_false_eq_true, Nat.zero_add, Nat.mul_one] <;> omega) | omega | (simp; done) | (simp; omega))) only [↓CR, MC, ↓PR, MR, flds_length, rm]
  | succ n ih =>
    intro i k acc tg hi hk ha
    obtain ⟨k, rfl⟩ : ∃ m, k = m + 1 := ⟨k - 1, by omega⟩
    have h1 : i < ps.length := by omega
    have e1 := succ_wrap (i := i) (by omega)
    have hbi := hb _ (List.getElem_mem h1)
    have ih' := fun tg => ih (i + 1) k (acc ++ ps[i]) tg (by omega) (by omega) (by rw [List.length_append]; omega)
    rw [P11_0_eq, List.drop_eq_getElem_cons h1, List.flatten_cons, ← List.append_assoc]
    simp (disch := (first | assumption | (simp only [Bool.and_eq_true, Bool.and_eq_false_iff, decide_eq_true_eq, decide_eq_false_iff_not, bne_iff_ne, beq_iff_eq, beq_eq_false_iff_ne, bne_eq_false_iff_eq, Bool.not_eq_true', Bool.not_eq_false', bys_length, List.length_append, List.length_cons, List.length_nil, List.length_map, List.length_drop, List.length_take, Int.natCast_add, wrap_i64_eq, wrap_u64, wrap_u8, ne_eq, not_true_eq_false, not_false_eq_true, Nat.zero_add, Nat.mul_one] <;> omega) | omega | (simp; done) | (simp; omega))) only [↓CR, MC, ↓PR, MR, flds_length, flds_getD h1, bys_length, ← bys_append, e1, ih']
theorem rptof_run {d : Nat} {f : Bool} {ps : List (List UInt8)} (hps : ps.length ≤ 100000) (hb : ∀ b ∈ ps, b.length ≤ 40000000) {l : List KPair} (hp : pcsF ps [] = some l) {h : Heap} {Q : Res → Prop} {tg : Hid Q} :
    Run (evFn Cw (d + 5) 11 [.sl f 0 (flds ps)] h) Q tg = Q ([.agg [.int .i64 ps.length, .int .i64 l.length, .int .u32 (sumN ps 0 : Nat)]], h) := by
  have r1 := fun (Q : Res → Prop) (tg : Hid Q) => rpairs_run (d := d) (f := f) hps hb (h := h) (Q := Q) (tg := tg)
  rw [hp] at r1
  have r2 := fun (Q : Res → Prop) (tg : Hid Q) => rcat_loop (d + 1) f ps hps hb (prs l) h Q ps.length 0 rounds [] tg (by omega) (Nat.lt_of_lt_of_le (by omega) rounds_ge) (by simp)
  have es : sumN ps 0 = moreN 0 ps.flatten := by
    have h0 : moreN 0 [] = 0 := by decide
    have := sumN_flat ps []
    rw [h0, List.nil_append] at this
    exact this
  rw [e0, bys_nil, List.drop_zero, List.nil_append, ← es, prs_length] at r2
  unfold prR at r1
  rw [F11_eq]
  simp (disch := (first | assumption | (simp only [Bool.and_eq_true, Bool.and_eq_false_iff, decide_eq_true_eq, decide_eq_false_iff_not, bne_iff_ne, beq_iff_eq, beq_eq_false_iff_ne, bne_eq_false_iff_eq, Bool.not_eq_true', Bool.not_eq_false', bys_length, List.length_append, List.length_cons, List.length_nil, List.length_map, List.length_drop, List.length_take, Int.natCast_add, wrap_i64_eq, wrap_u64, wrap_u8, ne_eq, not_true_eq_false, not_false_eq_true, Nat.zero_add, Nat.mul_one] <;> omega) | omega | (simp; done) | (simp; omega))) only [↓CR, MC, ↓PR, MR, r1, r2]
end Go.Proofs.YtkpjkaikeeldfaaDoor.Wa
end

section
/- Points: joined; PointJoins. -/
namespace Go.Proofs.YtkpjkaikeeldfaaDoor.Wa
open Go Go.Weave
set_option maxRecDepth 100000
set_option linter.unusedSimpArgs false
set_option linter.unusedVariables false
set_option linter.unusedSectionVars false

def okAt (l : List KPair) (i : Nat) : Bool :=
  decide (1 ≤ (l.getD i ⟨[], []⟩).key.length) && (decide ((l.getD i ⟨[], []⟩).key.length ≤ 24) && (decide ((l.getD i ⟨[], []⟩).val.length ≤ 128) &&
    (decide (i = 0) || !(blt (l.getD i ⟨[], []⟩).key (l.getD (i - 1) ⟨[], []⟩).key || ((l.getD i ⟨[], []⟩).key == (l.getD (i - 1) ⟨[], []⟩).key)))))
def rightFrom (l : List KPair) : Nat → Nat → Bool
  | 0, _ => true
  | n + 1, i => okAt l i && rightFrom l n (i + 1)
theorem okAt_at {l : List KPair} {i : Nat} (h : i < l.length) : okAt l i = (decide (1 ≤ l[i].key.length) && (decide (l[i].key.length ≤ 24) && (decide (l[i].val.length ≤ 128) &&
    (decide (i = 0) || !(blt l[i].key (l.getD (i - 1) ⟨[], []⟩).key || (l[i].key == (l.getD (i - 1) ⟨[], []⟩).key)))))) := by
  have e : l.getD i ⟨[], []⟩ = l[i] := by simp [h]
  unfold okAt
  rw [e]
theorem pright_loop (d : Nat) (f : Bool) (l : List KPair) (hl : l.length ≤ 40000000) (h : Heap) (Q : Res → Prop) : ∀ (n i k : Nat) (tg : Hid Q), l.length = i + n → n < k →
    Run (P13_0 d k f (prs l) f (prs l) (l.length : Nat) i h) Q tg = Q ([.bool (rightFrom l n i)], h) := by
  intro n
  induction n with
  | zero =>
    intro i k tg hi hk
    obtain ⟨k, rfl⟩ : ∃ m, k = m + 1 := ⟨k - 1, by omega⟩
    rw [P13_0_eq]
    simp (disch := (first | assumption | (simp only [Bool.and_eq_true, Bool.and_eq_false_iff, decide_eq_true_eq, decide_eq_false_iff_not, bne_iff_ne, beq_iff_eq, beq_eq_false_iff_ne, bne_eq_false_iff_eq, Bool.not_eq_true', Bool.not_eq_false', bys_length, List.length_append, List.length_cons, List.length_nil, List.length_map, List.length_drop, List.length_take, Int.natCast_add, wrap_i64_eq, wrap_u64, wrap_u8, ne_eq, not_true_eq_false, not_false_eq_true, Nat.zero_add, Nat.mul_one] <;> omega) | omega | (simp; done) | (simp; omega))) only [↓CR, MC, ↓PR, MR, prs_length]
    rfl
  | succ n ih =>
    intro i k tg hi hk
    obtain ⟨k, rfl⟩ : ∃ m, k = m + 1 := ⟨k - 1, by omega⟩
    have h1 : i < l.length := by omega
    have e1 := succ_wrap (i := i) (by omega)
    have ih' := fun tg => ih (i + 1) k tg (by omega) (by omega)
    rw [P13_0_eq]
    unfold rightFrom
    rw [okAt_at h1]
    by_cases c1 : 1 ≤ l[i].key.length
    · by_cases c2 : l[i].key.length ≤ 24
      · by_cases c3 : l[i].val.length ≤ 128
        · rw [decide_eq_true c1, decide_eq_true c2, decide_eq_true c3]
          simp only [Bool.true_and]
          by_cases c4 : i = 0
          · subst c4
            simp (disch := (first | assumption | (simp only [Bool.and_eq_true, Bool.and_eq_false_iff, decide_eq_true_eq, decide_eq_false_iff_not, bne_iff_ne, beq_iff_eq, beq_eq_false_iff_ne, bne_eq_false_iff_eq, Bool.not_eq_true', Bool.not_eq_false', bys_length, List.length_append, List.length_cons, List.length_nil, List.length_map, List.length_drop, List.length_take, Int.natCast_add, wrap_i64_eq, wrap_u64, wrap_u8, ne_eq, not_true_eq_false, not_false_eq_true, Nat.zero_add, Nat.mul_one] <;> omega) | omega | (simp; done) | (simp; omega))) only [↓CR, MC, ↓PR, MR, prs_length, prs_getD h1, e1, ih']
            rfl
          · have h2 : i - 1 < l.length := by omega
            have e2 : IntKind.i64.wrap ((i : Int) - 1) = ((i - 1 : Nat) : Int) := by rw [wrap_i64_id (by omega) (by omega)]; omega
            have e3 : l.getD (i - 1) ⟨[], []⟩ = l[i - 1] := by simp [h2]
            rw [decide_eq_false c4, e3]
            simp only [Bool.false_or]
            cases c5 : (blt l[i].key l[i - 1].key || (l[i].key == l[i - 1].key))
            · have c5' : (Go.Op.bytesLess l[i].key l[i - 1].key || (l[i].key == l[i - 1].key)) = false := c5
              simp (disch := (first | assumption | (simp only [Bool.and_eq_true, Bool.and_eq_false_iff, decide_eq_true_eq, decide_eq_false_iff_not, bne_iff_ne, beq_iff_eq, beq_eq_false_iff_ne, bne_eq_false_iff_eq, Bool.not_eq_true', Bool.not_eq_false', bys_length, List.length_append, List.length_cons, List.length_nil, List.length_map, List.length_drop, List.length_take, Int.natCast_add, wrap_i64_eq, wrap_u64, wrap_u8, ne_eq, not_true_eq_false, not_false_eq_true, Nat.zero_add, Nat.mul_one] <;> omega) | omega | (simp; done) | (simp; omega))) only [↓CR, MC, ↓PR, MR, prs_length, prs_getD h1, prs_getD h2, e2, c5', e1, ih']
              simp
            · have c5' : (Go.Op.bytesLess l[i].key l[i - 1].key || (l[i].key == l[i - 1].key)) = true := c5
              simp (disch := (first | assumption | (simp only [Bool.and_eq_true, Bool.and_eq_false_iff, decide_eq_true_eq, decide_eq_false_iff_not, bne_iff_ne, beq_iff_eq, beq_eq_false_iff_ne, bne_eq_false_iff_eq, Bool.not_eq_true', Bool.not_eq_false', bys_length, List.length_append, List.length_cons, List.length_nil, List.length_map, List.length_drop, List.length_take, Int.natCast_add, wrap_i64_eq, wrap_u64, wrap_u8, ne_eq, not_true_eq_false, not_false_eq_true, Nat.zero_add, Nat.mul_one] <;> omega) | omega | (simp; done) | (simp; omega))) only [↓CR, MC, ↓PR, MR, prs_length, prs_getD h1, prs_getD h2, e2, c5']
              simp
        · rw [decide_eq_false c3]
          simp (disch := (first | assumption | (simp only [Bool.and_eq_true, Bool.and_eq_false_iff, decide_eq_true_eq, decide_eq_false_iff_not, bne_iff_ne, beq_iff_eq, beq_eq_false_iff_ne, bne_eq_false_iff_eq, Bool.not_eq_true', Bool.not_eq_false', bys_length, List.length_append, List.length_cons, List.length_nil, List.length_map, List.length_drop, List.length_take, Int.natCast_add, wrap_i64_eq, wrap_u64, wrap_u8, ne_eq, not_true_eq_false, not_false_eq_true, Nat.zero_add, Nat.mul_one] <;> omega) | omega | (simp; done) | (simp; omega))) only [↓CR, MC, ↓PR, MR, prs_length, prs_getD h1]
          simp
      · rw [decide_eq_false c2]
        simp (disch := (first | assumption | (simp only [Bool.and_eq_true, Bool.and_eq_false_iff, decide_eq_true_eq, decide_eq_false_iff_not, bne_iff_ne, beq_iff_eq, beq_eq_false_iff_ne, bne_eq_false_iff_eq, Bool.not_eq_true', Bool.not_eq_false', bys_length, List.length_append, List.length_cons, List.length_nil, List.length_map, List.length_drop, List.length_take, Int.natCast_add, wrap_i64_eq, wrap_u64, wrap_u8, ne_eq, not_true_eq_false, not_false_eq_true, Nat.zero_add, Nat.mul_one] <;> omega) | omega | (simp; done) | (simp; omega))) only [↓CR, MC, ↓PR, MR, prs_length, prs_getD h1]
        simp
    · rw [decide_eq_false c1]
      simp (disch := (first | assumption | (simp only [Bool.and_eq_true, Bool.and_eq_false_iff, decide_eq_true_eq, decide_eq_false_iff_not, bne_iff_ne, beq_iff_eq, beq_eq_false_iff_ne, bne_eq_false_iff_eq, Bool.not_eq_true', Bool.not_eq_false', bys_length, List.length_append, List.length_cons, List.length_nil, List.length_map, List.length_drop, List.length_take, Int.natCast_add, wrap_i64_eq, wrap_u64, wrap_u8, ne_eq, not_true_eq_false, not_false_eq_true, Nat.zero_add, Nat.mul_one] <;> omega) | omega | (simp; done) | (simp; omega))) only [↓CR, MC, ↓PR, MR, prs_length, prs_getD h1]
      simp
theorem pright_run {d : Nat} {f : Bool} {l : List KPair} (hl : l.length ≤ 40000000) {h : Heap} {Q : Res → Prop} {tg : Hid Q} : Run (evFn Cw (d + 1) 13 [.sl f 3 (prs l)] h) Q tg = Q ([.bool (rightFrom l l.length 0)], h) := by
  have := pright_loop d f l hl h Q l.length 0 rounds ⟨⟩ (by omega) (Nat.lt_of_lt_of_le (by omega) rounds_ge)
  rw [e0] at this
  rw [F13_eq, prs_length]
  exact this
theorem rright34_loop (d : Nat) (f : Bool) (l : List KPair) (hl : l.length ≤ 40000000) (h : Heap) (Q : Res → Prop) : ∀ (n i k : Nat) (tg : Hid Q), l.length = i + n → n < k →
    Run (P6_0 d k f (prs l) i h) Q tg = Q ([.bool (rightFrom l n i)], h) := by
  intro n
  induction n with
  | zero =>
    intro i k tg hi hk
    obtain ⟨k, rfl⟩ : ∃ m, k = m + 1 := ⟨k - 1, by omega⟩
    rw [P6_0_eq]
    simp (disch := (first | assumption | (simp only [Bool.and_eq_true, Bool.and_eq_false_iff, decide_eq_true_eq, decide_eq_false_iff_not, bne_iff_ne, beq_iff_eq, beq_eq_false_iff_ne, bne_eq_false_iff_eq, Bool.not_eq_true', Bool.not_eq_false', bys_length, List.length_append, List.length_cons, List.length_nil, List.length_map, List.length_drop, List.length_take, Int.natCast_add, wrap_i64_eq, wrap_u64, wrap_u8, ne_eq, not_true_eq_false, not_false_eq_true, Nat.zero_add, Nat.mul_one] <;> omega) | omega | (simp; done) | (simp; omega))) only [↓CR, MC, ↓PR, MR, prs_length]
    rfl
  | succ n ih =>
    intro i k tg hi hk
    obtain ⟨k, rfl⟩ : ∃ m, k = m + 1 := ⟨k - 1, by omega⟩
    have h1 : i < l.length := by omega
    have e1 := succ_wrap (i := i) (by omega)
    have ih' := fun tg => ih (i + 1) k tg (by omega) (by omega)
    rw [P6_0_eq]
    unfold rightFrom
    rw [okAt_at h1]
    by_cases c1 : 1 ≤ l[i].key.length
    · have c0 : (l[i].key == []) = false := by simp; intro e; rw [e] at c1; simp at c1
      by_cases c2 : l[i].key.length ≤ 24
      · by_cases c3 : l[i].val.length ≤ 128
        · rw [decide_eq_true c1, decide_eq_true c2, decide_eq_true c3]
          simp only [Bool.true_and]
          by_cases c4 : i = 0
          · subst c4
            simp (disch := (first | assumption | (simp only [Bool.and_eq_true, Bool.and_eq_false_iff, decide_eq_true_eq, decide_eq_false_iff_not, bne_iff_ne, beq_iff_eq, beq_eq_false_iff_ne, bne_eq_false_iff_eq, Bool.not_eq_true', Bool.not_eq_false', bys_length, List.length_append, List.length_cons, List.length_nil, List.length_map, List.length_drop, List.length_take, Int.natCast_add, wrap_i64_eq, wrap_u64, wrap_u8, ne_eq, not_true_eq_false, not_false_eq_true, Nat.zero_add, Nat.mul_one] <;> omega) | omega | (simp; done) | (simp; omega))) only [↓CR, MC, ↓PR, MR, prs_length, prs_getD h1, c0, e1, ih']
            rfl
          · have h2 : i - 1 < l.length := by omega
            have e2 : IntKind.i64.wrap ((i : Int) - 1) = ((i - 1 : Nat) : Int) := by rw [wrap_i64_id (by omega) (by omega)]; omega
            have e3 : l.getD (i - 1) ⟨[], []⟩ = l[i - 1] := by simp [h2]
            rw [decide_eq_false c4, e3]
            simp only [Bool.false_or]
            cases c5 : (blt l[i].key l[i - 1].key || (l[i].key == l[i - 1].key))
            · have c5' : (Go.Op.bytesLess l[i].key l[i - 1].key || (l[i].key == l[i - 1].key)) = false := c5
              simp (disch := (first | assumption | (simp only [Bool.and_eq_true, Bool.and_eq_false_iff, decide_eq_true_eq, decide_eq_false_iff_not, bne_iff_ne, beq_iff_eq, beq_eq_false_iff_ne, bne_eq_false_iff_eq, Bool.not_eq_true', Bool.not_eq_false', bys_length, List.length_append, List.length_cons, List.length_nil, List.length_map, List.length_drop, List.length_take, Int.natCast_add, wrap_i64_eq, wrap_u64, wrap_u8, ne_eq, not_true_eq_false, not_false_eq_true, Nat.zero_add, Nat.mul_one] <;> omega) | omega | (simp; done) | (simp; omega))) only [↓CR, MC, ↓PR, MR, prs_length, prs_getD h1, c0, prs_getD h2, e2, c5', e1, ih']
              simp
            · have c5' : (Go.Op.bytesLess l[i].key l[i - 1].key || (l[i].key == l[i - 1].key)) = true := c5
              simp (disch := (first | assumption | (simp only [Bool.and_eq_true, Bool.and_eq_false_iff, decide_eq_true_eq, decide_eq_false_iff_not, bne_iff_ne, beq_iff_eq, beq_eq_false_iff_ne, bne_eq_false_iff_eq, Bool.not_eq_true', Bool.not_eq_false', bys_length, List.length_append, List.length_cons, List.length_nil, List.length_map, List.length_drop, List.length_take, Int.natCast_add, wrap_i64_eq, wrap_u64, wrap_u8, ne_eq, not_true_eq_false, not_false_eq_true, Nat.zero_add, Nat.mul_one] <;> omega) | omega | (simp; done) | (simp; omega))) only [↓CR, MC, ↓PR, MR, prs_length, prs_getD h1, c0, prs_getD h2, e2, c5']
              simp
        · rw [decide_eq_false c3]
          simp (disch := (first | assumption | (simp only [Bool.and_eq_true, Bool.and_eq_false_iff, decide_eq_true_eq, decide_eq_false_iff_not, bne_iff_ne, beq_iff_eq, beq_eq_false_iff_ne, bne_eq_false_iff_eq, Bool.not_eq_true', Bool.not_eq_false', bys_length, List.length_append, List.length_cons, List.length_nil, List.length_map, List.length_drop, List.length_take, Int.natCast_add, wrap_i64_eq, wrap_u64, wrap_u8, ne_eq, not_true_eq_false, not_false_eq_true, Nat.zero_add, Nat.mul_one] <;> omega) | omega | (simp; done) | (simp; omega))) only [↓CR, MC, ↓PR, MR, prs_length, prs_getD h1, c0]
          simp
      · rw [decide_eq_false c2]
        simp (disch := (first | assumption | (simp only [Bool.and_eq_true, Bool.and_eq_false_iff, decide_eq_true_eq, decide_eq_false_iff_not, bne_iff_ne, beq_iff_eq, beq_eq_false_iff_ne, bne_eq_false_iff_eq, Bool.not_eq_true', Bool.not_eq_false', bys_length, List.length_append, List.length_cons, List.length_nil, List.length_map, List.length_drop, List.length_take, Int.natCast_add, wrap_i64_eq, wrap_u64, wrap_u8, ne_eq, not_true_eq_false, not_false_eq_true, Nat.zero_add, Nat.mul_one] <;> omega) | omega | (simp; done) | (simp; omega))) only [↓CR, MC, ↓PR, MR, prs_length, prs_getD h1, c0]
        simp
    · have c0 : (l[i].key == []) = true := by
        have : l[i].key = [] := List.length_eq_zero_iff.1 (by omega)
        rw [this]; rfl
      rw [decide_eq_false c1]
      simp (disch := (first | assumption | (simp only [Bool.and_eq_true, Bool.and_eq_false_iff, decide_eq_true_eq, decide_eq_false_iff_not, bne_iff_ne, beq_iff_eq, beq_eq_false_iff_ne, bne_eq_false_iff_eq, Bool.not_eq_true', Bool.not_eq_false', bys_length, List.length_append, List.length_cons, List.length_nil, List.length_map, List.length_drop, List.length_take, Int.natCast_add, wrap_i64_eq, wrap_u64, wrap_u8, ne_eq, not_true_eq_false, not_false_eq_true, Nat.zero_add, Nat.mul_one] <;> omega) | omega | (simp; done) | (simp; omega))) only [↓CR, MC, ↓PR, MR, prs_length, prs_getD h1, c0]
      simp
theorem rright34_run {d : Nat} {f : Bool} {l : List KPair} (hl : l.length ≤ 40000000) {h : Heap} {Q : Res → Prop} {tg : Hid Q} : Run (evFn Cw (d + 1) 6 [.sl f 3 (prs l)] h) Q tg = Q ([.bool (rightFrom l l.length 0)], h) := by
  have := rright34_loop d f l hl h Q l.length 0 rounds ⟨⟩ (by omega) (Nat.lt_of_lt_of_le (by omega) rounds_ge)
  rw [e0] at this
  rw [F6_eq]
  exact this

/-! ### Joined -/
noncomputable def jF (x0 x1 : Int) (x2 : Nat) (ps : List (List UInt8)) : List KPair × Nat :=
  if (ps.length : Int) < x0 then ([], 1) else match pcsF ps [] with
    | none => ([], 2)
    | some l => if (ps.length : Int) ≠ x0 ∨ (l.length : Int) ≠ x1 ∨ rightFrom l l.length 0 = false then ([], 2) else if sumN ps 0 ≠ x2 then ([], 3) else (l, 0)
def jV (x : List KPair × Nat) : AVal := if x.2 = 0 then .sl false 3 (prs x.1) else .sl true 0 []
theorem join_run {d : Nat} {f : Bool} {x0 x1 : Int} {x2 : Nat} {ps : List (List UInt8)} (hps : ps.length ≤ 100000) (hb : ∀ b ∈ ps, b.length ≤ 40000000) {h : Heap} {Q : Res → Prop} {tg : Hid Q} :
    Run (evFn Cw (d + 6) 9 [.agg [.int .i64 x0, .int .i64 x1, .int .u32 x2], .sl f 0 (flds ps)] h) Q tg = Q ([jV (jF x0 x1 x2 ps), .int .i64 (jF x0 x1 x2 ps).2], h) := by
  rw [F9_eq]
  by_cases c1 : (ps.length : Int) < x0
  · have e : jF x0 x1 x2 ps = ([], 1) := by unfold jF; rw [if_pos c1]
    rw [e]
    simp (disch := (first | assumption | (simp only [Bool.and_eq_true, Bool.and_eq_false_iff, decide_eq_true_eq, decide_eq_false_iff_not, bne_iff_ne, beq_iff_eq, beq_eq_false_iff_ne, bne_eq_false_iff_eq, Bool.not_eq_true', Bool.not_eq_false', bys_length, List.length_append, List.length_cons, List.length_nil, List.length_map, List.length_drop, List.length_take, Int.natCast_add, wrap_i64_eq, wrap_u64, wrap_u8, ne_eq, not_true_eq_false, not_false_eq_true, Nat.zero_add, Nat.mul_one] <;> omega) | omega | (simp; done) | (simp; omega))) only [↓CR, MC, ↓PR, MR, flds_length]
    rfl
  · cases hp : pcsF ps [] with
    | none =>
      have e : jF x0 x1 x2 ps = ([], 2) := by unfold jF; rw [if_neg c1, hp]
      have r := fun (Q : Res → Prop) (tg : Hid Q) => all_run_none (d := d) (f := f) hps hb hp (h := h) (Q := Q) (tg := tg)
      rw [e]
      simp (disch := (first | assumption | (simp only [Bool.and_eq_true, Bool.and_eq_false_iff, decide_eq_true_eq, decide_eq_false_iff_not, bne_iff_ne, beq_iff_eq, beq_eq_false_iff_ne, bne_eq_false_iff_eq, Bool.not_eq_true', Bool.not_eq_false', bys_length, List.length_append, List.length_cons, List.length_nil, List.length_map, List.length_drop, List.length_take, Int.natCast_add, wrap_i64_eq, wrap_u64, wrap_u8, ne_eq, not_true_eq_false, not_false_eq_true, Nat.zero_add, Nat.mul_one] <;> omega) | omega | (simp; done) | (simp; omega))) only [↓CR, MC, ↓PR, MR, flds_length, r, Bool.not_false]
      rfl
    | some l =>
      have hl := pcsF_len ps hp
      simp only [List.length_nil] at hl
      have r := fun (Q : Res → Prop) (tg : Hid Q) => all_run_some (d := d) (f := f) hps hp (h := h) (Q := Q) (tg := tg)
      have q := fun (Q : Res → Prop) (tg : Hid Q) => pright_run (d := d + 4) (f := false) (l := l) (by omega) (h := h) (Q := Q) (tg := tg)
      by_cases c2 : (ps.length : Int) = x0
      · have c2' : ((ps.length : Int) != x0) = false := by simp [c2]
        by_cases c3 : (l.length : Int) = x1
        · have c3' : ((l.length : Int) != x1) = false := by simp [c3]
          cases c4 : rightFrom l l.length 0
          · have e : jF x0 x1 x2 ps = ([], 2) := by unfold jF; rw [if_neg c1, hp]; simp only; rw [if_pos (.inr (.inr c4))]
            rw [c4] at q
            rw [e]
            simp (disch := (first | assumption | (simp only [Bool.and_eq_true, Bool.and_eq_false_iff, decide_eq_true_eq, decide_eq_false_iff_not, bne_iff_ne, beq_iff_eq, beq_eq_false_iff_ne, bne_eq_false_iff_eq, Bool.not_eq_true', Bool.not_eq_false', bys_length, List.length_append, List.length_cons, List.length_nil, List.length_map, List.length_drop, List.length_take, Int.natCast_add, wrap_i64_eq, wrap_u64, wrap_u8, ne_eq, not_true_eq_false, not_false_eq_true, Nat.zero_add, Nat.mul_one] <;> omega) | omega | (simp; done) | (simp; omega))) only [↓CR, MC, ↓PR, MR, flds_length, r, Bool.not_true, c2', c3', q, Bool.not_false]
            rfl
          · rw [c4] at q
            by_cases c5 : sumN ps 0 = x2
            · have c5' : (((sumN ps 0 : Nat) : Int) != (x2 : Int)) = false := by simp [c5]
              have e : jF x0 x1 x2 ps = (l, 0) := by unfold jF; rw [if_neg c1, hp]; simp only; rw [if_neg (by rw [c4]; simp [c2, c3]), if_neg (by simp [c5])]
              rw [e]
              simp (disch := (first | assumption | (simp only [Bool.and_eq_true, Bool.and_eq_false_iff, decide_eq_true_eq, decide_eq_false_iff_not, bne_iff_ne, beq_iff_eq, beq_eq_false_iff_ne, bne_eq_false_iff_eq, Bool.not_eq_true', Bool.not_eq_false', bys_length, List.length_append, List.length_cons, List.length_nil, List.length_map, List.length_drop, List.length_take, Int.natCast_add, wrap_i64_eq, wrap_u64, wrap_u8, ne_eq, not_true_eq_false, not_false_eq_true, Nat.zero_add, Nat.mul_one] <;> omega) | omega | (simp; done) | (simp; omega))) only [↓CR, MC, ↓PR, MR, flds_length, r, Bool.not_true, c2', c3', q, c5']
              rfl
            · have c5' : (((sumN ps 0 : Nat) : Int) != (x2 : Int)) = true := by simp; omega
              have e : jF x0 x1 x2 ps = ([], 3) := by unfold jF; rw [if_neg c1, hp]; simp only; rw [if_neg (by rw [c4]; simp [c2, c3]), if_pos c5]
              rw [e]
              simp (disch := (first | assumption | (simp only [Bool.and_eq_true, Bool.and_eq_false_iff, decide_eq_true_eq, decide_eq_false_iff_not, bne_iff_ne, beq_iff_eq, beq_eq_false_iff_ne, bne_eq_false_iff_eq, Bool.not_eq_true', Bool.not_eq_false', bys_length, List.length_append, List.length_cons, List.length_nil, List.length_map, List.length_drop, List.length_take, Int.natCast_add, wrap_i64_eq, wrap_u64, wrap_u8, ne_eq, not_true_eq_false, not_false_eq_true, Nat.zero_add, Nat.mul_one] <;> omega) | omega | (simp; done) | (simp; omega))) only [↓CR, MC, ↓PR, MR, flds_length, r, Bool.not_true, c2', c3', q, c5']
              rfl
        · have c3' : ((l.length : Int) != x1) = true := by simp; exact c3
          have e : jF x0 x1 x2 ps = ([], 2) := by unfold jF; rw [if_neg c1, hp]; simp only; rw [if_pos (.inr (.inl c3))]
          rw [e]
          simp (disch := (first | assumption | (simp only [Bool.and_eq_true, Bool.and_eq_false_iff, decide_eq_true_eq, decide_eq_false_iff_not, bne_iff_ne, beq_iff_eq, beq_eq_false_iff_ne, bne_eq_false_iff_eq, Bool.not_eq_true', Bool.not_eq_false', bys_length, List.length_append, List.length_cons, List.length_nil, List.length_map, List.length_drop, List.length_take, Int.natCast_add, wrap_i64_eq, wrap_u64, wrap_u8, ne_eq, not_true_eq_false, not_false_eq_true, Nat.zero_add, Nat.mul_one] <;> omega) | omega | (simp; done) | (simp; omega))) only [↓CR, MC, ↓PR, MR, flds_length, r, Bool.not_true, c2', c3']
          rfl
      · have c2' : ((ps.length : Int) != x0) = true := by simp; exact c2
        have e : jF x0 x1 x2 ps = ([], 2) := by unfold jF; rw [if_neg c1, hp]; simp only; rw [if_pos (.inl c2)]
        rw [e]
        simp (disch := (first | assumption | (simp only [Bool.and_eq_true, Bool.and_eq_false_iff, decide_eq_true_eq, decide_eq_false_iff_not, bne_iff_ne, beq_iff_eq, beq_eq_false_iff_ne, bne_eq_false_iff_eq, Bool.not_eq_true', Bool.not_eq_false', bys_length, List.length_append, List.length_cons, List.length_nil, List.length_map, List.length_drop, List.length_take, Int.natCast_add, wrap_i64_eq, wrap_u64, wrap_u8, ne_eq, not_true_eq_false, not_false_eq_true, Nat.zero_add, Nat.mul_one] <;> omega) | omega | (simp; done) | (simp; omega))) only [↓CR, MC, ↓PR, MR, flds_length, r, Bool.not_true, c2']
        rfl
end Go.Proofs.YtkpjkaikeeldfaaDoor.Wa
end

section
/- PointJoins. -/
namespace Go.Proofs.YtkpjkaikeeldfaaDoor.Wa
open Go Go.Weave
set_option maxRecDepth 100000
set_option linter.unusedSimpArgs false
set_option linter.unusedVariables false
set_option linter.unusedSectionVars false

theorem ptof_some {d : Nat} {f : Bool} {ps : List (List UInt8)} {l : List KPair} (hps : ps.length ≤ 100000) (hp : pcsF ps [] = some l) {h : Heap} {Q : Res → Prop} {tg : Hid Q} :
    Run (evFn Cw (d + 6) 8 [.sl f 0 (flds ps)] h) Q tg = Q ([.agg [.int .i64 ps.length, .int .i64 l.length, .int .u32 (sumN ps 0 : Nat)], .int .i64 0], h) := by
  have r := fun (Q : Res → Prop) (tg : Hid Q) => all_run_some (d := d) (f := f) hps hp (h := h) (Q := Q) (tg := tg)
  rw [F8_eq]
  simp (disch := (first | assumption | (simp only [Bool.and_eq_true, Bool.and_eq_false_iff, decide_eq_true_eq, decide_eq_false_iff_not, bne_iff_ne, beq_iff_eq, beq_eq_false_iff_ne, bne_eq_false_iff_eq, Bool.not_eq_true', Bool.not_eq_false', bys_length, List.length_append, List.length_cons, List.length_nil, List.length_map, List.length_drop, List.length_take, Int.natCast_add, wrap_i64_eq, wrap_u64, wrap_u8, ne_eq, not_true_eq_false, not_false_eq_true, Nat.zero_add, Nat.mul_one] <;> omega) | omega | (simp; done) | (simp; omega))) only [↓CR, MC, ↓PR, MR, r, Bool.not_true]
end Go.Proofs.YtkpjkaikeeldfaaDoor.Wa
end

section
/- Fields packed by definition, where no contract is told. -/
namespace Go.Proofs.YtkpjkaikeeldfaaDoor.Wb
open Go Go.Weave Go.Proofs.YtkpjkaikeeldfaaDoor.Wa
set_option maxRecDepth 100000
set_option linter.unusedSimpArgs false
set_option linter.unusedVariables false
set_option linter.unusedSectionVars false
set_option linter.unusedVariables false
noncomputable def Cw : Cfg := ⟨Tryd.prog, Wa.annw, fun _ => none, fun _ => none⟩
/- strandline/strandlineref02.Put -/
noncomputable def P21_0 (d k : Nat) (x0 : Int) (l1 : List AVal) (h : Heap) : Tr Res :=
  loopPt Cw d 21 [true, true, false, true] [] k ⟨[(1, (EV.one (SV.val (AVal.int .u64 x0)))), (5, (EV.one (SV.own (tokOf 5 0) 0 l1)))], []⟩ h
theorem P21_0_eq (d k : Nat) (x0 : Int) (l1 : List AVal) (h : Heap) : P21_0 d (k + 1) x0 l1 h =
  (bif (decide (((IntKind.u64.wrap (Int.tdiv x0 128)) : Int) > 0)) then
    (bif decide ((l1.length + (1 : Nat)) * 1 ≤ 140737488355328) then
      (P21_0 d k (IntKind.u64.wrap (Int.tdiv x0 128)) (l1 ++ [(AVal.int .u8 (IntKind.u8.wrap (IntKind.u64.wrap (128 + (Int.tmod x0 128)))))]) h)
    else
      Tr.fail)
  else
    (bif decide ((l1.length + (1 : Nat)) * 1 ≤ 140737488355328) then (Tr.ret ([(AVal.sl false 0 (l1 ++ [(AVal.int .u8 (IntKind.u8.wrap x0))]))], h)) else Tr.fail)) := by kernel_rfl
theorem F21_eq (d : Nat) (f0 : Bool) (l1 : List AVal) (x2 : Int) (h : Heap) : evFn Cw (d + 1) 21 [(AVal.sl f0 0 l1), (AVal.int .u64 x2)] h =
  (bif decide (((0 : Nat) + l1.length) * 1 ≤ 140737488355328) then (P21_0 d rounds x2 ([] ++ l1) h) else Tr.fail) := by kernel_rfl
/- strandline/strandlineref04.Pack -/
noncomputable def P16_0 (d k : Nat) (f0 : Bool) (l1 : List AVal) (l2 : List AVal) (x3 : Int) (h : Heap) : Tr Res :=
  loopPt Cw d 16 [true, true, false, true, true] [] k ⟨[(0, (EV.one (SV.val (AVal.sl f0 0 l1)))), (3, (EV.one (SV.own (tokOf 3 0) 0 l2))), (4, (EV.one (SV.val (AVal.int .i64 x3))))], []⟩ h
theorem P16_0_eq (d k : Nat) (f0 : Bool) (l1 : List AVal) (l2 : List AVal) (x3 : Int) (h : Heap) : P16_0 d (k + 1) f0 l1 l2 x3 h =
  (bif (decide ((x3 : Int) < (l1.length : Int))) then
    (bif (decide ((0 : Int) ≤ x3) && decide ((x3 : Int) < (l1.length : Int))) then
      (slK 0 (l1.getD (Int.toNat x3) AVal.undef) fun fl1 es2 =>
        (bif (decide (((es2.length : Int) : Int) ≤ 65536)) then
          (bif (decide ((0 : Int) ≤ x3) && decide ((x3 : Int) < (l1.length : Int))) then
            (slK 0 (l1.getD (Int.toNat x3) AVal.undef) fun fl3 es4 =>
              (runK (evFn Cw d 21 [(AVal.sl false 0 l2), (AVal.int .u64 (IntKind.u64.wrap (es4.length : Int)))] h) fun r5 h5 =>
                (consK r5 fun w6 ws7 =>
                  (slOK 0 w6 fun es8 =>
                    (nilK ws7
                      (bif (decide ((0 : Int) ≤ x3) && decide ((x3 : Int) < (l1.length : Int))) then
                        (slK 0 (l1.getD (Int.toNat x3) AVal.undef) fun fl9 es10 =>
                          (bif decide ((es8.length + es10.length) * 1 ≤ 140737488355328) then (P16_0 d k f0 l1 (es8 ++ es10) (IntKind.i64.wrap (x3 + 1)) h5) else Tr.fail))
                      else
                        Tr.fail))))))
          else
            Tr.fail)
        else
          (P16_0 d k f0 l1 l2 (IntKind.i64.wrap (x3 + 1)) h)))
    else
      Tr.fail)
  else
    (Tr.ret ([(AVal.sl false 0 l2)], h))) := by kernel_rfl
theorem F16_eq (d : Nat) (f0 : Bool) (l1 : List AVal) (h : Heap) : evFn Cw (d + 1) 16 [(AVal.sl f0 0 l1)] h =
  (P16_0 d rounds f0 l1 [] 0 h) := by kernel_rfl
theorem rput_loop (d : Nat) (h : Heap) : ∀ (j k n : Nat) (l : List UInt8), n < 18446744073709551616 → n < 128 ^ (j + 1) → j < k → l.length + j + 1 ≤ 140737488355328 →
    Ans (P21_0 d k n (bys l) h) ([.sl false 0 (bys (l ++ enc n))], h) := by
  intro j
  have hd : ∀ n : Nat, n < 18446744073709551616 → IntKind.u64.wrap (Int.tdiv (n : Int) 128) = ((n / 128 : Nat) : Int) := fun n hn => by
    rw [Int.tdiv_eq_ediv_of_nonneg (by omega), wrap_u64_id (by omega) (by omega)]; omega
  have hb : ∀ n : Nat, IntKind.u8.wrap (IntKind.u64.wrap (128 + (Int.tmod (n : Int) 128))) = ((n % 128 + 128 : Nat) : Int) := fun n => by
    rw [Int.tmod_eq_emod_of_nonneg (by omega), wrap_u64_id (by omega) (by omega), wrap_u8_id (by omega) (by omega)]; omega
  induction j with
  | zero =>
    intro k n l hm hn hk hl
    obtain ⟨k, rfl⟩ : ∃ m, k = m + 1 := ⟨k - 1, by omega⟩
    have h1 : n < 128 := by simpa using hn
    rw [P21_0_eq, hd n hm, cond_of_not (by simp; omega), cond_of (by simp [bys_length]; omega), enc_lt h1, wrap_u8_id (by omega) (by omega), bys_one n (by omega), ← bys_append]
    exact Ans.ret _
  | succ j ih =>
    intro k n l hm hn hk hl
    obtain ⟨k, rfl⟩ : ∃ m, k = m + 1 := ⟨k - 1, by omega⟩
    by_cases h1 : n < 128
    · rw [P21_0_eq, hd n hm, cond_of_not (by simp; omega), cond_of (by simp [bys_length]; omega), enc_lt h1, wrap_u8_id (by omega) (by omega), bys_one n (by omega), ← bys_append]
      exact Ans.ret _
    · rw [P21_0_eq, hd n hm, cond_of (by simp; omega), cond_of (by simp [bys_length]; omega), enc_ge h1, hb, bys_one _ (by omega), ← bys_append]
      have := ih k (n / 128) (l ++ [UInt8.ofNat (n % 128 + 128)]) (by omega) (Nat.div_lt_of_lt_mul (by rw [Nat.pow_succ] at hn; omega)) (by omega) (by simp; omega)
      rw [List.append_assoc] at this
      exact this

theorem rput_ok (d : Nat) (f : Bool) (l : List UInt8) (n : Nat) (h : Heap) (hn : n < 18446744073709551616) (hl : l.length ≤ 140737488355000) :
    Ans (evFn Cw (d + 1) 21 [.sl f 0 (bys l), .int .u64 n] h) ([.sl false 0 (bys (l ++ enc n))], h) := by
  rw [F21_eq, cond_of (by simp [bys_length]; omega), List.nil_append]
  exact rput_loop d h 9 rounds n l hn (lt_128_10 hn) (rounds_gt _ (by omega)) (by omega)

theorem rput_run {d : Nat} {f : Bool} {l : List UInt8} {n : Nat} {h : Heap} {Q : Res → Prop} {tg : Hid Q} (hn : n < 18446744073709551616) (hl : l.length ≤ 140737488355000) :
    Run (evFn Cw (d + 1) 21 [.sl f 0 (bys l), .int .u64 n] h) Q tg = Q ([.sl false 0 (bys (l ++ enc n))], h) := (rput_ok d f l n h hn hl).at
theorem rpack_loop (d : Nat) (f : Bool) (h : Heap) (l : List (List UInt8)) (hb : (pks l).length ≤ 140737488200000) (hlen : l.length ≤ 40000000) : ∀ (n i k : Nat), l.length = i + n → n < k →
    Ans (P16_0 (d + 1) k f (flds l) (bys (pks (l.take i))) i h) ([.sl false 0 (bys (pks l))], h) := by
  intro n
  induction n with
  | zero =>
    intro i k hi hk
    obtain ⟨k, rfl⟩ : ∃ m, k = m + 1 := ⟨k - 1, by omega⟩
    refine Run.ans ?_
    rw [P16_0_eq, List.take_of_length_le (by omega)]
    simp (disch := (first | assumption | (simp only [Bool.and_eq_true, Bool.and_eq_false_iff, decide_eq_true_eq, decide_eq_false_iff_not, bne_iff_ne, beq_iff_eq, beq_eq_false_iff_ne, bne_eq_false_iff_eq, Bool.not_eq_true', Bool.not_eq_false', bys_length, List.length_append, List.length_cons, List.length_nil, List.length_map, List.length_drop, List.length_take, Int.natCast_add, wrap_i64_eq, wrap_u64, wrap_u8, ne_eq, not_true_eq_false, not_false_eq_true, Nat.zero_add, Nat.mul_one] <;> omega) | omega | (simp; done) | (simp; omega))) only [↓CR, MC, flds_length]
  | succ n ih =>
    intro i k hi hk
    obtain ⟨k, rfl⟩ : ∃ m, k = m + 1 := ⟨k - 1, by omega⟩
    have hi' : i < l.length := by omega
    have e : IntKind.i64.wrap ((i : Int) + 1) = ((i + 1 : Nat) : Int) := by rw [wrap_i64_id (by omega) (by omega)]; omega
    have hle := pks_le l i
    have ht := pks_take l i hi'
    refine Run.ans ?_
    rw [P16_0_eq]
    by_cases hx : 65536 < (l[i]).length
    · have e0 : pk l[i] = [] := by unfold pk; rw [if_pos hx]
      rw [e0, List.append_nil] at ht
      simp (disch := (first | assumption | (simp only [Bool.and_eq_true, Bool.and_eq_false_iff, decide_eq_true_eq, decide_eq_false_iff_not, bne_iff_ne, beq_iff_eq, beq_eq_false_iff_ne, bne_eq_false_iff_eq, Bool.not_eq_true', Bool.not_eq_false', bys_length, List.length_append, List.length_cons, List.length_nil, List.length_map, List.length_drop, List.length_take, Int.natCast_add, wrap_i64_eq, wrap_u64, wrap_u8, ne_eq, not_true_eq_false, not_false_eq_true, Nat.zero_add, Nat.mul_one] <;> omega) | omega | (simp; done) | (simp; omega))) only [↓CR, MC, flds_length, Int.toNat_natCast, flds_getD hi', e, ht, Ans.at (ih (i + 1) k (by omega) (by omega))]
    · have e0 : pk l[i] = enc (l[i]).length ++ l[i] := by unfold pk; rw [if_neg hx]
      have e1 : IntKind.u64.wrap (((bys l[i]).length : Nat) : Int) = (((l[i]).length : Nat) : Int) := by rw [bys_length, wrap_u64_id (by omega) (by omega)]
      have h2 := (enc_length 9 (l[i]).length (lt_128_10 (by omega))).2
      rw [e0, ← List.append_assoc] at ht
      simp (disch := (first | assumption | (simp only [Bool.and_eq_true, Bool.and_eq_false_iff, decide_eq_true_eq, decide_eq_false_iff_not, bne_iff_ne, beq_iff_eq, beq_eq_false_iff_ne, bne_eq_false_iff_eq, Bool.not_eq_true', Bool.not_eq_false', bys_length, List.length_append, List.length_cons, List.length_nil, List.length_map, List.length_drop, List.length_take, Int.natCast_add, wrap_i64_eq, wrap_u64, wrap_u8, ne_eq, not_true_eq_false, not_false_eq_true, Nat.zero_add, Nat.mul_one] <;> omega) | omega | (simp; done) | (simp; omega))) only [↓CR, MC, flds_length, Int.toNat_natCast, flds_getD hi', e, e1, rput_run, ← bys_append, ht, Ans.at (ih (i + 1) k (by omega) (by omega))]
theorem rpack_run {d : Nat} {f : Bool} {l : List (List UInt8)} {h : Heap} {Q : Res → Prop} {tg : Hid Q} (hb : (pks l).length ≤ 140737488200000) (hlen : l.length ≤ 40000000) :
    Run (evFn Cw (d + 2) 16 [.sl f 0 (flds l)] h) Q tg = Q ([.sl false 0 (bys (pks l))], h) := by
  have h1 := rpack_loop d f h l hb hlen l.length 0 rounds (by omega) (rounds_gt _ (by omega))
  have e : pks (l.take 0) = [] := by simp [pks]
  rw [Wa.e0, e, bys_nil] at h1
  rw [F16_eq]
  exact h1.at
end Go.Proofs.YtkpjkaikeeldfaaDoor.Wb
end

section
/- Split by definition: the region that draws its order, and calls. -/
namespace Go.Proofs.YtkpjkaikeeldfaaDoor.Wb
open Go Go.Weave Go.Proofs.YtkpjkaikeeldfaaDoor.Wa
set_option maxRecDepth 100000
set_option linter.unusedSimpArgs false
set_option linter.unusedVariables false
set_option linter.unusedSectionVars false

/-! ### Slots that no operation writes -/
def FrOf (ops : Array Oper) (a a' : Act) : Prop := a'.tmps.size = a.tmps.size ∧ ∀ s, (∀ o ∈ ops.toList, o.dst ≠ some s) → a'.tmps.getD s undef = a.tmps.getD s undef
theorem FrOf.refl (ops : Array Oper) (a : Act) : FrOf ops a a := ⟨rfl, fun _ _ => rfl⟩
theorem FrOf.put {ops : Array Oper} {a a' : Act} (h : FrOf ops a a') {o : Oper} (ho : o ∈ ops.toList) (v : Value) (df : List Deferred) : FrOf ops a ({ a' with defers := df }.put o.dst v) := by
  cases hd : o.dst with
  | none => exact h
  | some d =>
    refine ⟨by simp [Act.put, h.1], fun s hs => ?_⟩
    have hne : d ≠ s := fun e => hs o ho (by rw [hd, e])
    show (a'.tmps.setIfInBounds d v).getD s undef = _
    rw [← h.2 s hs]
    simp only [Array.getD_eq_getD_getElem?]
    rw [Array.getElem?_setIfInBounds_ne hne]
def QFr (ops : Array Oper) (a0 : Act) (Q : Exit → Act → World → Prop) : Exit → Act → World → Prop := fun e a w => Q e a w ∧ (e = .normal → FrOf ops a0 a)
theorem wp_put {P : Program} {ops : Array Oper} {a0 : Act} {o : Oper} {a : Act} {w : World} {K K' : Act → World → Prop} {Q : Exit → Act → World → Prop} (hK : ∀ v df w', K ({ a with defers := df }.put o.dst v) w' → K' ({ a with defers := df }.put o.dst v) w')
    (hh : o.wp P a w K Q) : o.wp P a w K' (QFr ops a0 Q) := by
  have hL : LetsOut Q → LetsOut (QFr ops a0 Q) := fun ⟨a, w, h⟩ => ⟨a, w, h, fun e => by cases e⟩
  have hK2 : ∀ v w', K (a.put o.dst v) w' → K' (a.put o.dst v) w' := fun v w' h => hK v a.defers w' h
  unfold Oper.wp at *
  generalize (execOp a.eval o).run P w = r at *
  cases r with
  | ok n w' =>
    cases n <;> simp only [Oper.upon] at hh ⊢ <;>
      first
        | exact hK2 _ _ hh
        | exact hK _ _ _ hh
        | exact Calls.mono hh (fun e w'' he => by cases e <;> first | exact hK2 _ _ he | exact ⟨he, fun e => by cases e⟩ | exact hL he)
        | exact Rows.mono hh (fun _ _ he => hK2 _ _ he)
  | halt x w' => cases x <;> simp only [Oper.upon] at hh ⊢ <;> first | exact ⟨hh, fun e => by cases e⟩ | exact hh
theorem wpAny_frame {P : Program} {md : Region.Mode} {ops : Array Oper} {Q : Exit → Act → World → Prop} {a0 : Act} : ∀ (n : Nat) (l : Array Bool) (a : Act) (w : World), FrOf ops a0 a → wpAny P md ops Q n l a w → wpAny P md ops (QFr ops a0 Q) n l a w
  | 0, l, a, w, hf, h => ⟨h.1, h.2, fun _ => hf⟩
  | n + 1, l, a, w, hf, h => by
    refine ⟨fun e => ⟨h.1 e, fun _ => hf⟩, fun i hi => ?_⟩
    have h1 := h.2 i hi
    unfold wpOp at h1 ⊢
    cases ho : ops[i]? with
    | none => simp only [ho] at h1; exact wpAny_frame n _ a w hf h1
    | some o =>
      simp only [ho] at h1
      have hm : o ∈ ops.toList := Array.mem_toList_iff.2 (Array.mem_of_getElem? ho)
      by_cases hw : Region.wanted o (yielded ops a.tmps) = true
      · simp only [hw, if_true] at h1 ⊢
        rcases h1 with h1 | ⟨h1, a1, w1, h2⟩
        · exact .inl (wp_put (fun v df w' hk => wpAny_frame n _ _ w' (hf.put hm v df) hk) h1)
        · exact .inr ⟨h1, a1, w1, h2, fun e => by cases e⟩
      · simp only [hw] at h1 ⊢
        exact wpAny_frame n _ _ w (hf.put hm undef a.defers) h1

/-! ### The region -/
def regOf (n : Nat) : Code → Option (Array Oper)
  | .region m ops _ => if m = n then some ops else none
  | .seq x y | .cond _ x y => (regOf n x).or (regOf n y)
  | .block _ x | .loop x | .scope x => regOf n x
  | _ => none
noncomputable def ops5 : Array Oper := ((Tryd.f7).body.bind (regOf 5)).getD #[]
def K5 (k : List AVal → Heap → Tr Res) : Ex → Fr → Heap → Tr Res := fun e fr h =>
  match e with
  | .normal => (match Weave.look 5 fr.env with | some (.cv (.one (.own _ 0 es))) => k es h | _ => .fail)
  | _ => .fail
theorem R5_eq (d : Nat) (ag : Again) (f0 : Bool) (l1 : List AVal) (x2 : Int) (h : Heap) (k : List AVal → Heap → Tr Res) : codeK Cw (Cw.ann 7) (evFn Cw d) ag (.region 5 ops5 true) ⟨[(0, .one (.val (.sl f0 3 l1))), (4, .one (.val (.int .i64 x2)))], []⟩ h (K5 k) =
  (bif (decide ((0 : Int) ≤ x2) && decide ((x2 : Int) < (l1.length : Int))) then
    (bif (decide ((0 : Int) ≤ x2) && decide ((x2 : Int) < (l1.length : Int))) then
      (Tr.anyL [
        (optK ((AVal.cells (l1.getD (Int.toNat x2) AVal.undef))[0]?) fun w1 =>
          (strK w1 fun ss2 =>
            (Tr.anyL [
              (optK ((AVal.cells (l1.getD (Int.toNat x2) AVal.undef))[1]?) fun w3 =>
                (strK w3 fun ss4 =>
                  (runK (evFn Cw d 16 [(AVal.sl true 0 [(AVal.sl false 0 (ss2.map ofByte)), (AVal.sl false 0 (ss4.map ofByte))])] h) fun r5 h5 =>
                    (consK r5 fun w6 ws7 =>
                      (slOK 0 w6 fun es8 =>
                        (nilK ws7
                          (k es8 h5))))))),
              (optK ((AVal.cells (l1.getD (Int.toNat x2) AVal.undef))[1]?) fun w3 =>
                (strK w3 fun ss4 =>
                  (sameL 2
                    (runK (evFn Cw d 16 [(AVal.sl true 0 [(AVal.sl false 0 (ss2.map ofByte)), (AVal.sl false 0 (ss4.map ofByte))])] h) fun r5 h5 =>
                      (consK r5 fun w6 ws7 =>
                        (slOK 0 w6 fun es8 =>
                          (nilK ws7
                            (k es8 h5))))))))]))),
        (optK ((AVal.cells (l1.getD (Int.toNat x2) AVal.undef))[1]?) fun w1 =>
          (strK w1 fun ss2 =>
            (Tr.anyL [
              (optK ((AVal.cells (l1.getD (Int.toNat x2) AVal.undef))[0]?) fun w3 =>
                (strK w3 fun ss4 =>
                  (sameL 2
                    (runK (evFn Cw d 16 [(AVal.sl true 0 [(AVal.sl false 0 (ss4.map ofByte)), (AVal.sl false 0 (ss2.map ofByte))])] h) fun r5 h5 =>
                      (consK r5 fun w6 ws7 =>
                        (slOK 0 w6 fun es8 =>
                          (nilK ws7
                            (k es8 h5)))))))),
              (optK ((AVal.cells (l1.getD (Int.toNat x2) AVal.undef))[0]?) fun w3 =>
                (strK w3 fun ss4 =>
                  (runK (evFn Cw d 16 [(AVal.sl true 0 [(AVal.sl false 0 (ss4.map ofByte)), (AVal.sl false 0 (ss2.map ofByte))])] h) fun r5 h5 =>
                    (consK r5 fun w6 ws7 =>
                      (slOK 0 w6 fun es8 =>
                        (nilK ws7
                          (k es8 h5)))))))])))])
    else
      Tr.fail)
  else
    Tr.fail) := by kernel_rfl
end Go.Proofs.YtkpjkaikeeldfaaDoor.Wb
end

section
/- Split by definition: what a round's region makes. -/
namespace Go.Proofs.YtkpjkaikeeldfaaDoor.Wb
open Go Go.Weave Go.Proofs.YtkpjkaikeeldfaaDoor.Wa
set_option maxRecDepth 100000
set_option linter.unusedSimpArgs false
set_option linter.unusedVariables false
set_option linter.unusedSectionVars false

theorem encS_eq {n : Nat} (h : n < 16384) : enc n = encS n := by
  unfold encS
  by_cases h1 : n < 128
  · rw [if_pos h1, enc_lt h1]
  · rw [if_neg h1, enc_ge h1, enc_lt (by omega)]
theorem pkS_eq {f : List UInt8} (h : f.length ≤ 128) : pk f = pkS f := by unfold pk pkS; rw [if_neg (by omega), encS_eq (by omega)]
theorem pkS_len {f : List UInt8} (h : f.length ≤ 128) : 1 ≤ (pkS f).length ∧ (pkS f).length ≤ 130 := by
  unfold pkS encS
  split <;> simp <;> omega
theorem pkP_len {p : List UInt8 × List UInt8} (h1 : p.1.length ≤ 24) (h2 : p.2.length ≤ 128) : 2 ≤ (pkP p).length ∧ (pkP p).length ≤ 260 := by
  have a := pkS_len (f := p.1) (by omega)
  have b := pkS_len (f := p.2) h2
  unfold pkP
  rw [List.length_append]; omega
def tok0 : Owner → Option Nat := fun _ => none
/-- A slice that stands whole, or whose row, a new one, ends where it ends. -/
def Tight (B : Nat) (c : Ctx) : Value → Prop
  | .slice (some a) len cap => len = cap ∨ (B ≤ a.block ∧ c.κ a.block = some (a.off + len * cnt 0) ∧ ∃ xs el, c.w.heap[a.block]? = some (.cells xs el (0, 0)) ∧ a.off + cap * cnt 0 ≤ xs.size)
  | _ => True
theorem tight_of {B : Nat} {c : Ctx} {ob : Option Nat} {v : Value} (h : OwnAt c ob 0 v) (hb : ∀ b, ob = some b → B ≤ b) : Tight B c v := by
  cases v with
  | slice x len cap =>
    cases x with
    | none => trivial
    | some a =>
      rcases h with h | ⟨h1, h2, h3⟩
      · exact .inl h
      · exact .inr ⟨hb _ h1, h2, h3⟩
  | _ => trivial
theorem Tight.mono {B B' : Nat} {c : Ctx} {v : Value} (h : Tight B c v) (hB : B' ≤ B) : Tight B' c v := by
  cases v with
  | slice x len cap =>
    cases x with
    | none => trivial
    | some a => exact h.imp id fun h => ⟨Nat.le_trans hB h.1, h.2⟩
  | _ => trivial
theorem brel0 {c : Ctx} {β : Owner → Option Nat} (h : BRel c β) : BRel c tok0 := ⟨fun _ _ h => (by cases h), fun _ _ h => (by cases h), fun _ _ _ h => (by cases h), h.lim, fun _ _ _ h => (by cases h)⟩
theorem hrel0 {c : Ctx} (hn : c.n = 0) (β : Owner → Option Nat) : HRel c β ⟨[]⟩ := ⟨hn, fun id o h => (by simp at h), fun id h => (by omega), fun id _ h => (by omega)⟩
theorem mixedB : Cw.P.follows .mixedOrders = true := by kernel_rfl
theorem dstB : DstOK Cw.P := dstOk_of (by kernel_rfl)
theorem callB (d : Nat) (c : Ctx) : CallOK Cw (evFn Cw d) c := evFn_ok mixedB dstB ⟨fun _ _ h => (by cases h), fun _ _ h => (by cases h)⟩ d
/-- Everything that lay before is as it was. -/
abbrev bs (n : Nat) : Bs := ⟨n, fun _ => False⟩
theorem region_fr {C : Cfg} {A : Ann} {call : FuncId → List AVal → Heap → Tr Res} {base : Bs} {c0 : Ctx} {N : Nat} {Q : Res → Prop} (hm : C.P.follows .mixedOrders = true) (hC : CallOK C call c0) {again : Again} {id : Nat} {ops : Array Oper} {S : Sc} {fr : Fr} {a : Act} {w : World} {K : Ex → Fr → Heap → Tr Res} {Qx : Exit → Act → World → Prop}
    (hd : codeDst N (.region id ops true) = true) (hat : At C base c0 N S fr a w) (hq : (codeK C A call again (.region id ops true) fr S.H K).All Q) (hK : Weave.Ends C base c0 N Q K Qx) : (Code.region id ops true).wp C.P (QFr ops a Qx) a w := by
  simp only [codeK] at hq
  simp only [cond_true] at hq
  obtain ⟨hsel, hq⟩ := all_bif hq
  have hrep : (Array.replicate ops.size false) = (List.replicate ops.size false).toArray := by simp
  have go : ∀ {S : Sc} {fr : Fr}, At C base c0 N S fr a w → (anyK C A call ops ops.size (List.replicate ops.size false) fr S.H (K .normal)).All Q → (Code.region id ops true).wp C.P (QFr ops a Qx) a w := fun {S fr} hat hq => by
    obtain ⟨r1, p1⟩ := hat.rel.sameHeap (w' := { w with drawn := w.drawn + 1 }) rfl ⟨rfl, rfl⟩
    have hat' := hat.then p1 r1 hat.keys rfl
    have hwp : (Code.region id ops true).wp C.P (QFr ops a fun e a w => e = .normal ∧ Qx .normal a w) a w := wp_region_any hm (wpAny_frame _ _ _ _ (FrOf.refl _ _) (by
      rw [hrep]
      exact (anyK_ok hC (opsDst_spec hd) hsel (fun S' fr' a' w' h' hk => hK .normal S' fr' a' w' h' hk) _ _ (fun _ _ => True) (fun _ _ _ _ _ => trivial) hat' hq).any))
    refine Code.wp_mono (fun e a w he => ?_) hwp
    refine ⟨?_, he.2⟩
    rw [he.1.1]; exact he.1.2
  unfold anyS at hq
  split at hq
  · exact go hat hq
  · obtain ⟨S1, fr1, e1, p1, r1, hq⟩ := frzL_ok _ hat.rel hq
    rw [← e1] at hq
    exact go (hat.then p1 r1 (by rw [e1]; exact hat.keys) rfl) hq
theorem R5_wp {c : Ctx} (hn : c.n = 0) (hb : BRel c tok0) {vl : Value} {f0 : Bool} {L : List KPair} (rl : Rep c vl (.sl f0 3 (prs L))) {i : Nat} (hi : i < L.length) (hk : (L[i]).key.length ≤ 24) (hv : (L[i]).val.length ≤ 128)
    {a : Act} (ha : a.defers = []) (hs : 57 ≤ a.tmps.size) (h0 : a.tmps.getD 0 undef = vl) (h4 : a.tmps.getD 4 undef = .int .i64 i) {Qx : Exit → Act → World → Prop}
    (hQ : ∀ (c' : Ctx) (a' : Act) (v : Value), Pres (bs c.w.heap.size) c tok0 c' tok0 → c'.n = 0 → BRel c' tok0 → FrOf ops5 a a' → a'.defers = [] → a'.tmps.getD 5 undef = v → Rep c' v (.sl false 0 (bys (pkP ((L[i]).key, (L[i]).val)))) → Tight c.w.heap.size c' v → Qx .normal a' c'.w) :
    (Code.region 5 ops5 true).wp Tryd.prog Qx a c.w := by
  let S0 : Sc := ⟨c, tok0, fun _ => 0, fun _ => (0, 0), ⟨[]⟩, []⟩
  have hat : At Cw (bs c.w.heap.size) c 57 S0 ⟨[(0, .one (.val (.sl f0 3 (prs L)))), (4, .one (.val (.int .i64 i)))], []⟩ a c.w := {
    pres := Pres.refl _ _ _ _
    rel := {
      w := rfl
      defers := ha
      heap := hrel0 hn _
      own := hb
      baseLe := Nat.le_refl _
      bx := rfl
      env := fun s e he => by
        simp only [Weave.look] at he
        by_cases e0 : s = 0
        · subst e0
          simp at he
          subst he
          show RepE S0 (a.tmps.getD 0 undef) _
          rw [h0]; exact rl
        · by_cases e4 : s = 4
          · subst e4
            simp at he
            subst he
            show RepE S0 (a.tmps.getD 4 undef) _
            rw [h4]; exact Rep.int _ _
          · have n0 : (0 == s) = false := by simp; omega
            have n4 : (4 == s) = false := by simp; omega
            rw [n0, n4] at he
            simp at he
      box := fun d b h => by simp [Weave.look] at h
      boxκ := fun d b h => by simp [Weave.look] at h
      boxι := fun d b h => by simp [Weave.look] at h
      boxinj := fun d d' b b' h => by simp [Weave.look] at h
      boxbase := fun d b h => by simp [Weave.look] at h
      tokbase := fun g b h => by cases h
      mgd := fun b h => by
        rcases h with ⟨id, h, _⟩ | ⟨id, o, h⟩
        · have h : id < c.n := h
          omega
        · cases h }
    keys := fun id kt es c h => by
      change ([] : List Weave.Obj)[id]? = _ at h
      simp at h
    size := hs }
  have hpk : pks [(L[i]).key, (L[i]).val] = pkP ((L[i]).key, (L[i]).val) := by
    have e : pks [(L[i]).key, (L[i]).val] = pk (L[i]).key ++ pk (L[i]).val := by simp [pks]
    rw [e, pkS_eq (by omega), pkS_eq hv]; rfl
  have hlen := pkP_len (p := ((L[i]).key, (L[i]).val)) hk hv
  have rp := fun (Q : Res → Prop) (tg : Hid Q) => Wb.rpack_run (d := 1) (f := true) (l := [(L[i]).key, (L[i]).val]) (h := ⟨[]⟩) (Q := Q) (tg := tg) (by rw [hpk]; omega) (by simp)
  have ef : flds [(L[i]).key, (L[i]).val] = [.sl false 0 ((L[i]).key.map ofByte), .sl false 0 ((L[i]).val.map ofByte)] := of_eq_true (eq_self _)
  rw [ef, hpk] at rp
  have q1 : (decide ((0 : Int) ≤ (i : Nat)) && decide (((i : Nat) : Int) < ((prs L).length : Int))) = true := by simp [prs_length]; omega
  have hq : Run (codeK Cw (Cw.ann 7) (evFn Cw 3) (fun _ _ _ _ _ => .fail) (.region 5 ops5 true) ⟨[(0, .one (.val (.sl f0 3 (prs L)))), (4, .one (.val (.int .i64 i)))], []⟩ ⟨[]⟩ (K5 fun es h => .ret ([.sl false 0 es], h)))
      (fun r => r = ([.sl false 0 (bys (pkP ((L[i]).key, (L[i]).val)))], ⟨[]⟩)) ⟨⟩ := by
    rw [R5_eq]
    simp (disch := (first | assumption | (simp only [Bool.and_eq_true, Bool.and_eq_false_iff, decide_eq_true_eq, decide_eq_false_iff_not, bne_iff_ne, beq_iff_eq, beq_eq_false_iff_ne, bne_eq_false_iff_eq, Bool.not_eq_true', Bool.not_eq_false', bys_length, List.length_append, List.length_cons, List.length_nil, List.length_map, List.length_drop, List.length_take, Int.natCast_add, wrap_i64_eq, wrap_u64, wrap_u8, ne_eq, not_true_eq_false, not_false_eq_true, Nat.zero_add, Nat.mul_one] <;> omega) | omega | (simp; done) | (simp; omega))) only [↓CR, MC, ↓PR, MR, q1, prs_getD hi, rp]
  have hwp := region_fr (C := Cw) (base := bs c.w.heap.size) (c0 := c) (N := 57) (Q := fun r => r = ([.sl false 0 (bys (pkP ((L[i]).key, (L[i]).val)))], ⟨[]⟩)) (Qx := fun e a' w' => ∃ (c' : Ctx) (v : Value), e = .normal ∧ w' = c'.w ∧ Pres (bs c.w.heap.size) c tok0 c' tok0 ∧ c'.n = 0 ∧ BRel c' tok0 ∧ a'.defers = [] ∧ a'.tmps.getD 5 undef = v ∧ Rep c' v (.sl false 0 (bys (pkP ((L[i]).key, (L[i]).val)))) ∧ Tight c.w.heap.size c' v) mixedB (callB 3 c) (by kernel_rfl) hat hq.all
    (fun e S fr a' w' hat' hk => by
      cases e with
      | normal =>
        simp only [K5] at hk
        split at hk
        · rename_i g sz es hlk
          have hk : ([AVal.sl false 0 es], S.H) = ([.sl false 0 (bys (pkP ((L[i]).key, (L[i]).val)))], ⟨[]⟩) := hk
          simp only [Prod.mk.injEq, List.cons.injEq, AVal.sl.injEq, true_and, and_true] at hk
          obtain ⟨rfl, hH⟩ := hk
          have he := hat'.rel.env 5 _ hlk
          obtain ⟨h1, h2⟩ := he
          refine ⟨S.c, _, rfl, hat'.rel.w.symm, ⟨hat'.pres.le, hat'.pres.size, hat'.pres.same, hat'.pres.io⟩, ?_, brel0 hat'.rel.own, hat'.rel.defers, rfl, ?_, ?_⟩
          · have := hat'.rel.heap.n; rw [hH] at this; exact this
          · exact h1
          · exact tight_of h2 fun b hb => (hat'.rel.tokbase _ b hb).resolve_right fun h => h
        · exact hk.elim
      | _ => exact hk.elim)
  refine Code.wp_mono (fun e a' w' he => ?_) hwp
  obtain ⟨⟨c', v, rfl, rfl, h1, h2, h3, h4, h5, h6, h7⟩, h8⟩ := he
  exact hQ c' a' v h1 h2 h3 (h8 rfl) h4 h5 h6 h7
end Go.Proofs.YtkpjkaikeeldfaaDoor.Wb
end

section
/- Split by definition: the last piece gets longer. -/
namespace Go.Proofs.YtkpjkaikeeldfaaDoor.Wb
open Go Go.Weave Go.Proofs.YtkpjkaikeeldfaaDoor.Wa
set_option maxRecDepth 100000
set_option linter.unusedSimpArgs false
set_option linter.unusedVariables false
set_option linter.unusedSectionVars false

theorem elB : elOk Tryd.prog 5 = true := by kernel_rfl
theorem shpB : shp Tryd.prog 5 = 0 := by kernel_rfl
theorem bytesB : bytesOf Tryd.prog 5 = 1 := by kernel_rfl
/-- What lies in rows that nobody froze is as it was. -/
structure Kept (c c' : Ctx) (B : Nat) : Prop where
  le : c.le c'
  n : c'.n = 0
  own : BRel c' tok0
  size : c.w.heap.size ≤ c'.w.heap.size
  io : c'.w.os = c.w.os ∧ c'.w.output = c.w.output
  same : ∀ b, b < c.w.heap.size → (b < B ∨ c.κ b = none) → c'.w.heap[b]? = c.w.heap[b]? ∧ c'.κ b = c.κ b
theorem Kept.trans {a b c : Ctx} {B : Nat} (h1 : Kept a b B) (h2 : Kept b c B) : Kept a c B :=
  ⟨Ctx.le_trans h1.le h2.le, h2.n, h2.own, Nat.le_trans h1.size h2.size, ⟨h2.io.1.trans h1.io.1, h2.io.2.trans h1.io.2⟩, fun x hx hk => by
    obtain ⟨e1, k1⟩ := h1.same x hx hk
    obtain ⟨e2, k2⟩ := h2.same x (Nat.lt_of_lt_of_le hx h1.size) (by rw [k1]; exact hk)
    exact ⟨e2.trans e1, k2.trans k1⟩⟩
theorem Kept.of_pres {c c' : Ctx} {B : Nat} (h : Pres (bs c.w.heap.size) c tok0 c' tok0) (hn : c'.n = 0) (hb : BRel c' tok0) : Kept c c' B :=
  ⟨h.le, hn, hb, h.size, h.io, fun b hbs _ => h.same b (fun h => h.elim (fun h => by have h : c.w.heap.size ≤ b := h; omega) id)⟩
theorem append_piece {B : Nat} {c : Ctx} (hn : c.n = 0) (hb : BRel c tok0) (hB : B ≤ c.w.heap.size) {vx vy : Value} {p q : List UInt8} (rx : Rep c vx (.sl false 0 (bys p))) (tx : Tight B c vx) (ry : Rep c vy (.sl false 0 (bys q))) (hl : p.length + q.length ≤ 1000) (tr : TypeId) :
    ∃ v c', (Builtin.append_ #[43, 43] tr #[vx, vy]).run Tryd.prog c.w = .ok v c'.w ∧ Kept c c' B ∧ Rep c' v (.sl false 0 (bys (p ++ q))) ∧ Tight B c' v := by
  obtain ⟨ob, hO, hob⟩ : ∃ ob : Option Nat, OwnAt c ob 0 vx ∧ ∀ b, ob = some b → B ≤ b ∧ c.κ b ≠ none := by
    cases vx with
    | slice x len cap =>
      cases x with
      | none => exact ⟨none, trivial, fun b h => by cases h⟩
      | some a =>
        rcases tx with h | ⟨h1, h2, h3⟩
        · exact ⟨none, .inl h, fun b h => by cases h⟩
        · exact ⟨some a.block, .inr ⟨rfl, h2, h3⟩, fun b h => by cases h; exact ⟨h1, by rw [h2]; simp⟩⟩
    | _ => exact ⟨none, trivial, fun b h => by cases h⟩
  let base : Bs := ⟨c.w.heap.size, fun b => B ≤ b ∧ c.κ b ≠ none⟩
  let S0 : Sc := ⟨c, tok0, fun _ => 0, fun _ => (0, 0), ⟨[]⟩, []⟩
  have hrel : Rel base S0 ⟨[], []⟩ { tmps := #[undef], defers := [] } c.w := {
    w := rfl
    defers := rfl
    heap := hrel0 hn _
    own := hb
    baseLe := Nat.le_refl _
    bx := rfl
    env := fun s e he => by simp [Weave.look] at he
    box := fun d b h => by simp [Weave.look] at h
    boxκ := fun d b h => by simp [Weave.look] at h
    boxι := fun d b h => by simp [Weave.look] at h
    boxinj := fun d d' b b' h => by simp [Weave.look] at h
    boxbase := fun d b h => by simp [Weave.look] at h
    tokbase := fun g b h => by cases h
    mgd := fun b h => by
      rcases h with ⟨id, h, _⟩ | ⟨id, o, h⟩
      · have h : id < c.n := h
        omega
      · cases h }
  obtain ⟨v, w', S', hrun, p1, hH, r1, _, _⟩ := append_core (P := Tryd.prog) (w := c.w) (S := S0) (base := base) (fr := ⟨[], []⟩) (a := { tmps := #[undef], defers := [] }) (t := 43) (ty := 43) (e := 5) (tr := tr) (d := 0) (vx := vx) (vy := vy) (full := false) (es := bys p) (ys := bys q) (ob := ob)
    hrel (by simp) Tryd.underlying43 Tryd.underlying43 (fun k h => by cases h) elB (by rw [bytesB]; omega) (by rw [bytesB, bys_length, bys_length]; omega) (by rw [shpB]; exact rx) (by rw [shpB]; exact hO) (fun b h => ⟨fun o h => (by cases h), .inr (hob b h)⟩)
    (by rw [shpB]; exact src_ok (P := Tryd.prog) (by kernel_rfl) ry) (by rfl)
  have he := r1.env 0 _ rfl
  have hv : (({ tmps := #[undef], defers := [] } : Act).put (some 0) v).tmps.getD 0 undef = v := rfl
  rw [hv, shpB, ← bys_append] at he
  obtain ⟨h1, h2⟩ := he
  have hw : S'.c.w = w' := r1.w
  refine ⟨v, S'.c, by rw [hw]; exact hrun, ⟨p1.le, ?_, brel0 r1.own, p1.size, p1.io, fun b hbs hk => p1.same b fun h => ?_⟩, h1, tight_of h2 fun b hb => ?_⟩
  · have := r1.heap.n
    rw [hH] at this
    exact this
  · rcases h with h | ⟨h, h'⟩
    · have h : c.w.heap.size ≤ b := h
      omega
    · rcases hk with hk | hk
      · omega
      · exact h' hk
  · rcases r1.tokbase _ b hb with h | ⟨h, _⟩
    · have h : c.w.heap.size ≤ b := h
      omega
    · exact h
end Go.Proofs.YtkpjkaikeeldfaaDoor.Wb
end
