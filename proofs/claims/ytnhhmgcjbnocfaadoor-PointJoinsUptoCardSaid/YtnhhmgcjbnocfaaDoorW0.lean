/- What the evaluator is told ahead of each function (nothing of it is trusted). -/
import Derived.Test.YtnhhmgcjbnocfaaDoorWvZ
import Derived.Test.YtnhhmgcjbnocfaaDoorProg
import Derived.KernelRfl
namespace Go.Proofs.YtnhhmgcjbnocfaaDoor.Wa
open Go Go.Weave
set_option maxRecDepth 100000
set_option linter.unusedVariables false
def annw : FuncId → Ann := fun f => match f with
  | 28 => { keep := [(2, [.plain 1, .own 5 0])], rown := [0] }
  | 30 => { keep := [(3, [.plain 5, .plain 8, .plain 9, .plain 10])] }
  | 26 => { keep := [(4, [.plain 0, .plain 5, .plain 6, .plain 7])] }
  | 29 => { rown := [0] }
  | 21 => { rown := [0] }
  | 23 => { rown := [0] }
  | 18 => { keep := [(3, [.own 3 0, .plain 6, .plain 7, .plain 8])], rown := [0] }
  | 24 => { keep := [(2, [.plain 0, .own 4 0])], rown := [0] }
  | 15 => { keep := [(3, [.plain 0, .own 4 0, .plain 5])], rown := [0] }
  | 9 => { keep := [(4, [.plain 0, .plain 1, .plain 5])] }
  | 13 => { keep := [(2, [.plain 0, .plain 5, .plain 6, .plain 7])], loc := [(4, false)] }
  | 11 => { keep := [(7, [.plain 4, .plain 5, .plain 6, .plain 14, .plain 15, .plain 16])], loc := [(8, false)] }
  | 19 => { keep := [(6, [.own 4 0, .own 6 3, .plain 7])], rown := [0] }
  | 20 => { keep := [(3, [.plain 5, .plain 10, .plain 11, .plain 12])] }
  | 12 => { keep := [(4, [.box 3 [], .own 5 3, .box 6 [], .plain 14, .plain 15, .plain 16])], loc := [(3, false), (6, false)], rown := [0] }
  | 7 => { loc := [(2, false), (5, false)] }
  | 4 => { loc := [(3, false)] }
  | 5 => { loc := [(2, false), (7, false)], rown := [0] }
  | 8 => { keep := [(3, [.plain 0, .own 4 3, .plain 5]), (9, [.plain 0, .own 4 3, .plain 5, .own 6 0, .plain 8])], rown := [0] }
  | 14 => { keep := [(2, [.plain 0, .plain 3])] }
  | 22 => { keep := [(3, [.plain 1, .plain 5, .plain 6]), (7, [.plain 1, .plain 5, .plain 6, .plain 7])] }
  | 10 => { keep := [(4, [.plain 0, .box 2 [], .own 3 3, .own 5 0, .plain 6])], loc := [(2, false)] }
  | 6 => { loc := [(2, false)], rown := [0] }
  | 3 => { loc := [(2, false), (9, false)] }
  | _ => {}
noncomputable def Cw : Cfg := ⟨Tryd.prog, annw, fun _ => none, fun g => match g with | 0 => some (AVal.elt (AVal.agg [(AVal.int .u32 0), (AVal.int .u32 274646895), (AVal.int .u32 549293790), (AVal.int .u32 820201905), (AVal.int .u32 1098587580), (AVal.int .u32 1361435347), (AVal.int .u32 1640403810), (AVal.int .u32 1905808397), (AVal.int .u32 2197175160), (AVal.int .u32 2460548119), (AVal.int .u32 2722870694), (AVal.int .u32 2987750089), (AVal.int .u32 3280807620), (AVal.int .u32 3553878443), (AVal.int .u32 3811616794), (AVal.int .u32 4084100981)]) true 16 0) | _ => none⟩
@[simp] theorem plain24 (x0 : Int) (x1 : Int) (x2 : Int) : plainOk Cw.P 24 (AVal.agg [AVal.int .i64 x0, AVal.int .i64 x1, AVal.int .u32 x2]) = true := by kernel_rfl
@[simp] theorem plain31 (x0 : Int) (x1 : Int) (x2 : Int) : plainOk Cw.P 31 (AVal.agg [AVal.int .i64 x0, AVal.int .i64 x1, AVal.int .u32 x2]) = true := by kernel_rfl
@[simp] theorem plain43 (x0 : List UInt8) (x1 : List UInt8) : plainOk Cw.P 43 (AVal.agg [AVal.str x0, AVal.str x1]) = true := by kernel_rfl
end Go.Proofs.YtnhhmgcjbnocfaaDoor.Wa
