/- What the evaluator is told ahead of each function (nothing of it is trusted). -/
import Derived.Test.YtkpjkaikeeldfaaWvZ
import Derived.Test.YtkpjkaikeeldfaaProg
import Derived.KernelRfl
namespace Go.Proofs.Ytkpjkaikeeldfaa.Wa
open Go Go.Weave
set_option maxRecDepth 100000
set_option linter.unusedVariables false
def annw : FuncId → Ann := fun f => match f with
  | 19 => { keep := [(2, [.plain 1, .own 5 0])], rown := [0] }
  | 21 => { keep := [(3, [.plain 5, .plain 8, .plain 9, .plain 10])] }
  | 23 => { keep := [(2, [.plain 1, .own 5 0])], rown := [0] }
  | 31 => { keep := [(4, [.plain 0, .plain 5, .plain 6, .plain 7])] }
  | 28 => { rown := [0] }
  | 30 => { rown := [0] }
  | 27 => { rown := [0] }
  | 18 => { keep := [(3, [.own 3 0, .plain 6, .plain 7, .plain 8])], rown := [0] }
  | 22 => { keep := [(3, [.plain 0, .own 3 0, .plain 4])], rown := [0] }
  | 7 => { loc := [(1, false)] }
  | 6 => { keep := [(8, [.box 1 [], .plain 4, .own 5 0])], join := [8], loc := [(1, false)], rown := [0] }
  | 29 => { loc := [(2, false), (4, false)] }
  | 8 => { loc := [(1, false)] }
  | 26 => { keep := [(6, [.plain 0, .box 2 [], .box 4 []]), (9, [.plain 0, .box 2 [], .box 4 [], .plain 5, .own 6 0, .plain 7])], join := [6], loc := [(2, false), (4, false)] }
  | 10 => { keep := [(7, [.box 2 [], .plain 4, .box 5 []])], join := [7], loc := [(2, false), (5, false)] }
  | 11 => { keep := [(6, [.box 1 [], .plain 3, .box 4 []])], join := [6], loc := [(1, false)], xs := [4], rown := [0] }
  | 3 => { loc := [(1, false), (5, false)] }
  | 24 => { keep := [(3, [.plain 0, .plain 1, .box 4 [], .plain 6, .plain 19, .plain 20]), (10, [.plain 0, .box 4 [], .plain 6, .box 9 [(0, 7), (1, 0)], .plain 10])], loc := [(4, false), (9, true), (13, false), (15, false)] }
  | 13 => { loc := [(6, false)] }
  | 15 => { loc := [(5, false)] }
  | 16 => { loc := [(5, false)] }
  | 25 => { keep := [(2, [.plain 0, .plain 1, .plain 5])] }
  | 17 => { keep := [(12, [.plain 0, .plain 1, .plain 8, .box 9 [], .plain 11])], join := [12], loc := [(9, false), (16, false)], rown := [0, 1] }
  | 14 => { keep := [(4, [.plain 0, .plain 1, .plain 5])] }
  | 5 => { keep := [(9, [.plain 7, .own 9 0, .plain 12])] }
  | 4 => { keep := [(3, [.plain 0, .plain 1, .plain 2, .plain 7, .plain 8]), (14, [.plain 0, .plain 1, .plain 2, .plain 7, .plain 9, .own 11 6, .plain 12])] }
  | _ => {}
noncomputable def Cw : Cfg := ⟨Try.prog, annw, fun _ => none, fun _ => none⟩
@[simp] theorem plain23 (x0 : List UInt8) (x1 : Bool) (x2 : Bool) (x3 : List UInt8) (x4 : List UInt8) (x5 : Int) : plainOk Cw.P 23 (AVal.agg [AVal.str x0, AVal.bool x1, AVal.bool x2, AVal.str x3, AVal.str x4, AVal.int .i64 x5]) = true := by kernel_rfl
end Go.Proofs.Ytkpjkaikeeldfaa.Wa
