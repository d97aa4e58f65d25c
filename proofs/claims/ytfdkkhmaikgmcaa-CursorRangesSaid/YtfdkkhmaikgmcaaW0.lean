/- What the evaluator is told ahead of each function (nothing of it is trusted). -/
import Derived.Test.YtfdkkhmaikgmcaaWvZ
import Derived.Test.YtfdkkhmaikgmcaaProg
import Derived.KernelRfl
namespace Go.Proofs.Ytfdkkhmaikgmcaa.Wa
open Go Go.Weave
set_option maxRecDepth 100000
set_option linter.unusedVariables false
def annw : FuncId → Ann := fun f => match f with
  | 73 => { keep := [(2, [.plain 1, .own 5 0])], rown := [0] }
  | 75 => { keep := [(2, [.plain 0, .plain 3])] }
  | 78 => { keep := [(3, [.plain 5, .plain 8, .plain 9, .plain 10])] }
  | 74 => { keep := [(2, [.plain 1, .own 5 0])], rown := [0] }
  | 72 => { keep := [(4, [.plain 0, .plain 5, .plain 6, .plain 7])] }
  | 23 => { loc := [(2, false), (3, false)] }
  | 15 => { loc := [(2, false), (3, false)] }
  | 21 => { loc := [(1, false)] }
  | 25 => { loc := [(1, false)] }
  | 18 => { loc := [(1, false)], rown := [0] }
  | 22 => { loc := [(1, false)] }
  | 24 => { loc := [(1, false)], rown := [0] }
  | 20 => { loc := [(1, false)], rown := [0] }
  | 16 => { keep := [(6, [.plain 0, .box 2 [], .box 4 []])], join := [6], loc := [(2, false), (4, false)] }
  | 17 => { keep := [(13, [.plain 0, .box 2 [], .plain 4, .plain 5, .plain 7, .plain 8]), (14, [.box 2 [], .box 9 []])], join := [13, 14], loc := [(2, false), (9, false)] }
  | 4 => { loc := [(3, false), (5, false)] }
  | 5 => { keep := [(8, [.box 1 [], .own 3 0, .plain 4, .plain 7])], join := [8], loc := [(1, false), (8, false)] }
  | 98 => { rown := [0] }
  | 80 => { rown := [0] }
  | 97 => { rown := [0] }
  | 76 => { keep := [(3, [.own 3 0, .plain 6, .plain 7, .plain 8])], rown := [0] }
  | 79 => { keep := [(3, [.plain 0, .own 3 0, .plain 4])], rown := [0] }
  | 27 => { loc := [(1, false)] }
  | 26 => { keep := [(8, [.box 1 [], .plain 4, .own 5 0])], join := [8], loc := [(1, false)], rown := [0] }
  | 99 => { loc := [(2, false), (4, false)] }
  | 30 => { keep := [(7, [.box 2 [], .plain 4, .box 5 []])], join := [7], loc := [(2, false), (5, false)] }
  | 28 => { loc := [(1, false)] }
  | 32 => { keep := [(6, [.plain 0, .box 2 [], .box 4 []]), (9, [.plain 0, .box 2 [], .box 4 [], .plain 5, .own 6 0, .plain 7])], join := [6], loc := [(2, false), (4, false)] }
  | 7 => { loc := [(3, false), (5, false)] }
  | 6 => { loc := [(1, false), (5, false)] }
  | 96 => { keep := [(4, [.plain 0, .plain 1, .plain 2, .plain 14, .plain 15])] }
  | 13 => { keep := [(4, [.plain 0, .plain 1, .plain 2, .plain 3, .own 9 6, .plain 10, .plain 13, .plain 14, .plain 15])], loc := [(12, false)] }
  | 68 => { keep := [(2, [.plain 1, .box 5 [], .plain 9, .plain 10, .plain 11])], loc := [(5, false), (8, false)] }
  | 69 => { keep := [(2, [.box 3 [], .box 4 [], .plain 7, .plain 8, .plain 9])], loc := [(3, false), (4, false), (6, false)] }
  | 70 => { keep := [(3, [.plain 0, .plain 1, .plain 5, .plain 13, .plain 14]), (9, [.plain 1, .plain 5, .own 8 0])], loc := [(7, false)], rown := [0] }
  | 3 => { loc := [(5, false)] }
  | 34 => { loc := [(6, false)] }
  | 36 => { loc := [(5, false)] }
  | 37 => { loc := [(5, false)] }
  | 82 => { keep := [(2, [.plain 0, .plain 1, .plain 5])] }
  | 38 => { keep := [(12, [.plain 0, .plain 1, .plain 8, .box 9 [], .plain 11])], join := [12], loc := [(9, false), (16, false)], rown := [0, 1] }
  | 35 => { keep := [(4, [.plain 0, .plain 1, .plain 5])] }
  | 9 => { keep := [(9, [.plain 7, .own 9 0, .plain 12])] }
  | 8 => { keep := [(3, [.plain 0, .plain 1, .plain 2, .plain 7, .plain 8]), (14, [.plain 0, .plain 1, .plain 2, .plain 7, .plain 9, .own 11 6, .plain 12])] }
  | 91 => { node := [(10, 5), (14, 5)] }
  | 61 => { keep := [(4, [.plain 1, .plain 7, .plain 8])], node := [(18, 5), (24, 5), (29, 5)] }
  | 92 => { node := [(6, 5)] }
  | 102 => { frz := [24], node := [(8, 5), (12, 5)] }
  | 100 => { node := [(15, 5), (20, 5), (27, 5), (32, 5), (39, 5), (44, 5), (48, 5), (51, 5), (57, 5), (60, 5), (74, 5), (79, 5), (88, 5), (93, 5), (98, 5), (104, 5), (107, 5), (113, 5), (116, 5), (120, 5)] }
  | 84 => { frz := [13, 69], node := [(17, 5), (23, 5), (30, 5), (37, 5), (43, 5), (47, 5), (57, 5), (61, 5), (65, 5)] }
  | 90 => { node := [(9, 5), (17, 5), (21, 5), (28, 5)] }
  | 94 => { node := [(8, 5), (13, 5), (29, 5), (40, 5), (47, 5)] }
  | 39 => { keep := [(3, [.plain 1, .plain 2])] }
  | 41 => { keep := [(2, [.plain 0, .plain 1, .plain 6])] }
  | 101 => { keep := [(1, [.plain 0])], node := [(4, 5), (9, 5)] }
  | 83 => { node := [(9, 5), (15, 5), (21, 5), (28, 5), (34, 5), (38, 5), (46, 5), (51, 5), (56, 5), (61, 5), (65, 5), (71, 5), (75, 5), (79, 5)] }
  | 43 => { keep := [(3, [.plain 0, .plain 1, .own 5 3, .plain 6])], rown := [0] }
  | 45 => { keep := [(5, [.own 0 3, .plain 1, .plain 2, .own 7 3, .plain 8, .plain 9])], rown := [0] }
  | 85 => { keep := [(2, [.plain 0, .plain 1, .box 4 [], .plain 6])], loc := [(4, false)] }
  | 62 => { keep := [(4, [.plain 1, .plain 7, .plain 8])], node := [(18, 5), (24, 5), (29, 5)] }
  | 86 => { keep := [(4, [.plain 0, .plain 1, .box 4 [], .box 6 [], .plain 7, .plain 8])], loc := [(4, false), (6, false)] }
  | 87 => { keep := [(4, [.plain 0, .plain 3, .plain 4, .plain 5])] }
  | 48 => { keep := [(4, [.plain 0, .plain 1, .plain 5])] }
  | 46 => { loc := [(14, false), (19, false)] }
  | 10 => { keep := [(6, [.plain 0, .plain 1, .plain 5, .own 6 3, .plain 7]), (15, [.plain 0, .plain 1, .plain 5, .own 6 3, .plain 7, .plain 8, .plain 9, .plain 10, .plain 11]), (18, [.plain 1, .plain 5, .own 6 3, .plain 12])], join := [15] }
  | 12 => { keep := [(6, [.plain 0, .plain 1, .plain 5, .plain 7, .own 8 3, .plain 9]), (13, [.plain 1, .plain 5, .plain 7, .own 8 3, .plain 10, .plain 11, .plain 12])] }
  | 52 => { keep := [(6, [.plain 0, .plain 3])], join := [6] }
  | 53 => { loc := [(2, false)] }
  | 47 => { keep := [(7, [.plain 2, .box 3 [], .plain 4])], join := [7], loc := [(3, false)] }
  | 49 => { keep := [(4, [.plain 2, .plain 3, .own 9 3, .plain 10, .plain 11])], loc := [(12, false)], rown := [0] }
  | 50 => { keep := [(3, [.plain 0, .plain 1, .plain 2, .plain 3, .own 9 3, .plain 10])], rown := [0] }
  | 11 => { keep := [(6, [.plain 0, .plain 2, .box 4 [], .plain 7, .own 8 3, .plain 9]), (14, [.own 8 3, .plain 10, .plain 11]), (19, [.own 8 3, .plain 10, .plain 11])], loc := [(4, false), (12, false), (14, false), (17, false)] }
  | _ => {}
noncomputable def Cw : Cfg := ⟨Try.prog, annw, fun _ => none⟩
@[simp] theorem plain41 (x0 : List UInt8) (x1 : Bool) (x2 : Bool) (x3 : List UInt8) (x4 : List UInt8) (x5 : Int) : plainOk Cw.P 41 (AVal.agg [AVal.str x0, AVal.bool x1, AVal.bool x2, AVal.str x3, AVal.str x4, AVal.int .i64 x5]) = true := by kernel_rfl
@[simp] theorem plain76 (x0 : List UInt8) (x1 : List UInt8) : plainOk Cw.P 76 (AVal.agg [AVal.str x0, AVal.str x1]) = true := by kernel_rfl
@[simp] theorem arr4_3 (x0 : Int) (x1 : Int) (x2 : Int) (x3 : Int) : arrOk Cw.P 4 3 (AVal.agg [AVal.int .i64 x0, AVal.int .i64 x1, AVal.int .i64 x2, AVal.int .i64 x3]) = true := by kernel_rfl
end Go.Proofs.Ytfdkkhmaikgmcaa.Wa
