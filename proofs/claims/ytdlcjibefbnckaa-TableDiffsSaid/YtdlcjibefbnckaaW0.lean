/- What the evaluator is told ahead of each function (nothing of it is trusted). -/
import Derived.Test.YtdlcjibefbnckaaWvZ
import Derived.Test.YtdlcjibefbnckaaProg
import Derived.KernelRfl
namespace Go.Proofs.Ytdlcjibefbnckaa.Wa
open Go Go.Weave
set_option maxRecDepth 100000
set_option linter.unusedVariables false
def annw : FuncId → Ann := fun f => match f with
  | 134 => { keep := [(3, [.plain 5, .plain 8, .plain 9, .plain 10])] }
  | 105 => { keep := [(2, [.plain 1, .own 5 0])], rown := [0] }
  | 114 => { keep := [(4, [.plain 0, .plain 5, .plain 6, .plain 7])] }
  | 142 => { rown := [0] }
  | 113 => { rown := [0] }
  | 104 => { keep := [(3, [.plain 0, .own 3 0, .plain 4])], rown := [0] }
  | 135 => { loc := [(1, false)] }
  | 121 => { loc := [(1, false), (2, false)] }
  | 99 => { node := [(10, 5), (14, 5)] }
  | 118 => { node := [(6, 5)] }
  | 119 => { frz := [24], node := [(8, 5), (12, 5)] }
  | 101 => { node := [(15, 5), (20, 5), (27, 5), (32, 5), (39, 5), (44, 5), (48, 5), (51, 5), (57, 5), (60, 5), (74, 5), (79, 5), (88, 5), (93, 5), (98, 5), (104, 5), (107, 5), (113, 5), (116, 5), (120, 5)] }
  | 82 => { frz := [13, 69], node := [(17, 5), (23, 5), (30, 5), (37, 5), (43, 5), (47, 5), (57, 5), (61, 5), (65, 5)] }
  | 102 => { keep := [(1, [.plain 0])], node := [(4, 5), (9, 5)] }
  | 83 => { node := [(9, 5), (15, 5), (21, 5), (28, 5), (34, 5), (38, 5), (46, 5), (51, 5), (56, 5), (61, 5), (65, 5), (71, 5), (75, 5), (79, 5)] }
  | 100 => { node := [(9, 5), (17, 5), (21, 5), (28, 5)] }
  | 75 => { keep := [(4, [.plain 1, .plain 7, .plain 8])], node := [(18, 5), (24, 5), (29, 5)] }
  | 77 => { keep := [(4, [.plain 1, .plain 7, .plain 8])], node := [(18, 5), (24, 5), (29, 5)] }
  | 26 => { keep := [(2, [.plain 0, .plain 1, .plain 6])] }
  | 24 => { keep := [(3, [.plain 0, .plain 1, .own 5 3, .plain 6])], rown := [0] }
  | 22 => { keep := [(5, [.own 0 3, .plain 1, .plain 2, .own 7 3, .plain 8, .plain 9])], rown := [0] }
  | 80 => { keep := [(2, [.plain 0, .plain 1, .box 4 [], .plain 6])], loc := [(4, false)] }
  | 36 => { keep := [(4, [.plain 0, .plain 1, .plain 5])] }
  | 15 => { keep := [(6, [.plain 0, .plain 3])], join := [6] }
  | 25 => { loc := [(2, false)] }
  | 88 => { keep := [(4, [.plain 2, .plain 3, .own 9 3, .plain 10, .plain 11])], loc := [(12, false)], rown := [0] }
  | 39 => { keep := [(3, [.plain 0, .plain 1, .plain 2, .plain 3, .own 9 3, .plain 10])], rown := [0] }
  | 12 => { keep := [(7, [.plain 2, .box 3 [], .plain 4])], join := [7], loc := [(3, false)] }
  | 16 => { keep := [(2, [.plain 1, .box 2 [], .box 4 [], .plain 5])], loc := [(2, false), (4, false)] }
  | 18 => { keep := [(2, [.plain 1, .box 2 [], .box 4 [], .plain 5])], loc := [(2, false), (4, false)] }
  | 20 => { loc := [(3, false), (6, false), (7, false)] }
  | 3 => { keep := [(7, [.plain 0, .plain 3, .plain 4, .box 5 [], .own 6 3, .plain 7]), (27, [.plain 0, .plain 3, .plain 4, .box 5 [], .own 6 3, .plain 7, .plain 8, .plain 9])], join := [27], loc := [(5, false), (10, false)] }
  | 84 => { loc := [(1, false)] }
  | 30 => { keep := [(3, [.plain 0, .plain 5, .plain 10, .plain 11, .plain 12])], loc := [(7, false)] }
  | 38 => { rown := [0] }
  | 37 => { rown := [0] }
  | 44 => { keep := [(5, [.plain 5, .plain 6, .plain 7, .plain 8, .plain 9])] }
  | 40 => { loc := [(1, false)] }
  | 31 => { keep := [(3, [.plain 0, .plain 1, .plain 6, .plain 7])] }
  | 35 => { keep := [(3, [.plain 0, .plain 3, .plain 4])] }
  | 41 => { keep := [(3, [.plain 0, .own 3 4, .plain 4]), (8, [.plain 0, .own 3 4, .plain 4, .own 5 4, .plain 6, .plain 7]), (13, [.plain 0, .own 3 4, .plain 4, .own 5 4, .plain 6, .plain 7])], join := [13], rown := [0] }
  | 4 => { keep := [(12, [.plain 0, .plain 7, .own 15 4, .plain 16])], loc := [(4, false)] }
  | 50 => { keep := [(3, [.plain 0, .own 3 3, .plain 4])], rown := [0] }
  | 51 => { keep := [(3, [.plain 3, .plain 7, .plain 8, .plain 9])], loc := [(5, false)] }
  | 53 => { keep := [(4, [.plain 0, .plain 1, .own 5 3, .own 6 4, .plain 7])], rown := [0] }
  | 52 => { keep := [(4, [.plain 0, .plain 1, .plain 5])] }
  | 7 => { keep := [(9, [.own 5 3, .plain 7, .plain 8, .plain 9, .plain 10])] }
  | 131 => { keep := [(4, [.plain 0, .plain 2])], join := [4] }
  | 132 => { keep := [(4, [.plain 0, .plain 2]), (7, [.plain 0, .plain 2])], join := [4, 7] }
  | 116 => { keep := [(2, [.plain 0, .plain 1, .plain 2, .plain 3, .plain 8, .plain 9]), (10, [.plain 0, .plain 1, .plain 2, .plain 3, .plain 8, .plain 9, .plain 10]), (15, [.plain 0, .plain 1, .plain 2, .plain 3, .plain 8, .plain 9, .plain 10, .plain 11, .plain 12]), (17, [.plain 0, .plain 1, .plain 2, .plain 3, .plain 8, .plain 9, .plain 10, .plain 11])], join := [10, 15, 17] }
  | 62 => { keep := [(3, [.plain 0, .own 5 0, .plain 11, .plain 12, .plain 13])] }
  | 61 => { keep := [(3, [.plain 0, .plain 1, .own 6 3, .plain 7])], rown := [0] }
  | 67 => { keep := [(2, [.plain 0, .plain 1, .plain 5])] }
  | 9 => { keep := [(6, [.plain 0, .plain 3, .plain 4, .plain 5]), (17, [.plain 0, .plain 3, .plain 4, .plain 5]), (20, [.plain 0, .plain 3, .plain 4, .plain 5, .plain 10]), (25, [.plain 0, .plain 3, .plain 4, .plain 5, .plain 11]), (32, [.plain 0, .plain 3, .plain 4, .plain 5, .plain 11, .own 12 0, .plain 15])], join := [17] }
  | 45 => { keep := [(2, [.plain 0, .plain 3])] }
  | 98 => { keep := [(4, [.plain 0, .plain 1, .plain 12, .plain 13])] }
  | 48 => { keep := [(3, [.plain 0, .plain 1, .plain 5, .plain 6])] }
  | 6 => { keep := [(9, [.plain 0, .own 5 0, .plain 6])] }
  | 70 => { keep := [(4, [.plain 3, .own 4 0, .plain 10, .plain 11, .plain 12]), (7, [.plain 3, .own 4 0, .plain 10, .plain 11, .plain 12, .plain 16, .plain 17, .plain 18])], loc := [(8, false)], rown := [0] }
  | 71 => { keep := [(3, [.plain 0, .own 3 3, .plain 4]), (6, [.plain 0, .own 3 3, .plain 4, .plain 5])], rown := [0] }
  | 73 => { keep := [(3, [.plain 0, .plain 1, .plain 2]), (5, [.plain 0, .plain 1, .plain 2]), (6, [.plain 0, .plain 2, .plain 7])], join := [3, 5] }
  | 11 => { keep := [(7, [.plain 0, .own 7 0, .own 8 3, .plain 9]), (13, [.own 8 3, .own 10 3, .plain 11])] }
  | 54 => { keep := [(2, [.plain 0, .plain 3])] }
  | 120 => { keep := [(7, [.box 2 [], .plain 4, .box 5 []])], join := [7], loc := [(2, false), (5, false)] }
  | 56 => { keep := [(3, [.box 2 [], .plain 4, .plain 9, .plain 10, .plain 11])], loc := [(2, false), (6, false)] }
  | 58 => { keep := [(3, [.own 3 0, .plain 7, .plain 8])], loc := [(1, false)], rown := [0] }
  | 55 => { loc := [(1, false)] }
  | 115 => { loc := [(1, false)] }
  | 95 => { keep := [(6, [.plain 0, .box 2 [], .box 4 []]), (9, [.plain 0, .box 2 [], .box 4 [], .plain 5, .own 6 0, .plain 7])], join := [6], loc := [(2, false), (4, false)] }
  | 96 => { loc := [(3, false)] }
  | 8 => { keep := [(8, [.box 3 [], .box 5 [], .plain 7]), (15, [.box 5 [], .own 8 0, .plain 9, .plain 10])], loc := [(3, false), (5, false)] }
  | _ => {}
noncomputable def Cw : Cfg := ⟨Try.prog, annw, fun _ => none⟩
@[simp] theorem plain43 (x0 : List UInt8) (x1 : List UInt8) : plainOk Cw.P 43 (AVal.agg [AVal.str x0, AVal.str x1]) = true := by kernel_rfl
@[simp] theorem plain63 (x0 : Int) (x1 : List UInt8) (x2 : List UInt8) : plainOk Cw.P 63 (AVal.agg [AVal.int .i64 x0, AVal.str x1, AVal.str x2]) = true := by kernel_rfl
@[simp] theorem arr4_3 (x0 : Int) (x1 : Int) (x2 : Int) (x3 : Int) : arrOk Cw.P 4 3 (AVal.agg [AVal.int .i64 x0, AVal.int .i64 x1, AVal.int .i64 x2, AVal.int .i64 x3]) = true := by kernel_rfl
end Go.Proofs.Ytdlcjibefbnckaa.Wa
