/- What the evaluator is told ahead of each function (nothing of it is trusted). -/
import Derived.Test.YtdlcjibefbnckaaDoorWvZ
import Derived.Test.YtdlcjibefbnckaaDoorProg
import Derived.KernelRfl
namespace Go.Proofs.YtdlcjibefbnckaaDoor.Wa
open Go Go.Weave
set_option maxRecDepth 100000
set_option linter.unusedVariables false
def annw : FuncId → Ann := fun f => match f with
  | 22 => { keep := [(2, [.plain 1, .own 5 0])], rown := [0] }
  | 36 => { keep := [(3, [.plain 5, .plain 8, .plain 9, .plain 10])] }
  | 24 => { keep := [(2, [.plain 1, .own 5 0])], rown := [0] }
  | 20 => { keep := [(4, [.plain 0, .plain 5, .plain 6, .plain 7])] }
  | 82 => { rown := [0] }
  | 64 => { rown := [0] }
  | 57 => { rown := [0] }
  | 41 => { keep := [(3, [.own 3 0, .plain 6, .plain 7, .plain 8])], rown := [0] }
  | 70 => { keep := [(2, [.plain 0, .own 4 0])], rown := [0] }
  | 48 => { keep := [(3, [.plain 0, .own 4 0, .plain 5])], rown := [0] }
  | 87 => { node := [(10, 5), (14, 5)] }
  | 91 => { node := [(6, 5)] }
  | 92 => { frz := [24], node := [(8, 5), (12, 5)] }
  | 89 => { node := [(15, 5), (20, 5), (27, 5), (32, 5), (39, 5), (44, 5), (48, 5), (51, 5), (57, 5), (60, 5), (74, 5), (79, 5), (88, 5), (93, 5), (98, 5), (104, 5), (107, 5), (113, 5), (116, 5), (120, 5)] }
  | 88 => { frz := [13, 69], node := [(17, 5), (23, 5), (30, 5), (37, 5), (43, 5), (47, 5), (57, 5), (61, 5), (65, 5)] }
  | 90 => { keep := [(1, [.plain 0])], node := [(4, 5), (9, 5)] }
  | 85 => { node := [(9, 5), (15, 5), (21, 5), (28, 5), (34, 5), (38, 5), (46, 5), (51, 5), (56, 5), (61, 5), (65, 5), (71, 5), (75, 5), (79, 5)] }
  | 78 => { keep := [(4, [.plain 1, .plain 7, .plain 8])], node := [(18, 5), (24, 5), (29, 5)] }
  | 55 => { keep := [(3, [.plain 0, .plain 1, .own 5 3, .plain 6])], rown := [0] }
  | 54 => { keep := [(5, [.own 0 3, .plain 1, .plain 2, .own 7 3, .plain 8, .plain 9])], rown := [0] }
  | 15 => { keep := [(4, [.plain 0, .plain 1, .plain 5])] }
  | 68 => { keep := [(6, [.plain 0, .plain 3])], join := [6] }
  | 69 => { loc := [(2, false)] }
  | 56 => { keep := [(4, [.plain 2, .plain 3, .own 9 3, .plain 10, .plain 11])], loc := [(12, false)], rown := [0] }
  | 19 => { keep := [(3, [.plain 0, .plain 3, .plain 7, .plain 8])] }
  | 6 => { loc := [(2, false)] }
  | 37 => { keep := [(3, [.plain 0, .plain 3, .plain 4])] }
  | 21 => { keep := [(3, [.plain 0, .plain 3, .plain 4])] }
  | 7 => { loc := [(2, false)] }
  | 23 => { keep := [(3, [.plain 0, .own 5 0, .plain 8, .plain 9])], rown := [0] }
  | 8 => { loc := [(1, false)], rown := [0] }
  | 25 => { keep := [(3, [.plain 0, .plain 1, .own 5 0, .plain 6])], rown := [0] }
  | 9 => { loc := [(1, false)], rown := [0] }
  | 39 => { keep := [(2, [.plain 0, .plain 5, .plain 6, .plain 7])], loc := [(4, false)] }
  | 26 => { keep := [(7, [.plain 4, .plain 5, .plain 6, .plain 14, .plain 15, .plain 16])], loc := [(8, false)] }
  | 58 => { keep := [(6, [.own 4 0, .own 6 3, .plain 7])], rown := [0] }
  | 59 => { keep := [(3, [.plain 5, .plain 10, .plain 11, .plain 12])] }
  | 42 => { keep := [(4, [.box 3 [], .own 5 3, .box 6 [], .plain 14, .plain 15, .plain 16])], loc := [(3, false), (6, false)], rown := [0] }
  | 27 => { loc := [(2, false), (5, false)] }
  | 10 => { loc := [(3, false)] }
  | 3 => { loc := [(2, false), (5, false), (7, false), (9, false), (11, false)] }
  | 11 => { keep := [(2, [.plain 0, .plain 3])] }
  | 60 => { loc := [(2, false), (7, false)], rown := [0] }
  | 61 => { keep := [(3, [.plain 3, .plain 7, .plain 8, .plain 9])], loc := [(5, false)] }
  | 46 => { loc := [(5, false)] }
  | 75 => { loc := [(1, false)] }
  | 73 => { keep := [(11, [.box 2 [], .box 5 [], .plain 6]), (13, [.box 2 [], .box 5 [], .plain 6])], join := [11, 13], loc := [(2, false), (5, false)] }
  | 74 => { keep := [(2, [.plain 0, .plain 5, .plain 6, .plain 7])], loc := [(4, false)] }
  | 62 => { keep := [(2, [.plain 0, .own 4 4])], loc := [(5, false)], rown := [0] }
  | 63 => { keep := [(3, [.plain 0, .plain 5, .plain 10, .plain 11, .plain 12])], loc := [(7, false)] }
  | 30 => { loc := [(3, false), (6, false)] }
  | 13 => { keep := [(4, [.plain 0, .box 4 [], .plain 6]), (5, [.box 4 [], .plain 6, .plain 20, .plain 21, .plain 22])], join := [4], loc := [(4, false), (8, false)] }
  | 31 => { keep := [(3, [.plain 0, .own 4 3, .plain 5]), (9, [.plain 0, .own 4 3, .plain 5, .own 6 0, .plain 8])], rown := [0] }
  | 49 => { keep := [(2, [.plain 0, .plain 3])] }
  | 77 => { keep := [(3, [.plain 1, .plain 5, .plain 6]), (7, [.plain 1, .plain 5, .plain 6, .plain 7])] }
  | 50 => { keep := [(4, [.plain 0, .box 2 [], .own 3 3, .own 5 0, .plain 6])], loc := [(2, false)] }
  | 32 => { loc := [(2, false)], rown := [0] }
  | 53 => { loc := [(1, false)] }
  | 51 => { keep := [(9, [.plain 0, .box 2 [], .plain 6, .box 8 []])], join := [9], loc := [(2, false), (8, false)] }
  | 52 => { keep := [(2, [.plain 0, .plain 3])] }
  | 33 => { keep := [(3, [.plain 0, .own 4 4, .plain 5])], loc := [(6, false)], rown := [0] }
  | 34 => { keep := [(3, [.plain 0, .plain 1, .plain 6, .plain 7])] }
  | 14 => { keep := [(6, [.plain 0, .box 4 [], .plain 6, .plain 7, .box 8 [], .own 9 0, .plain 10]), (13, [.plain 0, .box 4 [], .plain 6, .plain 7, .box 8 [], .own 9 0, .plain 10]), (19, [.plain 0, .box 4 [], .plain 6, .plain 7, .box 8 [], .own 9 0, .plain 10, .box 13 []]), (27, [.plain 0, .box 4 [], .plain 6, .plain 7, .box 8 [], .own 9 0, .plain 10])], join := [13, 19, 27], loc := [(4, false), (8, false), (13, false)] }
  | 35 => { rown := [0] }
  | 16 => { rown := [0] }
  | 17 => { keep := [(3, [.plain 3, .plain 7, .plain 8, .plain 9])], loc := [(5, false)] }
  | 5 => { keep := [(10, [.plain 0, .plain 9, .plain 10, .plain 11]), (15, [.plain 0, .plain 9, .plain 10, .plain 12]), (19, [.plain 0, .plain 9, .plain 10, .plain 12, .plain 13, .plain 14])], loc := [(5, false), (7, false)] }
  | 4 => { keep := [(8, [.plain 0, .plain 1, .plain 2, .box 7 [], .plain 9, .plain 10]), (14, [.plain 0, .plain 1, .plain 2, .box 7 [], .plain 9, .plain 13]), (21, [.plain 0, .plain 1, .plain 2, .box 7 [], .plain 9, .box 14 [], .plain 15, .own 16 6, .plain 17])], loc := [(7, false), (11, false), (14, false), (18, false), (21, false)] }
  | _ => {}
noncomputable def Cw : Cfg := ⟨Tryd.prog, annw, fun _ => none, fun g => match g with | 0 => some (AVal.elt (AVal.agg [(AVal.int .u32 0), (AVal.int .u32 274646895), (AVal.int .u32 549293790), (AVal.int .u32 820201905), (AVal.int .u32 1098587580), (AVal.int .u32 1361435347), (AVal.int .u32 1640403810), (AVal.int .u32 1905808397), (AVal.int .u32 2197175160), (AVal.int .u32 2460548119), (AVal.int .u32 2722870694), (AVal.int .u32 2987750089), (AVal.int .u32 3280807620), (AVal.int .u32 3553878443), (AVal.int .u32 3811616794), (AVal.int .u32 4084100981)]) true 16 0) | _ => none⟩
@[simp] theorem plain24 (x0 : Int) (x1 : Int) (x2 : Int) : plainOk Cw.P 24 (AVal.agg [AVal.int .i64 x0, AVal.int .i64 x1, AVal.int .u32 x2]) = true := by kernel_rfl
@[simp] theorem plain68 (x0 : List UInt8) (x1 : List UInt8) : plainOk Cw.P 68 (AVal.agg [AVal.str x0, AVal.str x1]) = true := by kernel_rfl
end Go.Proofs.YtdlcjibefbnckaaDoor.Wa
