/- What the evaluator is told ahead of each function (nothing of it is trusted). -/
import Derived.Test.YthebimbdijkiiaaWvZ
import Derived.Test.YthebimbdijkiiaaProg
import Derived.KernelRfl
namespace Go.Proofs.Ythebimbdijkiiaa.Wa
open Go Go.Weave
set_option maxRecDepth 100000
set_option linter.unusedVariables false
def annw : FuncId → Ann := fun f => match f with
  | 15 => { keep := [(2, [.plain 1, .own 5 0])], rown := [0] }
  | 17 => { keep := [(2, [.plain 0, .plain 3])] }
  | 18 => { keep := [(3, [.plain 5, .plain 8, .plain 9, .plain 10])] }
  | 16 => { keep := [(2, [.plain 1, .own 5 0])], rown := [0] }
  | 20 => { keep := [(4, [.plain 0, .plain 5, .plain 6, .plain 7])] }
  | 21 => { keep := [(2, [.plain 0, .own 4 0])], rown := [0] }
  | 22 => { keep := [(3, [.plain 0, .own 4 0, .plain 5])], rown := [0] }
  | 5 => { keep := [(8, [.plain 1, .own 5 0, .own 7 0, .plain 9]), (14, [.plain 1, .own 10 0, .plain 11]), (21, [.plain 1, .own 12 0, .plain 14])] }
  | 23 => { loc := [(2, false), (3, false)] }
  | 24 => { loc := [(2, false), (3, false)] }
  | 71 => { loc := [(1, false)] }
  | 75 => { loc := [(1, false)] }
  | 66 => { loc := [(1, false)], rown := [0] }
  | 6 => { loc := [(2, false), (3, false)] }
  | 26 => { rown := [0] }
  | 27 => { rown := [0] }
  | 28 => { rown := [0] }
  | 36 => { keep := [(2, [.plain 0, .own 4 0])], rown := [0] }
  | 34 => { keep := [(3, [.own 3 0, .plain 6, .plain 7, .plain 8])], rown := [0] }
  | 35 => { keep := [(3, [.plain 0, .own 3 0, .plain 4])], rown := [0] }
  | 37 => { keep := [(3, [.plain 0, .own 4 0, .plain 5])], rown := [0] }
  | 38 => { keep := [(4, [.plain 0, .plain 1, .plain 5])] }
  | 9 => { keep := [(7, [.plain 0, .plain 1, .own 5 0, .plain 6])] }
  | 30 => { loc := [(2, false), (4, false)] }
  | 31 => { loc := [(1, false), (2, false)] }
  | 76 => { loc := [(1, false)] }
  | 67 => { keep := [(8, [.box 1 [], .plain 4, .own 5 0])], join := [8], loc := [(1, false)], rown := [0] }
  | 8 => { loc := [(2, false), (5, false), (6, false)] }
  | 58 => { keep := [(2, [.plain 1, .box 5 [], .plain 9, .plain 10, .plain 11])], loc := [(5, false), (8, false)] }
  | 60 => { keep := [(2, [.box 3 [], .box 4 [], .plain 7, .plain 8, .plain 9])], loc := [(3, false), (4, false), (6, false)] }
  | 56 => { keep := [(3, [.plain 0, .plain 1, .plain 5, .plain 13, .plain 14]), (9, [.plain 1, .plain 5, .own 8 0])], loc := [(7, false)], rown := [0] }
  | 73 => { keep := [(4, [.plain 0, .plain 1, .plain 2, .plain 14, .plain 15])] }
  | 62 => { keep := [(4, [.plain 0, .plain 1, .plain 2, .plain 3, .own 9 6, .plain 10, .plain 13, .plain 14, .plain 15])], loc := [(12, false)] }
  | 57 => { keep := [(2, [.plain 0, .plain 1, .plain 5])], rown := [0] }
  | 72 => { loc := [(1, false)] }
  | 61 => { keep := [(2, [.plain 0, .box 3 [], .box 4 [], .plain 5]), (5, [.plain 0, .box 3 [], .box 4 [], .plain 5, .plain 6])], loc := [(3, false), (4, false)] }
  | 59 => { keep := [(2, [.plain 0, .plain 1, .box 5 [], .plain 7])], loc := [(5, false)] }
  | 13 => { keep := [(7, [.own 7 0, .own 8 0, .plain 9])], loc := [(4, false), (5, false)] }
  | 63 => { keep := [(3, [.plain 0, .plain 1, .plain 2, .plain 3, .plain 9, .plain 10])] }
  | 74 => { keep := [(4, [.plain 0, .plain 1, .plain 5])] }
  | 14 => { loc := [(5, false)] }
  | 40 => { loc := [(3, false)] }
  | 45 => { keep := [(8, [.plain 0, .plain 1, .box 5 [], .plain 10])], join := [8], loc := [(5, false)] }
  | 70 => { loc := [(4, false)] }
  | 50 => { loc := [(6, false)] }
  | 51 => { keep := [(3, [.plain 0, .plain 1, .own 5 0, .plain 6, .plain 7])], rown := [0] }
  | 41 => { loc := [(3, false), (4, false)] }
  | 42 => { keep := [(4, [.plain 1, .box 2 [], .box 4 [], .plain 6, .own 7 5, .plain 8])], loc := [(2, false), (4, false)] }
  | 43 => { keep := [(5, [.plain 0, .plain 5, .plain 29, .plain 30, .plain 31])], loc := [(7, false)] }
  | 48 => { keep := [(2, [.box 2 [], .box 3 [], .plain 5])], loc := [(2, false), (3, false)] }
  | 44 => { keep := [(5, [.plain 1, .box 3 [], .box 6 []])], join := [5], loc := [(3, false), (5, false), (6, false)] }
  | 54 => { loc := [(2, false)] }
  | 68 => { keep := [(2, [.plain 1, .box 2 [], .plain 5])], loc := [(2, false)] }
  | 49 => { loc := [(4, false), (6, false)] }
  | 69 => { keep := [(3, [.plain 1, .box 2 [], .own 5 0, .plain 6])], loc := [(2, false)], rown := [0] }
  | 47 => { loc := [(3, false)] }
  | 46 => { keep := [(4, [.plain 0, .box 3 [], .plain 5]), (13, [.plain 0, .box 3 [], .plain 5, .plain 6, .box 7 [], .plain 9, .own 11 0, .own 12 0, .plain 13])], loc := [(3, false), (7, false)] }
  | 11 => { keep := [(4, [.plain 2, .plain 7, .box 8 []]), (5, [.plain 2, .plain 7, .box 8 [], .plain 9]), (13, [.plain 2, .plain 7, .box 8 [], .plain 9, .box 12 [], .plain 13]), (17, [.plain 2, .plain 7, .box 8 [], .plain 9])], join := [4, 13, 17], loc := [(4, false), (8, false), (10, false), (12, false)] }
  | 12 => { loc := [(5, false), (10, false)] }
  | _ => {}
noncomputable def Cw : Cfg := ⟨Try.prog, annw, fun _ => none⟩
@[simp] theorem plain43 (x0 : List UInt8) (x1 : Bool) (x2 : Bool) (x3 : List UInt8) (x4 : List UInt8) (x5 : Int) : plainOk Cw.P 43 (AVal.agg [AVal.str x0, AVal.bool x1, AVal.bool x2, AVal.str x3, AVal.str x4, AVal.int .i64 x5]) = true := by kernel_rfl
@[simp] theorem plain67 (x0 : Int) (x1 : Int) : plainOk Cw.P 67 (AVal.agg [AVal.int .i64 x0, AVal.int .i64 x1]) = true := by kernel_rfl
@[simp] theorem arr4_3 (x0 : Int) (x1 : Int) (x2 : Int) (x3 : Int) : arrOk Cw.P 4 3 (AVal.agg [AVal.int .i64 x0, AVal.int .i64 x1, AVal.int .i64 x2, AVal.int .i64 x3]) = true := by kernel_rfl
end Go.Proofs.Ythebimbdijkiiaa.Wa
