/- Records: encoded, and the same; RecordSames. -/
import Derived.Test.YthebimbdijkiiaaVb
import Derived.Test.YthebimbdijkiiaaWc
namespace Go.Proofs.Ythebimbdijkiiaa.Wa
open Go Go.Weave
set_option maxRecDepth 100000

def recA (k c l p : Int) (f : Bool) (dt : List UInt8) : AVal := .agg [.int .i64 k, .int .i64 c, .int .i64 l, .int .i64 p, .sl f 0 (bys dt)]

theorem same_ok (d : Nat) (k c l p : Int) (f : Bool) (dt : List UInt8) (k' c' l' p' : Int) (f' : Bool) (dt' : List UInt8) (h : Heap) :
    Ans (evFn Cw (d + 1) 23 [recA k c l p f dt, recA k' c' l' p' f' dt'] h) ([.bool (k == k' && c == c' && l == l' && p == p' && dt == dt')], h) := by
  unfold recA
  rw [F23_eq]
  simp only [toBytes_bys, optK_s]
  cases k == k' <;> cases c == c' <;> cases l == l' <;> cases p == p' <;> exact Ans.ret _
theorem rsame_ok (d : Nat) (k c l p : Int) (f : Bool) (dt : List UInt8) (k' c' l' p' : Int) (f' : Bool) (dt' : List UInt8) (h : Heap) :
    Ans (evFn Cw (d + 1) 24 [recA k c l p f dt, recA k' c' l' p' f' dt'] h) ([.bool (k == k' && c == c' && l == l' && p == p' && dt == dt')], h) := by
  unfold recA
  rw [F24_eq]
  simp only [toBytes_bys, optK_s]
  cases k == k' <;> cases c == c' <;> cases l == l' <;> cases p == p' <;> exact Ans.ret _

theorem right_one (d : Nat) (h : Heap) : Ans (evFn Cw (d + 1) 71 [recA 1 0 1 0 true []] h) ([.bool true], h) := by
  unfold recA
  rw [F71_eq, cond_of_not (by decide), cond_of_not (by decide), cond_of_not (by decide), cond_of_not (by decide), cond_of_not (by decide), cond_of_not (by decide), cond_of (by decide)]
  exact Ans.ret _

theorem enc1 : enc 1 = [1] := by rw [enc_lt (by omega)]; decide

theorem size_one (d : Nat) (h : Heap) : Ans (evFn Cw (d + 2) 75 [recA 1 0 1 0 true []] h) ([.int .i64 4], h) := by
  have h1 := right_one d h
  have h2 := size_ok d 1 h (by omega)
  unfold recA at h1 ⊢
  rw [F75_eq (d + 1)]
  refine h1.bind ?_
  simp only [consK_c, nilK_n, isBool_b, toBool_b, cond_t, Bool.not_true, cond_f]
  have e1 : IntKind.u64.wrap 1 = ((1 : Nat) : Int) := by rw [wrap_u64_id (by omega) (by omega)]; rfl
  have e2 : IntKind.u64.wrap (IntKind.i64.wrap (1 - 0)) = ((1 : Nat) : Int) := by rw [wrap_i64_id (by omega) (by omega), wrap_u64_id (by omega) (by omega)]; rfl
  rw [e1, e2]
  rw [enc1] at h2
  refine h2.bind ?_
  simp only [consK_c, nilK_n, isInt_i, toInt_i, cond_t]
  refine h2.bind ?_
  simp only [consK_c, nilK_n, isInt_i, toInt_i, cond_t]
  have e3 : IntKind.i64.wrap (IntKind.i64.wrap (IntKind.i64.wrap (2 + ((([1] : List UInt8).length : Nat) : Int)) + ((([1] : List UInt8).length : Nat) : Int)) + ((((bys []).length : Nat)) : Int)) = 4 := by decide
  rw [e3]
  exact Ans.ret _

theorem encode_one (d : Nat) (h : Heap) : Ans (evFn Cw (d + 3) 66 [recA 1 0 1 0 true []] h) ([.sl false 0 (bys [1, 0, 1, 1]), .int .i64 0], h) := by
  have h1 := right_one (d + 1) h
  have h2 := size_one d h
  have h3 := fun l => put_ok (d + 1) true l 1 h (by omega)
  have h4 := fun l => put_ok (d + 1) false l 1 h (by omega)
  rw [enc1] at h3 h4
  unfold recA at h1 h2 ⊢
  rw [F66_eq (d + 2)]
  refine h1.bind ?_
  simp only [consK_c, nilK_n, isBool_b, toBool_b, cond_t, Bool.not_true, cond_f]
  refine h2.bind ?_
  simp only [consK_c, nilK_n, isInt_i, toInt_i, cond_t]
  rw [cond_of_not (by decide)]
  have e0 : [AVal.int .u8 (IntKind.u8.wrap 1), AVal.int .u8 (IntKind.u8.wrap 0)] = bys [1, 0] := by
    have w1 : IntKind.u8.wrap 1 = 1 := by decide
    have w0 : IntKind.u8.wrap 0 = 0 := by decide
    rw [w1, w0]; rfl
  have e1 : IntKind.u64.wrap 1 = ((1 : Nat) : Int) := by rw [wrap_u64_id (by omega) (by omega)]; rfl
  have e2 : IntKind.u64.wrap (IntKind.i64.wrap (1 - 0)) = ((1 : Nat) : Int) := by rw [wrap_i64_id (by omega) (by omega), wrap_u64_id (by omega) (by omega)]; rfl
  rw [e0, e1, e2]
  refine (h3 [1, 0] (by simp)).bind ?_
  simp only [consK_c, nilK_n, isSlO_s, toEs_s, cond_t]
  refine (h4 ([1, 0] ++ [1]) (by simp)).bind ?_
  simp only [consK_c, nilK_n, isSlO_s, toEs_s, cond_t]
  rw [cond_of (by decide), bys_nil, List.append_nil]
  exact Ans.ret _

theorem awake11_ok (d : Nat) (h : Heap) : Ans (evFn Cw (d + 4) 25 [] h) ([.bool true], h) := by
  have h1 := encode_one d h
  unfold recA at h1
  rw [bys_nil] at h1
  rw [F25_eq (d + 3)]
  refine h1.bind ?_
  simp only [consK_c, nilK_n, isSlO_s, isInt_i, toInt_i, toEs_s, cond_t, beq_self_eq_true, toBytes_bys, optK_s]
  exact Ans.ret _

/-- RecordSames. -/
theorem sames_true (d : Nat) (k c l p : Int) (f : Bool) (dt : List UInt8) (k' c' l' p' : Int) (f' : Bool) (dt' : List UInt8) (h : Heap) :
    Ans (evFn Cw (d + 5) 6 [recA k c l p f dt, recA k' c' l' p' f' dt'] h) ([.bool true], h) := by
  have h1 := same_ok (d + 3) k c l p f dt k' c' l' p' f' dt' h
  have h2 := rsame_ok (d + 3) k c l p f dt k' c' l' p' f' dt' h
  unfold recA at h1 h2 ⊢
  rw [F6_eq (d + 4)]
  refine h1.bind ?_
  simp only [consK_c, nilK_n, isBool_b, toBool_b, cond_t]
  refine h2.bind ?_
  simp only [consK_c, nilK_n, isBool_b, toBool_b, cond_t, beq_self_eq_true]
  refine (awake11_ok d h).bind ?_
  simp only [consK_c, nilK_n, isBool_b, toBool_b, cond_t]
  exact Ans.ret _
end Go.Proofs.Ythebimbdijkiiaa.Wa
