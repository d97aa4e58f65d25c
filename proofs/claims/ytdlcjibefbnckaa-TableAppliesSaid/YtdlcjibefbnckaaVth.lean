/- CursorRanges. -/
import Derived.Test.YtdlcjibefbnckaaVtg
namespace Go.Proofs.Ytdlcjibefbnckaa.Wa
open Go Go.Weave
set_option maxRecDepth 100000
set_option linter.unusedSimpArgs false
set_option linter.unusedVariables false
set_option linter.unusedSectionVars false

def tA : Nd := Nd.nil.put [97] [120]
theorem tA_L : tA.toL = [⟨[97], [120]⟩] := rfl
theorem tA_ok : TOk' tA := ((⟨trivial, List.Pairwise.nil, by simp [Nd.toL]⟩ : TOk' Nd.nil).put [97] [120] (by simp [Nd.toL])).1
theorem awake32_run (d : Nat) (h : Heap) : ∃ h', ∀ (Q : Res → Prop) (tg : Hid Q), Run (evFn Cw (d + 1021) 12 [] h) Q tg = Q ([.bool true], h') := by
  have ok0 : TOk' Nd.nil := ⟨trivial, List.Pairwise.nil, by simp [Nd.toL]⟩
  have m0 := Heap.push_new h (trT .nil)
  have rp := fun (Q : Res → Prop) (tg : Hid Q) => tput_run (d := d + 1020) (k := [97]) (v := [120]) (Q := Q) (tg := tg) ok0 (by simp [Nd.toL]) m0 (by omega)
  have et : Nd.nil.put [97] [120] = tA := rfl
  rw [et] at rp
  have m1 : ((h.push (trT .nil)).put h.objs.length (trT tA)).objs[h.objs.length]? = some (trT tA) := Heap.put_get m0
  have lA : ((h.push (trT .nil)).put h.objs.length (trT tA)).objs.length = h.objs.length + 1 := by rw [Heap.put_len, Heap.push_len]
  have E := Heap.ext.push ((h.push (trT .nil)).put h.objs.length (trT tA)) (curO (.obj h.objs.length 0) 0 [])
  have mc : (((h.push (trT .nil)).put h.objs.length (trT tA)).push (curO (.obj h.objs.length 0) 0 [])).objs[h.objs.length + 1]? = some (curO (.obj h.objs.length 0) 0 []) := by rw [← lA]; exact Heap.push_new _ _
  have mt := E.get m1
  have hL := tA_L
  have n1 := fun (Q : Res → Prop) (tg : Hid Q) => cnext_run (d := d + 1017) (Q := Q) (tg := tg) tA_ok mc mt (by decide) (by simp)
  have l1 : lseek (if (0 : Int) = 1 then ([] : List UInt8) ++ [0] else []) tA.toL = some ⟨[97], [120]⟩ := by rw [if_neg (by decide), lseek_nil, hL]; rfl
  rw [l1, curTo_some] at n1
  have mc2 : ((((h.push (trT .nil)).put h.objs.length (trT tA)).push (curO (.obj h.objs.length 0) 0 [])).put (h.objs.length + 1) (curO (.obj h.objs.length 0) 1 [97])).objs[h.objs.length + 1]? = some (curO (.obj h.objs.length 0) 1 [97]) := Heap.put_get mc
  have mt2 : ((((h.push (trT .nil)).put h.objs.length (trT tA)).push (curO (.obj h.objs.length 0) 0 [])).put (h.objs.length + 1) (curO (.obj h.objs.length 0) 1 [97])).objs[h.objs.length]? = some (trT tA) := by rw [Heap.put_ne (by omega)]; exact mt
  have p1 := fun (Q : Res → Prop) (tg : Hid Q) => cpair_run (d := d + 1016) (Q := Q) (tg := tg) tA_ok mc2 mt2
  have lg : lget [97] tA.toL = some ⟨[97], [120]⟩ := by rw [hL]; rfl
  rw [lg] at p1
  simp only [isSome_some', and_self, if_true] at p1
  have ov : oVal (some ⟨[97], [120]⟩) = [120] := rfl
  rw [ov] at p1
  have n2 := fun (Q : Res → Prop) (tg : Hid Q) => cnext_run (d := d + 1017) (Q := Q) (tg := tg) tA_ok mc2 mt2 (by decide) (by simp)
  have l2 : lseek (if (1 : Int) = 1 then [97] ++ [0] else []) tA.toL = none := by rw [if_pos rfl, hL]; rfl
  rw [l2] at n2
  refine ⟨((((h.push (trT .nil)).put h.objs.length (trT tA)).push (curO (.obj h.objs.length 0) 0 [])).put (h.objs.length + 1) (curO (.obj h.objs.length 0) 1 [97])).put (h.objs.length + 1) (curTo (.obj h.objs.length 0) none 2), fun Q tg => ?_⟩
  rw [F12_eq]
  simp (disch := (first | assumption | (simp only [Bool.and_eq_true, Bool.and_eq_false_iff, decide_eq_true_eq, decide_eq_false_iff_not, bne_iff_ne, beq_iff_eq, beq_eq_false_iff_ne, bne_eq_false_iff_eq, Bool.not_eq_true', Bool.not_eq_false', bys_length, List.length_append, List.length_cons, List.length_nil, List.length_map, List.length_drop, List.length_take, Int.natCast_add, wrap_i64_eq, wrap_u64, wrap_u8, ne_eq, not_true_eq_false, not_false_eq_true, Nat.zero_add, Nat.mul_one] <;> omega) | omega | (simp; done) | (simp; omega))) only [↓at_runK, ↓at_bind, ↓contQ_mk, ↓at_ret, ↓at_consK, ↓at_nilK, ↓at_optK, ↓at_intK, ↓at_boolK, ↓at_strK, ↓at_slK, ↓at_slOK, ↓at_slK0, ↓at_slOK0, ↓at_aggK, ↓at_cond_t, ↓at_cond_f, ↓at_sameL, ↓at_any1, ↓at_any, and_self, toBytes_bys, List.nil_append, List.append_nil, ↓at_nodeW, List.drop_zero, List.take_succ_cons, List.take_zero, List.getElem?_cons_succ, List.getElem?_cons_zero, cells_agg, eqCells_cons, eqCells_nil, eq1_int, eq1_bool, eq1_str, ↓at_ptr_whole, ↓at_ptr_cell, ↓at_ptr_obj, ↓at_ptr_objs, shift_obj, shift_elt, toA_val, toA_own, Int.toNat_natCast, List.cons_append, tnew_run, rp, cnew_run, lA, n1, isSome_some', p1, P12_0_eq, str_beq_self, n2, isSome_none', Bool.not_false]

end Go.Proofs.Ytdlcjibefbnckaa.Wa
