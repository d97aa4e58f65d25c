/- Texts of this proof, laid together: the evaluator, what it comes to, and the laws. No condition. -/
import Derived.Test.YtbddfpakhealbaaM33
import Derived.Test.YtbddfpakhealbaaWvLb
import Derived.KernelRfl
section
/- What the evaluator comes to in these functions. -/
namespace Go.Proofs.Ytbddfpakhealbaa.Wa
open Go Go.Weave
set_option maxRecDepth 100000
set_option linter.unusedVariables false
/- f27 strandline/table.New -/
theorem F27_eq (d : Nat) (h : Heap) : evFn Cw (d + 1) 27 [] h =
  (runK (evFn Cw d 33 [] h) fun r1 h1 =>
    (consK r1 fun w2 ws3 =>
      (nilK ws3
        (bif (((!(AVal.isAgg w2)) && true) && true) then
          (Tr.ret ([(AVal.obj h1.objs.length 0)], (Heap.push h1 (Go.Weave.Obj.cells ([w2, (AVal.int .i64 0)].map HCell.val)))))
        else
          Tr.fail)))) := by kernel_rfl
/- f23 strandline/op.Right -/
theorem F23_eq (d : Nat) (x0 : Int) (s1 : List UInt8) (s2 : List UInt8) (h : Heap) : evFn Cw (d + 1) 23 [(AVal.agg [(AVal.int .i64 x0), (AVal.str s1), (AVal.str s2)])] h =
  (bif (decide (((s1.length : Int) : Int) < 1)) then
    (Tr.ret ([(AVal.bool false)], h))
  else
    (bif (decide (((s1.length : Int) : Int) > 24)) then
      (Tr.ret ([(AVal.bool false)], h))
    else
      (bif ((x0 : Int) == 1) then
        (Tr.ret ([(AVal.bool (decide (((s2.length : Int) : Int) ≤ 128)))], h))
      else
        (bif ((x0 : Int) == 2) then (Tr.ret ([(AVal.bool (s2 == []))], h)) else (Tr.ret ([(AVal.bool false)], h)))))) := by kernel_rfl
/- f34 (*strandline/table.Table).put -/
theorem F34_eq (d : Nat) (i0 : Nat) (s1 : List UInt8) (s2 : List UInt8) (h : Heap) : evFn Cw (d + 1) 34 [(AVal.obj i0 0), (AVal.str s1), (AVal.str s2)] h =
  (optK (Heap.cell? h i0 0) fun z1 =>
    (runK (evFn Cw d 50 [(HCell.toA z1), (AVal.str s1), (AVal.str s2)] h) fun r2 h2 =>
      (consK r2 fun w3 ws4 =>
        (strK w3 fun ss5 =>
          (consK ws4 fun w6 ws7 =>
            (boolK w6 fun bb8 =>
              (nilK ws7
                (optK (Heap.cell? h2 i0 1) fun z9 =>
                  (intK .i64 (HCell.toA z9) fun y10 =>
                    (optK (Heap.cell? h2 i0 1) fun _ =>
                      (bif (!bb8) then
                        (optK (Heap.cell? (Heap.setCell h2 i0 1 (HCell.val (AVal.int .i64 (IntKind.i64.wrap (y10 + (IntKind.i64.wrap ((s2.length : Int) - (ss5.length : Int)))))))) i0 1) fun z11 =>
                          (intK .i64 (HCell.toA z11) fun y12 =>
                            (optK (Heap.cell? (Heap.setCell h2 i0 1 (HCell.val (AVal.int .i64 (IntKind.i64.wrap (y10 + (IntKind.i64.wrap ((s2.length : Int) - (ss5.length : Int)))))))) i0 1) fun _ =>
                              (Tr.ret ([], (Heap.setCell (Heap.setCell h2 i0 1 (HCell.val (AVal.int .i64 (IntKind.i64.wrap (y10 + (IntKind.i64.wrap ((s2.length : Int) - (ss5.length : Int)))))))) i0 1 (HCell.val (AVal.int .i64 (IntKind.i64.wrap (y12 + (s1.length : Int)))))))))))
                      else
                        (Tr.ret ([], (Heap.setCell h2 i0 1 (HCell.val (AVal.int .i64 (IntKind.i64.wrap (y10 + (IntKind.i64.wrap ((s2.length : Int) - (ss5.length : Int))))))))))))))))))))) := by kernel_rfl
/- f28 (*strandline/table.Table).Apply -/
noncomputable def P28_0 (d k : Nat) (i0 : Nat) (x1 : Int) (f2 : Bool) (l3 : List AVal) (x4 : Int) (x5 : Int) (h : Heap) : Tr Res :=
  loopPt Cw d 28 [true, true, false, true, true] [] k ⟨[(0, (EV.one (SV.val (AVal.obj i0 0)))), (5, (EV.one (SV.val (AVal.int .i64 x1)))), (10, (EV.one (SV.val (AVal.sl f2 4 l3)))), (11, (EV.one (SV.val (AVal.int .i64 x4)))), (12, (EV.one (SV.val (AVal.int .i64 x5))))], []⟩ h
theorem P28_0_eq (d k : Nat) (i0 : Nat) (x1 : Int) (f2 : Bool) (l3 : List AVal) (x4 : Int) (x5 : Int) (h : Heap) : P28_0 d (k + 1) i0 x1 f2 l3 x4 x5 h =
  (bif (decide ((x5 : Int) < x4)) then
    (bif (decide ((0 : Int) ≤ x5) && decide ((x5 : Int) < (l3.length : Int))) then
      (aggK 3 (l3.getD (Int.toNat x5) AVal.undef) fun cc1 =>
        (bif ((cc1.length == 3) && true) then
          (bif decide (0 + 3 ≤ cc1.length) then
            (runK (evFn Cw d 23 [(AVal.agg ((cc1.drop 0).take 3))] h) fun r2 h2 =>
              (consK r2 fun w3 ws4 =>
                (boolK w3 fun bb5 =>
                  (nilK ws4
                    (bif (!bb5) then
                      (P28_0 d k i0 x1 f2 l3 x4 (IntKind.i64.wrap (x5 + 1)) h2)
                    else
                      (optK (cc1[0]?) fun w6 =>
                        (intK .i64 w6 fun y7 =>
                          (bif ((y7 : Int) == 1) then
                            (optK (cc1[1]?) fun w8 =>
                              (strK w8 fun ss9 =>
                                (optK (cc1[2]?) fun w10 =>
                                  (strK w10 fun ss11 =>
                                    (runK (evFn Cw d 34 [(AVal.obj i0 0), (AVal.str ss9), (AVal.str ss11)] h2) fun r12 h12 =>
                                      (nilK r12
                                        (P28_0 d k i0 (IntKind.i64.wrap (x1 + 1)) f2 l3 x4 (IntKind.i64.wrap (x5 + 1)) h12)))))))
                          else
                            (optK (Heap.cell? h2 i0 0) fun z13 =>
                              (optK (cc1[1]?) fun w14 =>
                                (strK w14 fun ss15 =>
                                  (runK (evFn Cw d 35 [(HCell.toA z13), (AVal.str ss15)] h2) fun r16 h16 =>
                                    (consK r16 fun w17 ws18 =>
                                      (strK w17 fun ss19 =>
                                        (consK ws18 fun w20 ws21 =>
                                          (boolK w20 fun bb22 =>
                                            (nilK ws21
                                              (bif bb22 then
                                                (optK (Heap.cell? h16 i0 1) fun z23 =>
                                                  (intK .i64 (HCell.toA z23) fun y24 =>
                                                    (optK (cc1[1]?) fun w25 =>
                                                      (strK w25 fun ss26 =>
                                                        (optK (Heap.cell? h16 i0 1) fun _ =>
                                                          (P28_0 d k i0 (IntKind.i64.wrap (x1 + 1)) f2 l3 x4 (IntKind.i64.wrap (x5 + 1)) (Heap.setCell h16 i0 1 (HCell.val (AVal.int .i64 (IntKind.i64.wrap (y24 - (IntKind.i64.wrap ((ss26.length : Int) + (ss19.length : Int))))))))))))))
                                              else
                                                (P28_0 d k i0 (IntKind.i64.wrap (x1 + 1)) f2 l3 x4 (IntKind.i64.wrap (x5 + 1)) h16)))))))))))))))))))
          else
            Tr.fail)
        else
          Tr.fail))
    else
      Tr.fail)
  else
    (Tr.ret ([(AVal.int .i64 x1)], h))) := by kernel_rfl
theorem F28_eq (d : Nat) (i0 : Nat) (f1 : Bool) (l2 : List AVal) (h : Heap) : evFn Cw (d + 1) 28 [(AVal.obj i0 0), (AVal.sl f1 4 l2)] h =
  (P28_0 d rounds i0 0 f1 l2 (l2.length : Int) 0 h) := by kernel_rfl
/- f37 (*strandline/table.Table).tree -/
theorem F37_eq (d : Nat) (i0 : Nat) (h : Heap) : evFn Cw (d + 1) 37 [(AVal.obj i0 0)] h =
  (optK (Heap.cell? h i0 0) fun z1 =>
    (Tr.ret ([(HCell.toA z1)], h))) := by kernel_rfl
/- f30 (*strandline/table.Table).Len -/
theorem F30_eq (d : Nat) (i0 : Nat) (h : Heap) : evFn Cw (d + 1) 30 [(AVal.obj i0 0)] h =
  (runK (evFn Cw d 37 [(AVal.obj i0 0)] h) fun r1 h1 =>
    (consK r1 fun w2 ws3 =>
      (nilK ws3
        (runK (evFn Cw d 38 [w2] h1) fun r4 h4 =>
          (consK r4 fun w5 ws6 =>
            (intK .i64 w5 fun y7 =>
              (nilK ws6
                (Tr.ret ([(AVal.int .i64 y7)], h4))))))))) := by kernel_rfl
/- f29 (*strandline/table.Table).Range -/
theorem F29_eq (d : Nat) (i0 : Nat) (s1 : List UInt8) (s2 : List UInt8) (x3 : Int) (h : Heap) : evFn Cw (d + 1) 29 [(AVal.obj i0 0), (AVal.str s1), (AVal.str s2), (AVal.int .i64 x3)] h =
  (runK (evFn Cw d 37 [(AVal.obj i0 0)] h) fun r1 h1 =>
    (consK r1 fun w2 ws3 =>
      (nilK ws3
        (runK (evFn Cw d 36 [w2, (AVal.str s1), (AVal.str s2), (AVal.int .i64 x3)] h1) fun r4 h4 =>
          (consK r4 fun w5 ws6 =>
            (slOK 3 w5 fun es7 =>
              (nilK ws6
                (Tr.ret ([(AVal.sl false 3 es7)], h4))))))))) := by kernel_rfl
/- f19 (*strandline/table.Table).Pairs -/
theorem F19_eq (d : Nat) (i0 : Nat) (h : Heap) : evFn Cw (d + 1) 19 [(AVal.obj i0 0)] h =
  (runK (evFn Cw d 30 [(AVal.obj i0 0)] h) fun r1 h1 =>
    (consK r1 fun w2 ws3 =>
      (intK .i64 w2 fun y4 =>
        (nilK ws3
          (runK (evFn Cw d 29 [(AVal.obj i0 0), (AVal.str []), (AVal.str []), (AVal.int .i64 y4)] h1) fun r5 h5 =>
            (consK r5 fun w6 ws7 =>
              (slOK 3 w6 fun es8 =>
                (nilK ws7
                  (Tr.ret ([(AVal.sl false 3 es8)], h5)))))))))) := by kernel_rfl
/- f20 strandline/strandlineref10.Right -/
theorem F20_eq (d : Nat) (x0 : Int) (s1 : List UInt8) (s2 : List UInt8) (h : Heap) : evFn Cw (d + 1) 20 [(AVal.agg [(AVal.int .i64 x0), (AVal.str s1), (AVal.str s2)])] h =
  (bif (((s1.length : Int) : Int) == 0) then
    (Tr.ret ([(AVal.bool false)], h))
  else
    (bif (decide (((s1.length : Int) : Int) > 24)) then
      (Tr.ret ([(AVal.bool false)], h))
    else
      (bif (decide (((s2.length : Int) : Int) > 128)) then
        (Tr.ret ([(AVal.bool false)], h))
      else
        (bif ((x0 : Int) == 1) then
          (Tr.ret ([(AVal.bool true)], h))
        else
          (bif ((x0 : Int) == 2) then (Tr.ret ([(AVal.bool (s2 == []))], h)) else (Tr.ret ([(AVal.bool false)], h))))))) := by kernel_rfl
/- f11 strandline/strandlineref33.Apply -/
noncomputable def P11_0 (d k : Nat) (f0 : Bool) (l1 : List AVal) (f2 : Bool) (l3 : List AVal) (x4 : Int) (x5 : Int) (h : Heap) : Tr Res :=
  loopPt Cw d 11 [true, true, false, true, true] [] k ⟨[(0, (EV.one (SV.val (AVal.sl f0 3 l1)))), (1, (EV.one (SV.val (AVal.sl f2 4 l3)))), (6, (EV.one (SV.val (AVal.int .i64 x4)))), (7, (EV.one (SV.val (AVal.int .i64 x5))))], []⟩ h
theorem P11_0_eq (d k : Nat) (f0 : Bool) (l1 : List AVal) (f2 : Bool) (l3 : List AVal) (x4 : Int) (x5 : Int) (h : Heap) : P11_0 d (k + 1) f0 l1 f2 l3 x4 x5 h =
  (bif (decide ((x5 : Int) < (l3.length : Int))) then
    (bif (decide ((0 : Int) ≤ x5) && decide ((x5 : Int) < (l3.length : Int))) then
      (aggK 3 (l3.getD (Int.toNat x5) AVal.undef) fun cc1 =>
        (runK (evFn Cw d 20 [(AVal.agg cc1)] h) fun r2 h2 =>
          (consK r2 fun w3 ws4 =>
            (boolK w3 fun bb5 =>
              (nilK ws4
                (bif (!bb5) then
                  (P11_0 d k f0 l1 f2 l3 x4 (IntKind.i64.wrap (x5 + 1)) h2)
                else
                  (bif (decide ((0 : Int) ≤ x5) && decide ((x5 : Int) < (l3.length : Int))) then
                    (optK ((AVal.cells (l3.getD (Int.toNat x5) AVal.undef))[0]?) fun w6 =>
                      (intK .i64 w6 fun y7 =>
                        (bif ((y7 : Int) == 1) then
                          (bif (decide ((0 : Int) ≤ x5) && decide ((x5 : Int) < (l3.length : Int))) then
                            (optK ((AVal.cells (l3.getD (Int.toNat x5) AVal.undef))[1]?) fun w8 =>
                              (strK w8 fun ss9 =>
                                (bif (decide ((0 : Int) ≤ x5) && decide ((x5 : Int) < (l3.length : Int))) then
                                  (optK ((AVal.cells (l3.getD (Int.toNat x5) AVal.undef))[2]?) fun w10 =>
                                    (strK w10 fun ss11 =>
                                      (runK (evFn Cw d 21 [(AVal.sl f0 3 l1), (AVal.str ss9), (AVal.str ss11)] h2) fun r12 h12 =>
                                        (consK r12 fun w13 ws14 =>
                                          (slOK 3 w13 fun es15 =>
                                            (nilK ws14
                                              (P11_0 d k false es15 f2 l3 (IntKind.i64.wrap (x4 + 1)) (IntKind.i64.wrap (x5 + 1)) h12)))))))
                                else
                                  Tr.fail)))
                          else
                            Tr.fail)
                        else
                          (bif (decide ((0 : Int) ≤ x5) && decide ((x5 : Int) < (l3.length : Int))) then
                            (optK ((AVal.cells (l3.getD (Int.toNat x5) AVal.undef))[1]?) fun w16 =>
                              (strK w16 fun ss17 =>
                                (runK (evFn Cw d 22 [(AVal.sl f0 3 l1), (AVal.str ss17)] h2) fun r18 h18 =>
                                  (consK r18 fun w19 ws20 =>
                                    (slOK 3 w19 fun es21 =>
                                      (nilK ws20
                                        (P11_0 d k false es21 f2 l3 (IntKind.i64.wrap (x4 + 1)) (IntKind.i64.wrap (x5 + 1)) h18)))))))
                          else
                            Tr.fail))))
                  else
                    Tr.fail)))))))
    else
      Tr.fail)
  else
    (Tr.ret ([(AVal.sl f0 3 l1), (AVal.int .i64 x4)], h))) := by kernel_rfl
theorem F11_eq (d : Nat) (f0 : Bool) (l1 : List AVal) (f2 : Bool) (l3 : List AVal) (h : Heap) : evFn Cw (d + 1) 11 [(AVal.sl f0 3 l1), (AVal.sl f2 4 l3)] h =
  (P11_0 d rounds f0 l1 f2 l3 0 0 h) := by kernel_rfl
noncomputable def P11n_0 (d k : Nat) (v0 : AVal) (f1 : Bool) (l2 : List AVal) (x3 : Int) (x4 : Int) (h : Heap) : Tr Res :=
  loopPt Cw d 11 [true, true, false, true, true] [] k ⟨[(0, (EV.one (SV.val v0))), (1, (EV.one (SV.val (AVal.sl f1 4 l2)))), (6, (EV.one (SV.val (AVal.int .i64 x3)))), (7, (EV.one (SV.val (AVal.int .i64 x4))))], []⟩ h
theorem P11n_0_eq (d k : Nat) (v0 : AVal) (f1 : Bool) (l2 : List AVal) (x3 : Int) (x4 : Int) (h : Heap) : P11n_0 d (k + 1) v0 f1 l2 x3 x4 h =
  (bif (decide ((x4 : Int) < (l2.length : Int))) then
    (bif (decide ((0 : Int) ≤ x4) && decide ((x4 : Int) < (l2.length : Int))) then
      (aggK 3 (l2.getD (Int.toNat x4) AVal.undef) fun cc1 =>
        (runK (evFn Cw d 20 [(AVal.agg cc1)] h) fun r2 h2 =>
          (consK r2 fun w3 ws4 =>
            (boolK w3 fun bb5 =>
              (nilK ws4
                (bif (!bb5) then
                  (P11n_0 d k v0 f1 l2 x3 (IntKind.i64.wrap (x4 + 1)) h2)
                else
                  (bif (decide ((0 : Int) ≤ x4) && decide ((x4 : Int) < (l2.length : Int))) then
                    (optK ((AVal.cells (l2.getD (Int.toNat x4) AVal.undef))[0]?) fun w6 =>
                      (intK .i64 w6 fun y7 =>
                        (bif ((y7 : Int) == 1) then
                          (bif (decide ((0 : Int) ≤ x4) && decide ((x4 : Int) < (l2.length : Int))) then
                            (optK ((AVal.cells (l2.getD (Int.toNat x4) AVal.undef))[1]?) fun w8 =>
                              (strK w8 fun ss9 =>
                                (bif (decide ((0 : Int) ≤ x4) && decide ((x4 : Int) < (l2.length : Int))) then
                                  (optK ((AVal.cells (l2.getD (Int.toNat x4) AVal.undef))[2]?) fun w10 =>
                                    (strK w10 fun ss11 =>
                                      (runK (evFn Cw d 21 [v0, (AVal.str ss9), (AVal.str ss11)] h2) fun r12 h12 =>
                                        (consK r12 fun w13 ws14 =>
                                          (slOK 3 w13 fun es15 =>
                                            (nilK ws14
                                              (P11n_0 d k (AVal.sl false 3 es15) f1 l2 (IntKind.i64.wrap (x3 + 1)) (IntKind.i64.wrap (x4 + 1)) h12)))))))
                                else
                                  Tr.fail)))
                          else
                            Tr.fail)
                        else
                          (bif (decide ((0 : Int) ≤ x4) && decide ((x4 : Int) < (l2.length : Int))) then
                            (optK ((AVal.cells (l2.getD (Int.toNat x4) AVal.undef))[1]?) fun w16 =>
                              (strK w16 fun ss17 =>
                                (runK (evFn Cw d 22 [v0, (AVal.str ss17)] h2) fun r18 h18 =>
                                  (consK r18 fun w19 ws20 =>
                                    (slOK 3 w19 fun es21 =>
                                      (nilK ws20
                                        (P11n_0 d k (AVal.sl false 3 es21) f1 l2 (IntKind.i64.wrap (x3 + 1)) (IntKind.i64.wrap (x4 + 1)) h18)))))))
                          else
                            Tr.fail))))
                  else
                    Tr.fail)))))))
    else
      Tr.fail)
  else
    (Tr.ret ([v0, (AVal.int .i64 x3)], h))) := by kernel_rfl
theorem F11n_eq (d : Nat) (f0 : Bool) (l1 : List AVal) (h : Heap) : evFn Cw (d + 1) 11 [(AVal.sl true 0 []), (AVal.sl f0 4 l1)] h =
  (P11n_0 d rounds (AVal.sl true 0 []) f0 l1 0 0 h) := by kernel_rfl
end Go.Proofs.Ytbddfpakhealbaa.Wa
end

section
/- Tables. -/
namespace Go.Proofs.Ytbddfpakhealbaa.Wa
open Go Go.Weave
set_option maxRecDepth 100000
set_option linter.unusedSimpArgs false
set_option linter.unusedVariables false
set_option linter.unusedSectionVars false

/-! ### Sorted pairs, plainly -/
def btot : List KPair → Nat
  | [] => 0
  | p :: l => p.key.length + p.val.length + btot l
theorem btot_append (a b : List KPair) : btot (a ++ b) = btot a + btot b := by
  induction a with
  | nil => simp [btot]
  | cons p a ih => simp only [List.cons_append, btot, ih]; omega
theorem btot_le {B : Nat} : ∀ {l : List KPair}, (∀ p ∈ l, p.key.length ≤ B ∧ p.val.length ≤ B) → btot l ≤ l.length * (2 * B)
  | [], _ => by simp [btot]
  | p :: l, h => by
    have h1 := h p List.mem_cons_self
    have h2 := btot_le fun q hq => h q (List.mem_cons_of_mem _ hq)
    simp only [btot, List.length_cons, Nat.add_mul, Nat.one_mul]
    omega
theorem btot_new {k v : List UInt8} {l : List KPair} (h : (lget k l).isSome = false) : btot (lput k v l) = btot l + v.length + k.length := by
  have h0 := lget_none h
  have : ∀ l : List KPair, (∀ p ∈ l, p.key ≠ k) → btot (l.filter (fun p => blt p.key k)) + btot (l.filter (fun p => blt k p.key)) = btot l := by
    intro l
    induction l with
    | nil => intro _; rfl
    | cons p l ih =>
      intro h
      have ih := ih fun q hq => h q (List.mem_cons_of_mem _ hq)
      have hp := h p List.mem_cons_self
      rw [List.filter_cons, List.filter_cons]
      by_cases c : blt p.key k = true
      · rw [if_pos c, if_neg (by rw [blt_asym c]; simp)]
        simp only [btot]; omega
      · have c2 : blt k p.key = true := by
          cases hh : blt k p.key
          · exact absurd (blt_tri (by simpa using c) hh) hp
          · rfl
        rw [if_neg c, if_pos c2]
        simp only [btot]; omega
  unfold lput
  rw [btot_append]
  simp only [btot]
  have := this l h0
  omega
theorem lget_split {k : List UInt8} {l : List KPair} (h : (lget k l).isSome = true) : ∃ a b, l = a ++ ⟨k, oVal (lget k l)⟩ :: b := by
  cases hp : lget k l with
  | none => rw [hp] at h; simp at h
  | some p =>
    unfold lget at hp
    have e : p.key = k := by simpa using List.find?_some hp
    obtain ⟨a, b, e2⟩ := List.append_of_mem (List.mem_of_find?_eq_some hp)
    exact ⟨a, b, by rw [e2, ← e]; rfl⟩
theorem btot_old {k v : List UInt8} {l : List KPair} (hs : Srt l) (h : (lget k l).isSome = true) : btot (lput k v l) + (oVal (lget k l)).length = btot l + v.length := by
  obtain ⟨a, b, e⟩ := lget_split h
  generalize oVal (lget k l) = x at e
  subst e
  rw [lput_eq hs, btot_append, btot_append]
  simp only [btot]; omega
theorem btot_del {k : List UInt8} {l : List KPair} (hs : Srt l) (h : (lget k l).isSome = true) : btot (ldel k l) + (k.length + (oVal (lget k l)).length) = btot l := by
  obtain ⟨a, b, e⟩ := lget_split h
  generalize oVal (lget k l) = x at e
  subst e
  have := ldel_eq hs
  simp only at this
  rw [this, btot_append, btot_append]
  simp only [btot]; omega
theorem oVal_new {k : List UInt8} {l : List KPair} (h : (lget k l).isSome = false) : oVal (lget k l) = [] := by cases hp : lget k l <;> simp_all [oVal]
/-! ### Operations, plainly -/
def rightO (o : KOp) : Bool := decide (1 ≤ o.key.length) && (decide (o.key.length ≤ 24) && ((o.kind == 1 && decide (o.val.length ≤ 128)) || (o.kind == 2 && (o.val == []))))
def apO (l : List KPair) (o : KOp) : List KPair := if o.kind = 1 then lput o.key o.val l else ldel o.key l
def aps (l : List KPair) (ops : List KOp) : List KPair := ops.foldl (fun l o => if rightO o then apO l o else l) l
def cntO (ops : List KOp) : Nat := (ops.filter rightO).length
theorem aps_nil (l : List KPair) : aps l [] = l := rfl
theorem aps_cons (l : List KPair) (o : KOp) (ops : List KOp) : aps l (o :: ops) = aps (if rightO o then apO l o else l) ops := rfl
theorem apO_srt {l : List KPair} {o : KOp} (h : Srt l) : Srt (apO l o) := by unfold apO; split; exact h.put; exact h.del
theorem aps_srt : ∀ {ops : List KOp} {l : List KPair}, Srt l → Srt (aps l ops)
  | [], _, h => h
  | o :: ops, l, h => by
    rw [aps_cons]
    exact aps_srt (by split; exact apO_srt h; exact h)
end Go.Proofs.Ytbddfpakhealbaa.Wa
end

section
/- Tables: what the program does with them. -/
namespace Go.Proofs.Ytbddfpakhealbaa.Wa
open Go Go.Weave
set_option maxRecDepth 100000
set_option linter.unusedSimpArgs false
set_option linter.unusedVariables false
set_option linter.unusedSectionVars false

/-! ### Right operations -/
theorem opright_run {d : Nat} {o : KOp} {h : Heap} {Q : Res → Prop} {tg : Hid Q} : Run (evFn Cw (d + 1) 23 [.agg [.int .i64 o.kind, .str o.key, .str o.val]] h) Q tg = Q ([.bool (rightO o)], h) := by
  rw [F23_eq]
  by_cases c1 : 1 ≤ o.key.length
  · by_cases c2 : o.key.length ≤ 24
    · by_cases c3 : o.kind = 1
      · have c3' : (o.kind == 1) = true := by simp [c3]
        have e : rightO o = decide ((o.val.length : Int) ≤ 128) := by simp [rightO, c1, c2, c3]; omega
        rw [e]
        simp (disch := (first | assumption | (simp only [Bool.and_eq_true, Bool.and_eq_false_iff, decide_eq_true_eq, decide_eq_false_iff_not, bne_iff_ne, beq_iff_eq, beq_eq_false_iff_ne, bne_eq_false_iff_eq, Bool.not_eq_true', Bool.not_eq_false', bys_length, List.length_append, List.length_cons, List.length_nil, List.length_map, List.length_drop, List.length_take, Int.natCast_add, wrap_i64_eq, wrap_u64, wrap_u8, ne_eq, not_true_eq_false, not_false_eq_true, Nat.zero_add, Nat.mul_one] <;> omega) | omega | (simp; done) | (simp; omega))) only [↓CR, MC, ↓PR, MR, c3']
      · have c3' : (o.kind == 1) = false := by simpa using c3
        by_cases c4 : o.kind = 2
        · have c4' : (o.kind == 2) = true := by simp [c4]
          have e : rightO o = (o.val == []) := by simp [rightO, c1, c2, c4]
          rw [e]
          simp (disch := (first | assumption | (simp only [Bool.and_eq_true, Bool.and_eq_false_iff, decide_eq_true_eq, decide_eq_false_iff_not, bne_iff_ne, beq_iff_eq, beq_eq_false_iff_ne, bne_eq_false_iff_eq, Bool.not_eq_true', Bool.not_eq_false', bys_length, List.length_append, List.length_cons, List.length_nil, List.length_map, List.length_drop, List.length_take, Int.natCast_add, wrap_i64_eq, wrap_u64, wrap_u8, ne_eq, not_true_eq_false, not_false_eq_true, Nat.zero_add, Nat.mul_one] <;> omega) | omega | (simp; done) | (simp; omega))) only [↓CR, MC, ↓PR, MR, c3', c4']
        · have c4' : (o.kind == 2) = false := by simpa using c4
          have e : rightO o = false := by simp [rightO, c3, c4]
          rw [e]
          simp (disch := (first | assumption | (simp only [Bool.and_eq_true, Bool.and_eq_false_iff, decide_eq_true_eq, decide_eq_false_iff_not, bne_iff_ne, beq_iff_eq, beq_eq_false_iff_ne, bne_eq_false_iff_eq, Bool.not_eq_true', Bool.not_eq_false', bys_length, List.length_append, List.length_cons, List.length_nil, List.length_map, List.length_drop, List.length_take, Int.natCast_add, wrap_i64_eq, wrap_u64, wrap_u8, ne_eq, not_true_eq_false, not_false_eq_true, Nat.zero_add, Nat.mul_one] <;> omega) | omega | (simp; done) | (simp; omega))) only [↓CR, MC, ↓PR, MR, c3', c4']
    · have e : rightO o = false := by simp [rightO, c2]
      rw [e]
      simp (disch := (first | assumption | (simp only [Bool.and_eq_true, Bool.and_eq_false_iff, decide_eq_true_eq, decide_eq_false_iff_not, bne_iff_ne, beq_iff_eq, beq_eq_false_iff_ne, bne_eq_false_iff_eq, Bool.not_eq_true', Bool.not_eq_false', bys_length, List.length_append, List.length_cons, List.length_nil, List.length_map, List.length_drop, List.length_take, Int.natCast_add, wrap_i64_eq, wrap_u64, wrap_u8, ne_eq, not_true_eq_false, not_false_eq_true, Nat.zero_add, Nat.mul_one] <;> omega) | omega | (simp; done) | (simp; omega))) only [↓CR, MC, ↓PR, MR]
  · have e : rightO o = false := by simp [rightO, c1]
    rw [e]
    simp (disch := (first | assumption | (simp only [Bool.and_eq_true, Bool.and_eq_false_iff, decide_eq_true_eq, decide_eq_false_iff_not, bne_iff_ne, beq_iff_eq, beq_eq_false_iff_ne, bne_eq_false_iff_eq, Bool.not_eq_true', Bool.not_eq_false', bys_length, List.length_append, List.length_cons, List.length_nil, List.length_map, List.length_drop, List.length_take, Int.natCast_add, wrap_i64_eq, wrap_u64, wrap_u8, ne_eq, not_true_eq_false, not_false_eq_true, Nat.zero_add, Nat.mul_one] <;> omega) | omega | (simp; done) | (simp; omega))) only [↓CR, MC, ↓PR, MR]
theorem r10right_run {d : Nat} {o : KOp} {h : Heap} {Q : Res → Prop} {tg : Hid Q} : Run (evFn Cw (d + 1) 20 [.agg [.int .i64 o.kind, .str o.key, .str o.val]] h) Q tg = Q ([.bool (rightO o)], h) := by
  rw [F20_eq]
  by_cases c1 : 1 ≤ o.key.length
  · have k1 : ((o.key.length : Int) == 0) = false := by simp; intro e; rw [e] at c1; simp at c1
    by_cases c2 : o.key.length ≤ 24
    · by_cases c5 : o.val.length ≤ 128
      · by_cases c3 : o.kind = 1
        · have c3' : (o.kind == 1) = true := by simp [c3]
          have e : rightO o = true := by simp [rightO, c1, c2, c3, c5]
          rw [e]
          simp (disch := (first | assumption | (simp only [Bool.and_eq_true, Bool.and_eq_false_iff, decide_eq_true_eq, decide_eq_false_iff_not, bne_iff_ne, beq_iff_eq, beq_eq_false_iff_ne, bne_eq_false_iff_eq, Bool.not_eq_true', Bool.not_eq_false', bys_length, List.length_append, List.length_cons, List.length_nil, List.length_map, List.length_drop, List.length_take, Int.natCast_add, wrap_i64_eq, wrap_u64, wrap_u8, ne_eq, not_true_eq_false, not_false_eq_true, Nat.zero_add, Nat.mul_one] <;> omega) | omega | (simp; done) | (simp; omega))) only [↓CR, MC, ↓PR, MR, c3', k1]
        · have c3' : (o.kind == 1) = false := by simpa using c3
          by_cases c4 : o.kind = 2
          · have c4' : (o.kind == 2) = true := by simp [c4]
            have e : rightO o = (o.val == []) := by simp [rightO, c1, c2, c4]
            rw [e]
            simp (disch := (first | assumption | (simp only [Bool.and_eq_true, Bool.and_eq_false_iff, decide_eq_true_eq, decide_eq_false_iff_not, bne_iff_ne, beq_iff_eq, beq_eq_false_iff_ne, bne_eq_false_iff_eq, Bool.not_eq_true', Bool.not_eq_false', bys_length, List.length_append, List.length_cons, List.length_nil, List.length_map, List.length_drop, List.length_take, Int.natCast_add, wrap_i64_eq, wrap_u64, wrap_u8, ne_eq, not_true_eq_false, not_false_eq_true, Nat.zero_add, Nat.mul_one] <;> omega) | omega | (simp; done) | (simp; omega))) only [↓CR, MC, ↓PR, MR, c3', c4', k1]
          · have c4' : (o.kind == 2) = false := by simpa using c4
            have e : rightO o = false := by simp [rightO, c3, c4]
            rw [e]
            simp (disch := (first | assumption | (simp only [Bool.and_eq_true, Bool.and_eq_false_iff, decide_eq_true_eq, decide_eq_false_iff_not, bne_iff_ne, beq_iff_eq, beq_eq_false_iff_ne, bne_eq_false_iff_eq, Bool.not_eq_true', Bool.not_eq_false', bys_length, List.length_append, List.length_cons, List.length_nil, List.length_map, List.length_drop, List.length_take, Int.natCast_add, wrap_i64_eq, wrap_u64, wrap_u8, ne_eq, not_true_eq_false, not_false_eq_true, Nat.zero_add, Nat.mul_one] <;> omega) | omega | (simp; done) | (simp; omega))) only [↓CR, MC, ↓PR, MR, c3', c4', k1]
      · have c6 : (o.val == []) = false := by simp; intro e; rw [e] at c5; simp at c5
        have e : rightO o = false := by simp only [rightO, c6, Bool.and_false, Bool.or_false]; simp [c5]
        rw [e]
        simp (disch := (first | assumption | (simp only [Bool.and_eq_true, Bool.and_eq_false_iff, decide_eq_true_eq, decide_eq_false_iff_not, bne_iff_ne, beq_iff_eq, beq_eq_false_iff_ne, bne_eq_false_iff_eq, Bool.not_eq_true', Bool.not_eq_false', bys_length, List.length_append, List.length_cons, List.length_nil, List.length_map, List.length_drop, List.length_take, Int.natCast_add, wrap_i64_eq, wrap_u64, wrap_u8, ne_eq, not_true_eq_false, not_false_eq_true, Nat.zero_add, Nat.mul_one] <;> omega) | omega | (simp; done) | (simp; omega))) only [↓CR, MC, ↓PR, MR, k1]
    · have e : rightO o = false := by simp [rightO, c2]
      rw [e]
      simp (disch := (first | assumption | (simp only [Bool.and_eq_true, Bool.and_eq_false_iff, decide_eq_true_eq, decide_eq_false_iff_not, bne_iff_ne, beq_iff_eq, beq_eq_false_iff_ne, bne_eq_false_iff_eq, Bool.not_eq_true', Bool.not_eq_false', bys_length, List.length_append, List.length_cons, List.length_nil, List.length_map, List.length_drop, List.length_take, Int.natCast_add, wrap_i64_eq, wrap_u64, wrap_u8, ne_eq, not_true_eq_false, not_false_eq_true, Nat.zero_add, Nat.mul_one] <;> omega) | omega | (simp; done) | (simp; omega))) only [↓CR, MC, ↓PR, MR, k1]
  · have k1 : ((o.key.length : Int) == 0) = true := by rw [beq_iff_eq]; omega
    have e : rightO o = false := by simp [rightO, c1]
    rw [e]
    simp (disch := (first | assumption | (simp only [Bool.and_eq_true, Bool.and_eq_false_iff, decide_eq_true_eq, decide_eq_false_iff_not, bne_iff_ne, beq_iff_eq, beq_eq_false_iff_ne, bne_eq_false_iff_eq, Bool.not_eq_true', Bool.not_eq_false', bys_length, List.length_append, List.length_cons, List.length_nil, List.length_map, List.length_drop, List.length_take, Int.natCast_add, wrap_i64_eq, wrap_u64, wrap_u8, ne_eq, not_true_eq_false, not_false_eq_true, Nat.zero_add, Nat.mul_one] <;> omega) | omega | (simp; done) | (simp; omega))) only [↓CR, MC, ↓PR, MR, k1]
theorem rightO_ok {o : KOp} (h : rightO o = true) : KPair.ok ⟨o.key, o.val⟩ := by
  unfold rightO at h
  simp only [Bool.and_eq_true, decide_eq_true_eq, Bool.or_eq_true, beq_iff_eq] at h
  obtain ⟨h1, h2, h3⟩ := h
  refine ⟨by show o.key.length ≤ _; omega, ?_⟩
  show o.val.length ≤ _
  rcases h3 with ⟨_, h3⟩ | ⟨_, h3⟩
  · omega
  · rw [h3]; simp

/-! ### A table -/
def tabO (ti : Nat) (b : Nat) : Weave.Obj := .cells [HCell.val (.obj ti 0), HCell.val (.int .i64 b)]
structure IsTab (h : Heap) (i ti : Nat) (t : Nd) : Prop where
  tb : h.objs[i]? = some (tabO ti (btot t.toL))
  tr : h.objs[ti]? = some (trT t)
  ne : i ≠ ti
  ok : TOk' t
  kv : ∀ p ∈ t.toL, p.key.length ≤ 140737488351232 ∧ p.val.length ≤ 140737488351232
theorem IsTab.bytes {h : Heap} {i ti : Nat} {t : Nd} (T : IsTab h i ti t) : btot t.toL ≤ 8725724277776384000 := by
  have := btot_le T.kv
  have h2 := T.ok.len
  have : t.toL.length * (2 * 140737488351232) ≤ 31000 * (2 * 140737488351232) := Nat.mul_le_mul_right _ h2
  omega
def tabH (h : Heap) (i ti : Nat) (t : Nd) : Heap := (h.put ti (trT t)).put i (tabO ti (btot t.toL))
theorem tabH_tabH {h : Heap} {i ti : Nat} {t t' : Nd} (hne : i ≠ ti) : tabH (tabH h i ti t) i ti t' = tabH h i ti t' := by
  unfold tabH
  rw [Heap.put_comm _ _ _ hne, Heap.put_put, Heap.put_put]
theorem tabH_self {h : Heap} {i ti : Nat} {t : Nd} (T : IsTab h i ti t) : tabH h i ti t = h := by
  unfold tabH
  rw [Heap.put_self' T.tr, Heap.put_self' T.tb]
theorem IsTab.step {h : Heap} {i ti : Nat} {t t' : Nd} (T : IsTab h i ti t) (ok : TOk' t') (kv : ∀ p ∈ t'.toL, p.key.length ≤ 140737488351232 ∧ p.val.length ≤ 140737488351232) : IsTab (tabH h i ti t') i ti t' := by
  refine ⟨?_, ?_, T.ne, ok, kv⟩
  · unfold tabH; exact Heap.put_get (o' := tabO ti (btot t.toL)) (by rw [Heap.put_ne (Ne.symm T.ne)]; exact T.tb)
  · unfold tabH; rw [Heap.put_ne T.ne]; exact Heap.put_get T.tr
theorem IsTab.ext {h h' : Heap} {i ti : Nat} {t : Nd} (T : IsTab h i ti t) (E : h.ext h') : IsTab h' i ti t := ⟨E.get T.tb, E.get T.tr, T.ne, T.ok, T.kv⟩
theorem tab_t {h : Heap} {i ti b : Nat} (hm : h.objs[i]? = some (tabO ti b)) : h.cell? i 0 = some (HCell.val (.obj ti 0)) := by rw [Heap.cell_at hm]; rfl
theorem tab_b {h : Heap} {i ti b : Nat} (hm : h.objs[i]? = some (tabO ti b)) : h.cell? i 1 = some (HCell.val (.int .i64 b)) := by rw [Heap.cell_at hm]; rfl
theorem tab_s {h : Heap} {i ti b b' : Nat} (hm : h.objs[i]? = some (tabO ti b)) : h.setCell i 1 (HCell.val (.int .i64 b')) = h.put i (tabO ti b') := by rw [Heap.set_at hm]; rfl
theorem lput_kv {k v : List UInt8} {l : List KPair} (hk : k.length ≤ 140737488351232) (hv : v.length ≤ 140737488351232) (h : ∀ p ∈ l, p.key.length ≤ 140737488351232 ∧ p.val.length ≤ 140737488351232) : ∀ p ∈ lput k v l, p.key.length ≤ 140737488351232 ∧ p.val.length ≤ 140737488351232 := by
  intro p hp
  unfold lput at hp
  rcases List.mem_append.1 hp with hp | hp
  · exact h p (List.mem_filter.1 hp).1
  · rcases List.mem_cons.1 hp with rfl | hp
    · exact ⟨hk, hv⟩
    · exact h p (List.mem_filter.1 hp).1
theorem tabput_run {d i ti : Nat} {t : Nd} {k v : List UInt8} {h : Heap} {Q : Res → Prop} {tg : Hid Q} (T : IsTab h i ti t) (hl : t.toL.length ≤ 30999) (hk : k.length ≤ 140737488351232) (hv : v.length ≤ 140737488351232) (hd : 31010 ≤ d) :
    Run (evFn Cw (d + 1) 34 [.obj i 0, .str k, .str v] h) Q tg = Q ([], tabH h i ti (t.put k v)) := by
  have rp := fun (Q : Res → Prop) (tg : Hid Q) => tput_run (d := d) (k := k) (v := v) (Q := Q) (tg := tg) T.ok hl T.tr hd
  have hb := T.bytes
  have m1 : (h.put ti (trT (t.put k v))).objs[i]? = some (tabO ti (btot t.toL)) := by rw [Heap.put_ne (Ne.symm T.ne)]; exact T.tb
  have eL := (T.ok.put k v hl).2
  rw [F34_eq]
  unfold tabH
  rw [eL]
  cases hg : (lget k t.toL).isSome
  · have eb := btot_new (v := v) hg
    have eo := oVal_new hg
    have e0' : (([] : List UInt8).length : Int) = 0 := rfl
    have e1 : IntKind.i64.wrap ((v.length : Int) - 0) = (v.length : Int) := by rw [wrap_i64_id (by omega) (by omega)]; omega
    have e2 : IntKind.i64.wrap (((btot t.toL : Nat) : Int) + (v.length : Int)) = ((btot t.toL + v.length : Nat) : Int) := by rw [wrap_i64_id (by omega) (by omega)]; omega
    have m2 : ((h.put ti (trT (t.put k v))).put i (tabO ti (btot t.toL + v.length))).objs[i]? = some (tabO ti (btot t.toL + v.length)) := Heap.put_get m1
    have e3 : IntKind.i64.wrap (((btot t.toL + v.length : Nat) : Int) + (k.length : Int)) = ((btot (lput k v t.toL) : Nat) : Int) := by rw [wrap_i64_id (by omega) (by omega)]; omega
    rw [hg, eo] at rp
    simp (disch := (first | assumption | (simp only [Bool.and_eq_true, Bool.and_eq_false_iff, decide_eq_true_eq, decide_eq_false_iff_not, bne_iff_ne, beq_iff_eq, beq_eq_false_iff_ne, bne_eq_false_iff_eq, Bool.not_eq_true', Bool.not_eq_false', bys_length, List.length_append, List.length_cons, List.length_nil, List.length_map, List.length_drop, List.length_take, Int.natCast_add, wrap_i64_eq, wrap_u64, wrap_u8, ne_eq, not_true_eq_false, not_false_eq_true, Nat.zero_add, Nat.mul_one] <;> omega) | omega | (simp; done) | (simp; omega))) only [↓CR, MC, ↓PR, MR, tab_t T.tb, rp, tab_b m1, e0', e1, e2, tab_s m1, Bool.not_false, tab_b m2, e3, tab_s m2, Heap.put_put]
  · have eb := btot_old (v := v) T.ok.srt hg
    have el := btot_del T.ok.srt hg
    rw [hg] at rp
    generalize (oVal (lget k t.toL)).length = n at *
    have e1 : IntKind.i64.wrap ((v.length : Int) - ((oVal (lget k t.toL)).length : Int)) = (v.length : Int) - ((oVal (lget k t.toL)).length : Int) := wrap_i64_id (by have := btot_del T.ok.srt hg; omega) (by have := btot_del T.ok.srt hg; omega)
    have e2 : IntKind.i64.wrap (((btot t.toL : Nat) : Int) + ((v.length : Int) - ((oVal (lget k t.toL)).length : Int))) = ((btot (lput k v t.toL) : Nat) : Int) := by
      have h1 := btot_del T.ok.srt hg
      have h2 := btot_old (v := v) T.ok.srt hg
      rw [wrap_i64_id (by omega) (by omega)]; omega
    simp (disch := (first | assumption | (simp only [Bool.and_eq_true, Bool.and_eq_false_iff, decide_eq_true_eq, decide_eq_false_iff_not, bne_iff_ne, beq_iff_eq, beq_eq_false_iff_ne, bne_eq_false_iff_eq, Bool.not_eq_true', Bool.not_eq_false', bys_length, List.length_append, List.length_cons, List.length_nil, List.length_map, List.length_drop, List.length_take, Int.natCast_add, wrap_i64_eq, wrap_u64, wrap_u8, ne_eq, not_true_eq_false, not_false_eq_true, Nat.zero_add, Nat.mul_one] <;> omega) | omega | (simp; done) | (simp; omega))) only [↓CR, MC, ↓PR, MR, tab_t T.tb, rp, tab_b m1, e1, e2, tab_s m1, Bool.not_true]
theorem tabnew_run {d : Nat} {h : Heap} {Q : Res → Prop} {tg : Hid Q} : Run (evFn Cw (d + 2) 27 [] h) Q tg = Q ([.obj (h.objs.length + 1) 0], (h.push (trT .nil)).push (tabO h.objs.length 0)) := by
  have e1 : (h.push (trT .nil)).objs.length = h.objs.length + 1 := Heap.push_len _ _
  have e2 : AVal.isAgg (.obj h.objs.length 0) = false := rfl
  have e3 : Weave.Obj.cells ([AVal.obj h.objs.length 0, AVal.int .i64 0].map HCell.val) = tabO h.objs.length 0 := of_eq_true (eq_self _)
  rw [F27_eq]
  simp (disch := (first | assumption | (simp only [Bool.and_eq_true, Bool.and_eq_false_iff, decide_eq_true_eq, decide_eq_false_iff_not, bne_iff_ne, beq_iff_eq, beq_eq_false_iff_ne, bne_eq_false_iff_eq, Bool.not_eq_true', Bool.not_eq_false', bys_length, List.length_append, List.length_cons, List.length_nil, List.length_map, List.length_drop, List.length_take, Int.natCast_add, wrap_i64_eq, wrap_u64, wrap_u8, ne_eq, not_true_eq_false, not_false_eq_true, Nat.zero_add, Nat.mul_one] <;> omega) | omega | (simp; done) | (simp; omega))) only [↓CR, MC, ↓PR, MR, tnew_run, e1, e2, e3, Bool.not_false]
theorem tabnew_is (h : Heap) : h.ext ((h.push (trT .nil)).push (tabO h.objs.length 0)) ∧ IsTab ((h.push (trT .nil)).push (tabO h.objs.length 0)) (h.objs.length + 1) h.objs.length .nil := by
  have E1 := Heap.ext.push h (trT .nil)
  have E2 := Heap.ext.push (h.push (trT .nil)) (tabO h.objs.length 0)
  have e1 : (h.push (trT .nil)).objs.length = h.objs.length + 1 := Heap.push_len _ _
  have m := Heap.push_new (h.push (trT .nil)) (tabO h.objs.length 0)
  rw [e1] at m
  exact ⟨E1.trans E2, m, E2.get (Heap.push_new _ _), by omega, ⟨trivial, List.Pairwise.nil, by simp [Nd.toL]⟩, by simp [Nd.toL]⟩
theorem tabtree_run {d i ti : Nat} {t : Nd} {h : Heap} {Q : Res → Prop} {tg : Hid Q} (T : IsTab h i ti t) : Run (evFn Cw (d + 1) 37 [.obj i 0] h) Q tg = Q ([.obj ti 0], h) := by
  rw [F37_eq]
  simp (disch := (first | assumption | (simp only [Bool.and_eq_true, Bool.and_eq_false_iff, decide_eq_true_eq, decide_eq_false_iff_not, bne_iff_ne, beq_iff_eq, beq_eq_false_iff_ne, bne_eq_false_iff_eq, Bool.not_eq_true', Bool.not_eq_false', bys_length, List.length_append, List.length_cons, List.length_nil, List.length_map, List.length_drop, List.length_take, Int.natCast_add, wrap_i64_eq, wrap_u64, wrap_u8, ne_eq, not_true_eq_false, not_false_eq_true, Nat.zero_add, Nat.mul_one] <;> omega) | omega | (simp; done) | (simp; omega))) only [↓CR, MC, ↓PR, MR, tab_t T.tb]
theorem tablen_run {d i ti : Nat} {t : Nd} {h : Heap} {Q : Res → Prop} {tg : Hid Q} (T : IsTab h i ti t) : Run (evFn Cw (d + 2) 30 [.obj i 0] h) Q tg = Q ([.int .i64 t.toL.length], h) := by
  have r := fun (Q : Res → Prop) (tg : Hid Q) => tabtree_run (d := d) (Q := Q) (tg := tg) T
  have q := fun (Q : Res → Prop) (tg : Hid Q) => tlen_run (d := d) (Q := Q) (tg := tg) T.tr
  rw [F30_eq]
  simp (disch := (first | assumption | (simp only [Bool.and_eq_true, Bool.and_eq_false_iff, decide_eq_true_eq, decide_eq_false_iff_not, bne_iff_ne, beq_iff_eq, beq_eq_false_iff_ne, bne_eq_false_iff_eq, Bool.not_eq_true', Bool.not_eq_false', bys_length, List.length_append, List.length_cons, List.length_nil, List.length_map, List.length_drop, List.length_take, Int.natCast_add, wrap_i64_eq, wrap_u64, wrap_u8, ne_eq, not_true_eq_false, not_false_eq_true, Nat.zero_add, Nat.mul_one] <;> omega) | omega | (simp; done) | (simp; omega))) only [↓CR, MC, ↓PR, MR, r, q]
theorem tabrange_run (d i ti : Nat) (t : Nd) (fr to : List UInt8) (most : Int) (h : Heap) (T : IsTab h i ti t) :
    ∃ h', h.ext h' ∧ ∀ (Q : Res → Prop) (tg : Hid Q), Run (evFn Cw (d + 6) 29 [.obj i 0, .str fr, .str to, .int .i64 most] h) Q tg = Q ([.sl false 3 (prs (rngR fr to most t.toL []))], h') := by
  obtain ⟨h', E, q⟩ := crange_run d ti fr to most t T.ok (fun p hp => (T.kv p hp).1) h T.tr
  refine ⟨h', E, fun Q tg => ?_⟩
  have r := fun (Q : Res → Prop) (tg : Hid Q) => tabtree_run (d := d + 4) (Q := Q) (tg := tg) T
  rw [F29_eq]
  simp (disch := (first | assumption | (simp only [Bool.and_eq_true, Bool.and_eq_false_iff, decide_eq_true_eq, decide_eq_false_iff_not, bne_iff_ne, beq_iff_eq, beq_eq_false_iff_ne, bne_eq_false_iff_eq, Bool.not_eq_true', Bool.not_eq_false', bys_length, List.length_append, List.length_cons, List.length_nil, List.length_map, List.length_drop, List.length_take, Int.natCast_add, wrap_i64_eq, wrap_u64, wrap_u8, ne_eq, not_true_eq_false, not_false_eq_true, Nat.zero_add, Nat.mul_one] <;> omega) | omega | (simp; done) | (simp; omega))) only [↓CR, MC, ↓PR, MR, r, q]
theorem rng_all {most : Int} : ∀ {l acc : List KPair}, ((acc.length + l.length : Nat) : Int) ≤ most → rngR [] [] most l acc = acc ++ l
  | [], acc, _ => by unfold rngR; simp
  | p :: l, acc, h => by
    unfold rngR
    simp only [List.length_cons] at h
    have e : (!blt p.key [] && inTo [] p.key) = true := by
      have : blt p.key [] = false := by cases p.key <;> rfl
      rw [this]; simp [inTo]
    rw [if_pos (by omega), if_pos e, rng_all (by simp; omega)]
    simp
theorem tabpairs_run (d i ti : Nat) (t : Nd) (h : Heap) (T : IsTab h i ti t) :
    ∃ h', h.ext h' ∧ ∀ (Q : Res → Prop) (tg : Hid Q), Run (evFn Cw (d + 7) 19 [.obj i 0] h) Q tg = Q ([.sl false 3 (prs t.toL)], h') := by
  obtain ⟨h', E, q⟩ := tabrange_run d i ti t [] [] (t.toL.length : Nat) h T
  have e : rngR [] [] (t.toL.length : Nat) t.toL [] = t.toL := by rw [rng_all (by simp)]; rfl
  rw [e] at q
  refine ⟨h', E, fun Q tg => ?_⟩
  have r := fun (Q : Res → Prop) (tg : Hid Q) => tablen_run (d := d + 4) (Q := Q) (tg := tg) T
  rw [F19_eq]
  simp (disch := (first | assumption | (simp only [Bool.and_eq_true, Bool.and_eq_false_iff, decide_eq_true_eq, decide_eq_false_iff_not, bne_iff_ne, beq_iff_eq, beq_eq_false_iff_ne, bne_eq_false_iff_eq, Bool.not_eq_true', Bool.not_eq_false', bys_length, List.length_append, List.length_cons, List.length_nil, List.length_map, List.length_drop, List.length_take, Int.natCast_add, wrap_i64_eq, wrap_u64, wrap_u8, ne_eq, not_true_eq_false, not_false_eq_true, Nat.zero_add, Nat.mul_one] <;> omega) | omega | (simp; done) | (simp; omega))) only [↓CR, MC, ↓PR, MR, r, q]
theorem cntO_cons (o : KOp) (ops : List KOp) : cntO (o :: ops) = (if rightO o then 1 else 0) + cntO ops := by
  unfold cntO
  rw [List.filter_cons]
  cases rightO o <;> simp
  omega
theorem tabapply_loop (d i ti : Nat) (f : Bool) (ops : List KOp) (ho : ops.length ≤ 31000) : ∀ (n j k c : Nat) (t : Nd) (h : Heap), IsTab h i ti t → t.toL.length + n ≤ 31000 → ops.length = j + n → n < k → c ≤ j →
    ∃ t', IsTab (tabH h i ti t') i ti t' ∧ t'.toL = aps t.toL (ops.drop j) ∧ ∀ (Q : Res → Prop) (tg : Hid Q),
      Run (P28_0 (d + 31020) k i c f (kops ops) (ops.length : Int) j h) Q tg = Q ([.int .i64 (c + cntO (ops.drop j) : Nat)], tabH h i ti t') := by
  intro n
  induction n with
  | zero =>
    intro j k c t h T hl hj hk hc
    obtain ⟨k, rfl⟩ : ∃ m, k = m + 1 := ⟨k - 1, by omega⟩
    have hd : ops.drop j = [] := List.drop_eq_nil_of_le (by omega)
    refine ⟨t, by rw [tabH_self T]; exact T, by rw [hd]; rfl, fun Q tg => ?_⟩
    rw [tabH_self T, P28_0_eq, hd]
    have e : c + cntO [] = c := rfl
    rw [e]
    simp (disch := (first | assumption | (simp only [Bool.and_eq_true, Bool.and_eq_false_iff, decide_eq_true_eq, decide_eq_false_iff_not, bne_iff_ne, beq_iff_eq, beq_eq_false_iff_ne, bne_eq_false_iff_eq, Bool.not_eq_true', Bool.not_eq_false', bys_length, List.length_append, List.length_cons, List.length_nil, List.length_map, List.length_drop, List.length_take, Int.natCast_add, wrap_i64_eq, wrap_u64, wrap_u8, ne_eq, not_true_eq_false, not_false_eq_true, Nat.zero_add, Nat.mul_one] <;> omega) | omega | (simp; done) | (simp; omega))) only [↓CR, MC, ↓PR, MR]
  | succ n ih =>
    intro j k c t h T hl hj hk hc
    obtain ⟨k, rfl⟩ : ∃ m, k = m + 1 := ⟨k - 1, by omega⟩
    have h1 : j < ops.length := by omega
    have e1 := succ_wrap (i := j) (by omega)
    have e2 := succ_wrap (i := c) (by omega)
    rw [List.drop_eq_getElem_cons h1, aps_cons, cntO_cons]
    cases hr : rightO ops[j]
    · obtain ⟨t', T', hL, r⟩ := ih (j + 1) k c t h T (by omega) (by omega) (by omega) (by omega)
      refine ⟨t', T', by simpa using hL, fun Q tg => ?_⟩
      have r' : ∀ (Q : Res → Prop) (tg : Hid Q), Run (P28_0 (d + 31020) k i c f (kops ops) (ops.length : Int) (j + 1 : Nat) h) Q tg = Q ([.int .i64 (c + ((if false = true then 1 else 0) + cntO (ops.drop (j + 1))) : Nat)], tabH h i ti t') := by simpa using r
      rw [P28_0_eq]
      simp (disch := (first | assumption | (simp only [Bool.and_eq_true, Bool.and_eq_false_iff, decide_eq_true_eq, decide_eq_false_iff_not, bne_iff_ne, beq_iff_eq, beq_eq_false_iff_ne, bne_eq_false_iff_eq, Bool.not_eq_true', Bool.not_eq_false', bys_length, List.length_append, List.length_cons, List.length_nil, List.length_map, List.length_drop, List.length_take, Int.natCast_add, wrap_i64_eq, wrap_u64, wrap_u8, ne_eq, not_true_eq_false, not_false_eq_true, Nat.zero_add, Nat.mul_one] <;> omega) | omega | (simp; done) | (simp; omega))) only [↓CR, MC, ↓PR, MR, kops_length, kops_getD h1, opright_run, hr, Bool.not_false, e1, r']
    · have hok := rightO_ok hr
      by_cases c1 : ops[j].kind = 1
      · have c1' : (ops[j].kind == 1) = true := by simp [c1]
        have rp := fun (Q : Res → Prop) (tg : Hid Q) => tabput_run (d := d + 31019) (k := ops[j].key) (v := ops[j].val) (Q := Q) (tg := tg) T (by omega) hok.1 hok.2 (by omega)
        obtain ⟨ok', hP⟩ := T.ok.put ops[j].key ops[j].val (by omega)
        have T1 := T.step ok' (by rw [hP]; exact lput_kv hok.1 hok.2 T.kv)
        have hlen' : (t.put ops[j].key ops[j].val).toL.length + n ≤ 31000 := by rw [hP]; have := lput_len_le (k := ops[j].key) (v := ops[j].val) T.ok.srt; omega
        obtain ⟨t', T', hL, r⟩ := ih (j + 1) k (c + 1) _ _ T1 hlen' (by omega) (by omega) (by omega)
        rw [tabH_tabH T.ne] at T' r
        refine ⟨t', T', by rw [if_pos rfl]; unfold apO; rw [if_pos c1, hL, hP], fun Q tg => ?_⟩
        have r' : ∀ (Q : Res → Prop) (tg : Hid Q), Run (P28_0 (d + 31020) k i (c + 1 : Nat) f (kops ops) (ops.length : Int) (j + 1 : Nat) (tabH h i ti (t.put ops[j].key ops[j].val))) Q tg = Q ([.int .i64 (c + ((if true = true then 1 else 0) + cntO (ops.drop (j + 1))) : Nat)], tabH h i ti t') := fun Q tg => by
          rw [r Q tg, if_pos rfl, Nat.add_assoc]
        rw [P28_0_eq]
        simp (disch := (first | assumption | (simp only [Bool.and_eq_true, Bool.and_eq_false_iff, decide_eq_true_eq, decide_eq_false_iff_not, bne_iff_ne, beq_iff_eq, beq_eq_false_iff_ne, bne_eq_false_iff_eq, Bool.not_eq_true', Bool.not_eq_false', bys_length, List.length_append, List.length_cons, List.length_nil, List.length_map, List.length_drop, List.length_take, Int.natCast_add, wrap_i64_eq, wrap_u64, wrap_u8, ne_eq, not_true_eq_false, not_false_eq_true, Nat.zero_add, Nat.mul_one] <;> omega) | omega | (simp; done) | (simp; omega))) only [↓CR, MC, ↓PR, MR, kops_length, kops_getD h1, opright_run, hr, Bool.not_true, c1', rp, e1, e2, r']
      · have c1' : (ops[j].kind == 1) = false := by simpa using c1
        have rd := fun (Q : Res → Prop) (tg : Hid Q) => tdel_run (d := d + 31020) (k := ops[j].key) (Q := Q) (tg := tg) T.ok T.tr (by omega)
        have hb := T.bytes
        obtain ⟨t1, ok1, hL1, hT1, hrun⟩ : ∃ t1, TOk' t1 ∧ t1.toL = ldel ops[j].key t.toL ∧ t1.toL.length ≤ t.toL.length ∧ ∀ (Q : Res → Prop) (tg : Hid Q),
            Run (P28_0 (d + 31020) (k + 1) i c f (kops ops) (ops.length : Int) j h) Q tg = Run (P28_0 (d + 31020) k i (c + 1 : Nat) f (kops ops) (ops.length : Int) (j + 1 : Nat) (tabH h i ti t1)) Q ⟨⟩ := by
          cases hg : (lget ops[j].key t.toL).isSome
          · have hn := ldel_none (lget_none hg)
            refine ⟨t, T.ok, hn.symm, Nat.le_refl _, fun Q tg => ?_⟩
            rw [hg] at rd
            simp only [Bool.false_eq_true, if_false] at rd
            rw [Heap.put_self' T.tr] at rd
            rw [tabH_self T, P28_0_eq]
            simp (disch := (first | assumption | (simp only [Bool.and_eq_true, Bool.and_eq_false_iff, decide_eq_true_eq, decide_eq_false_iff_not, bne_iff_ne, beq_iff_eq, beq_eq_false_iff_ne, bne_eq_false_iff_eq, Bool.not_eq_true', Bool.not_eq_false', bys_length, List.length_append, List.length_cons, List.length_nil, List.length_map, List.length_drop, List.length_take, Int.natCast_add, wrap_i64_eq, wrap_u64, wrap_u8, ne_eq, not_true_eq_false, not_false_eq_true, Nat.zero_add, Nat.mul_one] <;> omega) | omega | (simp; done) | (simp; omega))) only [↓CR, MC, ↓PR, MR, kops_length, kops_getD h1, opright_run, hr, Bool.not_true, c1', tab_t T.tb, rd, e1, e2]
          · obtain ⟨ok1, hL1⟩ := T.ok.del hg
            have el := btot_del T.ok.srt hg
            refine ⟨t.without ops[j].key, ok1, hL1, by rw [hL1]; exact ldel_len_le _ _, fun Q tg => ?_⟩
            rw [hg] at rd
            simp only [if_true] at rd
            have m1 : (h.put ti (trT (t.without ops[j].key))).objs[i]? = some (tabO ti (btot t.toL)) := by rw [Heap.put_ne (Ne.symm T.ne)]; exact T.tb
            have w1 : IntKind.i64.wrap ((ops[j].key.length : Int) + ((oVal (lget ops[j].key t.toL)).length : Int)) = (ops[j].key.length : Int) + ((oVal (lget ops[j].key t.toL)).length : Int) := wrap_i64_id (by omega) (by omega)
            have w2 : IntKind.i64.wrap (((btot t.toL : Nat) : Int) - ((ops[j].key.length : Int) + ((oVal (lget ops[j].key t.toL)).length : Int))) = ((btot (t.without ops[j].key).toL : Nat) : Int) := by
              rw [hL1, wrap_i64_id (by omega) (by omega)]; omega
            unfold tabH
            rw [P28_0_eq]
            simp (disch := (first | assumption | (simp only [Bool.and_eq_true, Bool.and_eq_false_iff, decide_eq_true_eq, decide_eq_false_iff_not, bne_iff_ne, beq_iff_eq, beq_eq_false_iff_ne, bne_eq_false_iff_eq, Bool.not_eq_true', Bool.not_eq_false', bys_length, List.length_append, List.length_cons, List.length_nil, List.length_map, List.length_drop, List.length_take, Int.natCast_add, wrap_i64_eq, wrap_u64, wrap_u8, ne_eq, not_true_eq_false, not_false_eq_true, Nat.zero_add, Nat.mul_one] <;> omega) | omega | (simp; done) | (simp; omega))) only [↓CR, MC, ↓PR, MR, kops_length, kops_getD h1, opright_run, hr, Bool.not_true, c1', tab_t T.tb, rd, tab_b m1, w1, w2, tab_s m1, e1, e2]
        have T1 := T.step ok1 (by rw [hL1]; intro p hp; exact T.kv p (List.mem_filter.1 hp).1)
        obtain ⟨t', T', hL, r⟩ := ih (j + 1) k (c + 1) _ _ T1 (by omega) (by omega) (by omega) (by omega)
        rw [tabH_tabH T.ne] at T' r
        refine ⟨t', T', by rw [if_pos rfl]; unfold apO; rw [if_neg c1, hL, hL1], fun Q tg => ?_⟩
        rw [hrun Q tg, r Q ⟨⟩, if_pos rfl, Nat.add_assoc]
theorem tabapply_run (d i ti : Nat) (f : Bool) (ops : List KOp) (t : Nd) (h : Heap) (T : IsTab h i ti t) (hl : t.toL.length + ops.length ≤ 31000) :
    ∃ t', IsTab (tabH h i ti t') i ti t' ∧ t'.toL = aps t.toL ops ∧ ∀ (Q : Res → Prop) (tg : Hid Q),
      Run (evFn Cw (d + 31021) 28 [.obj i 0, .sl f 4 (kops ops)] h) Q tg = Q ([.int .i64 (cntO ops : Nat)], tabH h i ti t') := by
  obtain ⟨t', T', hL, r⟩ := tabapply_loop d i ti f ops (by omega) ops.length 0 rounds 0 t h T (by omega) (by omega) (rounds_gt' (by omega)) (by omega)
  rw [List.drop_zero] at hL r
  rw [e0, Nat.zero_add] at r
  refine ⟨t', T', hL, fun Q tg => ?_⟩
  rw [F28_eq]
  simp (disch := (first | assumption | (simp only [Bool.and_eq_true, Bool.and_eq_false_iff, decide_eq_true_eq, decide_eq_false_iff_not, bne_iff_ne, beq_iff_eq, beq_eq_false_iff_ne, bne_eq_false_iff_eq, Bool.not_eq_true', Bool.not_eq_false', bys_length, List.length_append, List.length_cons, List.length_nil, List.length_map, List.length_drop, List.length_take, Int.natCast_add, wrap_i64_eq, wrap_u64, wrap_u8, ne_eq, not_true_eq_false, not_false_eq_true, Nat.zero_add, Nat.mul_one] <;> omega) | omega | (simp; done) | (simp; omega))) only [↓CR, MC, ↓PR, MR, kops_length, r]
end Go.Proofs.Ytbddfpakhealbaa.Wa
end

section
/- What the contracts of fold come to. -/
namespace Go.Proofs.Ytbddfpakhealbaa.Wa
open Go Go.Weave
set_option maxRecDepth 100000
set_option linter.unusedSimpArgs false
set_option linter.unusedVariables false
set_option linter.unusedSectionVars false

theorem apO_len {l : List KPair} {o : KOp} (hs : Srt l) : (apO l o).length ≤ l.length + 1 := by
  unfold apO
  split
  · exact lput_len_le hs
  · have := ldel_len_le o.key l; omega
theorem aps_len : ∀ {ops : List KOp} {l : List KPair}, Srt l → (aps l ops).length ≤ l.length + ops.length
  | [], l, _ => by rw [aps_nil]; simp
  | o :: ops, l, h => by
    rw [aps_cons]
    by_cases c : rightO o = true
    · rw [if_pos c]
      have h1 := aps_len (ops := ops) (apO_srt (o := o) h)
      have h2 := apO_len (o := o) h
      simp only [List.length_cons]; omega
    · rw [if_neg c]
      have h1 := aps_len (ops := ops) h
      simp only [List.length_cons]; omega
def eqLB : List KPair → List KPair → Bool
  | [], [] => true
  | p :: a, q :: b => ((p.key == q.key) && (p.val == q.val)) && eqLB a b
  | _, _ => false
theorem eqLB_iff : ∀ {a b : List KPair}, eqLB a b = true ↔ a = b
  | [], [] => by simp [eqLB]
  | [], q :: b => by simp [eqLB]
  | p :: a, [] => by simp [eqLB]
  | p :: a, q :: b => by
    obtain ⟨pk, pv⟩ := p
    obtain ⟨qk, qv⟩ := q
    unfold eqLB
    simp only [Bool.and_eq_true, beq_iff_eq, eqLB_iff, List.cons.injEq, KPair.mk.injEq]
theorem eqLB_ne {a b : List KPair} (h : ¬ a.length = b.length) : eqLB a b = false := by
  cases hq : eqLB a b
  · rfl
  · exact absurd (by rw [eqLB_iff.1 hq]) h
theorem eq98_loop (d : Nat) (f g : Bool) (a b : List KPair) (hl : a.length ≤ 1000) (he : a.length = b.length) (h : Heap) (Q : Res → Prop) : ∀ (n j k : Nat) (tg : Hid Q), a.length = j + n → n < k →
    Run (P25_0 d k f (prs a) g (prs b) (a.length : Int) j h) Q tg = Q ([.bool (eqLB (a.drop j) (b.drop j))], h) := by
  intro n
  induction n with
  | zero =>
    intro j k tg hj hk
    obtain ⟨k, rfl⟩ : ∃ m, k = m + 1 := ⟨k - 1, by omega⟩
    have hd : a.drop j = [] := List.drop_eq_nil_of_le (by omega)
    have hd' : b.drop j = [] := List.drop_eq_nil_of_le (by omega)
    rw [P25_0_eq, hd, hd']
    simp (disch := (first | assumption | (simp only [Bool.and_eq_true, Bool.and_eq_false_iff, decide_eq_true_eq, decide_eq_false_iff_not, bne_iff_ne, beq_iff_eq, beq_eq_false_iff_ne, bne_eq_false_iff_eq, Bool.not_eq_true', Bool.not_eq_false', bys_length, List.length_append, List.length_cons, List.length_nil, List.length_map, List.length_drop, List.length_take, Int.natCast_add, wrap_i64_eq, wrap_u64, wrap_u8, ne_eq, not_true_eq_false, not_false_eq_true, Nat.zero_add, Nat.mul_one] <;> omega) | omega | (simp; done) | (simp; omega))) only [↓CR, MC, ↓PR, MR, prs_length]
    rfl
  | succ n ih =>
    intro j k tg hj hk
    obtain ⟨k, rfl⟩ : ∃ m, k = m + 1 := ⟨k - 1, by omega⟩
    have h1 : j < a.length := by omega
    have h2 : j < b.length := by omega
    have e1 := succ_wrap (i := j) (by omega)
    have ih' := fun tg => ih (j + 1) k tg (by omega) (by omega)
    rw [P25_0_eq, List.drop_eq_getElem_cons h1, List.drop_eq_getElem_cons h2]
    unfold eqLB
    cases c1 : a[j].key == b[j].key
    · simp (disch := (first | assumption | (simp only [Bool.and_eq_true, Bool.and_eq_false_iff, decide_eq_true_eq, decide_eq_false_iff_not, bne_iff_ne, beq_iff_eq, beq_eq_false_iff_ne, bne_eq_false_iff_eq, Bool.not_eq_true', Bool.not_eq_false', bys_length, List.length_append, List.length_cons, List.length_nil, List.length_map, List.length_drop, List.length_take, Int.natCast_add, wrap_i64_eq, wrap_u64, wrap_u8, ne_eq, not_true_eq_false, not_false_eq_true, Nat.zero_add, Nat.mul_one] <;> omega) | omega | (simp; done) | (simp; omega))) only [↓CR, MC, ↓PR, MR, prs_length, prs_getD h1, prs_getD h2, plain39, Bool.and_self, c1, Bool.false_and, Bool.not_false]
    · cases c2 : a[j].val == b[j].val
      · simp (disch := (first | assumption | (simp only [Bool.and_eq_true, Bool.and_eq_false_iff, decide_eq_true_eq, decide_eq_false_iff_not, bne_iff_ne, beq_iff_eq, beq_eq_false_iff_ne, bne_eq_false_iff_eq, Bool.not_eq_true', Bool.not_eq_false', bys_length, List.length_append, List.length_cons, List.length_nil, List.length_map, List.length_drop, List.length_take, Int.natCast_add, wrap_i64_eq, wrap_u64, wrap_u8, ne_eq, not_true_eq_false, not_false_eq_true, Nat.zero_add, Nat.mul_one] <;> omega) | omega | (simp; done) | (simp; omega))) only [↓CR, MC, ↓PR, MR, prs_length, prs_getD h1, prs_getD h2, plain39, Bool.and_self, c1, c2, Bool.and_false, Bool.false_and, Bool.not_false]
      · simp (disch := (first | assumption | (simp only [Bool.and_eq_true, Bool.and_eq_false_iff, decide_eq_true_eq, decide_eq_false_iff_not, bne_iff_ne, beq_iff_eq, beq_eq_false_iff_ne, bne_eq_false_iff_eq, Bool.not_eq_true', Bool.not_eq_false', bys_length, List.length_append, List.length_cons, List.length_nil, List.length_map, List.length_drop, List.length_take, Int.natCast_add, wrap_i64_eq, wrap_u64, wrap_u8, ne_eq, not_true_eq_false, not_false_eq_true, Nat.zero_add, Nat.mul_one] <;> omega) | omega | (simp; done) | (simp; omega))) only [↓CR, MC, ↓PR, MR, prs_length, prs_getD h1, prs_getD h2, plain39, Bool.and_self, c1, c2, Bool.true_and, Bool.not_true, e1, ih']
theorem equal_run {d : Nat} {f g : Bool} {a b : List KPair} {h : Heap} {Q : Res → Prop} {tg : Hid Q} (hl : a.length ≤ 1000) : Run (evFn Cw (d + 2) 16 [.sl f 3 (prs a), .sl g 3 (prs b)] h) Q tg = Q ([.bool (eqLB a b)], h) := by
  have e : ∀ (Q : Res → Prop) (tg : Hid Q), Run (evFn Cw (d + 1) 25 [.sl f 3 (prs a), .sl g 3 (prs b)] h) Q tg = Q ([.bool (eqLB a b)], h) := fun Q tg => by
    rw [F25_eq]
    by_cases c : a.length = b.length
    · have := eq98_loop d f g a b hl c h Q a.length 0 rounds ⟨⟩ (by omega) (rounds_gt' (by omega))
      rw [List.drop_zero, List.drop_zero, e0] at this
      have c' : ((a.length : Int) != (b.length : Int)) = false := by simp [c]
      simp (disch := (first | assumption | (simp only [Bool.and_eq_true, Bool.and_eq_false_iff, decide_eq_true_eq, decide_eq_false_iff_not, bne_iff_ne, beq_iff_eq, beq_eq_false_iff_ne, bne_eq_false_iff_eq, Bool.not_eq_true', Bool.not_eq_false', bys_length, List.length_append, List.length_cons, List.length_nil, List.length_map, List.length_drop, List.length_take, Int.natCast_add, wrap_i64_eq, wrap_u64, wrap_u8, ne_eq, not_true_eq_false, not_false_eq_true, Nat.zero_add, Nat.mul_one] <;> omega) | omega | (simp; done) | (simp; omega))) only [↓CR, MC, ↓PR, MR, prs_length, c', this]
    · have c' : ((a.length : Int) != (b.length : Int)) = true := by simp; omega
      rw [eqLB_ne c]
      simp (disch := (first | assumption | (simp only [Bool.and_eq_true, Bool.and_eq_false_iff, decide_eq_true_eq, decide_eq_false_iff_not, bne_iff_ne, beq_iff_eq, beq_eq_false_iff_ne, bne_eq_false_iff_eq, Bool.not_eq_true', Bool.not_eq_false', bys_length, List.length_append, List.length_cons, List.length_nil, List.length_map, List.length_drop, List.length_take, Int.natCast_add, wrap_i64_eq, wrap_u64, wrap_u8, ne_eq, not_true_eq_false, not_false_eq_true, Nat.zero_add, Nat.mul_one] <;> omega) | omega | (simp; done) | (simp; omega))) only [↓CR, MC, ↓PR, MR, prs_length, c']
  rw [F16_eq]
  simp (disch := (first | assumption | (simp only [Bool.and_eq_true, Bool.and_eq_false_iff, decide_eq_true_eq, decide_eq_false_iff_not, bne_iff_ne, beq_iff_eq, beq_eq_false_iff_ne, bne_eq_false_iff_eq, Bool.not_eq_true', Bool.not_eq_false', bys_length, List.length_append, List.length_cons, List.length_nil, List.length_map, List.length_drop, List.length_take, Int.natCast_add, wrap_i64_eq, wrap_u64, wrap_u8, ne_eq, not_true_eq_false, not_false_eq_true, Nat.zero_add, Nat.mul_one] <;> omega) | omega | (simp; done) | (simp; omega))) only [↓CR, MC, ↓PR, MR, e]

/-! ### The table's calls, as the contracts make them -/
theorem newK_run (h : Heap) : ∃ h' i ti, h.ext h' ∧ IsTab h' i ti .nil ∧ ∀ (K : AVal → Heap → Tr Res) (Q : Res → Prop) (tg : Hid Q), Run (newK foldD h K) Q tg = Run (K (.obj i 0) h') Q ⟨⟩ := by
  obtain ⟨E, T⟩ := tabnew_is h
  refine ⟨_, _, _, E, T, fun K Q tg => ?_⟩
  have r : ∀ (Q : Res → Prop) (tg : Hid Q), Run (evFn Cw foldD 27 [] h) Q tg = Q ([.obj (h.objs.length + 1) 0], (h.push (trT .nil)).push (tabO h.objs.length 0)) := fun Q tg => tabnew_run (d := 39998)
  unfold newK
  simp (disch := (first | assumption | (simp only [Bool.and_eq_true, Bool.and_eq_false_iff, decide_eq_true_eq, decide_eq_false_iff_not, bne_iff_ne, beq_iff_eq, beq_eq_false_iff_ne, bne_eq_false_iff_eq, Bool.not_eq_true', Bool.not_eq_false', bys_length, List.length_append, List.length_cons, List.length_nil, List.length_map, List.length_drop, List.length_take, Int.natCast_add, wrap_i64_eq, wrap_u64, wrap_u8, ne_eq, not_true_eq_false, not_false_eq_true, Nat.zero_add, Nat.mul_one] <;> omega) | omega | (simp; done) | (simp; omega))) only [↓CR, MC, ↓PR, MR, r]
theorem applyK_run (i ti : Nat) (b : Bool) (ops : List KOp) (t : Nd) (h : Heap) (T : IsTab h i ti t) (hl : t.toL.length + ops.length ≤ 31000) :
    ∃ t' h', IsTab h' i ti t' ∧ t'.toL = aps t.toL ops ∧ ∀ (K : Heap → Tr Res) (Q : Res → Prop) (tg : Hid Q), Run (applyK foldD (.obj i 0) (.sl b 4 (kops ops)) h K) Q tg = Run (K h') Q ⟨⟩ := by
  obtain ⟨t', T', hL, r⟩ := tabapply_run 8979 i ti b ops t h T hl
  refine ⟨t', _, T', hL, fun K Q tg => ?_⟩
  have r' : ∀ (Q : Res → Prop) (tg : Hid Q), Run (evFn Cw foldD 28 [.obj i 0, .sl b 4 (kops ops)] h) Q tg = Q ([.int .i64 (cntO ops : Nat)], tabH h i ti t') := r
  unfold applyK
  simp (disch := (first | assumption | (simp only [Bool.and_eq_true, Bool.and_eq_false_iff, decide_eq_true_eq, decide_eq_false_iff_not, bne_iff_ne, beq_iff_eq, beq_eq_false_iff_ne, bne_eq_false_iff_eq, Bool.not_eq_true', Bool.not_eq_false', bys_length, List.length_append, List.length_cons, List.length_nil, List.length_map, List.length_drop, List.length_take, Int.natCast_add, wrap_i64_eq, wrap_u64, wrap_u8, ne_eq, not_true_eq_false, not_false_eq_true, Nat.zero_add, Nat.mul_one] <;> omega) | omega | (simp; done) | (simp; omega))) only [↓CR, MC, ↓PR, MR, r']
theorem pairsK_run (i ti : Nat) (t : Nd) (h : Heap) (T : IsTab h i ti t) :
    ∃ h', IsTab h' i ti t ∧ ∀ (K : Bool → Nat → List AVal → Heap → Tr Res) (Q : Res → Prop) (tg : Hid Q), Run (pairsK foldD (.obj i 0) h K) Q tg = Run (K false 3 (prs t.toL) h') Q ⟨⟩ := by
  obtain ⟨h', E, r⟩ := tabpairs_run 39993 i ti t h T
  refine ⟨h', T.ext E, fun K Q tg => ?_⟩
  have r' : ∀ (Q : Res → Prop) (tg : Hid Q), Run (evFn Cw foldD 19 [.obj i 0] h) Q tg = Q ([.sl false 3 (prs t.toL)], h') := r
  unfold pairsK
  simp (disch := (first | assumption | (simp only [Bool.and_eq_true, Bool.and_eq_false_iff, decide_eq_true_eq, decide_eq_false_iff_not, bne_iff_ne, beq_iff_eq, beq_eq_false_iff_ne, bne_eq_false_iff_eq, Bool.not_eq_true', Bool.not_eq_false', bys_length, List.length_append, List.length_cons, List.length_nil, List.length_map, List.length_drop, List.length_take, Int.natCast_add, wrap_i64_eq, wrap_u64, wrap_u8, ne_eq, not_true_eq_false, not_false_eq_true, Nat.zero_add, Nat.mul_one] <;> omega) | omega | (simp; done) | (simp; omega))) only [↓CR, MC, ↓PR, MR, r']
theorem equalK_run {f g : Bool} {a b : List KPair} {h : Heap} (hl : a.length ≤ 1000) (K : Bool → Heap → Tr Res) (Q : Res → Prop) (tg : Hid Q) : Run (equalK foldD (.sl f 3 (prs a)) (.sl g 3 (prs b)) h K) Q tg = Run (K (eqLB a b) h) Q ⟨⟩ := by
  have r : ∀ (Q : Res → Prop) (tg : Hid Q), Run (evFn Cw foldD 16 [.sl f 3 (prs a), .sl g 3 (prs b)] h) Q tg = Q ([.bool (eqLB a b)], h) := fun Q tg => equal_run (d := 39998) hl
  unfold equalK
  simp (disch := (first | assumption | (simp only [Bool.and_eq_true, Bool.and_eq_false_iff, decide_eq_true_eq, decide_eq_false_iff_not, bne_iff_ne, beq_iff_eq, beq_eq_false_iff_ne, bne_eq_false_iff_eq, Bool.not_eq_true', Bool.not_eq_false', bys_length, List.length_append, List.length_cons, List.length_nil, List.length_map, List.length_drop, List.length_take, Int.natCast_add, wrap_i64_eq, wrap_u64, wrap_u8, ne_eq, not_true_eq_false, not_false_eq_true, Nat.zero_add, Nat.mul_one] <;> omega) | omega | (simp; done) | (simp; omega))) only [↓CR, MC, ↓PR, MR, r]
end Go.Proofs.Ytbddfpakhealbaa.Wa
end

section
/- What After, States, Find come to. -/
namespace Go.Proofs.Ytbddfpakhealbaa.Wa
open Go Go.Weave
set_option maxRecDepth 100000
set_option linter.unusedSimpArgs false
set_option linter.unusedVariables false
set_option linter.unusedSectionVars false

/-- Batches, as the law has them. -/
def bts (b : Bool) (L : List (List KOp)) : List AVal := L.map fun o => AVal.sl b 4 (kops o)
theorem bts_length (b : Bool) (L : List (List KOp)) : (bts b L).length = L.length := by simp [bts]
theorem bts_getD {b : Bool} {L : List (List KOp)} {i : Nat} (h : i < L.length) : (bts b L).getD i .undef = .sl b 4 (kops L[i]) := by simp [bts, h]
/-- The pairs behind batches. -/
def folds (l : List KPair) (L : List (List KOp)) : List KPair := L.foldl aps l
theorem folds_cons (l : List KPair) (o : List KOp) (L : List (List KOp)) : folds l (o :: L) = folds (aps l o) L := rfl
/-- All states, from a state on. -/
def scn : List KPair → List (List KOp) → List (List KPair)
  | l, [] => [l]
  | l, o :: L => l :: scn (aps l o) L
/-- From which state on there are just these pairs. -/
def fnd (m : Int) (x : List KPair) : Nat → List KPair → List (List KOp) → Int
  | k, l, [] => if m ≤ (k : Int) ∧ eqLB l x = true then (k : Int) else -1
  | k, l, o :: L => if m ≤ (k : Int) ∧ eqLB l x = true then (k : Int) else fnd m x (k + 1) (aps l o) L
noncomputable def yA (m : Int) : Nat → AVal → Heap → Unit → (Unit → Heap → Tr Res) → Tr Res := fun k t h _ K => bif decide ((k : Int) = m) then pairsK foldD t h (fun f sz ps h' => .ret ([.sl f sz ps], h')) else K () h
noncomputable def fA : Unit → Heap → Tr Res := fun _ _ => .fail
theorem afterT_eq (es : List AVal) (n : Int) (h : Heap) : afterT foldD es n h = newK foldD h fun t h' => iterT foldD (yA (max 0 (min n es.length))) fA es t 0 () h' := rfl
theorem after_iter (i ti : Nat) (b : Bool) (m : Nat) : ∀ (L : List (List KOp)) (k : Nat) (t : Nd) (h : Heap), IsTab h i ti t → k ≤ m → m ≤ k + L.length → t.toL.length + 30 * L.length ≤ 1000 → (∀ o ∈ L, o.length ≤ 30) →
    ∃ h', ∀ (Q : Res → Prop) (tg : Hid Q), Run (iterT foldD (yA m) fA (bts b L) (.obj i 0) k () h) Q tg = Q ([.sl false 3 (prs (folds t.toL (L.take (m - k))))], h') := by
  intro L
  induction L with
  | nil =>
    intro k t h T h1 h2 h3 h4
    obtain rfl : k = m := by simp at h2; omega
    obtain ⟨h', T', r⟩ := pairsK_run i ti t h T
    have c : decide ((k : Int) = (k : Int)) = true := by simp
    refine ⟨h', fun Q tg => ?_⟩
    show Run (yA k k (.obj i 0) h () fA) Q tg = _
    unfold yA
    rw [at_cond_t c, r, at_ret, Nat.sub_self]
    rfl
  | cons o L ih =>
    intro k t h T h1 h2 h3 h4
    by_cases e : k = m
    · subst e
      obtain ⟨h', T', r⟩ := pairsK_run i ti t h T
      have c : decide ((k : Int) = (k : Int)) = true := by simp
      refine ⟨h', fun Q tg => ?_⟩
      rw [iterT_eq]
      unfold yA
      rw [at_cond_t c, r, at_ret, Nat.sub_self]
      rfl
    · have ho := h4 o List.mem_cons_self
      simp only [List.length_cons] at h2 h3
      obtain ⟨t', h', T', hL, r⟩ := applyK_run i ti b o t h T (by omega)
      have hlen := aps_len (ops := o) T.ok.srt
      obtain ⟨h'', r2⟩ := ih (k + 1) t' h' T' (by omega) (by omega) (by rw [hL]; omega) fun x hx => h4 x (List.mem_cons_of_mem _ hx)
      have c : decide ((k : Int) = (m : Int)) = false := by simp; omega
      refine ⟨h'', fun Q tg => ?_⟩
      rw [iterT_eq]
      unfold yA
      rw [at_cond_f c]
      show Run (applyK foldD (.obj i 0) (.sl b 4 (kops o)) h fun h' => iterT foldD (yA m) fA (bts b L) (.obj i 0) (k + 1) () h') Q ⟨⟩ = _
      rw [r, r2, hL]
      rw [show m - k = (m - (k + 1)) + 1 by omega, List.take_succ_cons, folds_cons]
theorem after_run (f b : Bool) (L : List (List KOp)) (n : Int) (h : Heap) (h1 : L.length ≤ 30) (h2 : ∀ o ∈ L, o.length ≤ 30) :
    ∃ h', ∀ (Q : Res → Prop) (tg : Hid Q), Run (afterG [.sl f 0 (bts b L), .int .i64 n] h) Q tg = Q ([.sl false 3 (prs (folds [] (L.take n.toNat)))], h') := by
  obtain ⟨h1', i, ti, E, T, r⟩ := newK_run h
  have e : max 0 (min n (bts b L).length) = ((max 0 (min n L.length)).toNat : Int) := by rw [bts_length]; omega
  obtain ⟨h', r2⟩ := after_iter i ti b (max 0 (min n L.length)).toNat L 0 .nil h1' T (by omega) (by omega) (by show 0 + 30 * L.length ≤ 1000; omega) h2
  have c : decide ((bts b L).length ≤ 100) = true := by rw [bts_length]; simp; omega
  refine ⟨h', fun Q tg => ?_⟩
  show Run (bif decide ((bts b L).length ≤ 100) then afterT foldD (bts b L) n h else .fail) Q tg = _
  rw [at_cond_t c, afterT_eq, r, e, r2]
  have ht : L.take ((max 0 (min n L.length)).toNat - 0) = L.take n.toNat := by
    by_cases c : n ≤ L.length
    · rw [show (max 0 (min n L.length)).toNat - 0 = n.toNat by omega]
    · rw [List.take_of_length_le (by omega), List.take_of_length_le (by omega)]
  rw [ht]
  rfl
noncomputable def yS : Nat → AVal → Heap → List AVal → (List AVal → Heap → Tr Res) → Tr Res := fun _ t h s K => bif decide (s.length ≤ 200) then (pairsK foldD t h fun f sz ps h' => K (s ++ [.sl f sz ps]) h') else .fail
noncomputable def fS : List AVal → Heap → Tr Res := fun s h => .ret ([.sl false 0 s], h)
def rows (l : List (List KPair)) : List AVal := l.map fun x => AVal.sl false 3 (prs x)
theorem states_iter (i ti : Nat) (b : Bool) : ∀ (L : List (List KOp)) (k : Nat) (s : List AVal) (t : Nd) (h : Heap), IsTab h i ti t → s.length + L.length ≤ 200 → t.toL.length + 30 * L.length ≤ 1000 → (∀ o ∈ L, o.length ≤ 30) →
    ∃ h', ∀ (Q : Res → Prop) (tg : Hid Q), Run (iterT foldD yS fS (bts b L) (.obj i 0) k s h) Q tg = Q ([.sl false 0 (s ++ rows (scn t.toL L))], h') := by
  intro L
  induction L with
  | nil =>
    intro k s t h T h1 h3 h4
    obtain ⟨h', T', r⟩ := pairsK_run i ti t h T
    have c : decide (s.length ≤ 200) = true := by simp at h1 ⊢; omega
    refine ⟨h', fun Q tg => ?_⟩
    show Run (yS k (.obj i 0) h s fS) Q tg = _
    unfold yS
    rw [at_cond_t c, r]
    unfold fS
    rw [at_ret]
    rfl
  | cons o L ih =>
    intro k s t h T h1 h3 h4
    have ho := h4 o List.mem_cons_self
    simp only [List.length_cons] at h1 h3
    obtain ⟨h0', T0, r0⟩ := pairsK_run i ti t h T
    obtain ⟨t', h', T', hL, r⟩ := applyK_run i ti b o t h0' T0 (by omega)
    have hlen := aps_len (ops := o) T.ok.srt
    obtain ⟨h'', r2⟩ := ih (k + 1) (s ++ [.sl false 3 (prs t.toL)]) t' h' T' (by simp; omega) (by rw [hL]; omega) fun x hx => h4 x (List.mem_cons_of_mem _ hx)
    have c : decide (s.length ≤ 200) = true := by simp; omega
    refine ⟨h'', fun Q tg => ?_⟩
    rw [iterT_eq]
    unfold yS
    rw [at_cond_t c, r0]
    show Run (applyK foldD (.obj i 0) (.sl b 4 (kops o)) h0' fun h' => iterT foldD yS fS (bts b L) (.obj i 0) (k + 1) (s ++ [.sl false 3 (prs t.toL)]) h') Q ⟨⟩ = _
    rw [r, r2, hL, List.append_assoc]
    rfl
theorem states_run (f b : Bool) (L : List (List KOp)) (h : Heap) (h1 : L.length ≤ 30) (h2 : ∀ o ∈ L, o.length ≤ 30) :
    ∃ h', ∀ (Q : Res → Prop) (tg : Hid Q), Run (statesG [.sl f 0 (bts b L)] h) Q tg = Q ([.sl false 0 (rows (scn [] L))], h') := by
  obtain ⟨h1', i, ti, E, T, r⟩ := newK_run h
  obtain ⟨h', r2⟩ := states_iter i ti b L 0 [] .nil h1' T (by simp; omega) (by show 0 + 30 * L.length ≤ 1000; omega) h2
  have c : decide ((bts b L).length ≤ 100) = true := by rw [bts_length]; simp; omega
  refine ⟨h', fun Q tg => ?_⟩
  show Run (bif decide ((bts b L).length ≤ 100) then statesT foldD (bts b L) h else .fail) Q tg = _
  rw [at_cond_t c]
  show Run (newK foldD h fun t h' => iterT foldD yS fS (bts b L) t 0 [] h') Q ⟨⟩ = _
  rw [r, r2]
  rfl
noncomputable def yF (m : Int) (p : AVal) : Nat → AVal → Heap → Unit → (Unit → Heap → Tr Res) → Tr Res := fun k t h _ K => bif decide (m ≤ (k : Int)) then (pairsK foldD t h fun f sz ps h' => equalK foldD (.sl f sz ps) p h' fun b h'' => bif b then .ret ([.int .i64 k], h'') else K () h'') else K () h
noncomputable def fF : Unit → Heap → Tr Res := fun _ h => .ret ([.int .i64 (-1)], h)
theorem yF_run (m : Int) (f : Bool) (x : List KPair) (i ti : Nat) (k : Nat) (t : Nd) (h : Heap) (T : IsTab h i ti t) (hl : t.toL.length ≤ 1000) : ∃ h', IsTab h' i ti t ∧ ∀ (K : Unit → Heap → Tr Res) (Q : Res → Prop) (tg : Hid Q),
    Run (yF m (.sl f 3 (prs x)) k (.obj i 0) h () K) Q tg = if m ≤ (k : Int) ∧ eqLB t.toL x = true then Q ([.int .i64 k], h') else Run (K () h') Q ⟨⟩ := by
  by_cases c : m ≤ (k : Int)
  · obtain ⟨h', T', r⟩ := pairsK_run i ti t h T
    refine ⟨h', T', fun K Q tg => ?_⟩
    unfold yF
    rw [at_cond_t (by simpa using c), r, equalK_run hl]
    cases e : eqLB t.toL x
    · rw [at_cond_f rfl, if_neg (by simp)]
    · rw [at_cond_t rfl, at_ret, if_pos ⟨c, rfl⟩]
  · refine ⟨h, T, fun K Q tg => ?_⟩
    unfold yF
    rw [at_cond_f (by simpa using c), if_neg (fun h => c h.1)]
theorem find_iter (i ti : Nat) (b f : Bool) (m : Int) (x : List KPair) : ∀ (L : List (List KOp)) (k : Nat) (t : Nd) (h : Heap), IsTab h i ti t → t.toL.length + 30 * L.length ≤ 1000 → (∀ o ∈ L, o.length ≤ 30) →
    ∃ h', ∀ (Q : Res → Prop) (tg : Hid Q), Run (iterT foldD (yF m (.sl f 3 (prs x))) fF (bts b L) (.obj i 0) k () h) Q tg = Q ([.int .i64 (fnd m x k t.toL L)], h') := by
  intro L
  induction L with
  | nil =>
    intro k t h T h3 h4
    obtain ⟨h', T', r⟩ := yF_run m f x i ti k t h T (by omega)
    refine ⟨h', fun Q tg => ?_⟩
    show Run (yF m (.sl f 3 (prs x)) k (.obj i 0) h () fF) Q tg = _
    rw [r]
    unfold fnd
    split
    · rfl
    · unfold fF; rw [at_ret]
  | cons o L ih =>
    intro k t h T h3 h4
    have ho := h4 o List.mem_cons_self
    simp only [List.length_cons] at h3
    obtain ⟨h0', T0, r0⟩ := yF_run m f x i ti k t h T (by omega)
    obtain ⟨t', h', T', hL, r⟩ := applyK_run i ti b o t h0' T0 (by omega)
    have hlen := aps_len (ops := o) T.ok.srt
    obtain ⟨h'', r2⟩ := ih (k + 1) t' h' T' (by rw [hL]; omega) fun x hx => h4 x (List.mem_cons_of_mem _ hx)
    by_cases c : m ≤ (k : Int) ∧ eqLB t.toL x = true
    · refine ⟨h0', fun Q tg => ?_⟩
      rw [iterT_eq, r0, if_pos c]
      unfold fnd
      rw [if_pos c]
    · refine ⟨h'', fun Q tg => ?_⟩
      rw [iterT_eq, r0, if_neg c]
      show Run (applyK foldD (.obj i 0) (.sl b 4 (kops o)) h0' fun h' => iterT foldD (yF m (.sl f 3 (prs x))) fF (bts b L) (.obj i 0) (k + 1) () h') Q ⟨⟩ = _
      rw [r, r2, hL]
      conv => rhs; unfold fnd
      rw [if_neg c]
theorem find_run (f b g : Bool) (L : List (List KOp)) (n : Int) (x : List KPair) (h : Heap) (h1 : L.length ≤ 30) (h2 : ∀ o ∈ L, o.length ≤ 30) :
    ∃ h', ∀ (Q : Res → Prop) (tg : Hid Q), Run (findG [.sl f 0 (bts b L), .int .i64 n, .sl g 3 (prs x)] h) Q tg = Q ([.int .i64 (fnd (max 0 (min n L.length)) x 0 [] L)], h') := by
  obtain ⟨h1', i, ti, E, T, r⟩ := newK_run h
  obtain ⟨h', r2⟩ := find_iter i ti b g (max 0 (min n L.length)) x L 0 .nil h1' T (by show 0 + 30 * L.length ≤ 1000; omega) h2
  have c : decide ((bts b L).length ≤ 100) = true := by rw [bts_length]; simp; omega
  refine ⟨h', fun Q tg => ?_⟩
  have e : findG [.sl f 0 (bts b L), .int .i64 n, .sl g 3 (prs x)] h = (bif decide ((bts b L).length ≤ 100) then findT foldD (bts b L) n (.sl g 3 (prs x)) h else .fail) := by unfold findG; rfl
  rw [e, at_cond_t c]
  show Run (newK foldD h fun t h' => iterT foldD (yF (max 0 (min n (bts b L).length)) (.sl g 3 (prs x))) fF (bts b L) t 0 () h') Q ⟨⟩ = _
  rw [r, bts_length, r2]
  rfl
theorem find_nil (f : Bool) (es : List AVal) (n : Int) (h : Heap) : findG [.sl f 0 es, .int .i64 n, .sl true 0 []] h = findG [.sl f 0 es, .int .i64 n, .sl true 3 (prs [])] h := by
  unfold findG; rfl
end Go.Proofs.Ytbddfpakhealbaa.Wa
end

section
/- The reference's lists of pairs, where contracts stand for the program's After, States, Find. -/
namespace Go.Proofs.Ytbddfpakhealbaa.Wb
open Go Go.Weave Go.Proofs.Ytbddfpakhealbaa.Wa
set_option maxRecDepth 100000
set_option linter.unusedSimpArgs false
set_option linter.unusedVariables false
set_option linter.unusedSectionVars false

theorem r10right_run {d : Nat} {o : KOp} {h : Heap} {Q : Res → Prop} {tg : Hid Q} : Run (evFn Cw (d + 1) 20 [.agg [.int .i64 o.kind, .str o.key, .str o.val]] h) Q tg = Q ([.bool (rightO o)], h) := by
  rw [F20_eq]
  by_cases c1 : 1 ≤ o.key.length
  · have k1 : ((o.key.length : Int) == 0) = false := by simp; intro e; rw [e] at c1; simp at c1
    by_cases c2 : o.key.length ≤ 24
    · by_cases c5 : o.val.length ≤ 128
      · by_cases c3 : o.kind = 1
        · have c3' : (o.kind == 1) = true := by simp [c3]
          have e : rightO o = true := by simp [rightO, c1, c2, c3, c5]
          rw [e]
          simp (disch := (first | assumption | (simp only [Bool.and_eq_true, Bool.and_eq_false_iff, decide_eq_true_eq, decide_eq_false_iff_not, bne_iff_ne, beq_iff_eq, beq_eq_false_iff_ne, bne_eq_false_iff_eq, Bool.not_eq_true', Bool.not_eq_false', bys_length, List.length_append, List.length_cons, List.length_nil, List.length_map, List.length_drop, List.length_take, Int.natCast_add, wrap_i64_eq, wrap_u64, wrap_u8, ne_eq, not_true_eq_false, not_false_eq_true, Nat.zero_add, Nat.mul_one] <;> omega) | omega | (simp; done) | (simp; omega))) only [↓CR, MC, ↓PR, MR, c3', k1]
        · have c3' : (o.kind == 1) = false := by simpa using c3
          by_cases c4 : o.kind = 2
          · have c4' : (o.kind == 2) = true := by simp [c4]
            have e : rightO o = (o.val == []) := by simp [rightO, c1, c2, c4]
            rw [e]
            simp (disch := (first | assumption | (simp only [Bool.and_eq_true, Bool.and_eq_false_iff, decide_eq_true_eq, decide_eq_false_iff_not, bne_iff_ne, beq_iff_eq, beq_eq_false_iff_ne, bne_eq_false_iff_eq, Bool.not_eq_true', Bool.not_eq_false', bys_length, List.length_append, List.length_cons, List.length_nil, List.length_map, List.length_drop, List.length_take, Int.natCast_add, wrap_i64_eq, wrap_u64, wrap_u8, ne_eq, not_true_eq_false, not_false_eq_true, Nat.zero_add, Nat.mul_one] <;> omega) | omega | (simp; done) | (simp; omega))) only [↓CR, MC, ↓PR, MR, c3', c4', k1]
          · have c4' : (o.kind == 2) = false := by simpa using c4
            have e : rightO o = false := by simp [rightO, c3, c4]
            rw [e]
            simp (disch := (first | assumption | (simp only [Bool.and_eq_true, Bool.and_eq_false_iff, decide_eq_true_eq, decide_eq_false_iff_not, bne_iff_ne, beq_iff_eq, beq_eq_false_iff_ne, bne_eq_false_iff_eq, Bool.not_eq_true', Bool.not_eq_false', bys_length, List.length_append, List.length_cons, List.length_nil, List.length_map, List.length_drop, List.length_take, Int.natCast_add, wrap_i64_eq, wrap_u64, wrap_u8, ne_eq, not_true_eq_false, not_false_eq_true, Nat.zero_add, Nat.mul_one] <;> omega) | omega | (simp; done) | (simp; omega))) only [↓CR, MC, ↓PR, MR, c3', c4', k1]
      · have c6 : (o.val == []) = false := by simp; intro e; rw [e] at c5; simp at c5
        have e : rightO o = false := by simp only [rightO, c6, Bool.and_false, Bool.or_false]; simp [c5]
        rw [e]
        simp (disch := (first | assumption | (simp only [Bool.and_eq_true, Bool.and_eq_false_iff, decide_eq_true_eq, decide_eq_false_iff_not, bne_iff_ne, beq_iff_eq, beq_eq_false_iff_ne, bne_eq_false_iff_eq, Bool.not_eq_true', Bool.not_eq_false', bys_length, List.length_append, List.length_cons, List.length_nil, List.length_map, List.length_drop, List.length_take, Int.natCast_add, wrap_i64_eq, wrap_u64, wrap_u8, ne_eq, not_true_eq_false, not_false_eq_true, Nat.zero_add, Nat.mul_one] <;> omega) | omega | (simp; done) | (simp; omega))) only [↓CR, MC, ↓PR, MR, k1]
    · have e : rightO o = false := by simp [rightO, c2]
      rw [e]
      simp (disch := (first | assumption | (simp only [Bool.and_eq_true, Bool.and_eq_false_iff, decide_eq_true_eq, decide_eq_false_iff_not, bne_iff_ne, beq_iff_eq, beq_eq_false_iff_ne, bne_eq_false_iff_eq, Bool.not_eq_true', Bool.not_eq_false', bys_length, List.length_append, List.length_cons, List.length_nil, List.length_map, List.length_drop, List.length_take, Int.natCast_add, wrap_i64_eq, wrap_u64, wrap_u8, ne_eq, not_true_eq_false, not_false_eq_true, Nat.zero_add, Nat.mul_one] <;> omega) | omega | (simp; done) | (simp; omega))) only [↓CR, MC, ↓PR, MR, k1]
  · have k1 : ((o.key.length : Int) == 0) = true := by rw [beq_iff_eq]; omega
    have e : rightO o = false := by simp [rightO, c1]
    rw [e]
    simp (disch := (first | assumption | (simp only [Bool.and_eq_true, Bool.and_eq_false_iff, decide_eq_true_eq, decide_eq_false_iff_not, bne_iff_ne, beq_iff_eq, beq_eq_false_iff_ne, bne_eq_false_iff_eq, Bool.not_eq_true', Bool.not_eq_false', bys_length, List.length_append, List.length_cons, List.length_nil, List.length_map, List.length_drop, List.length_take, Int.natCast_add, wrap_i64_eq, wrap_u64, wrap_u8, ne_eq, not_true_eq_false, not_false_eq_true, Nat.zero_add, Nat.mul_one] <;> omega) | omega | (simp; done) | (simp; omega))) only [↓CR, MC, ↓PR, MR, k1]
theorem rdel31_loop (d : Nat) (f : Bool) (s : List UInt8) (h : Heap) (l : List KPair) (hl : l.length ≤ 1000000) (Q : Res → Prop) : ∀ (n i k : Nat) (acc : List KPair) (tg : Hid Q), acc.length ≤ i → l.length = i + n → n < k →
    Run (P22_0 d k f (prs l) s (prs acc) i h) Q tg = Q ([.sl false 3 (prs (acc ++ ldel s (l.drop i)))], h) := by
  intro n
  induction n with
  | zero =>
    intro i k acc tg ha hi hk
    obtain ⟨k, rfl⟩ : ∃ m, k = m + 1 := ⟨k - 1, by omega⟩
    have hd : l.drop i = [] := List.drop_eq_nil_of_le (by omega)
    have hb : acc ++ ldel s [] = acc := by simp [ldel]
    rw [P22_0_eq, hd, hb]
    simp (disch := (first | assumption | (simp only [Bool.and_eq_true, Bool.and_eq_false_iff, decide_eq_true_eq, decide_eq_false_iff_not, bne_iff_ne, beq_iff_eq, beq_eq_false_iff_ne, bne_eq_false_iff_eq, Bool.not_eq_true', Bool.not_eq_false', bys_length, List.length_append, List.length_cons, List.length_nil, List.length_map, List.length_drop, List.length_take, Int.natCast_add, wrap_i64_eq, wrap_u64, wrap_u8, ne_eq, not_true_eq_false, not_false_eq_true, Nat.zero_add, Nat.mul_one] <;> omega) | omega | (simp; done) | (simp; omega))) only [↓CR, MC, ↓PR, MR, prs_length]
  | succ n ih =>
    intro i k acc tg ha hi hk
    obtain ⟨k, rfl⟩ : ∃ m, k = m + 1 := ⟨k - 1, by omega⟩
    have h1 : i < l.length := by omega
    have e1 := succ_wrap (i := i) (by omega)
    rw [P22_0_eq, List.drop_eq_getElem_cons h1, ldel_cons]
    by_cases c : l[i].key = s
    · have c' : (l[i].key == s) = true := by simp [c]
      have ih' := fun tg => ih (i + 1) k acc tg (by omega) (by omega) (by omega)
      rw [if_pos c]
      simp (disch := (first | assumption | (simp only [Bool.and_eq_true, Bool.and_eq_false_iff, decide_eq_true_eq, decide_eq_false_iff_not, bne_iff_ne, beq_iff_eq, beq_eq_false_iff_ne, bne_eq_false_iff_eq, Bool.not_eq_true', Bool.not_eq_false', bys_length, List.length_append, List.length_cons, List.length_nil, List.length_map, List.length_drop, List.length_take, Int.natCast_add, wrap_i64_eq, wrap_u64, wrap_u8, ne_eq, not_true_eq_false, not_false_eq_true, Nat.zero_add, Nat.mul_one] <;> omega) | omega | (simp; done) | (simp; omega))) only [↓CR, MC, ↓PR, MR, prs_length, prs_getD h1, c', Bool.not_true, e1, ih']
    · have c' : (l[i].key == s) = false := by simpa using c
      have ih' := fun tg => ih (i + 1) k (acc ++ [l[i]]) tg (by simp; omega) (by omega) (by omega)
      have ea : prs acc ++ [.agg [.str l[i].key, .str l[i].val]] = prs (acc ++ [l[i]]) := prs_snoc acc l[i].key l[i].val
      rw [if_neg c]
      simp (disch := (first | assumption | (simp only [Bool.and_eq_true, Bool.and_eq_false_iff, decide_eq_true_eq, decide_eq_false_iff_not, bne_iff_ne, beq_iff_eq, beq_eq_false_iff_ne, bne_eq_false_iff_eq, Bool.not_eq_true', Bool.not_eq_false', bys_length, List.length_append, List.length_cons, List.length_nil, List.length_map, List.length_drop, List.length_take, Int.natCast_add, wrap_i64_eq, wrap_u64, wrap_u8, ne_eq, not_true_eq_false, not_false_eq_true, Nat.zero_add, Nat.mul_one] <;> omega) | omega | (simp; done) | (simp; omega))) only [↓CR, MC, ↓PR, MR, prs_length, prs_getD h1, c', Bool.not_false, e1, ea, ih']
      simp
theorem rdel31_run {d : Nat} {f : Bool} {l : List KPair} {s : List UInt8} {h : Heap} {Q : Res → Prop} {tg : Hid Q} (hl : l.length ≤ 1000000) :
    Run (evFn Cw (d + 1) 22 [.sl f 3 (prs l), .str s] h) Q tg = Q ([.sl false 3 (prs (ldel s l))], h) := by
  rw [F22_eq]
  have := rdel31_loop d f s h l hl Q l.length 0 rounds [] ⟨⟩ (by simp) (by omega) (rounds_gt' (by omega))
  rw [e0, prs_nil] at this
  exact this
theorem rput31_loop (d : Nat) (s v : List UInt8) (h : Heap) (l : List KPair) (hl : l.length ≤ 1000000) (Q : Res → Prop) : ∀ (n i k : Nat) (b : Bool) (acc : List KPair) (tg : Hid Q), acc.length ≤ i + b.toNat → l.length = i + n → n < k →
    Run (P21_0 d k (prs l) s v (prs acc) b i h) Q tg = Q ([.sl false 3 (prs (acc ++ insF s v b (l.drop i)))], h) := by
  intro n
  induction n with
  | zero =>
    intro i k b acc tg ha hi hk
    obtain ⟨k, rfl⟩ : ∃ m, k = m + 1 := ⟨k - 1, by omega⟩
    have hd : l.drop i = [] := List.drop_eq_nil_of_le (by omega)
    rw [P21_0_eq, hd]
    cases b <;> simp only [Bool.toNat_false, Bool.toNat_true] at ha
    · simp (disch := (first | assumption | (simp only [Bool.and_eq_true, Bool.and_eq_false_iff, decide_eq_true_eq, decide_eq_false_iff_not, bne_iff_ne, beq_iff_eq, beq_eq_false_iff_ne, bne_eq_false_iff_eq, Bool.not_eq_true', Bool.not_eq_false', bys_length, List.length_append, List.length_cons, List.length_nil, List.length_map, List.length_drop, List.length_take, Int.natCast_add, wrap_i64_eq, wrap_u64, wrap_u8, ne_eq, not_true_eq_false, not_false_eq_true, Nat.zero_add, Nat.mul_one] <;> omega) | omega | (simp; done) | (simp; omega))) only [↓CR, MC, ↓PR, MR, prs_length, Bool.not_false, prs_snoc]
      rfl
    · have hb : acc ++ insF s v true [] = acc := by simp [insF]
      rw [hb]
      simp (disch := (first | assumption | (simp only [Bool.and_eq_true, Bool.and_eq_false_iff, decide_eq_true_eq, decide_eq_false_iff_not, bne_iff_ne, beq_iff_eq, beq_eq_false_iff_ne, bne_eq_false_iff_eq, Bool.not_eq_true', Bool.not_eq_false', bys_length, List.length_append, List.length_cons, List.length_nil, List.length_map, List.length_drop, List.length_take, Int.natCast_add, wrap_i64_eq, wrap_u64, wrap_u8, ne_eq, not_true_eq_false, not_false_eq_true, Nat.zero_add, Nat.mul_one] <;> omega) | omega | (simp; done) | (simp; omega))) only [↓CR, MC, ↓PR, MR, prs_length, Bool.not_true]
  | succ n ih =>
    intro i k b acc tg ha hi hk
    obtain ⟨k, rfl⟩ : ∃ m, k = m + 1 := ⟨k - 1, by omega⟩
    have h1 : i < l.length := by omega
    have e1 := succ_wrap (i := i) (by omega)
    have ea : ∀ acc, prs acc ++ [.agg [.str l[i].key, .str l[i].val]] = prs (acc ++ [l[i]]) := fun acc => prs_snoc acc l[i].key l[i].val
    rw [P21_0_eq, List.drop_eq_getElem_cons h1]
    cases b <;> simp only [Bool.toNat_false, Bool.toNat_true] at ha
    · unfold insF
      by_cases c : blt s l[i].key = true
      · have c1 : Go.Op.bytesLess l[i].key s = false := blt_asym c
        have c2 : (l[i].key == s) = false := by simpa using (blt_ne c).symm
        have ih' := fun tg => ih (i + 1) k true (acc ++ [⟨s, v⟩] ++ [l[i]]) tg (by simp; omega) (by omega) (by omega)
        rw [if_pos c]
        simp (disch := (first | assumption | (simp only [Bool.and_eq_true, Bool.and_eq_false_iff, decide_eq_true_eq, decide_eq_false_iff_not, bne_iff_ne, beq_iff_eq, beq_eq_false_iff_ne, bne_eq_false_iff_eq, Bool.not_eq_true', Bool.not_eq_false', bys_length, List.length_append, List.length_cons, List.length_nil, List.length_map, List.length_drop, List.length_take, Int.natCast_add, wrap_i64_eq, wrap_u64, wrap_u8, ne_eq, not_true_eq_false, not_false_eq_true, Nat.zero_add, Nat.mul_one] <;> omega) | omega | (simp; done) | (simp; omega))) only [↓CR, MC, ↓PR, MR, prs_length, prs_getD h1, Bool.not_false, c1, c2, Bool.or_false, e1, prs_snoc, ea, ih']
        simp [insF]
      · have ih' := fun tg => ih (i + 1) k false (acc ++ [l[i]]) tg (by simp; omega) (by omega) (by omega)
        rw [if_neg c]
        have c3 : (Go.Op.bytesLess l[i].key s || (l[i].key == s)) = true := by
          cases hh : blt l[i].key s
          · have := blt_tri hh (by simpa using c)
            simp [this]
          · have : Go.Op.bytesLess l[i].key s = true := hh
            simp [this]
        simp (disch := (first | assumption | (simp only [Bool.and_eq_true, Bool.and_eq_false_iff, decide_eq_true_eq, decide_eq_false_iff_not, bne_iff_ne, beq_iff_eq, beq_eq_false_iff_ne, bne_eq_false_iff_eq, Bool.not_eq_true', Bool.not_eq_false', bys_length, List.length_append, List.length_cons, List.length_nil, List.length_map, List.length_drop, List.length_take, Int.natCast_add, wrap_i64_eq, wrap_u64, wrap_u8, ne_eq, not_true_eq_false, not_false_eq_true, Nat.zero_add, Nat.mul_one] <;> omega) | omega | (simp; done) | (simp; omega))) only [↓CR, MC, ↓PR, MR, prs_length, prs_getD h1, Bool.not_false, c3, Bool.not_true, e1, ea, ih']
        simp
    · have ih' := fun tg => ih (i + 1) k true (acc ++ [l[i]]) tg (by simp; omega) (by omega) (by omega)
      simp (disch := (first | assumption | (simp only [Bool.and_eq_true, Bool.and_eq_false_iff, decide_eq_true_eq, decide_eq_false_iff_not, bne_iff_ne, beq_iff_eq, beq_eq_false_iff_ne, bne_eq_false_iff_eq, Bool.not_eq_true', Bool.not_eq_false', bys_length, List.length_append, List.length_cons, List.length_nil, List.length_map, List.length_drop, List.length_take, Int.natCast_add, wrap_i64_eq, wrap_u64, wrap_u8, ne_eq, not_true_eq_false, not_false_eq_true, Nat.zero_add, Nat.mul_one] <;> omega) | omega | (simp; done) | (simp; omega))) only [↓CR, MC, ↓PR, MR, prs_length, prs_getD h1, Bool.not_true, e1, ea, ih']
      simp [insF]
theorem rput31_run {d : Nat} {f : Bool} {l : List KPair} {s v : List UInt8} {h : Heap} {Q : Res → Prop} {tg : Hid Q} (hs : Srt l) (hl : l.length ≤ 900000) :
    Run (evFn Cw (d + 2) 21 [.sl f 3 (prs l), .str s, .str v] h) Q tg = Q ([.sl false 3 (prs (lput s v l))], h) := by
  have hlen : (ldel s l).length ≤ l.length := List.length_filter_le _ _
  have := rput31_loop (d + 1) s v h (ldel s l) (by omega) Q (ldel s l).length 0 rounds false [] ⟨⟩ (by simp) (by omega) (rounds_gt' (by omega))
  rw [e0, prs_nil, List.drop_zero, List.nil_append, insF_lput hs.del (fun p hp => by simpa using (List.mem_filter.1 hp).2), lput_ldel] at this
  rw [F21_eq]
  simp (disch := (first | assumption | (simp only [Bool.and_eq_true, Bool.and_eq_false_iff, decide_eq_true_eq, decide_eq_false_iff_not, bne_iff_ne, beq_iff_eq, beq_eq_false_iff_ne, bne_eq_false_iff_eq, Bool.not_eq_true', Bool.not_eq_false', bys_length, List.length_append, List.length_cons, List.length_nil, List.length_map, List.length_drop, List.length_take, Int.natCast_add, wrap_i64_eq, wrap_u64, wrap_u8, ne_eq, not_true_eq_false, not_false_eq_true, Nat.zero_add, Nat.mul_one] <;> omega) | omega | (simp; done) | (simp; omega))) only [↓CR, MC, ↓PR, MR, rdel31_run, this]
def isSl (v : AVal) (l : List KPair) : Prop := (v = .sl true 0 [] ∧ l = []) ∨ v = .sl false 3 (prs l)
theorem rputs_run {d : Nat} {v : AVal} {l : List KPair} {s x : List UInt8} {h : Heap} {Q : Res → Prop} {tg : Hid Q} (hv : isSl v l) (hs : Srt l) (hl : l.length ≤ 900000) :
    Run (evFn Cw (d + 2) 21 [v, .str s, .str x] h) Q tg = Q ([.sl false 3 (prs (lput s x l))], h) := by
  rcases hv with ⟨rfl, rfl⟩ | rfl
  · obtain ⟨k, hk⟩ : ∃ m, rounds = m + 1 := ⟨rounds - 1, by have := rounds_ge; omega⟩
    have e : prs (lput s x []) = [.agg [.str s, .str x]] := rfl
    have ed : ∀ (Q : Res → Prop) (tg : Hid Q), Run (evFn Cw (d + 1) 22 [.sl true 0 [], .str s] h) Q tg = Q ([.sl false 3 []], h) := fun Q tg => by
      rw [F22n_eq, hk, P22n_0_eq]
      simp (disch := (first | assumption | (simp only [Bool.and_eq_true, Bool.and_eq_false_iff, decide_eq_true_eq, decide_eq_false_iff_not, bne_iff_ne, beq_iff_eq, beq_eq_false_iff_ne, bne_eq_false_iff_eq, Bool.not_eq_true', Bool.not_eq_false', bys_length, List.length_append, List.length_cons, List.length_nil, List.length_map, List.length_drop, List.length_take, Int.natCast_add, wrap_i64_eq, wrap_u64, wrap_u8, ne_eq, not_true_eq_false, not_false_eq_true, Nat.zero_add, Nat.mul_one] <;> omega) | omega | (simp; done) | (simp; omega))) only [↓CR, MC, ↓PR, MR, List.length_nil]
    rw [F21n_eq, e]
    simp (disch := (first | assumption | (simp only [Bool.and_eq_true, Bool.and_eq_false_iff, decide_eq_true_eq, decide_eq_false_iff_not, bne_iff_ne, beq_iff_eq, beq_eq_false_iff_ne, bne_eq_false_iff_eq, Bool.not_eq_true', Bool.not_eq_false', bys_length, List.length_append, List.length_cons, List.length_nil, List.length_map, List.length_drop, List.length_take, Int.natCast_add, wrap_i64_eq, wrap_u64, wrap_u8, ne_eq, not_true_eq_false, not_false_eq_true, Nat.zero_add, Nat.mul_one] <;> omega) | omega | (simp; done) | (simp; omega))) only [↓CR, MC, ↓PR, MR, ed]
    rw [hk, P21n_0_eq]
    simp (disch := (first | assumption | (simp only [Bool.and_eq_true, Bool.and_eq_false_iff, decide_eq_true_eq, decide_eq_false_iff_not, bne_iff_ne, beq_iff_eq, beq_eq_false_iff_ne, bne_eq_false_iff_eq, Bool.not_eq_true', Bool.not_eq_false', bys_length, List.length_append, List.length_cons, List.length_nil, List.length_map, List.length_drop, List.length_take, Int.natCast_add, wrap_i64_eq, wrap_u64, wrap_u8, ne_eq, not_true_eq_false, not_false_eq_true, Nat.zero_add, Nat.mul_one] <;> omega) | omega | (simp; done) | (simp; omega))) only [↓CR, MC, ↓PR, MR, List.length_nil, Bool.not_false]
  · exact rput31_run hs hl
theorem rdels_run {d : Nat} {v : AVal} {l : List KPair} {s : List UInt8} {h : Heap} {Q : Res → Prop} {tg : Hid Q} (hv : isSl v l) (hl : l.length ≤ 900000) :
    Run (evFn Cw (d + 1) 22 [v, .str s] h) Q tg = Q ([.sl false 3 (prs (ldel s l))], h) := by
  rcases hv with ⟨rfl, rfl⟩ | rfl
  · obtain ⟨k, hk⟩ : ∃ m, rounds = m + 1 := ⟨rounds - 1, by have := rounds_ge; omega⟩
    have e : prs (ldel s []) = [] := rfl
    rw [F22n_eq, hk, P22n_0_eq, e]
    simp (disch := (first | assumption | (simp only [Bool.and_eq_true, Bool.and_eq_false_iff, decide_eq_true_eq, decide_eq_false_iff_not, bne_iff_ne, beq_iff_eq, beq_eq_false_iff_ne, bne_eq_false_iff_eq, Bool.not_eq_true', Bool.not_eq_false', bys_length, List.length_append, List.length_cons, List.length_nil, List.length_map, List.length_drop, List.length_take, Int.natCast_add, wrap_i64_eq, wrap_u64, wrap_u8, ne_eq, not_true_eq_false, not_false_eq_true, Nat.zero_add, Nat.mul_one] <;> omega) | omega | (simp; done) | (simp; omega))) only [↓CR, MC, ↓PR, MR, List.length_nil]
  · exact rdel31_run (by omega)
theorem rapply_loop (d : Nat) (f : Bool) (ops : List KOp) (ho : ops.length ≤ 1000) (h : Heap) : ∀ (n j k c : Nat) (v : AVal) (l : List KPair), isSl v l → Srt l → l.length + n ≤ 2000 → ops.length = j + n → n < k → c ≤ j →
    ∃ v', isSl v' (aps l (ops.drop j)) ∧ ∀ (Q : Res → Prop) (tg : Hid Q),
      Run (P11n_0 (d + 2) k v f (kops ops) c j h) Q tg = Q ([v', .int .i64 (c + cntO (ops.drop j) : Nat)], h) := by
  intro n
  induction n with
  | zero =>
    intro j k c v l hv hs hl hj hk hc
    obtain ⟨k, rfl⟩ : ∃ m, k = m + 1 := ⟨k - 1, by omega⟩
    have hd : ops.drop j = [] := List.drop_eq_nil_of_le (by omega)
    have e : c + cntO [] = c := rfl
    refine ⟨v, by rw [hd]; exact hv, fun Q tg => ?_⟩
    rw [P11n_0_eq, hd, e]
    simp (disch := (first | assumption | (simp only [Bool.and_eq_true, Bool.and_eq_false_iff, decide_eq_true_eq, decide_eq_false_iff_not, bne_iff_ne, beq_iff_eq, beq_eq_false_iff_ne, bne_eq_false_iff_eq, Bool.not_eq_true', Bool.not_eq_false', bys_length, List.length_append, List.length_cons, List.length_nil, List.length_map, List.length_drop, List.length_take, Int.natCast_add, wrap_i64_eq, wrap_u64, wrap_u8, ne_eq, not_true_eq_false, not_false_eq_true, Nat.zero_add, Nat.mul_one] <;> omega) | omega | (simp; done) | (simp; omega))) only [↓CR, MC, ↓PR, MR, kops_length]
  | succ n ih =>
    intro j k c v l hv hs hl hj hk hc
    obtain ⟨k, rfl⟩ : ∃ m, k = m + 1 := ⟨k - 1, by omega⟩
    have h1 : j < ops.length := by omega
    have e1 := succ_wrap (i := j) (by omega)
    have e2 := succ_wrap (i := c) (by omega)
    rw [List.drop_eq_getElem_cons h1, aps_cons, cntO_cons]
    cases hr : rightO ops[j]
    · obtain ⟨v', hv', r⟩ := ih (j + 1) k c v l hv hs (by omega) (by omega) (by omega) (by omega)
      refine ⟨v', by simpa using hv', fun Q tg => ?_⟩
      have r' : ∀ (Q : Res → Prop) (tg : Hid Q), Run (P11n_0 (d + 2) k v f (kops ops) c (j + 1 : Nat) h) Q tg = Q ([v', .int .i64 (c + ((if false = true then 1 else 0) + cntO (ops.drop (j + 1))) : Nat)], h) := by simpa using r
      rw [P11n_0_eq]
      simp (disch := (first | assumption | (simp only [Bool.and_eq_true, Bool.and_eq_false_iff, decide_eq_true_eq, decide_eq_false_iff_not, bne_iff_ne, beq_iff_eq, beq_eq_false_iff_ne, bne_eq_false_iff_eq, Bool.not_eq_true', Bool.not_eq_false', bys_length, List.length_append, List.length_cons, List.length_nil, List.length_map, List.length_drop, List.length_take, Int.natCast_add, wrap_i64_eq, wrap_u64, wrap_u8, ne_eq, not_true_eq_false, not_false_eq_true, Nat.zero_add, Nat.mul_one] <;> omega) | omega | (simp; done) | (simp; omega))) only [↓CR, MC, ↓PR, MR, kops_length, kops_getD h1, r10right_run, hr, Bool.not_false, e1, r']
    · by_cases c1 : ops[j].kind = 1
      · have c1' : (ops[j].kind == 1) = true := by simp [c1]
        have rp := fun (Q : Res → Prop) (tg : Hid Q) => rputs_run (d := d) (s := ops[j].key) (x := ops[j].val) (h := h) (Q := Q) (tg := tg) hv hs (by omega)
        have hl' := lput_len_le (k := ops[j].key) (v := ops[j].val) hs
        obtain ⟨v', hv', r⟩ := ih (j + 1) k (c + 1) _ _ (.inr rfl) (hs.put (k := ops[j].key) (v := ops[j].val)) (by omega) (by omega) (by omega) (by omega)
        refine ⟨v', by rw [if_pos rfl]; unfold apO; rw [if_pos c1]; exact hv', fun Q tg => ?_⟩
        have r' : ∀ (Q : Res → Prop) (tg : Hid Q), Run (P11n_0 (d + 2) k (.sl false 3 (prs (lput ops[j].key ops[j].val l))) f (kops ops) (c + 1 : Nat) (j + 1 : Nat) h) Q tg = Q ([v', .int .i64 (c + ((if true = true then 1 else 0) + cntO (ops.drop (j + 1))) : Nat)], h) := fun Q tg => by
          rw [r Q tg, if_pos rfl, Nat.add_assoc]
        rw [P11n_0_eq]
        simp (disch := (first | assumption | (simp only [Bool.and_eq_true, Bool.and_eq_false_iff, decide_eq_true_eq, decide_eq_false_iff_not, bne_iff_ne, beq_iff_eq, beq_eq_false_iff_ne, bne_eq_false_iff_eq, Bool.not_eq_true', Bool.not_eq_false', bys_length, List.length_append, List.length_cons, List.length_nil, List.length_map, List.length_drop, List.length_take, Int.natCast_add, wrap_i64_eq, wrap_u64, wrap_u8, ne_eq, not_true_eq_false, not_false_eq_true, Nat.zero_add, Nat.mul_one] <;> omega) | omega | (simp; done) | (simp; omega))) only [↓CR, MC, ↓PR, MR, kops_length, kops_getD h1, r10right_run, hr, Bool.not_true, c1', rp, e1, e2, r']
      · have c1' : (ops[j].kind == 1) = false := by simpa using c1
        have rp := fun (Q : Res → Prop) (tg : Hid Q) => rdels_run (d := d + 1) (s := ops[j].key) (h := h) (Q := Q) (tg := tg) hv (by omega)
        have hl' := ldel_len_le ops[j].key l
        obtain ⟨v', hv', r⟩ := ih (j + 1) k (c + 1) _ _ (.inr rfl) (hs.del (k := ops[j].key)) (by omega) (by omega) (by omega) (by omega)
        refine ⟨v', by rw [if_pos rfl]; unfold apO; rw [if_neg c1]; exact hv', fun Q tg => ?_⟩
        have r' : ∀ (Q : Res → Prop) (tg : Hid Q), Run (P11n_0 (d + 2) k (.sl false 3 (prs (ldel ops[j].key l))) f (kops ops) (c + 1 : Nat) (j + 1 : Nat) h) Q tg = Q ([v', .int .i64 (c + ((if true = true then 1 else 0) + cntO (ops.drop (j + 1))) : Nat)], h) := fun Q tg => by
          rw [r Q tg, if_pos rfl, Nat.add_assoc]
        rw [P11n_0_eq]
        simp (disch := (first | assumption | (simp only [Bool.and_eq_true, Bool.and_eq_false_iff, decide_eq_true_eq, decide_eq_false_iff_not, bne_iff_ne, beq_iff_eq, beq_eq_false_iff_ne, bne_eq_false_iff_eq, Bool.not_eq_true', Bool.not_eq_false', bys_length, List.length_append, List.length_cons, List.length_nil, List.length_map, List.length_drop, List.length_take, Int.natCast_add, wrap_i64_eq, wrap_u64, wrap_u8, ne_eq, not_true_eq_false, not_false_eq_true, Nat.zero_add, Nat.mul_one] <;> omega) | omega | (simp; done) | (simp; omega))) only [↓CR, MC, ↓PR, MR, kops_length, kops_getD h1, r10right_run, hr, Bool.not_true, c1', rp, e1, e2, r']
theorem rapplyn_run (d : Nat) (f : Bool) (ops : List KOp) (ho : ops.length ≤ 1000) (h : Heap) : ∃ v', isSl v' (aps [] ops) ∧ ∀ (Q : Res → Prop) (tg : Hid Q),
    Run (evFn Cw (d + 3) 11 [.sl true 0 [], .sl f 4 (kops ops)] h) Q tg = Q ([v', .int .i64 (cntO ops : Nat)], h) := by
  obtain ⟨v', hv', r⟩ := rapply_loop d f ops ho h ops.length 0 rounds 0 (.sl true 0 []) [] (.inl ⟨rfl, rfl⟩) List.Pairwise.nil (by simp; omega) (by omega) (rounds_gt' (by omega)) (by omega)
  rw [List.drop_zero] at hv' r
  rw [e0, Nat.zero_add] at r
  refine ⟨v', hv', fun Q tg => ?_⟩
  rw [F11n_eq]
  simp (disch := (first | assumption | (simp only [Bool.and_eq_true, Bool.and_eq_false_iff, decide_eq_true_eq, decide_eq_false_iff_not, bne_iff_ne, beq_iff_eq, beq_eq_false_iff_ne, bne_eq_false_iff_eq, Bool.not_eq_true', Bool.not_eq_false', bys_length, List.length_append, List.length_cons, List.length_nil, List.length_map, List.length_drop, List.length_take, Int.natCast_add, wrap_i64_eq, wrap_u64, wrap_u8, ne_eq, not_true_eq_false, not_false_eq_true, Nat.zero_add, Nat.mul_one] <;> omega) | omega | (simp; done) | (simp; omega))) only [↓CR, MC, ↓PR, MR, r]
theorem rapplys_loop (d : Nat) (f : Bool) (ops : List KOp) (ho : ops.length ≤ 1000) (h : Heap) : ∀ (n j k c : Nat) (g : Bool) (l : List KPair), Srt l → l.length + n ≤ 800000 → ops.length = j + n → n < k → c ≤ j →
    ∃ g', ∀ (Q : Res → Prop) (tg : Hid Q),
      Run (P11_0 (d + 2) k g (prs l) f (kops ops) c j h) Q tg = Q ([.sl g' 3 (prs (aps l (ops.drop j))), .int .i64 (c + cntO (ops.drop j) : Nat)], h) := by
  intro n
  induction n with
  | zero =>
    intro j k c g l hs hl hj hk hc
    obtain ⟨k, rfl⟩ : ∃ m, k = m + 1 := ⟨k - 1, by omega⟩
    have hd : ops.drop j = [] := List.drop_eq_nil_of_le (by omega)
    refine ⟨g, fun Q tg => ?_⟩
    rw [P11_0_eq, hd]
    have e : c + cntO [] = c := rfl
    rw [e, aps_nil]
    simp (disch := (first | assumption | (simp only [Bool.and_eq_true, Bool.and_eq_false_iff, decide_eq_true_eq, decide_eq_false_iff_not, bne_iff_ne, beq_iff_eq, beq_eq_false_iff_ne, bne_eq_false_iff_eq, Bool.not_eq_true', Bool.not_eq_false', bys_length, List.length_append, List.length_cons, List.length_nil, List.length_map, List.length_drop, List.length_take, Int.natCast_add, wrap_i64_eq, wrap_u64, wrap_u8, ne_eq, not_true_eq_false, not_false_eq_true, Nat.zero_add, Nat.mul_one] <;> omega) | omega | (simp; done) | (simp; omega))) only [↓CR, MC, ↓PR, MR, kops_length]
  | succ n ih =>
    intro j k c g l hs hl hj hk hc
    obtain ⟨k, rfl⟩ : ∃ m, k = m + 1 := ⟨k - 1, by omega⟩
    have h1 : j < ops.length := by omega
    have e1 := succ_wrap (i := j) (by omega)
    have e2 := succ_wrap (i := c) (by omega)
    have rr := fun (Q : Res → Prop) (tg : Hid Q) => r10right_run (d := d + 1) (o := ops[j]) (h := h) (Q := Q) (tg := tg)
    rw [List.drop_eq_getElem_cons h1, aps_cons, cntO_cons]
    cases hr : rightO ops[j]
    · rw [hr] at rr
      obtain ⟨g', r⟩ := ih (j + 1) k c g l hs (by omega) (by omega) (by omega) (by omega)
      refine ⟨g', fun Q tg => ?_⟩
      rw [P11_0_eq]
      simp (disch := (first | assumption | (simp only [Bool.and_eq_true, Bool.and_eq_false_iff, decide_eq_true_eq, decide_eq_false_iff_not, bne_iff_ne, beq_iff_eq, beq_eq_false_iff_ne, bne_eq_false_iff_eq, Bool.not_eq_true', Bool.not_eq_false', bys_length, List.length_append, List.length_cons, List.length_nil, List.length_map, List.length_drop, List.length_take, Int.natCast_add, wrap_i64_eq, wrap_u64, wrap_u8, ne_eq, not_true_eq_false, not_false_eq_true, Nat.zero_add, Nat.mul_one] <;> omega) | omega | (simp; done) | (simp; omega))) only [↓CR, MC, ↓PR, MR, kops_length, kops_getD h1, rr, Bool.not_false, e1, r]
      simp
    · rw [hr] at rr
      by_cases k1 : ops[j].kind = 1
      · have b1 : (ops[j].kind == 1) = true := by simp [k1]
        have ha : apO l ops[j] = lput ops[j].key ops[j].val l := by unfold apO; rw [if_pos k1]
        have hlen := lput_len_le (k := ops[j].key) (v := ops[j].val) hs
        obtain ⟨g', r⟩ := ih (j + 1) k (c + 1) false (lput ops[j].key ops[j].val l) hs.put (by omega) (by omega) (by omega) (by omega)
        have rp := fun (Q : Res → Prop) (tg : Hid Q) => rput31_run (d := d) (f := g) (l := l) (s := ops[j].key) (v := ops[j].val) (h := h) (Q := Q) (tg := tg) hs (by omega)
        refine ⟨g', fun Q tg => ?_⟩
        rw [P11_0_eq]
        simp (disch := (first | assumption | (simp only [Bool.and_eq_true, Bool.and_eq_false_iff, decide_eq_true_eq, decide_eq_false_iff_not, bne_iff_ne, beq_iff_eq, beq_eq_false_iff_ne, bne_eq_false_iff_eq, Bool.not_eq_true', Bool.not_eq_false', bys_length, List.length_append, List.length_cons, List.length_nil, List.length_map, List.length_drop, List.length_take, Int.natCast_add, wrap_i64_eq, wrap_u64, wrap_u8, ne_eq, not_true_eq_false, not_false_eq_true, Nat.zero_add, Nat.mul_one] <;> omega) | omega | (simp; done) | (simp; omega))) only [↓CR, MC, ↓PR, MR, kops_length, kops_getD h1, rr, Bool.not_true, cells_agg, b1, rp, e1, e2, r]
        simp only [if_true, ha]
        rw [show c + 1 + cntO (ops.drop (j + 1)) = c + (1 + cntO (ops.drop (j + 1))) by omega]
      · have b1 : (ops[j].kind == 1) = false := by simp [k1]
        have ha : apO l ops[j] = ldel ops[j].key l := by unfold apO; rw [if_neg k1]
        have hlen := ldel_len_le ops[j].key l
        obtain ⟨g', r⟩ := ih (j + 1) k (c + 1) false (ldel ops[j].key l) hs.del (by omega) (by omega) (by omega) (by omega)
        have rp := fun (Q : Res → Prop) (tg : Hid Q) => rdel31_run (d := d + 1) (f := g) (l := l) (s := ops[j].key) (h := h) (Q := Q) (tg := tg) (by omega)
        refine ⟨g', fun Q tg => ?_⟩
        rw [P11_0_eq]
        simp (disch := (first | assumption | (simp only [Bool.and_eq_true, Bool.and_eq_false_iff, decide_eq_true_eq, decide_eq_false_iff_not, bne_iff_ne, beq_iff_eq, beq_eq_false_iff_ne, bne_eq_false_iff_eq, Bool.not_eq_true', Bool.not_eq_false', bys_length, List.length_append, List.length_cons, List.length_nil, List.length_map, List.length_drop, List.length_take, Int.natCast_add, wrap_i64_eq, wrap_u64, wrap_u8, ne_eq, not_true_eq_false, not_false_eq_true, Nat.zero_add, Nat.mul_one] <;> omega) | omega | (simp; done) | (simp; omega))) only [↓CR, MC, ↓PR, MR, kops_length, kops_getD h1, rr, Bool.not_true, cells_agg, b1, rp, e1, e2, r]
        simp only [if_true, ha]
        rw [show c + 1 + cntO (ops.drop (j + 1)) = c + (1 + cntO (ops.drop (j + 1))) by omega]
theorem rapplys_run (d : Nat) (f g : Bool) (ops : List KOp) (ho : ops.length ≤ 1000) (l : List KPair) (hs : Srt l) (hl : l.length ≤ 700000) (h : Heap) : ∃ g', ∀ (Q : Res → Prop) (tg : Hid Q),
    Run (evFn Cw (d + 3) 11 [.sl g 3 (prs l), .sl f 4 (kops ops)] h) Q tg = Q ([.sl g' 3 (prs (aps l ops)), .int .i64 (cntO ops : Nat)], h) := by
  obtain ⟨g', r⟩ := rapplys_loop d f ops ho h ops.length 0 rounds 0 g l hs (by omega) (by omega) (Nat.lt_of_lt_of_le (by omega) rounds_ge) (by omega)
  rw [List.drop_zero] at r
  rw [e0, Nat.zero_add] at r
  refine ⟨g', fun Q tg => ?_⟩
  rw [F11_eq]
  exact r Q ⟨⟩

theorem same31g_loop (d : Nat) (f g : Bool) (a b : List KPair) (hl : a.length ≤ 1000) (he : a.length = b.length) (h : Heap) (Q : Res → Prop) : ∀ (n j k : Nat) (tg : Hid Q), a.length = j + n → n < k →
    Run (P7_0 d k f (prs a) g (prs b) j h) Q tg = Q ([.bool (eqLB (a.drop j) (b.drop j))], h) := by
  intro n
  induction n with
  | zero =>
    intro j k tg hj hk
    obtain ⟨k, rfl⟩ : ∃ m, k = m + 1 := ⟨k - 1, by omega⟩
    have hd : a.drop j = [] := List.drop_eq_nil_of_le (by omega)
    have hd' : b.drop j = [] := List.drop_eq_nil_of_le (by omega)
    rw [P7_0_eq, hd, hd']
    simp (disch := (first | assumption | (simp only [Bool.and_eq_true, Bool.and_eq_false_iff, decide_eq_true_eq, decide_eq_false_iff_not, bne_iff_ne, beq_iff_eq, beq_eq_false_iff_ne, bne_eq_false_iff_eq, Bool.not_eq_true', Bool.not_eq_false', bys_length, List.length_append, List.length_cons, List.length_nil, List.length_map, List.length_drop, List.length_take, Int.natCast_add, wrap_i64_eq, wrap_u64, wrap_u8, ne_eq, not_true_eq_false, not_false_eq_true, Nat.zero_add, Nat.mul_one] <;> omega) | omega | (simp; done) | (simp; omega))) only [↓CR, MC, ↓PR, MR, prs_length]
    rfl
  | succ n ih =>
    intro j k tg hj hk
    obtain ⟨k, rfl⟩ : ∃ m, k = m + 1 := ⟨k - 1, by omega⟩
    have h1 : j < a.length := by omega
    have h2 : j < b.length := by omega
    have e1 := succ_wrap (i := j) (by omega)
    have ih' := fun tg => ih (j + 1) k tg (by omega) (by omega)
    rw [P7_0_eq, List.drop_eq_getElem_cons h1, List.drop_eq_getElem_cons h2]
    unfold eqLB
    cases c1 : a[j].key == b[j].key
    · simp (disch := (first | assumption | (simp only [Bool.and_eq_true, Bool.and_eq_false_iff, decide_eq_true_eq, decide_eq_false_iff_not, bne_iff_ne, beq_iff_eq, beq_eq_false_iff_ne, bne_eq_false_iff_eq, Bool.not_eq_true', Bool.not_eq_false', bys_length, List.length_append, List.length_cons, List.length_nil, List.length_map, List.length_drop, List.length_take, Int.natCast_add, wrap_i64_eq, wrap_u64, wrap_u8, ne_eq, not_true_eq_false, not_false_eq_true, Nat.zero_add, Nat.mul_one] <;> omega) | omega | (simp; done) | (simp; omega))) only [↓CR, MC, ↓PR, MR, prs_length, prs_getD h1, prs_getD h2, plain39, Bool.and_self, c1, Bool.false_and, Bool.not_false]
    · cases c2 : a[j].val == b[j].val
      · simp (disch := (first | assumption | (simp only [Bool.and_eq_true, Bool.and_eq_false_iff, decide_eq_true_eq, decide_eq_false_iff_not, bne_iff_ne, beq_iff_eq, beq_eq_false_iff_ne, bne_eq_false_iff_eq, Bool.not_eq_true', Bool.not_eq_false', bys_length, List.length_append, List.length_cons, List.length_nil, List.length_map, List.length_drop, List.length_take, Int.natCast_add, wrap_i64_eq, wrap_u64, wrap_u8, ne_eq, not_true_eq_false, not_false_eq_true, Nat.zero_add, Nat.mul_one] <;> omega) | omega | (simp; done) | (simp; omega))) only [↓CR, MC, ↓PR, MR, prs_length, prs_getD h1, prs_getD h2, plain39, Bool.and_self, c1, c2, Bool.and_false, Bool.false_and, Bool.not_false]
      · simp (disch := (first | assumption | (simp only [Bool.and_eq_true, Bool.and_eq_false_iff, decide_eq_true_eq, decide_eq_false_iff_not, bne_iff_ne, beq_iff_eq, beq_eq_false_iff_ne, bne_eq_false_iff_eq, Bool.not_eq_true', Bool.not_eq_false', bys_length, List.length_append, List.length_cons, List.length_nil, List.length_map, List.length_drop, List.length_take, Int.natCast_add, wrap_i64_eq, wrap_u64, wrap_u8, ne_eq, not_true_eq_false, not_false_eq_true, Nat.zero_add, Nat.mul_one] <;> omega) | omega | (simp; done) | (simp; omega))) only [↓CR, MC, ↓PR, MR, prs_length, prs_getD h1, prs_getD h2, plain39, Bool.and_self, c1, c2, Bool.true_and, Bool.not_true, e1, ih']
theorem same31g_run {d : Nat} {f g : Bool} {a b : List KPair} {h : Heap} {Q : Res → Prop} {tg : Hid Q} (hl : a.length ≤ 1000) : Run (evFn Cw (d + 1) 7 [.sl f 3 (prs a), .sl g 3 (prs b)] h) Q tg = Q ([.bool (eqLB a b)], h) := by
  rw [F7_eq]
  by_cases c : a.length = b.length
  · have := same31g_loop d f g a b hl c h Q a.length 0 rounds ⟨⟩ (by omega) (rounds_gt' (by omega))
    rw [List.drop_zero, List.drop_zero, e0] at this
    have c' : ((a.length : Int) != (b.length : Int)) = false := by simp [c]
    simp (disch := (first | assumption | (simp only [Bool.and_eq_true, Bool.and_eq_false_iff, decide_eq_true_eq, decide_eq_false_iff_not, bne_iff_ne, beq_iff_eq, beq_eq_false_iff_ne, bne_eq_false_iff_eq, Bool.not_eq_true', Bool.not_eq_false', bys_length, List.length_append, List.length_cons, List.length_nil, List.length_map, List.length_drop, List.length_take, Int.natCast_add, wrap_i64_eq, wrap_u64, wrap_u8, ne_eq, not_true_eq_false, not_false_eq_true, Nat.zero_add, Nat.mul_one] <;> omega) | omega | (simp; done) | (simp; omega))) only [↓CR, MC, ↓PR, MR, prs_length, c', this]
  · have c' : ((a.length : Int) != (b.length : Int)) = true := by simp; omega
    rw [eqLB_ne c]
    simp (disch := (first | assumption | (simp only [Bool.and_eq_true, Bool.and_eq_false_iff, decide_eq_true_eq, decide_eq_false_iff_not, bne_iff_ne, beq_iff_eq, beq_eq_false_iff_ne, bne_eq_false_iff_eq, Bool.not_eq_true', Bool.not_eq_false', bys_length, List.length_append, List.length_cons, List.length_nil, List.length_map, List.length_drop, List.length_take, Int.natCast_add, wrap_i64_eq, wrap_u64, wrap_u8, ne_eq, not_true_eq_false, not_false_eq_true, Nat.zero_add, Nat.mul_one] <;> omega) | omega | (simp; done) | (simp; omega))) only [↓CR, MC, ↓PR, MR, prs_length, c']
end Go.Proofs.Ytbddfpakhealbaa.Wb
end

section
/- FoldStates. -/
namespace Go.Proofs.Ytbddfpakhealbaa.Wb
open Go Go.Weave Go.Proofs.Ytbddfpakhealbaa.Wa
set_option maxRecDepth 100000
set_option linter.unusedSimpArgs false
set_option linter.unusedVariables false
set_option linter.unusedSectionVars false

/-! ### The reference -/
def isV (v : AVal) (l : List KPair) : Prop := (v = .sl true 0 [] ∧ l = []) ∨ ∃ g, v = .sl g 3 (prs l)
theorem isV_slK {v : AVal} {l : List KPair} (hv : isV v l) : ∃ fl, ∀ (K : Bool → List AVal → Tr Res) (Q : Res → Prop) (tg : Hid Q), Run (slK 3 v K) Q tg = Run (K fl (prs l)) Q ⟨⟩ := by
  rcases hv with ⟨rfl, rfl⟩ | ⟨g, rfl⟩
  · refine ⟨true, fun K Q tg => ?_⟩
    rw [prs_nil]
    simp (disch := (first | assumption | (simp only [Bool.and_eq_true, Bool.and_eq_false_iff, decide_eq_true_eq, decide_eq_false_iff_not, bne_iff_ne, beq_iff_eq, beq_eq_false_iff_ne, bne_eq_false_iff_eq, Bool.not_eq_true', Bool.not_eq_false', bys_length, List.length_append, List.length_cons, List.length_nil, List.length_map, List.length_drop, List.length_take, Int.natCast_add, wrap_i64_eq, wrap_u64, wrap_u8, ne_eq, not_true_eq_false, not_false_eq_true, Nat.zero_add, Nat.mul_one] <;> omega) | omega | (simp; done) | (simp; omega))) only [↓CR, MC, ↓PR, MR]
  · refine ⟨g, fun K Q tg => ?_⟩
    simp (disch := (first | assumption | (simp only [Bool.and_eq_true, Bool.and_eq_false_iff, decide_eq_true_eq, decide_eq_false_iff_not, bne_iff_ne, beq_iff_eq, beq_eq_false_iff_ne, bne_eq_false_iff_eq, Bool.not_eq_true', Bool.not_eq_false', bys_length, List.length_append, List.length_cons, List.length_nil, List.length_map, List.length_drop, List.length_take, Int.natCast_add, wrap_i64_eq, wrap_u64, wrap_u8, ne_eq, not_true_eq_false, not_false_eq_true, Nat.zero_add, Nat.mul_one] <;> omega) | omega | (simp; done) | (simp; omega))) only [↓CR, MC, ↓PR, MR]
theorem rapp_run (d : Nat) (f : Bool) (ops : List KOp) (ho : ops.length ≤ 1000) (v : AVal) (l : List KPair) (hv : isV v l) (hs : Srt l) (hl : l.length ≤ 700000) (h : Heap) : ∃ v' , isV v' (aps l ops) ∧ ∀ (Q : Res → Prop) (tg : Hid Q),
    Run (evFn Cw (d + 3) 11 [v, .sl f 4 (kops ops)] h) Q tg = Q ([v', .int .i64 (cntO ops : Nat)], h) := by
  rcases hv with ⟨rfl, rfl⟩ | ⟨g, rfl⟩
  · obtain ⟨v', hv', r⟩ := rapplyn_run d f ops ho h
    refine ⟨v', ?_, r⟩
    rcases hv' with h | h
    · exact .inl h
    · exact .inr ⟨false, h⟩
  · obtain ⟨g', r⟩ := rapplys_run d f g ops ho l hs hl h
    exact ⟨_, .inr ⟨g', rfl⟩, r⟩
theorem raft_loop (d : Nat) (f b : Bool) (L : List (List KOp)) (h1 : L.length ≤ 30) (h2 : ∀ o ∈ L, o.length ≤ 30) (n : Int) (h : Heap) : ∀ (r j k : Nat) (v : AVal) (l : List KPair), isV v l → Srt l → l.length + 30 * r ≤ 1000 → L.length = j + r → r < k →
    ∃ v', isV v' (folds l ((L.drop j).take (n - j).toNat)) ∧ ∀ (Q : Res → Prop) (tg : Hid Q), Run (P9_0 (d + 3) k f (bts b L) n v j h) Q tg = Q ([v'], h) := by
  intro r
  induction r with
  | zero =>
    intro j k v l hv hs hl hj hk
    obtain ⟨k, rfl⟩ : ∃ m, k = m + 1 := ⟨k - 1, by omega⟩
    have hd : L.drop j = [] := List.drop_eq_nil_of_le (by omega)
    refine ⟨v, by rw [hd, List.take_nil]; exact hv, fun Q tg => ?_⟩
    rw [P9_0_eq]
    simp (disch := (first | assumption | (simp only [Bool.and_eq_true, Bool.and_eq_false_iff, decide_eq_true_eq, decide_eq_false_iff_not, bne_iff_ne, beq_iff_eq, beq_eq_false_iff_ne, bne_eq_false_iff_eq, Bool.not_eq_true', Bool.not_eq_false', bys_length, List.length_append, List.length_cons, List.length_nil, List.length_map, List.length_drop, List.length_take, Int.natCast_add, wrap_i64_eq, wrap_u64, wrap_u8, ne_eq, not_true_eq_false, not_false_eq_true, Nat.zero_add, Nat.mul_one] <;> omega) | omega | (simp; done) | (simp; omega))) only [↓CR, MC, ↓PR, MR, bts_length]
  | succ r ih =>
    intro j k v l hv hs hl hj hk
    obtain ⟨k, rfl⟩ : ∃ m, k = m + 1 := ⟨k - 1, by omega⟩
    have hlt : j < L.length := by omega
    have e1 := succ_wrap (i := j) (by omega)
    by_cases c : (j : Int) < n
    · have ho := h2 _ (List.getElem_mem hlt)
      obtain ⟨v1, hv1, r1⟩ := rapp_run d b L[j] (by omega) v l hv hs (by omega) h
      obtain ⟨fl, rs⟩ := isV_slK hv1
      have hlen := aps_len (ops := L[j]) hs
      obtain ⟨v', hv', r2⟩ := ih (j + 1) k (.sl fl 3 (prs (aps l L[j]))) (aps l L[j]) (.inr ⟨fl, rfl⟩) (aps_srt hs) (by omega) (by omega) (by omega)
      refine ⟨v', ?_, fun Q tg => ?_⟩
      · rw [List.drop_eq_getElem_cons hlt, show (n - (j : Int)).toNat = (n - ((j + 1 : Nat) : Int)).toNat + 1 by omega, List.take_succ_cons, folds_cons]
        exact hv'
      · rw [P9_0_eq]
        simp (disch := (first | assumption | (simp only [Bool.and_eq_true, Bool.and_eq_false_iff, decide_eq_true_eq, decide_eq_false_iff_not, bne_iff_ne, beq_iff_eq, beq_eq_false_iff_ne, bne_eq_false_iff_eq, Bool.not_eq_true', Bool.not_eq_false', bys_length, List.length_append, List.length_cons, List.length_nil, List.length_map, List.length_drop, List.length_take, Int.natCast_add, wrap_i64_eq, wrap_u64, wrap_u8, ne_eq, not_true_eq_false, not_false_eq_true, Nat.zero_add, Nat.mul_one] <;> omega) | omega | (simp; done) | (simp; omega))) only [↓CR, MC, ↓PR, MR, bts_length, bts_getD hlt, r1, rs, e1, r2]
    · refine ⟨v, by rw [show (n - (j : Int)).toNat = 0 by omega, List.take_zero]; exact hv, fun Q tg => ?_⟩
      rw [P9_0_eq]
      simp (disch := (first | assumption | (simp only [Bool.and_eq_true, Bool.and_eq_false_iff, decide_eq_true_eq, decide_eq_false_iff_not, bne_iff_ne, beq_iff_eq, beq_eq_false_iff_ne, bne_eq_false_iff_eq, Bool.not_eq_true', Bool.not_eq_false', bys_length, List.length_append, List.length_cons, List.length_nil, List.length_map, List.length_drop, List.length_take, Int.natCast_add, wrap_i64_eq, wrap_u64, wrap_u8, ne_eq, not_true_eq_false, not_false_eq_true, Nat.zero_add, Nat.mul_one] <;> omega) | omega | (simp; done) | (simp; omega))) only [↓CR, MC, ↓PR, MR, bts_length]
theorem raft_run (d : Nat) (f b : Bool) (L : List (List KOp)) (h1 : L.length ≤ 30) (h2 : ∀ o ∈ L, o.length ≤ 30) (n : Int) (h : Heap) :
    ∃ v', isV v' (folds [] (L.take n.toNat)) ∧ ∀ (Q : Res → Prop) (tg : Hid Q), Run (evFn Cw (d + 4) 9 [.sl f 0 (bts b L), .int .i64 n] h) Q tg = Q ([v'], h) := by
  obtain ⟨v', hv', r⟩ := raft_loop d f b L h1 h2 n h L.length 0 rounds (.sl true 0 []) [] (.inl ⟨rfl, rfl⟩) List.Pairwise.nil (by simp; omega) (by omega) (rounds_gt' (by omega))
  rw [e0] at r hv'
  rw [List.drop_zero, Int.sub_zero] at hv'
  refine ⟨v', hv', fun Q tg => ?_⟩
  rw [F9_eq]
  simp (disch := (first | assumption | (simp only [Bool.and_eq_true, Bool.and_eq_false_iff, decide_eq_true_eq, decide_eq_false_iff_not, bne_iff_ne, beq_iff_eq, beq_eq_false_iff_ne, bne_eq_false_iff_eq, Bool.not_eq_true', Bool.not_eq_false', bys_length, List.length_append, List.length_cons, List.length_nil, List.length_map, List.length_drop, List.length_take, Int.natCast_add, wrap_i64_eq, wrap_u64, wrap_u8, ne_eq, not_true_eq_false, not_false_eq_true, Nat.zero_add, Nat.mul_one] <;> omega) | omega | (simp; done) | (simp; omega))) only [↓CR, MC, ↓PR, MR, r]
/-! ### Few -/
def few30 (L : List (List KOp)) : Bool := (L.all fun o => decide (o.length ≤ 30)) && decide (L.length ≤ 30)
theorem few37_loop (d : Nat) (f b : Bool) (L : List (List KOp)) (hL : L.length ≤ 140737488351232) (h : Heap) (Q : Res → Prop) : ∀ (r j k : Nat) (tg : Hid Q), L.length = j + r → r < k →
    Run (P5_0 d k f (bts b L) j h) Q tg = Q ([.bool (((L.drop j).all fun o => decide (o.length ≤ 30)) && decide (L.length ≤ 30))], h) := by
  intro r
  induction r with
  | zero =>
    intro j k tg hj hk
    obtain ⟨k, rfl⟩ : ∃ m, k = m + 1 := ⟨k - 1, by omega⟩
    have hd : L.drop j = [] := List.drop_eq_nil_of_le (by omega)
    have e : decide ((L.length : Int) ≤ 30) = decide (L.length ≤ 30) := by simp only [decide_eq_decide]; omega
    rw [P5_0_eq, hd]
    simp (disch := (first | assumption | (simp only [Bool.and_eq_true, Bool.and_eq_false_iff, decide_eq_true_eq, decide_eq_false_iff_not, bne_iff_ne, beq_iff_eq, beq_eq_false_iff_ne, bne_eq_false_iff_eq, Bool.not_eq_true', Bool.not_eq_false', bys_length, List.length_append, List.length_cons, List.length_nil, List.length_map, List.length_drop, List.length_take, Int.natCast_add, wrap_i64_eq, wrap_u64, wrap_u8, ne_eq, not_true_eq_false, not_false_eq_true, Nat.zero_add, Nat.mul_one] <;> omega) | omega | (simp; done) | (simp; omega))) only [↓CR, MC, ↓PR, MR, bts_length, e]
    simp
  | succ r ih =>
    intro j k tg hj hk
    obtain ⟨k, rfl⟩ : ∃ m, k = m + 1 := ⟨k - 1, by omega⟩
    have hlt : j < L.length := by omega
    have e1 := succ_wrap (i := j) (by omega)
    have ih' := fun tg => ih (j + 1) k tg (by omega) (by omega)
    rw [P5_0_eq, List.drop_eq_getElem_cons hlt]
    by_cases c : L[j].length ≤ 30
    · have c' : decide (L[j].length ≤ 30) = true := by simpa using c
      rw [List.all_cons, c', Bool.true_and]
      simp (disch := (first | assumption | (simp only [Bool.and_eq_true, Bool.and_eq_false_iff, decide_eq_true_eq, decide_eq_false_iff_not, bne_iff_ne, beq_iff_eq, beq_eq_false_iff_ne, bne_eq_false_iff_eq, Bool.not_eq_true', Bool.not_eq_false', bys_length, List.length_append, List.length_cons, List.length_nil, List.length_map, List.length_drop, List.length_take, Int.natCast_add, wrap_i64_eq, wrap_u64, wrap_u8, ne_eq, not_true_eq_false, not_false_eq_true, Nat.zero_add, Nat.mul_one] <;> omega) | omega | (simp; done) | (simp; omega))) only [↓CR, MC, ↓PR, MR, bts_length, bts_getD hlt, kops_length, e1, ih']
    · have c' : decide (L[j].length ≤ 30) = false := by simpa using c
      rw [List.all_cons, c', Bool.false_and, Bool.false_and]
      simp (disch := (first | assumption | (simp only [Bool.and_eq_true, Bool.and_eq_false_iff, decide_eq_true_eq, decide_eq_false_iff_not, bne_iff_ne, beq_iff_eq, beq_eq_false_iff_ne, bne_eq_false_iff_eq, Bool.not_eq_true', Bool.not_eq_false', bys_length, List.length_append, List.length_cons, List.length_nil, List.length_map, List.length_drop, List.length_take, Int.natCast_add, wrap_i64_eq, wrap_u64, wrap_u8, ne_eq, not_true_eq_false, not_false_eq_true, Nat.zero_add, Nat.mul_one] <;> omega) | omega | (simp; done) | (simp; omega))) only [↓CR, MC, ↓PR, MR, bts_length, bts_getD hlt, kops_length]
theorem few37_run {d : Nat} {f b : Bool} {L : List (List KOp)} (hL : L.length ≤ 140737488351232) {h : Heap} {Q : Res → Prop} {tg : Hid Q} : Run (evFn Cw (d + 1) 5 [.sl f 0 (bts b L)] h) Q tg = Q ([.bool (few30 L)], h) := by
  have := few37_loop d f b L hL h Q L.length 0 rounds ⟨⟩ (by omega) (Nat.lt_of_lt_of_le (by omega) rounds_ge)
  rw [List.drop_zero, e0] at this
  rw [F5_eq]
  simp (disch := (first | assumption | (simp only [Bool.and_eq_true, Bool.and_eq_false_iff, decide_eq_true_eq, decide_eq_false_iff_not, bne_iff_ne, beq_iff_eq, beq_eq_false_iff_ne, bne_eq_false_iff_eq, Bool.not_eq_true', Bool.not_eq_false', bys_length, List.length_append, List.length_cons, List.length_nil, List.length_map, List.length_drop, List.length_take, Int.natCast_add, wrap_i64_eq, wrap_u64, wrap_u8, ne_eq, not_true_eq_false, not_false_eq_true, Nat.zero_add, Nat.mul_one] <;> omega) | omega | (simp; done) | (simp; omega))) only [↓CR, MC, ↓PR, MR, this]
  rfl
/-! ### The contracts -/
theorem afterW (d : Nat) (args : List AVal) (h : Heap) : evFn Cw (d + 1) 8 args h = afterG args h := by kernel_rfl
theorem statesW (d : Nat) (args : List AVal) (h : Heap) : evFn Cw (d + 1) 10 args h = statesG args h := by kernel_rfl
theorem findW (d : Nat) (args : List AVal) (h : Heap) : evFn Cw (d + 1) 14 args h = findG args h := by kernel_rfl
def awL : List (List KOp) := [[⟨1, [97], [98]⟩], [⟨2, [97], []⟩]]
theorem awake37_run (d : Nat) (h : Heap) : ∃ h', ∀ (Q : Res → Prop) (tg : Hid Q), Run (evFn Cw (d + 2) 6 [] h) Q tg = Q ([.bool true], h') := by
  have h2 : ∀ o ∈ awL, o.length ≤ 30 := by decide
  obtain ⟨h1, r1⟩ := after_run true true awL 1 h (by decide) h2
  obtain ⟨h3, r3⟩ := find_run true true true awL 1 [] h1 (by decide) h2
  obtain ⟨h5, r5⟩ := states_run true true awL h3 (by decide) h2
  have e1 : (prs (folds [] (awL.take (1 : Int).toNat))).length = 1 := by decide
  have e2 : fnd (max 0 (min 1 awL.length)) [] 0 [] awL = 2 := by decide
  have e3 : (rows (scn [] awL)).length = 3 := by decide
  rw [e2] at r3
  have el : bts true awL = [(AVal.sl true 4 [(AVal.agg [(AVal.int .i64 1), (AVal.str [97]), (AVal.str [98])])]), (AVal.sl true 4 [(AVal.agg [(AVal.int .i64 2), (AVal.str [97]), (AVal.str [])])])] := rfl
  rw [el] at r1 r3 r5
  have r3' : ∀ (Q : Res → Prop) (tg : Hid Q), Run (findG [.sl true 0 [(AVal.sl true 4 [(AVal.agg [(AVal.int .i64 1), (AVal.str [97]), (AVal.str [98])])]), (AVal.sl true 4 [(AVal.agg [(AVal.int .i64 2), (AVal.str [97]), (AVal.str [])])])], .int .i64 1, .sl true 0 []] h1) Q tg = Q ([.int .i64 2], h3) := fun Q tg => by
    rw [find_nil]; exact r3 Q tg
  refine ⟨h5, fun Q tg => ?_⟩
  rw [F6_eq]
  simp (disch := (first | assumption | (simp only [Bool.and_eq_true, Bool.and_eq_false_iff, decide_eq_true_eq, decide_eq_false_iff_not, bne_iff_ne, beq_iff_eq, beq_eq_false_iff_ne, bne_eq_false_iff_eq, Bool.not_eq_true', Bool.not_eq_false', bys_length, List.length_append, List.length_cons, List.length_nil, List.length_map, List.length_drop, List.length_take, Int.natCast_add, wrap_i64_eq, wrap_u64, wrap_u8, ne_eq, not_true_eq_false, not_false_eq_true, Nat.zero_add, Nat.mul_one] <;> omega) | omega | (simp; done) | (simp; omega))) only [↓CR, MC, ↓PR, MR, afterW, findW, statesW, r1, r3', r5, e1, e3]
  rfl
/-! ### The states, one after another -/
theorem scn_length : ∀ (L : List (List KOp)) (l : List KPair), (scn l L).length = L.length + 1
  | [], _ => rfl
  | o :: L, l => by unfold scn; rw [List.length_cons, scn_length L, List.length_cons]
theorem scn_get : ∀ (L : List (List KOp)) (l : List KPair) (i : Nat), i ≤ L.length → (scn l L).getD i [] = folds l (L.take i)
  | [], l, i, h => by obtain rfl : i = 0 := by simpa using h
                      rfl
  | o :: L, l, 0, _ => rfl
  | o :: L, l, i + 1, h => by
    unfold scn
    rw [List.getD_cons_succ, scn_get L (aps l o) i (by simpa using h), List.take_succ_cons, folds_cons]
theorem rows_length (l : List (List KPair)) : (rows l).length = l.length := by simp [rows]
theorem rows_getD {l : List (List KPair)} {i : Nat} (h : i < l.length) : (rows l).getD i .undef = .sl false 3 (prs (l.getD i [])) := by simp [rows, h]
theorem folds_snoc {L : List (List KOp)} {i : Nat} (h : i < L.length) : folds [] (L.take (i + 1)) = aps (folds [] (L.take i)) L[i] := by
  unfold folds
  rw [List.take_succ_eq_append_getElem h, List.foldl_append]
  rfl
theorem folds_srt : ∀ (L : List (List KOp)) (l : List KPair), Srt l → Srt (folds l L)
  | [], _, h => h
  | o :: L, l, h => folds_srt L (aps l o) (aps_srt h)
theorem folds_len : ∀ (L : List (List KOp)) (l : List KPair), Srt l → (∀ o ∈ L, o.length ≤ 30) → (folds l L).length ≤ l.length + 30 * L.length
  | [], l, _, _ => by simp [folds]
  | o :: L, l, h, h2 => by
    have h1 := folds_len L (aps l o) (aps_srt h) fun x hx => h2 x (List.mem_cons_of_mem _ hx)
    have h3 := aps_len (ops := o) h
    have h4 := h2 o List.mem_cons_self
    rw [folds_cons, List.length_cons]
    omega
theorem foldst_len {L : List (List KOp)} (h1 : L.length ≤ 30) (h2 : ∀ o ∈ L, o.length ≤ 30) (n : Nat) : (folds [] (L.take n)).length ≤ 900 := by
  have := folds_len (L.take n) [] List.Pairwise.nil fun o ho => h2 o (List.mem_of_mem_take ho)
  have h3 : (L.take n).length ≤ L.length := by simp only [List.length_take]; omega
  simp at this h3
  omega
theorem fstates_loop (d : Nat) (f b : Bool) (L : List (List KOp)) (h1 : L.length ≤ 30) (h2 : ∀ o ∈ L, o.length ≤ 30) (h : Heap) : ∃ h', ∀ (r j k : Nat) (Q : Res → Prop) (tg : Hid Q), L.length = j + r → r < k →
    Run (P3_0 (d + 3) k f (bts b L) false (rows (scn [] L)) j h) Q tg = Q ([.bool true], h') := by
  obtain ⟨h', ra⟩ := awake37_run (d + 1) h
  refine ⟨h', fun r => ?_⟩
  have hsl : (rows (scn [] L)).length = L.length + 1 := by rw [rows_length, scn_length]
  induction r with
  | zero =>
    intro j k Q tg hj hk
    obtain ⟨k, rfl⟩ : ∃ m, k = m + 1 := ⟨k - 1, by omega⟩
    rw [P3_0_eq]
    simp (disch := (first | assumption | (simp only [Bool.and_eq_true, Bool.and_eq_false_iff, decide_eq_true_eq, decide_eq_false_iff_not, bne_iff_ne, beq_iff_eq, beq_eq_false_iff_ne, bne_eq_false_iff_eq, Bool.not_eq_true', Bool.not_eq_false', bys_length, List.length_append, List.length_cons, List.length_nil, List.length_map, List.length_drop, List.length_take, Int.natCast_add, wrap_i64_eq, wrap_u64, wrap_u8, ne_eq, not_true_eq_false, not_false_eq_true, Nat.zero_add, Nat.mul_one] <;> omega) | omega | (simp; done) | (simp; omega))) only [↓CR, MC, ↓PR, MR, bts_length, ra]
  | succ r ih =>
    intro j k Q tg hj hk
    obtain ⟨k, rfl⟩ : ∃ m, k = m + 1 := ⟨k - 1, by omega⟩
    have hlt : j < L.length := by omega
    have e1 := succ_wrap (i := j) (by omega)
    have g1 : (rows (scn [] L)).getD j .undef = .sl false 3 (prs (folds [] (L.take j))) := by rw [rows_getD (by rw [scn_length]; omega), scn_get L [] j (by omega)]
    have g2 : (rows (scn [] L)).getD (j + 1) .undef = .sl false 3 (prs (folds [] (L.take (j + 1)))) := by rw [rows_getD (by rw [scn_length]; omega), scn_get L [] (j + 1) (by omega)]
    have ho := h2 _ (List.getElem_mem hlt)
    have hl := foldst_len h1 h2 j
    have hl2 := foldst_len h1 h2 (j + 1)
    obtain ⟨v1, hv1, r1⟩ := rapp_run d b L[j] (by omega) (.sl false 3 (prs (folds [] (L.take j)))) _ (.inr ⟨false, rfl⟩) (folds_srt _ _ List.Pairwise.nil) (by omega) h
    rw [← folds_snoc hlt] at hv1
    obtain ⟨fl, rs⟩ := isV_slK hv1
    have ih' := fun Q tg => ih (j + 1) k Q tg (by omega) (by omega)
    have es : eqLB (folds [] (L.take (j + 1))) (folds [] (L.take (j + 1))) = true := eqLB_iff.2 rfl
    have rq := fun (Q : Res → Prop) (tg : Hid Q) => same31g_run (d := d + 2) (f := false) (g := fl) (a := folds [] (L.take (j + 1))) (b := folds [] (L.take (j + 1))) (h := h) (Q := Q) (tg := tg) (by omega)
    rw [es] at rq
    rw [P3_0_eq]
    simp (disch := (first | assumption | (simp only [Bool.and_eq_true, Bool.and_eq_false_iff, decide_eq_true_eq, decide_eq_false_iff_not, bne_iff_ne, beq_iff_eq, beq_eq_false_iff_ne, bne_eq_false_iff_eq, Bool.not_eq_true', Bool.not_eq_false', bys_length, List.length_append, List.length_cons, List.length_nil, List.length_map, List.length_drop, List.length_take, Int.natCast_add, wrap_i64_eq, wrap_u64, wrap_u8, ne_eq, not_true_eq_false, not_false_eq_true, Nat.zero_add, Nat.mul_one] <;> omega) | omega | (simp; done) | (simp; omega))) only [↓CR, MC, ↓PR, MR, bts_length, bts_getD hlt, hsl, g1, e1, g2, r1, rs, rq, Bool.not_true, ih']
theorem fstates_true (f : Bool) (L : List (List KOp)) (n : Int) (hL : L.length ≤ 140737488351232) (h : Heap) : ∃ d h', Ans (evFn Cw d 3 [.sl f 0 (bts false L), .int .i64 n] h) ([.bool true], h') := by
  by_cases c : few30 L = true
  · have c2 := c
    unfold few30 at c2
    simp only [Bool.and_eq_true, decide_eq_true_eq, List.all_eq_true] at c2
    obtain ⟨h2, h1⟩ := c2
    obtain ⟨k1, r1⟩ := after_run f false L n h h1 h2
    obtain ⟨v2, hv2, r2⟩ := raft_run 0 f false L h1 h2 n k1
    obtain ⟨fl, rs⟩ := isV_slK hv2
    obtain ⟨k3, r3⟩ := states_run f false L k1 h1 h2
    obtain ⟨k4, r4⟩ := fstates_loop 1 f false L h1 h2 k3
    have r4' := fun (Q : Res → Prop) (tg : Hid Q) => r4 L.length 0 rounds Q tg (by omega) (rounds_gt' (by omega))
    rw [e0] at r4'
    have es : eqLB (folds [] (L.take n.toNat)) (folds [] (L.take n.toNat)) = true := eqLB_iff.2 rfl
    have hl := foldst_len h1 h2 n.toNat
    have rq := fun (Q : Res → Prop) (tg : Hid Q) => same31g_run (d := 3) (f := false) (g := fl) (a := folds [] (L.take n.toNat)) (b := folds [] (L.take n.toNat)) (h := k1) (Q := Q) (tg := tg) (by omega)
    rw [es] at rq
    have hsl : (rows (scn [] L)).length = L.length + 1 := by rw [rows_length, scn_length]
    have e1 := succ_wrap (i := L.length) (by omega)
    have bi : ∀ x : Int, (x != x) = false := fun b => by simp
    have g0 : (rows (scn [] L)).getD 0 .undef = .sl false 3 (prs []) := by rw [rows_getD (by rw [scn_length]; omega), scn_get L [] 0 (by omega)]; rfl
    have r1' : ∀ (Q : Res → Prop) (tg : Hid Q), Run (evFn Cw 4 8 [.sl f 0 (bts false L), .int .i64 n] h) Q tg = Q ([.sl false 3 (prs (folds [] (L.take n.toNat)))], k1) := fun Q tg => by
      have e : evFn Cw 4 8 [.sl f 0 (bts false L), .int .i64 n] h = _ := afterW 3 _ _
      rw [e]; exact r1 Q tg
    have r3' : ∀ (Q : Res → Prop) (tg : Hid Q), Run (evFn Cw 4 10 [.sl f 0 (bts false L)] k1) Q tg = Q ([.sl false 0 (rows (scn [] L))], k3) := fun Q tg => by
      have e : evFn Cw 4 10 [.sl f 0 (bts false L)] k1 = _ := statesW 3 _ _
      rw [e]; exact r3 Q tg
    have rf := fun (Q : Res → Prop) (tg : Hid Q) => few37_run (d := 3) (f := f) (b := false) hL (h := h) (Q := Q) (tg := tg)
    rw [c] at rf
    have e1' : (((L.length + 1 : Nat) : Int) != ((L.length + 1 : Nat) : Int)) = false := bi _
    have z0 : ((([] : List KPair).length : Int) != 0) = false := rfl
    refine ⟨5, k4, Run.ans ?_⟩
    rw [F3_eq]
    simp (disch := (first | assumption | (simp only [Bool.and_eq_true, Bool.and_eq_false_iff, decide_eq_true_eq, decide_eq_false_iff_not, bne_iff_ne, beq_iff_eq, beq_eq_false_iff_ne, bne_eq_false_iff_eq, Bool.not_eq_true', Bool.not_eq_false', bys_length, List.length_append, List.length_cons, List.length_nil, List.length_map, List.length_drop, List.length_take, Int.natCast_add, wrap_i64_eq, wrap_u64, wrap_u8, ne_eq, not_true_eq_false, not_false_eq_true, Nat.zero_add, Nat.mul_one] <;> omega) | omega | (simp; done) | (simp; omega))) only [↓CR, MC, ↓PR, MR, rf, Bool.not_true, r1', r2, rs, rq, r3', hsl, bts_length, e1, e1', g0, prs_length, z0, r4']
  · have c' : few30 L = false := by simpa using c
    obtain ⟨h', ra⟩ := awake37_run 0 h
    have rf := fun (Q : Res → Prop) (tg : Hid Q) => few37_run (d := 1) (f := f) (b := false) hL (h := h) (Q := Q) (tg := tg)
    rw [c'] at rf
    refine ⟨3, h', Run.ans ?_⟩
    rw [F3_eq]
    simp (disch := (first | assumption | (simp only [Bool.and_eq_true, Bool.and_eq_false_iff, decide_eq_true_eq, decide_eq_false_iff_not, bne_iff_ne, beq_iff_eq, beq_eq_false_iff_ne, bne_eq_false_iff_eq, Bool.not_eq_true', Bool.not_eq_false', bys_length, List.length_append, List.length_cons, List.length_nil, List.length_map, List.length_drop, List.length_take, Int.natCast_add, wrap_i64_eq, wrap_u64, wrap_u8, ne_eq, not_true_eq_false, not_false_eq_true, Nat.zero_add, Nat.mul_one] <;> omega) | omega | (simp; done) | (simp; omega))) only [↓CR, MC, ↓PR, MR, rf, Bool.not_false, ra]
end Go.Proofs.Ytbddfpakhealbaa.Wb
end

section
/- The contracts hold. -/
namespace Go.Proofs.Ytbddfpakhealbaa.Wb
open Go Go.Weave Go.Proofs.Ytbddfpakhealbaa.Wa
set_option maxRecDepth 100000
set_option linter.unusedSimpArgs false
set_option linter.unusedVariables false
set_option linter.unusedSectionVars false
theorem fold_exts {f : FuncId} {g : List AVal → Heap → Tr Res} {c0 : Ctx} (h : Cw.ext f = some g) : CallAt Cw f g c0 := by
  by_cases e1 : f = 8
  · subst e1
    have e : Cw.ext 8 = some afterG := rfl
    rw [e] at h
    obtain rfl := Option.some.inj h
    exact after_ext rfl ⟨rfl, rfl⟩
  · by_cases e2 : f = 10
    · subst e2
      have e : Cw.ext 10 = some statesG := rfl
      rw [e] at h
      obtain rfl := Option.some.inj h
      exact states_ext rfl ⟨rfl, rfl⟩
    · by_cases e3 : f = 14
      · subst e3
        have e : Cw.ext 14 = some findG := rfl
        rw [e] at h
        obtain rfl := Option.some.inj h
        exact find_ext rfl ⟨rfl, rfl⟩
      · have e : Cw.ext f = none := by
          show (match f with | 8 => some afterG | 10 => some statesG | 14 => some findG | _ => none) = none
          split
          · exact absurd rfl e1
          · exact absurd rfl e2
          · exact absurd rfl e3
          · rfl
        rw [e] at h; cases h
end Go.Proofs.Ytbddfpakhealbaa.Wb
end
