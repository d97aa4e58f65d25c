/- Texts of this proof, laid together: the evaluator, what it comes to, and the laws. No condition. -/
import Derived.Test.YtdlcjibefbnckaaM32
import Derived.Test.YtdlcjibefbnckaaWvLb
import Derived.KernelRfl
section
/- What the evaluator comes to in these functions. -/
namespace Go.Proofs.Ytdlcjibefbnckaa.Wa
open Go Go.Weave
set_option maxRecDepth 100000
set_option linter.unusedVariables false
/- f14 strandline/cursor.New -/
theorem F14nil_eq (d : Nat) (h : Heap) : evFn Cw (d + 1) 14 [AVal.nilp] h =
  (Tr.ret ([(AVal.obj h.objs.length 0)], (Heap.push h (Go.Weave.Obj.cells ([AVal.nilp, (AVal.int .i64 0), (AVal.str [])].map HCell.val))))) := by kernel_rfl
theorem F14_eq (d : Nat) (i0 : Nat) (h : Heap) : evFn Cw (d + 1) 14 [(AVal.obj i0 0)] h =
  (Tr.ret ([(AVal.obj h.objs.length 0)], (Heap.push h (Go.Weave.Obj.cells ([(AVal.obj i0 0), (AVal.int .i64 0), (AVal.str [])].map HCell.val))))) := by kernel_rfl
/- f76 (*strandline/cursor.Cursor).to -/
theorem F76_eq (d : Nat) (i0 : Nat) (s1 : List UInt8) (b2 : Bool) (x3 : Int) (h : Heap) : evFn Cw (d + 1) 76 [(AVal.obj i0 0), (AVal.str s1), (AVal.bool b2), (AVal.int .i64 x3)] h =
  (optK (Heap.cell? h i0 1) fun _ =>
    (optK (Heap.cell? (Heap.setCell h i0 1 (HCell.val (AVal.int .i64 x3))) i0 2) fun _ =>
      (bif b2 then
        (optK (Heap.cell? (Heap.setCell (Heap.setCell h i0 1 (HCell.val (AVal.int .i64 x3))) i0 2 (HCell.val (AVal.str []))) i0 1) fun _ =>
          (optK (Heap.cell? (Heap.setCell (Heap.setCell (Heap.setCell h i0 1 (HCell.val (AVal.int .i64 x3))) i0 2 (HCell.val (AVal.str []))) i0 1 (HCell.val (AVal.int .i64 1))) i0 2) fun _ =>
            (Tr.ret ([(AVal.bool b2)], (Heap.setCell (Heap.setCell (Heap.setCell (Heap.setCell h i0 1 (HCell.val (AVal.int .i64 x3))) i0 2 (HCell.val (AVal.str []))) i0 1 (HCell.val (AVal.int .i64 1))) i0 2 (HCell.val (AVal.str s1)))))))
      else
        (Tr.ret ([(AVal.bool b2)], (Heap.setCell (Heap.setCell h i0 1 (HCell.val (AVal.int .i64 x3))) i0 2 (HCell.val (AVal.str [])))))))) := by kernel_rfl
/- f19 (*strandline/cursor.Cursor).Seek -/
theorem F19_eq (d : Nat) (i0 : Nat) (s1 : List UInt8) (h : Heap) : evFn Cw (d + 1) 19 [(AVal.obj i0 0), (AVal.str s1)] h =
  (optK (Heap.cell? h i0 0) fun z1 =>
    (runK (evFn Cw d 75 [(HCell.toA z1), (AVal.str s1)] h) fun r2 h2 =>
      (consK r2 fun w3 ws4 =>
        (strK w3 fun ss5 =>
          (consK ws4 fun w6 ws7 =>
            (strK w6 fun ss8 =>
              (consK ws7 fun w9 ws10 =>
                (boolK w9 fun bb11 =>
                  (nilK ws10
                    (runK (evFn Cw d 76 [(AVal.obj i0 0), (AVal.str ss5), (AVal.bool bb11), (AVal.int .i64 2)] h2) fun r12 h12 =>
                      (consK r12 fun w13 ws14 =>
                        (boolK w13 fun bb15 =>
                          (nilK ws14
                            (Tr.ret ([(AVal.bool bb15)], h12))))))))))))))) := by kernel_rfl
/- f15 (*strandline/cursor.Cursor).Next -/
noncomputable def P15_0 (d : Nat) (i0 : Nat) (s1 : List UInt8) (h : Heap) : Tr Res :=
  heldPt Cw d 15 [true, true, true, true] [] ⟨[(0, (EV.one (SV.val (AVal.obj i0 0)))), (3, (EV.one (SV.val (AVal.str s1))))], []⟩ h
theorem P15_0_eq (d : Nat) (i0 : Nat) (s1 : List UInt8) (h : Heap) : P15_0 d i0 s1 h =
  (optK (Heap.cell? h i0 0) fun z1 =>
    (runK (evFn Cw d 75 [(HCell.toA z1), (AVal.str s1)] h) fun r2 h2 =>
      (consK r2 fun w3 ws4 =>
        (strK w3 fun ss5 =>
          (consK ws4 fun w6 ws7 =>
            (strK w6 fun ss8 =>
              (consK ws7 fun w9 ws10 =>
                (boolK w9 fun bb11 =>
                  (nilK ws10
                    (runK (evFn Cw d 76 [(AVal.obj i0 0), (AVal.str ss5), (AVal.bool bb11), (AVal.int .i64 2)] h2) fun r12 h12 =>
                      (consK r12 fun w13 ws14 =>
                        (boolK w13 fun bb15 =>
                          (nilK ws14
                            (Tr.ret ([(AVal.bool bb15)], h12))))))))))))))) := (heldPt_eq _ _ _ _ _ _ _).trans (by kernel_rfl)
theorem F15_eq (d : Nat) (i0 : Nat) (h : Heap) : evFn Cw (d + 1) 15 [(AVal.obj i0 0)] h =
  (optK (Heap.cell? h i0 1) fun z1 =>
    (intK .i64 (HCell.toA z1) fun y2 =>
      (bif ((y2 : Int) == 2) then
        (Tr.ret ([(AVal.bool false)], h))
      else
        (optK (Heap.cell? h i0 1) fun z3 =>
          (intK .i64 (HCell.toA z3) fun y4 =>
            (bif ((y4 : Int) == 1) then
              (optK (Heap.cell? h i0 2) fun z5 =>
                (strK (HCell.toA z5) fun ss6 =>
                  (bif decide (ss6.length + [0].length ≤ 140737488355328) then (P15_0 d i0 (ss6 ++ [0]) h) else Tr.fail)))
            else
              (P15_0 d i0 [] h))))))) := by kernel_rfl
/- f27 (*strandline/cursor.Cursor).On -/
theorem F27_eq (d : Nat) (i0 : Nat) (h : Heap) : evFn Cw (d + 1) 27 [(AVal.obj i0 0)] h =
  (optK (Heap.cell? h i0 1) fun z1 =>
    (intK .i64 (HCell.toA z1) fun y2 =>
      (Tr.ret ([(AVal.bool ((y2 : Int) == 1))], h)))) := by kernel_rfl
/- f25 (*strandline/cursor.Cursor).Pair -/
theorem F25_eq (d : Nat) (i0 : Nat) (h : Heap) : evFn Cw (d + 1) 25 [(AVal.obj i0 0)] h =
  (runK (evFn Cw d 27 [(AVal.obj i0 0)] h) fun r1 h1 =>
    (consK r1 fun w2 ws3 =>
      (boolK w2 fun bb4 =>
        (nilK ws3
          (bif (!bb4) then
            (Tr.ret ([(AVal.agg [(AVal.str []), (AVal.str [])]), (AVal.bool false)], h1))
          else
            (optK (Heap.cell? h1 i0 0) fun z5 =>
              (optK (Heap.cell? h1 i0 2) fun z6 =>
                (strK (HCell.toA z6) fun ss7 =>
                  (runK (evFn Cw d 81 [(HCell.toA z5), (AVal.str ss7)] h1) fun r8 h8 =>
                    (consK r8 fun w9 ws10 =>
                      (strK w9 fun ss11 =>
                        (consK ws10 fun w12 ws13 =>
                          (boolK w12 fun bb14 =>
                            (nilK ws13
                              (bif (!bb14) then
                                (Tr.ret ([(AVal.agg [(AVal.str []), (AVal.str [])]), (AVal.bool false)], h8))
                              else
                                (optK (Heap.cell? h8 i0 2) fun z15 =>
                                  (strK (HCell.toA z15) fun ss16 =>
                                    (Tr.ret ([(AVal.agg [(AVal.str ss16), (AVal.str ss11)]), (AVal.bool true)], h8))))))))))))))))))) := by kernel_rfl
/- f79 (*strandline/cursor.Cursor).Prev$1 -/
noncomputable def P88nil_0 (d k : Nat) (s0 : List UInt8) (x1 : Int) (l2 : List AVal) (v3 : AVal) (b4 : Bool) (h : Heap) : Tr Res :=
  loopPt Cw d 88 [true, true, true, false, true, true] [] k ⟨[(2, (EV.one (SV.val (AVal.str s0)))), (3, (EV.one (SV.val (AVal.int .i64 x1)))), (9, (EV.one (SV.own (tokOf 9 0) 3 l2))), (10, (EV.one (SV.val v3))), (11, (EV.one (SV.val (AVal.bool b4))))], []⟩ h
theorem P88nil_0_eq (d k : Nat) (s0 : List UInt8) (x1 : Int) (l2 : List AVal) (v3 : AVal) (b4 : Bool) (h : Heap) : P88nil_0 d (k + 1) s0 x1 l2 v3 b4 h =
  (bif b4 then
    (bif (decide (((l2.length : Int) : Int) < x1)) then
      (runK (evFn Cw d 25 [v3] h) fun r1 h1 =>
        (consK r1 fun w2 ws3 =>
          (aggK 2 w2 fun cc4 =>
            (consK ws3 fun w5 ws6 =>
              (boolK w5 fun bb7 =>
                (nilK ws6
                  (bif ((cc4.length == 2) && true) then
                    (bif (!(s0 == [])) then
                      (optK (cc4[0]?) fun w8 =>
                        (strK w8 fun ss9 =>
                          (bif (!(Go.Op.bytesLess ss9 s0)) then
                            (Tr.ret ([(AVal.sl false 3 l2)], h1))
                          else
                            (bif decide (0 + 2 ≤ cc4.length) then
                              (bif ((((cc4.drop 0).take 2).length == 2) && true) then
                                (bif decide ((l2.length + (1 : Nat)) * 32 ≤ 140737488355328) then
                                  (runK (evFn Cw d 15 [v3] h1) fun r10 h10 =>
                                    (consK r10 fun w11 ws12 =>
                                      (boolK w11 fun bb13 =>
                                        (nilK ws12
                                          (P88nil_0 d k s0 x1 (l2 ++ [(AVal.agg ((cc4.drop 0).take 2))]) v3 bb13 h10)))))
                                else
                                  Tr.fail)
                              else
                                Tr.fail)
                            else
                              Tr.fail))))
                    else
                      (bif decide (0 + 2 ≤ cc4.length) then
                        (bif ((((cc4.drop 0).take 2).length == 2) && true) then
                          (bif decide ((l2.length + (1 : Nat)) * 32 ≤ 140737488355328) then
                            (runK (evFn Cw d 15 [v3] h1) fun r14 h14 =>
                              (consK r14 fun w15 ws16 =>
                                (boolK w15 fun bb17 =>
                                  (nilK ws16
                                    (P88nil_0 d k s0 x1 (l2 ++ [(AVal.agg ((cc4.drop 0).take 2))]) v3 bb17 h14)))))
                          else
                            Tr.fail)
                        else
                          Tr.fail)
                      else
                        Tr.fail))
                  else
                    Tr.fail)))))))
    else
      (Tr.ret ([(AVal.sl false 3 l2)], h)))
  else
    (Tr.ret ([(AVal.sl false 3 l2)], h))) := by kernel_rfl
theorem F88nil_eq (d : Nat) (s0 : List UInt8) (s1 : List UInt8) (x2 : Int) (h : Heap) : evFn Cw (d + 1) 88 [AVal.nilp, (AVal.str s0), (AVal.str s1), (AVal.int .i64 x2)] h =
  (runK (evFn Cw d 14 [AVal.nilp] h) fun r1 h1 =>
    (consK r1 fun w2 ws3 =>
      (nilK ws3
        (runK (evFn Cw d 19 [w2, (AVal.str s0)] h1) fun r4 h4 =>
          (consK r4 fun w5 ws6 =>
            (boolK w5 fun bb7 =>
              (nilK ws6
                (P88nil_0 d rounds s1 x2 [] w2 bb7 h4)))))))) := by kernel_rfl
noncomputable def P88_0 (d k : Nat) (s0 : List UInt8) (x1 : Int) (l2 : List AVal) (v3 : AVal) (b4 : Bool) (h : Heap) : Tr Res :=
  loopPt Cw d 88 [true, true, true, false, true, true] [] k ⟨[(2, (EV.one (SV.val (AVal.str s0)))), (3, (EV.one (SV.val (AVal.int .i64 x1)))), (9, (EV.one (SV.own (tokOf 9 0) 3 l2))), (10, (EV.one (SV.val v3))), (11, (EV.one (SV.val (AVal.bool b4))))], []⟩ h
theorem P88_0_eq (d k : Nat) (s0 : List UInt8) (x1 : Int) (l2 : List AVal) (v3 : AVal) (b4 : Bool) (h : Heap) : P88_0 d (k + 1) s0 x1 l2 v3 b4 h =
  (bif b4 then
    (bif (decide (((l2.length : Int) : Int) < x1)) then
      (runK (evFn Cw d 25 [v3] h) fun r1 h1 =>
        (consK r1 fun w2 ws3 =>
          (aggK 2 w2 fun cc4 =>
            (consK ws3 fun w5 ws6 =>
              (boolK w5 fun bb7 =>
                (nilK ws6
                  (bif ((cc4.length == 2) && true) then
                    (bif (!(s0 == [])) then
                      (optK (cc4[0]?) fun w8 =>
                        (strK w8 fun ss9 =>
                          (bif (!(Go.Op.bytesLess ss9 s0)) then
                            (Tr.ret ([(AVal.sl false 3 l2)], h1))
                          else
                            (bif decide (0 + 2 ≤ cc4.length) then
                              (bif ((((cc4.drop 0).take 2).length == 2) && true) then
                                (bif decide ((l2.length + (1 : Nat)) * 32 ≤ 140737488355328) then
                                  (runK (evFn Cw d 15 [v3] h1) fun r10 h10 =>
                                    (consK r10 fun w11 ws12 =>
                                      (boolK w11 fun bb13 =>
                                        (nilK ws12
                                          (P88_0 d k s0 x1 (l2 ++ [(AVal.agg ((cc4.drop 0).take 2))]) v3 bb13 h10)))))
                                else
                                  Tr.fail)
                              else
                                Tr.fail)
                            else
                              Tr.fail))))
                    else
                      (bif decide (0 + 2 ≤ cc4.length) then
                        (bif ((((cc4.drop 0).take 2).length == 2) && true) then
                          (bif decide ((l2.length + (1 : Nat)) * 32 ≤ 140737488355328) then
                            (runK (evFn Cw d 15 [v3] h1) fun r14 h14 =>
                              (consK r14 fun w15 ws16 =>
                                (boolK w15 fun bb17 =>
                                  (nilK ws16
                                    (P88_0 d k s0 x1 (l2 ++ [(AVal.agg ((cc4.drop 0).take 2))]) v3 bb17 h14)))))
                          else
                            Tr.fail)
                        else
                          Tr.fail)
                      else
                        Tr.fail))
                  else
                    Tr.fail)))))))
    else
      (Tr.ret ([(AVal.sl false 3 l2)], h)))
  else
    (Tr.ret ([(AVal.sl false 3 l2)], h))) := by kernel_rfl
theorem F88_eq (d : Nat) (i0 : Nat) (s1 : List UInt8) (s2 : List UInt8) (x3 : Int) (h : Heap) : evFn Cw (d + 1) 88 [(AVal.obj i0 0), (AVal.str s1), (AVal.str s2), (AVal.int .i64 x3)] h =
  (runK (evFn Cw d 14 [(AVal.obj i0 0)] h) fun r1 h1 =>
    (consK r1 fun w2 ws3 =>
      (nilK ws3
        (runK (evFn Cw d 19 [w2, (AVal.str s1)] h1) fun r4 h4 =>
          (consK r4 fun w5 ws6 =>
            (boolK w5 fun bb7 =>
              (nilK ws6
                (P88_0 d rounds s2 x3 [] w2 bb7 h4)))))))) := by kernel_rfl
/- f39 strandline/strandlineref32.Range -/
end Go.Proofs.Ytdlcjibefbnckaa.Wa
end

section
/- Cursors. -/
namespace Go.Proofs.Ytdlcjibefbnckaa.Wa
open Go Go.Weave
set_option maxRecDepth 100000
set_option linter.unusedSimpArgs false
set_option linter.unusedVariables false
set_option linter.unusedSectionVars false

/-! ### Neighbours in a sorted list -/
theorem blt_next : ∀ (a k : List UInt8), blt a (k ++ [0]) = !(blt k a)
  | [], [] => rfl
  | [], _ :: _ => rfl
  | a :: x, [] => by
    cases x <;> simp [blt, Go.Op.bytesLess]
  | a :: x, b :: y => by
    have ih := blt_next x y
    simp only [blt] at ih
    simp only [blt, List.cons_append, Go.Op.bytesLess, ih]
    rcases Nat.lt_trichotomy a.toNat b.toNat with h | h | h
    · have h1 : a < b := UInt8.lt_iff_toNat_lt.2 h
      have h2 : ¬ b < a := fun h' => by have := UInt8.lt_iff_toNat_lt.1 h'; omega
      have h3 : (b == a) = false := by simp only [beq_eq_false_iff_ne]; intro e; subst e; omega
      simp [h1, h2, h3]
    · have h1 : a = b := UInt8.toNat_inj.1 h
      subst h1
      simp
    · have h1 : b < a := UInt8.lt_iff_toNat_lt.2 h
      have h2 : ¬ a < b := fun h' => by have := UInt8.lt_iff_toNat_lt.1 h'; omega
      have h3 : (a == b) = false := by simp only [beq_eq_false_iff_ne]; intro e; subst e; omega
      simp [h1, h2, h3]
theorem lseek_skip {s : List UInt8} : ∀ {a b : List KPair}, (∀ p ∈ a, blt p.key s = true) → lseek s (a ++ b) = lseek s b
  | [], _, _ => rfl
  | p :: a, b, h => by
    rw [List.cons_append, lseek_cons, if_pos (h p List.mem_cons_self)]
    exact lseek_skip fun q hq => h q (List.mem_cons_of_mem _ hq)
/-- The next one. -/
theorem lseek_succ {a b : List KPair} {p : KPair} (hs : Srt (a ++ p :: b)) : lseek (p.key ++ [0]) (a ++ p :: b) = b.head? := by
  obtain ⟨_, h2, h3, h4⟩ := hs.mid
  rw [lseek_skip fun q hq => by rw [blt_next, blt_asym (h3 q hq)]; rfl, lseek_cons, if_pos (by rw [blt_next, blt_irr]; rfl)]
  cases b with
  | nil => rfl
  | cons q b =>
    rw [lseek_cons, if_neg (by rw [blt_next, h4 q List.mem_cons_self]; simp)]
    rfl
theorem lget_at {a b : List KPair} {p : KPair} (hs : Srt (a ++ p :: b)) : lget p.key (a ++ p :: b) = some p := by
  obtain ⟨_, h2, h3, h4⟩ := hs.mid
  unfold lget
  rw [List.find?_append]
  have : List.find? (fun q => q.key == p.key) a = none := by
    rw [List.find?_eq_none]
    intro x hx
    simpa using blt_ne (h3 x hx)
  rw [this]; simp

/-! ### Cursors -/
def curO (tp : AVal) (w : Int) (k : List UInt8) : Weave.Obj := .cells [HCell.val tp, HCell.val (.int .i64 w), HCell.val (.str k)]
theorem cur_t {h : Heap} {i : Nat} {tp : AVal} {w : Int} {k : List UInt8} (hm : h.objs[i]? = some (curO tp w k)) : h.cell? i 0 = some (HCell.val tp) := by rw [Heap.cell_at hm]; rfl
theorem cur_w {h : Heap} {i : Nat} {tp : AVal} {w : Int} {k : List UInt8} (hm : h.objs[i]? = some (curO tp w k)) : h.cell? i 1 = some (HCell.val (.int .i64 w)) := by rw [Heap.cell_at hm]; rfl
theorem cur_k {h : Heap} {i : Nat} {tp : AVal} {w : Int} {k : List UInt8} (hm : h.objs[i]? = some (curO tp w k)) : h.cell? i 2 = some (HCell.val (.str k)) := by rw [Heap.cell_at hm]; rfl
theorem cur_sw {h : Heap} {i : Nat} {tp : AVal} {w w' : Int} {k : List UInt8} (hm : h.objs[i]? = some (curO tp w k)) : h.setCell i 1 (HCell.val (.int .i64 w')) = h.put i (curO tp w' k) := by rw [Heap.set_at hm]; rfl
theorem cur_sk {h : Heap} {i : Nat} {tp : AVal} {w : Int} {k k' : List UInt8} (hm : h.objs[i]? = some (curO tp w k)) : h.setCell i 2 (HCell.val (.str k')) = h.put i (curO tp w k') := by rw [Heap.set_at hm]; rfl
def curTo (tp : AVal) (o : Option KPair) (e : Int) : Weave.Obj := curO tp (if o.isSome then 1 else e) (oKey o)
theorem to_run {d i : Nat} {tp : AVal} {w e : Int} {k : List UInt8} {o : Option KPair} {h : Heap} {Q : Res → Prop} {tg : Hid Q} (hm : h.objs[i]? = some (curO tp w k)) :
    Run (evFn Cw (d + 1) 76 [.obj i 0, .str (oKey o), .bool o.isSome, .int .i64 e] h) Q tg = Q ([.bool o.isSome], h.put i (curTo tp o e)) := by
  have m1 : (h.put i (curO tp e k)).objs[i]? = some (curO tp e k) := Heap.put_get hm
  have m2 : (h.put i (curO tp e [])).objs[i]? = some (curO tp e []) := Heap.put_get hm
  have m3 : (h.put i (curO tp 1 [])).objs[i]? = some (curO tp 1 []) := Heap.put_get hm
  have s1 := cur_sw (w' := e) hm
  have s2 := cur_sk (k' := []) m1
  have s3 := cur_sw (w' := 1) m2
  have s4 := cur_sk (k' := oKey o) m3
  rw [Heap.put_put] at s2 s3 s4
  rw [F76_eq]
  cases o with
  | none => simp (disch := (first | assumption | (simp only [Bool.and_eq_true, Bool.and_eq_false_iff, decide_eq_true_eq, decide_eq_false_iff_not, bne_iff_ne, beq_iff_eq, beq_eq_false_iff_ne, bne_eq_false_iff_eq, Bool.not_eq_true', Bool.not_eq_false', bys_length, List.length_append, List.length_cons, List.length_nil, List.length_map, List.length_drop, List.length_take, Int.natCast_add, wrap_i64_eq, wrap_u64, wrap_u8, ne_eq, not_true_eq_false, not_false_eq_true, Nat.zero_add, Nat.mul_one] <;> omega) | omega | (simp; done) | (simp; omega))) only [↓CR, MC, ↓PR, MR, cur_w hm, s1, cur_k m1, s2, Option.isSome_none]; rfl
  | some p => simp (disch := (first | assumption | (simp only [Bool.and_eq_true, Bool.and_eq_false_iff, decide_eq_true_eq, decide_eq_false_iff_not, bne_iff_ne, beq_iff_eq, beq_eq_false_iff_ne, bne_eq_false_iff_eq, Bool.not_eq_true', Bool.not_eq_false', bys_length, List.length_append, List.length_cons, List.length_nil, List.length_map, List.length_drop, List.length_take, Int.natCast_add, wrap_i64_eq, wrap_u64, wrap_u8, ne_eq, not_true_eq_false, not_false_eq_true, Nat.zero_add, Nat.mul_one] <;> omega) | omega | (simp; done) | (simp; omega))) only [↓CR, MC, ↓PR, MR, cur_w hm, s1, cur_k m1, s2, Option.isSome_some, cur_w m2, s3, cur_k m3, s4]; rfl

theorem cnew_run {d ti : Nat} {h : Heap} {Q : Res → Prop} {tg : Hid Q} : Run (evFn Cw (d + 1) 14 [.obj ti 0] h) Q tg = Q ([.obj h.objs.length 0], h.push (curO (.obj ti 0) 0 [])) := (at_eq (F14_eq _ _ _)).trans at_ret
theorem cnewn_run {d : Nat} {h : Heap} {Q : Res → Prop} {tg : Hid Q} : Run (evFn Cw (d + 1) 14 [.nilp] h) Q tg = Q ([.obj h.objs.length 0], h.push (curO .nilp 0 [])) := (at_eq (F14nil_eq _ _)).trans at_ret
theorem con_run {d i : Nat} {tp : AVal} {w : Int} {k : List UInt8} {h : Heap} {Q : Res → Prop} {tg : Hid Q} (hm : h.objs[i]? = some (curO tp w k)) :
    Run (evFn Cw (d + 1) 27 [.obj i 0] h) Q tg = Q ([.bool (w == 1)], h) := by
  rw [F27_eq]
  simp (disch := (first | assumption | (simp only [Bool.and_eq_true, Bool.and_eq_false_iff, decide_eq_true_eq, decide_eq_false_iff_not, bne_iff_ne, beq_iff_eq, beq_eq_false_iff_ne, bne_eq_false_iff_eq, Bool.not_eq_true', Bool.not_eq_false', bys_length, List.length_append, List.length_cons, List.length_nil, List.length_map, List.length_drop, List.length_take, Int.natCast_add, wrap_i64_eq, wrap_u64, wrap_u8, ne_eq, not_true_eq_false, not_false_eq_true, Nat.zero_add, Nat.mul_one] <;> omega) | omega | (simp; done) | (simp; omega))) only [↓CR, MC, ↓PR, MR, cur_w hm]
theorem cseek_run {d i ti : Nat} {t : Nd} {w : Int} {k s : List UInt8} {h : Heap} {Q : Res → Prop} {tg : Hid Q} (ok : TOk' t) (hm : h.objs[i]? = some (curO (.obj ti 0) w k)) (ht : h.objs[ti]? = some (trT t)) :
    Run (evFn Cw (d + 3) 19 [.obj i 0, .str s] h) Q tg = Q ([.bool (lseek s t.toL).isSome], h.put i (curTo (.obj ti 0) (lseek s t.toL) 2)) := by
  have r := fun (Q : Res → Prop) (tg : Hid Q) => tseek_run (d := d) (s := s) (Q := Q) (tg := tg) ok ht
  have q := fun (Q : Res → Prop) (tg : Hid Q) => to_run (d := d + 1) (e := 2) (o := lseek s t.toL) (Q := Q) (tg := tg) hm
  rw [F19_eq]
  simp (disch := (first | assumption | (simp only [Bool.and_eq_true, Bool.and_eq_false_iff, decide_eq_true_eq, decide_eq_false_iff_not, bne_iff_ne, beq_iff_eq, beq_eq_false_iff_ne, bne_eq_false_iff_eq, Bool.not_eq_true', Bool.not_eq_false', bys_length, List.length_append, List.length_cons, List.length_nil, List.length_map, List.length_drop, List.length_take, Int.natCast_add, wrap_i64_eq, wrap_u64, wrap_u8, ne_eq, not_true_eq_false, not_false_eq_true, Nat.zero_add, Nat.mul_one] <;> omega) | omega | (simp; done) | (simp; omega))) only [↓CR, MC, ↓PR, MR, cur_t hm, r, q]
theorem cnext_run {d i ti : Nat} {t : Nd} {w : Int} {k : List UInt8} {h : Heap} {Q : Res → Prop} {tg : Hid Q} (ok : TOk' t) (hm : h.objs[i]? = some (curO (.obj ti 0) w k)) (ht : h.objs[ti]? = some (trT t)) (hw : w ≠ 2) (hk : k.length ≤ 140737488351232) :
    Run (evFn Cw (d + 3) 15 [.obj i 0] h) Q tg = Q ([.bool (lseek (if w = 1 then k ++ [0] else []) t.toL).isSome], h.put i (curTo (.obj ti 0) (lseek (if w = 1 then k ++ [0] else []) t.toL) 2)) := by
  have e : (w == 2) = false := by simpa using hw
  have ez : [(0 : UInt8)].length = 1 := rfl
  have r := fun (s : List UInt8) (Q : Res → Prop) (tg : Hid Q) => tseek_run (d := d) (s := s) (Q := Q) (tg := tg) ok ht
  have q := fun (s : List UInt8) (Q : Res → Prop) (tg : Hid Q) => to_run (d := d + 1) (e := 2) (o := lseek s t.toL) (Q := Q) (tg := tg) hm
  rw [F15_eq]
  by_cases h1 : w = 1
  · have e1 : (w == 1) = true := by simp [h1]
    rw [if_pos h1]
    simp (disch := (first | assumption | (simp only [Bool.and_eq_true, Bool.and_eq_false_iff, decide_eq_true_eq, decide_eq_false_iff_not, bne_iff_ne, beq_iff_eq, beq_eq_false_iff_ne, bne_eq_false_iff_eq, Bool.not_eq_true', Bool.not_eq_false', bys_length, List.length_append, List.length_cons, List.length_nil, List.length_map, List.length_drop, List.length_take, Int.natCast_add, wrap_i64_eq, wrap_u64, wrap_u8, ne_eq, not_true_eq_false, not_false_eq_true, Nat.zero_add, Nat.mul_one] <;> omega) | omega | (simp; done) | (simp; omega))) only [↓CR, MC, ↓PR, MR, cur_w hm, e, e1, cur_k hm, ez, P15_0_eq, cur_t hm, r, q]
  · have e1 : (w == 1) = false := by simpa using h1
    rw [if_neg h1]
    simp (disch := (first | assumption | (simp only [Bool.and_eq_true, Bool.and_eq_false_iff, decide_eq_true_eq, decide_eq_false_iff_not, bne_iff_ne, beq_iff_eq, beq_eq_false_iff_ne, bne_eq_false_iff_eq, Bool.not_eq_true', Bool.not_eq_false', bys_length, List.length_append, List.length_cons, List.length_nil, List.length_map, List.length_drop, List.length_take, Int.natCast_add, wrap_i64_eq, wrap_u64, wrap_u8, ne_eq, not_true_eq_false, not_false_eq_true, Nat.zero_add, Nat.mul_one] <;> omega) | omega | (simp; done) | (simp; omega))) only [↓CR, MC, ↓PR, MR, cur_w hm, e, e1, P15_0_eq, cur_t hm, r, q]
theorem cpair_run {d i ti : Nat} {t : Nd} {w : Int} {k : List UInt8} {h : Heap} {Q : Res → Prop} {tg : Hid Q} (ok : TOk' t) (hm : h.objs[i]? = some (curO (.obj ti 0) w k)) (ht : h.objs[ti]? = some (trT t)) :
    Run (evFn Cw (d + 4) 25 [.obj i 0] h) Q tg = Q (if w = 1 ∧ (lget k t.toL).isSome = true then [.agg [.str k, .str (oVal (lget k t.toL))], .bool true] else [.agg [.str [], .str []], .bool false], h) := by
  have r := fun (Q : Res → Prop) (tg : Hid Q) => con_run (d := d + 2) (Q := Q) (tg := tg) hm
  have g := fun (Q : Res → Prop) (tg : Hid Q) => tget_run (d := d) (s := k) (Q := Q) (tg := tg) ok ht
  rw [F25_eq]
  by_cases h1 : w = 1
  · have e1 : (w == 1) = true := by simp [h1]
    cases hg : (lget k t.toL).isSome
    · rw [if_neg (by simp)]
      rw [hg] at g
      simp (disch := (first | assumption | (simp only [Bool.and_eq_true, Bool.and_eq_false_iff, decide_eq_true_eq, decide_eq_false_iff_not, bne_iff_ne, beq_iff_eq, beq_eq_false_iff_ne, bne_eq_false_iff_eq, Bool.not_eq_true', Bool.not_eq_false', bys_length, List.length_append, List.length_cons, List.length_nil, List.length_map, List.length_drop, List.length_take, Int.natCast_add, wrap_i64_eq, wrap_u64, wrap_u8, ne_eq, not_true_eq_false, not_false_eq_true, Nat.zero_add, Nat.mul_one] <;> omega) | omega | (simp; done) | (simp; omega))) only [↓CR, MC, ↓PR, MR, r, e1, Bool.not_true, cur_t hm, cur_k hm, g, Bool.not_false]
    · rw [if_pos ⟨h1, rfl⟩]
      rw [hg] at g
      simp (disch := (first | assumption | (simp only [Bool.and_eq_true, Bool.and_eq_false_iff, decide_eq_true_eq, decide_eq_false_iff_not, bne_iff_ne, beq_iff_eq, beq_eq_false_iff_ne, bne_eq_false_iff_eq, Bool.not_eq_true', Bool.not_eq_false', bys_length, List.length_append, List.length_cons, List.length_nil, List.length_map, List.length_drop, List.length_take, Int.natCast_add, wrap_i64_eq, wrap_u64, wrap_u8, ne_eq, not_true_eq_false, not_false_eq_true, Nat.zero_add, Nat.mul_one] <;> omega) | omega | (simp; done) | (simp; omega))) only [↓CR, MC, ↓PR, MR, r, e1, Bool.not_true, cur_t hm, cur_k hm, g]
  · have e1 : (w == 1) = false := by simpa using h1
    rw [if_neg (fun h => h1 h.1)]
    simp (disch := (first | assumption | (simp only [Bool.and_eq_true, Bool.and_eq_false_iff, decide_eq_true_eq, decide_eq_false_iff_not, bne_iff_ne, beq_iff_eq, beq_eq_false_iff_ne, bne_eq_false_iff_eq, Bool.not_eq_true', Bool.not_eq_false', bys_length, List.length_append, List.length_cons, List.length_nil, List.length_map, List.length_drop, List.length_take, Int.natCast_add, wrap_i64_eq, wrap_u64, wrap_u8, ne_eq, not_true_eq_false, not_false_eq_true, Nat.zero_add, Nat.mul_one] <;> omega) | omega | (simp; done) | (simp; omega))) only [↓CR, MC, ↓PR, MR, r, e1, Bool.not_false]

/-! ### Back -/
/-- What is as it was, but one object. -/
structure Heap.but (h h' : Heap) (i : Nat) : Prop where
  len : h.objs.length ≤ h'.objs.length
  old : ∀ j, j ≠ i → j < h.objs.length → h'.objs[j]? = h.objs[j]?
theorem Heap.but.get {h h' : Heap} {i j : Nat} (e : Heap.but h h' i) (hj : j ≠ i) {o : Weave.Obj} (hm : h.objs[j]? = some o) : h'.objs[j]? = some o := by rw [e.old j hj (Heap.lt_of hm)]; exact hm
/-! ### Cursors of nothing -/
theorem cseekn_run {d i : Nat} {k s : List UInt8} {h : Heap} {Q : Res → Prop} {tg : Hid Q} (hm : h.objs[i]? = some (curO .nilp 0 k)) :
    Run (evFn Cw (d + 3) 19 [.obj i 0, .str s] h) Q tg = Q ([.bool false], h.put i (curO .nilp 2 [])) := by
  have q := fun (Q : Res → Prop) (tg : Hid Q) => to_run (d := d + 1) (e := 2) (o := none) (Q := Q) (tg := tg) hm
  have e1 : oKey none = [] := rfl
  have e2 : (none : Option KPair).isSome = false := rfl
  rw [e1, e2] at q
  rw [F19_eq]
  simp (disch := (first | assumption | (simp only [Bool.and_eq_true, Bool.and_eq_false_iff, decide_eq_true_eq, decide_eq_false_iff_not, bne_iff_ne, beq_iff_eq, beq_eq_false_iff_ne, bne_eq_false_iff_eq, Bool.not_eq_true', Bool.not_eq_false', bys_length, List.length_append, List.length_cons, List.length_nil, List.length_map, List.length_drop, List.length_take, Int.natCast_add, wrap_i64_eq, wrap_u64, wrap_u8, ne_eq, not_true_eq_false, not_false_eq_true, Nat.zero_add, Nat.mul_one] <;> omega) | omega | (simp; done) | (simp; omega))) only [↓CR, MC, ↓PR, MR, cur_t hm, nseek_run, q]
  rfl
theorem crangen_run {d : Nat} {a b : List UInt8} {m : Int} {h : Heap} {Q : Res → Prop} {tg : Hid Q} : Run (evFn Cw (d + 4) 88 [.nilp, .str a, .str b, .int .i64 m] h) Q tg = Q ([.sl false 3 []], (h.push (curO .nilp 0 [])).put h.objs.length (curO .nilp 2 [])) := by
  obtain ⟨k, hk⟩ : ∃ k, rounds = k + 1 := ⟨rounds - 1, by have := rounds_gt' (n := 1) (by omega); omega⟩
  have q := fun (Q : Res → Prop) (tg : Hid Q) => cseekn_run (d := d) (s := a) (Q := Q) (tg := tg) (Heap.push_new h (curO .nilp 0 []))
  rw [F88nil_eq, hk]
  simp (disch := (first | assumption | (simp only [Bool.and_eq_true, Bool.and_eq_false_iff, decide_eq_true_eq, decide_eq_false_iff_not, bne_iff_ne, beq_iff_eq, beq_eq_false_iff_ne, bne_eq_false_iff_eq, Bool.not_eq_true', Bool.not_eq_false', bys_length, List.length_append, List.length_cons, List.length_nil, List.length_map, List.length_drop, List.length_take, Int.natCast_add, wrap_i64_eq, wrap_u64, wrap_u8, ne_eq, not_true_eq_false, not_false_eq_true, Nat.zero_add, Nat.mul_one] <;> omega) | omega | (simp; done) | (simp; omega))) only [↓CR, MC, ↓PR, MR, cnewn_run, q, P88nil_0_eq]

/-! ### Ranges -/
def inTo (to : List UInt8) (k : List UInt8) : Bool := (to == []) || blt k to
/-- By the reference. -/
def rngR (fr to : List UInt8) (most : Int) : List KPair → List KPair → List KPair
  | [], acc => acc
  | p :: l, acc => if (acc.length : Int) < most then (if (!blt p.key fr && inTo to p.key) = true then rngR fr to most l (acc ++ [p]) else rngR fr to most l acc) else acc
/-- By a cursor. -/
def rngC (to : List UInt8) (most : Int) : List KPair → List KPair → List KPair
  | [], acc => acc
  | p :: l, acc => if (acc.length : Int) < most then (if inTo to p.key = true then rngC to most l (acc ++ [p]) else acc) else acc
theorem rngR_out {fr to : List UInt8} {most : Int} : ∀ {l acc : List KPair}, (∀ p ∈ l, inTo to p.key = false) → rngR fr to most l acc = acc
  | [], _, _ => rfl
  | p :: l, acc, h => by
    unfold rngR
    rw [h p List.mem_cons_self]
    simp only [Bool.and_false, Bool.false_eq_true, if_false]
    split
    · exact rngR_out fun q hq => h q (List.mem_cons_of_mem _ hq)
    · rfl
theorem rngR_in {fr to : List UInt8} {most : Int} : ∀ {l acc : List KPair}, Srt l → (∀ p ∈ l, blt p.key fr = false) → rngR fr to most l acc = rngC to most l acc
  | [], _, _, _ => rfl
  | p :: l, acc, hs, h => by
    have ⟨h1, h2⟩ := List.pairwise_cons.1 hs
    unfold rngR rngC
    rw [h p List.mem_cons_self]
    simp only [Bool.not_false, Bool.true_and]
    split
    · split
      · exact rngR_in h2 fun q hq => h q (List.mem_cons_of_mem _ hq)
      · rename_i c
        refine rngR_out fun q hq => ?_
        unfold inTo at c ⊢
        simp only [Bool.or_eq_true, not_or, Bool.not_eq_true] at c
        rw [c.1, Bool.false_or]
        cases hb : blt q.key to
        · rfl
        · have := blt_trans (h1 q hq) hb
          rw [this] at c; simp at c
    · rfl
theorem rngR_skip {fr to : List UInt8} {most : Int} : ∀ {a b acc : List KPair}, (∀ p ∈ a, blt p.key fr = true) → rngR fr to most (a ++ b) acc = rngR fr to most b acc
  | [], _, _, _ => rfl
  | p :: a, b, acc, h => by
    rw [List.cons_append]
    conv => lhs; unfold rngR
    rw [h p List.mem_cons_self]
    simp only [Bool.not_true, Bool.false_and, Bool.false_eq_true, if_false]
    split
    · exact rngR_skip fun q hq => h q (List.mem_cons_of_mem _ hq)
    · rename_i c
      cases b with
      | nil => rfl
      | cons q b => unfold rngR; rw [if_neg c]
theorem split_at (fr : List UInt8) : ∀ {l : List KPair}, Srt l → ∃ a b, l = a ++ b ∧ (∀ p ∈ a, blt p.key fr = true) ∧ (∀ p ∈ b, blt p.key fr = false)
  | [], _ => ⟨[], [], rfl, by simp, by simp⟩
  | p :: l, hs => by
    have ⟨h1, h2⟩ := List.pairwise_cons.1 hs
    by_cases c : blt p.key fr = true
    · obtain ⟨a, b, e, ha, hb⟩ := split_at fr h2
      exact ⟨p :: a, b, by rw [e]; rfl, fun q hq => (List.mem_cons.1 hq).elim (fun e => e ▸ c) (ha q), hb⟩
    · refine ⟨[], p :: l, rfl, by simp, fun q hq => ?_⟩
      rcases List.mem_cons.1 hq with rfl | hq
      · simpa using c
      · cases hb : blt q.key fr
        · rfl
        · exact absurd (blt_trans (h1 q hq) hb) c
/-! ### A cursor at a place -/
theorem cut_at {l : List KPair} {n : Nat} (h : n < l.length) : l = l.take n ++ l[n] :: l.drop (n + 1) := by
  rw [← List.drop_eq_getElem_cons h, List.take_append_drop]
theorem next_at' {l : List KPair} (hs : Srt l) {n : Nat} (hn : n < l.length) : lseek (l[n].key ++ [0]) l = l[n + 1]? := by
  have hc := cut_at hn
  have := lseek_succ (a := l.take n) (p := l[n]) (b := l.drop (n + 1)) (by rw [← hc]; exact hs)
  rw [← hc] at this
  rw [this, List.head?_drop]
theorem get_at {l : List KPair} (hs : Srt l) {n : Nat} (hn : n < l.length) : lget l[n].key l = some l[n] := by
  have hc := cut_at hn
  have := lget_at (a := l.take n) (p := l[n]) (b := l.drop (n + 1)) (by rw [← hc]; exact hs)
  rw [← hc] at this
  exact this
theorem curTo_some (tp : AVal) (p : KPair) (e : Int) : curTo tp (some p) e = curO tp 1 p.key := rfl
theorem isSome_some' (p : KPair) : (some p).isSome = true := rfl
theorem isSome_none' : (none : Option KPair).isSome = false := rfl
theorem crange_loop (d i ti : Nat) (to : List UInt8) (most : Int) (t : Nd) (ok : TOk' t) (hlk : ∀ p ∈ t.toL, p.key.length ≤ 140737488351232) (hti : ti ≠ i) : ∀ (n j k : Nat) (acc : List KPair) (h : Heap), t.toL.length = j + n → n < k → acc.length ≤ j →
    h.objs[i]? = some (curTo (.obj ti 0) t.toL[j]? 2) → h.objs[ti]? = some (trT t) → ∃ h', Heap.but h h' i ∧ ∀ (Q : Res → Prop) (tg : Hid Q),
      Run (P88_0 (d + 4) k to most (prs acc) (.obj i 0) t.toL[j]?.isSome h) Q tg = Q ([.sl false 3 (prs (rngC to most (t.toL.drop j) acc))], h') := by
  intro n
  induction n with
  | zero =>
    intro j k acc h hj hk ha hm ht
    obtain ⟨k, rfl⟩ : ∃ m, k = m + 1 := ⟨k - 1, by omega⟩
    have hd : t.toL.drop j = [] := List.drop_eq_nil_of_le (by omega)
    have hn : t.toL[j]? = none := List.getElem?_eq_none (by omega)
    refine ⟨h, ⟨Nat.le_refl _, fun _ _ _ => rfl⟩, fun Q tg => ?_⟩
    rw [P88_0_eq, hd, hn]
    simp (disch := (first | assumption | (simp only [Bool.and_eq_true, Bool.and_eq_false_iff, decide_eq_true_eq, decide_eq_false_iff_not, bne_iff_ne, beq_iff_eq, beq_eq_false_iff_ne, bne_eq_false_iff_eq, Bool.not_eq_true', Bool.not_eq_false', bys_length, List.length_append, List.length_cons, List.length_nil, List.length_map, List.length_drop, List.length_take, Int.natCast_add, wrap_i64_eq, wrap_u64, wrap_u8, ne_eq, not_true_eq_false, not_false_eq_true, Nat.zero_add, Nat.mul_one] <;> omega) | omega | (simp; done) | (simp; omega))) only [↓CR, MC, ↓PR, MR, isSome_none']
    rfl
  | succ n ih =>
    intro j k acc h hj hk ha hm ht
    obtain ⟨k, rfl⟩ : ∃ m, k = m + 1 := ⟨k - 1, by omega⟩
    have hlen := ok.len
    have h1 : j < t.toL.length := by omega
    have hn : t.toL[j]? = some t.toL[j] := List.getElem?_eq_getElem h1
    rw [hn, curTo_some] at hm
    rw [hn, List.drop_eq_getElem_cons h1]
    unfold rngC
    have hg := get_at ok.srt h1
    have rp := fun (Q : Res → Prop) (tg : Hid Q) => cpair_run (d := d) (Q := Q) (tg := tg) ok hm ht
    rw [hg] at rp
    simp only [isSome_some', and_self, if_true] at rp
    have ev : oVal (some t.toL[j]) = t.toL[j].val := rfl
    rw [ev] at rp
    by_cases c0 : (acc.length : Int) < most
    · have rn := fun (Q : Res → Prop) (tg : Hid Q) => cnext_run (d := d + 1) (Q := Q) (tg := tg) ok hm ht (by decide) (hlk _ (List.getElem_mem h1))
      have en := next_at' ok.srt h1
      simp only [if_true] at rn
      rw [en] at rn
      have ea : prs acc ++ [.agg [.str t.toL[j].key, .str t.toL[j].val]] = prs (acc ++ [t.toL[j]]) := prs_snoc acc t.toL[j].key t.toL[j].val
      obtain ⟨h', E, r⟩ := ih (j + 1) k (acc ++ [t.toL[j]]) (h.put i (curTo (.obj ti 0) t.toL[j + 1]? 2)) (by omega) (by omega) (by simp; omega) (Heap.put_get hm) (by rw [Heap.put_ne (Ne.symm hti)]; exact ht)
      rw [if_pos c0]
      have E' : Heap.but h h' i := ⟨by have := E.len; rw [Heap.put_len] at this; exact this, fun q hq hl => by rw [E.old q hq (by rw [Heap.put_len]; exact hl), Heap.put_ne (Ne.symm hq)]⟩
      cases c2 : (to == [])
      · unfold inTo
        rw [c2, Bool.false_or]
        cases c3 : blt t.toL[j].key to
        · have c3' : Go.Op.bytesLess t.toL[j].key to = false := c3
          refine ⟨h, ⟨Nat.le_refl _, fun _ _ _ => rfl⟩, fun Q tg => ?_⟩
          rw [P88_0_eq, if_neg (by simp)]
          simp (disch := (first | assumption | (simp only [Bool.and_eq_true, Bool.and_eq_false_iff, decide_eq_true_eq, decide_eq_false_iff_not, bne_iff_ne, beq_iff_eq, beq_eq_false_iff_ne, bne_eq_false_iff_eq, Bool.not_eq_true', Bool.not_eq_false', bys_length, List.length_append, List.length_cons, List.length_nil, List.length_map, List.length_drop, List.length_take, Int.natCast_add, wrap_i64_eq, wrap_u64, wrap_u8, ne_eq, not_true_eq_false, not_false_eq_true, Nat.zero_add, Nat.mul_one] <;> omega) | omega | (simp; done) | (simp; omega))) only [↓CR, MC, ↓PR, MR, isSome_some', prs_length, c0, rp, c2, Bool.not_false, c3']
        · have c3' : Go.Op.bytesLess t.toL[j].key to = true := c3
          refine ⟨h', E', fun Q tg => ?_⟩
          rw [P88_0_eq, if_pos rfl]
          simp (disch := (first | assumption | (simp only [Bool.and_eq_true, Bool.and_eq_false_iff, decide_eq_true_eq, decide_eq_false_iff_not, bne_iff_ne, beq_iff_eq, beq_eq_false_iff_ne, bne_eq_false_iff_eq, Bool.not_eq_true', Bool.not_eq_false', bys_length, List.length_append, List.length_cons, List.length_nil, List.length_map, List.length_drop, List.length_take, Int.natCast_add, wrap_i64_eq, wrap_u64, wrap_u8, ne_eq, not_true_eq_false, not_false_eq_true, Nat.zero_add, Nat.mul_one] <;> omega) | omega | (simp; done) | (simp; omega))) only [↓CR, MC, ↓PR, MR, isSome_some', prs_length, c0, rp, c2, Bool.not_false, c3', Bool.not_true, ea, rn, r]
      · unfold inTo
        rw [c2, Bool.true_or, if_pos rfl]
        refine ⟨h', E', fun Q tg => ?_⟩
        rw [P88_0_eq]
        simp (disch := (first | assumption | (simp only [Bool.and_eq_true, Bool.and_eq_false_iff, decide_eq_true_eq, decide_eq_false_iff_not, bne_iff_ne, beq_iff_eq, beq_eq_false_iff_ne, bne_eq_false_iff_eq, Bool.not_eq_true', Bool.not_eq_false', bys_length, List.length_append, List.length_cons, List.length_nil, List.length_map, List.length_drop, List.length_take, Int.natCast_add, wrap_i64_eq, wrap_u64, wrap_u8, ne_eq, not_true_eq_false, not_false_eq_true, Nat.zero_add, Nat.mul_one] <;> omega) | omega | (simp; done) | (simp; omega))) only [↓CR, MC, ↓PR, MR, isSome_some', prs_length, c0, rp, c2, Bool.not_true, ea, rn, r]
    · rw [if_neg c0]
      refine ⟨h, ⟨Nat.le_refl _, fun _ _ _ => rfl⟩, fun Q tg => ?_⟩
      rw [P88_0_eq]
      simp (disch := (first | assumption | (simp only [Bool.and_eq_true, Bool.and_eq_false_iff, decide_eq_true_eq, decide_eq_false_iff_not, bne_iff_ne, beq_iff_eq, beq_eq_false_iff_ne, bne_eq_false_iff_eq, Bool.not_eq_true', Bool.not_eq_false', bys_length, List.length_append, List.length_cons, List.length_nil, List.length_map, List.length_drop, List.length_take, Int.natCast_add, wrap_i64_eq, wrap_u64, wrap_u8, ne_eq, not_true_eq_false, not_false_eq_true, Nat.zero_add, Nat.mul_one] <;> omega) | omega | (simp; done) | (simp; omega))) only [↓CR, MC, ↓PR, MR, isSome_some', prs_length, c0]
theorem crange_run (d ti : Nat) (fr to : List UInt8) (most : Int) (t : Nd) (ok : TOk' t) (hlk : ∀ p ∈ t.toL, p.key.length ≤ 140737488351232) (h : Heap) (ht : h.objs[ti]? = some (trT t)) :
    ∃ h', h.ext h' ∧ ∀ (Q : Res → Prop) (tg : Hid Q), Run (evFn Cw (d + 5) 88 [.obj ti 0, .str fr, .str to, .int .i64 most] h) Q tg = Q ([.sl false 3 (prs (rngR fr to most t.toL []))], h') := by
  have hlt := Heap.lt_of ht
  have hlen := ok.len
  obtain ⟨a, b, e, ha, hb⟩ := split_at fr ok.srt
  have hbs : Srt b := by have := ok.srt; rw [e] at this; exact (List.pairwise_append.1 this).2.1
  have er : rngR fr to most t.toL [] = rngC to most (t.toL.drop a.length) [] := by
    have : t.toL.drop a.length = b := by rw [e]; simp
    rw [this, ← rngR_in hbs hb]
    conv => lhs; rw [e]
    exact rngR_skip ha
  have es : lseek fr t.toL = t.toL[a.length]? := by
    rw [e, lseek_skip ha, List.getElem?_append_right (Nat.le_refl _), Nat.sub_self]
    cases b with
    | nil => rfl
    | cons p b => rw [lseek_cons, if_neg (by rw [hb p List.mem_cons_self]; simp)]; rfl
  have E1 := Heap.ext.push h (curO (.obj ti 0) 0 [])
  have m1 := Heap.push_new h (curO (.obj ti 0) 0 [])
  have rs := fun (Q : Res → Prop) (tg : Hid Q) => cseek_run (d := d + 1) (s := fr) (Q := Q) (tg := tg) ok m1 (E1.get ht)
  rw [es] at rs
  have hal : a.length ≤ t.toL.length := by rw [e]; simp
  obtain ⟨h', E, r⟩ := crange_loop d h.objs.length ti to most t ok hlk (by omega) (t.toL.length - a.length) a.length rounds [] ((h.push (curO (.obj ti 0) 0 [])).put h.objs.length (curTo (.obj ti 0) t.toL[a.length]? 2)) (by omega) (rounds_gt' (by omega)) (by simp) (Heap.put_get m1) (by rw [Heap.put_ne (by omega)]; exact E1.get ht)
  refine ⟨h', ⟨?_, fun j hj => ?_⟩, fun Q tg => ?_⟩
  · have := E.len; rw [Heap.put_len, Heap.push_len] at this; omega
  · rw [E.old j (by omega) (by rw [Heap.put_len, Heap.push_len]; omega), Heap.put_ne (by omega), Heap.push_old hj]
  · rw [prs_nil] at r
    rw [F88_eq, er]
    simp (disch := (first | assumption | (simp only [Bool.and_eq_true, Bool.and_eq_false_iff, decide_eq_true_eq, decide_eq_false_iff_not, bne_iff_ne, beq_iff_eq, beq_eq_false_iff_ne, bne_eq_false_iff_eq, Bool.not_eq_true', Bool.not_eq_false', bys_length, List.length_append, List.length_cons, List.length_nil, List.length_map, List.length_drop, List.length_take, Int.natCast_add, wrap_i64_eq, wrap_u64, wrap_u8, ne_eq, not_true_eq_false, not_false_eq_true, Nat.zero_add, Nat.mul_one] <;> omega) | omega | (simp; done) | (simp; omega))) only [↓CR, MC, ↓PR, MR, cnew_run, rs, r]
end Go.Proofs.Ytdlcjibefbnckaa.Wa
end

section
/- What the evaluator comes to in these functions. -/
namespace Go.Proofs.Ytdlcjibefbnckaa.Wa
open Go Go.Weave
set_option maxRecDepth 100000
set_option linter.unusedVariables false
/- f86 (*strandline/table.Table).tree -/
theorem F86nil_eq (d : Nat) (h : Heap) : evFn Cw (d + 1) 86 [AVal.nilp] h =
  (Tr.ret ([AVal.nilp], h)) := by kernel_rfl
theorem F86_eq (d : Nat) (i0 : Nat) (h : Heap) : evFn Cw (d + 1) 86 [(AVal.obj i0 0)] h =
  (optK (Heap.cell? h i0 0) fun z1 =>
    (Tr.ret ([(HCell.toA z1)], h))) := by kernel_rfl
/- f32 (*strandline/table.Table).Get -/
theorem F32_eq (d : Nat) (i0 : Nat) (s1 : List UInt8) (h : Heap) : evFn Cw (d + 1) 32 [(AVal.obj i0 0), (AVal.str s1)] h =
  (runK (evFn Cw d 86 [(AVal.obj i0 0)] h) fun r1 h1 =>
    (consK r1 fun w2 ws3 =>
      (nilK ws3
        (runK (evFn Cw d 81 [w2, (AVal.str s1)] h1) fun r4 h4 =>
          (consK r4 fun w5 ws6 =>
            (strK w5 fun ss7 =>
              (consK ws6 fun w8 ws9 =>
                (boolK w8 fun bb10 =>
                  (nilK ws9
                    (Tr.ret ([(AVal.str ss7), (AVal.bool bb10)], h4))))))))))) := by kernel_rfl
/- f84 strandline/op.Right -/
theorem F84_eq (d : Nat) (x0 : Int) (s1 : List UInt8) (s2 : List UInt8) (h : Heap) : evFn Cw (d + 1) 84 [(AVal.agg [(AVal.int .i64 x0), (AVal.str s1), (AVal.str s2)])] h =
  (bif (decide (((s1.length : Int) : Int) < 1)) then
    (Tr.ret ([(AVal.bool false)], h))
  else
    (bif (decide (((s1.length : Int) : Int) > 24)) then
      (Tr.ret ([(AVal.bool false)], h))
    else
      (bif ((x0 : Int) == 1) then
        (Tr.ret ([(AVal.bool (decide (((s2.length : Int) : Int) ≤ 128)))], h))
      else
        (bif ((x0 : Int) == 2) then (Tr.ret ([(AVal.bool (s2 == []))], h)) else (Tr.ret ([(AVal.bool false)], h)))))) := by kernel_rfl
/- f85 (*strandline/table.Table).put -/
theorem F85_eq (d : Nat) (i0 : Nat) (s1 : List UInt8) (s2 : List UInt8) (h : Heap) : evFn Cw (d + 1) 85 [(AVal.obj i0 0), (AVal.str s1), (AVal.str s2)] h =
  (optK (Heap.cell? h i0 0) fun z1 =>
    (runK (evFn Cw d 21 [(HCell.toA z1), (AVal.str s1), (AVal.str s2)] h) fun r2 h2 =>
      (consK r2 fun w3 ws4 =>
        (strK w3 fun ss5 =>
          (consK ws4 fun w6 ws7 =>
            (boolK w6 fun bb8 =>
              (nilK ws7
                (optK (Heap.cell? h2 i0 1) fun z9 =>
                  (intK .i64 (HCell.toA z9) fun y10 =>
                    (optK (Heap.cell? h2 i0 1) fun _ =>
                      (bif (!bb8) then
                        (optK (Heap.cell? (Heap.setCell h2 i0 1 (HCell.val (AVal.int .i64 (IntKind.i64.wrap (y10 + (IntKind.i64.wrap ((s2.length : Int) - (ss5.length : Int)))))))) i0 1) fun z11 =>
                          (intK .i64 (HCell.toA z11) fun y12 =>
                            (optK (Heap.cell? (Heap.setCell h2 i0 1 (HCell.val (AVal.int .i64 (IntKind.i64.wrap (y10 + (IntKind.i64.wrap ((s2.length : Int) - (ss5.length : Int)))))))) i0 1) fun _ =>
                              (Tr.ret ([], (Heap.setCell (Heap.setCell h2 i0 1 (HCell.val (AVal.int .i64 (IntKind.i64.wrap (y10 + (IntKind.i64.wrap ((s2.length : Int) - (ss5.length : Int)))))))) i0 1 (HCell.val (AVal.int .i64 (IntKind.i64.wrap (y12 + (s1.length : Int)))))))))))
                      else
                        (Tr.ret ([], (Heap.setCell h2 i0 1 (HCell.val (AVal.int .i64 (IntKind.i64.wrap (y10 + (IntKind.i64.wrap ((s2.length : Int) - (ss5.length : Int))))))))))))))))))))) := by kernel_rfl
/- f30 (*strandline/table.Table).Apply -/
noncomputable def P30_0 (d k : Nat) (i0 : Nat) (x1 : Int) (f2 : Bool) (l3 : List AVal) (x4 : Int) (x5 : Int) (h : Heap) : Tr Res :=
  loopPt Cw d 30 [true, true, false, true, true] [] k ⟨[(0, (EV.one (SV.val (AVal.obj i0 0)))), (5, (EV.one (SV.val (AVal.int .i64 x1)))), (10, (EV.one (SV.val (AVal.sl f2 4 l3)))), (11, (EV.one (SV.val (AVal.int .i64 x4)))), (12, (EV.one (SV.val (AVal.int .i64 x5))))], []⟩ h
theorem P30_0_eq (d k : Nat) (i0 : Nat) (x1 : Int) (f2 : Bool) (l3 : List AVal) (x4 : Int) (x5 : Int) (h : Heap) : P30_0 d (k + 1) i0 x1 f2 l3 x4 x5 h =
  (bif (decide ((x5 : Int) < x4)) then
    (bif (decide ((0 : Int) ≤ x5) && decide ((x5 : Int) < (l3.length : Int))) then
      (aggK 3 (l3.getD (Int.toNat x5) AVal.undef) fun cc1 =>
        (bif ((cc1.length == 3) && true) then
          (bif decide (0 + 3 ≤ cc1.length) then
            (runK (evFn Cw d 84 [(AVal.agg ((cc1.drop 0).take 3))] h) fun r2 h2 =>
              (consK r2 fun w3 ws4 =>
                (boolK w3 fun bb5 =>
                  (nilK ws4
                    (bif (!bb5) then
                      (P30_0 d k i0 x1 f2 l3 x4 (IntKind.i64.wrap (x5 + 1)) h2)
                    else
                      (optK (cc1[0]?) fun w6 =>
                        (intK .i64 w6 fun y7 =>
                          (bif ((y7 : Int) == 1) then
                            (optK (cc1[1]?) fun w8 =>
                              (strK w8 fun ss9 =>
                                (optK (cc1[2]?) fun w10 =>
                                  (strK w10 fun ss11 =>
                                    (runK (evFn Cw d 85 [(AVal.obj i0 0), (AVal.str ss9), (AVal.str ss11)] h2) fun r12 h12 =>
                                      (nilK r12
                                        (P30_0 d k i0 (IntKind.i64.wrap (x1 + 1)) f2 l3 x4 (IntKind.i64.wrap (x5 + 1)) h12)))))))
                          else
                            (optK (Heap.cell? h2 i0 0) fun z13 =>
                              (optK (cc1[1]?) fun w14 =>
                                (strK w14 fun ss15 =>
                                  (runK (evFn Cw d 23 [(HCell.toA z13), (AVal.str ss15)] h2) fun r16 h16 =>
                                    (consK r16 fun w17 ws18 =>
                                      (strK w17 fun ss19 =>
                                        (consK ws18 fun w20 ws21 =>
                                          (boolK w20 fun bb22 =>
                                            (nilK ws21
                                              (bif bb22 then
                                                (optK (Heap.cell? h16 i0 1) fun z23 =>
                                                  (intK .i64 (HCell.toA z23) fun y24 =>
                                                    (optK (cc1[1]?) fun w25 =>
                                                      (strK w25 fun ss26 =>
                                                        (optK (Heap.cell? h16 i0 1) fun _ =>
                                                          (P30_0 d k i0 (IntKind.i64.wrap (x1 + 1)) f2 l3 x4 (IntKind.i64.wrap (x5 + 1)) (Heap.setCell h16 i0 1 (HCell.val (AVal.int .i64 (IntKind.i64.wrap (y24 - (IntKind.i64.wrap ((ss26.length : Int) + (ss19.length : Int))))))))))))))
                                              else
                                                (P30_0 d k i0 (IntKind.i64.wrap (x1 + 1)) f2 l3 x4 (IntKind.i64.wrap (x5 + 1)) h16)))))))))))))))))))
          else
            Tr.fail)
        else
          Tr.fail))
    else
      Tr.fail)
  else
    (Tr.ret ([(AVal.int .i64 x1)], h))) := by kernel_rfl
theorem F30_eq (d : Nat) (i0 : Nat) (f1 : Bool) (l2 : List AVal) (h : Heap) : evFn Cw (d + 1) 30 [(AVal.obj i0 0), (AVal.sl f1 4 l2)] h =
  (P30_0 d rounds i0 0 f1 l2 (l2.length : Int) 0 h) := by kernel_rfl
/- f33 (*strandline/table.Table).Len -/
theorem F33nil_eq (d : Nat) (h : Heap) : evFn Cw (d + 1) 33 [AVal.nilp] h =
  (runK (evFn Cw d 86 [AVal.nilp] h) fun r1 h1 =>
    (consK r1 fun w2 ws3 =>
      (nilK ws3
        (runK (evFn Cw d 87 [w2] h1) fun r4 h4 =>
          (consK r4 fun w5 ws6 =>
            (intK .i64 w5 fun y7 =>
              (nilK ws6
                (Tr.ret ([(AVal.int .i64 y7)], h4))))))))) := by kernel_rfl
theorem F33_eq (d : Nat) (i0 : Nat) (h : Heap) : evFn Cw (d + 1) 33 [(AVal.obj i0 0)] h =
  (runK (evFn Cw d 86 [(AVal.obj i0 0)] h) fun r1 h1 =>
    (consK r1 fun w2 ws3 =>
      (nilK ws3
        (runK (evFn Cw d 87 [w2] h1) fun r4 h4 =>
          (consK r4 fun w5 ws6 =>
            (intK .i64 w5 fun y7 =>
              (nilK ws6
                (Tr.ret ([(AVal.int .i64 y7)], h4))))))))) := by kernel_rfl
/- f34 (*strandline/table.Table).Bytes -/
theorem F38nil_eq (d : Nat) (s0 : List UInt8) (s1 : List UInt8) (x2 : Int) (h : Heap) : evFn Cw (d + 1) 38 [AVal.nilp, (AVal.str s0), (AVal.str s1), (AVal.int .i64 x2)] h =
  (runK (evFn Cw d 86 [AVal.nilp] h) fun r1 h1 =>
    (consK r1 fun w2 ws3 =>
      (nilK ws3
        (runK (evFn Cw d 88 [w2, (AVal.str s0), (AVal.str s1), (AVal.int .i64 x2)] h1) fun r4 h4 =>
          (consK r4 fun w5 ws6 =>
            (slOK 3 w5 fun es7 =>
              (nilK ws6
                (Tr.ret ([(AVal.sl false 3 es7)], h4))))))))) := by kernel_rfl
theorem F38_eq (d : Nat) (i0 : Nat) (s1 : List UInt8) (s2 : List UInt8) (x3 : Int) (h : Heap) : evFn Cw (d + 1) 38 [(AVal.obj i0 0), (AVal.str s1), (AVal.str s2), (AVal.int .i64 x3)] h =
  (runK (evFn Cw d 86 [(AVal.obj i0 0)] h) fun r1 h1 =>
    (consK r1 fun w2 ws3 =>
      (nilK ws3
        (runK (evFn Cw d 88 [w2, (AVal.str s1), (AVal.str s2), (AVal.int .i64 x3)] h1) fun r4 h4 =>
          (consK r4 fun w5 ws6 =>
            (slOK 3 w5 fun es7 =>
              (nilK ws6
                (Tr.ret ([(AVal.sl false 3 es7)], h4))))))))) := by kernel_rfl
/- f37 (*strandline/table.Table).Pairs -/
theorem F37nil_eq (d : Nat) (h : Heap) : evFn Cw (d + 1) 37 [AVal.nilp] h =
  (runK (evFn Cw d 33 [AVal.nilp] h) fun r1 h1 =>
    (consK r1 fun w2 ws3 =>
      (intK .i64 w2 fun y4 =>
        (nilK ws3
          (runK (evFn Cw d 38 [AVal.nilp, (AVal.str []), (AVal.str []), (AVal.int .i64 y4)] h1) fun r5 h5 =>
            (consK r5 fun w6 ws7 =>
              (slOK 3 w6 fun es8 =>
                (nilK ws7
                  (Tr.ret ([(AVal.sl false 3 es8)], h5)))))))))) := by kernel_rfl
theorem F37_eq (d : Nat) (i0 : Nat) (h : Heap) : evFn Cw (d + 1) 37 [(AVal.obj i0 0)] h =
  (runK (evFn Cw d 33 [(AVal.obj i0 0)] h) fun r1 h1 =>
    (consK r1 fun w2 ws3 =>
      (intK .i64 w2 fun y4 =>
        (nilK ws3
          (runK (evFn Cw d 38 [(AVal.obj i0 0), (AVal.str []), (AVal.str []), (AVal.int .i64 y4)] h1) fun r5 h5 =>
            (consK r5 fun w6 ws7 =>
              (slOK 3 w6 fun es8 =>
                (nilK ws7
                  (Tr.ret ([(AVal.sl false 3 es8)], h5)))))))))) := by kernel_rfl
/- f43 (*strandline/table.Table).Clone -/
theorem F29_eq (d : Nat) (h : Heap) : evFn Cw (d + 1) 29 [] h =
  (runK (evFn Cw d 13 [] h) fun r1 h1 =>
    (consK r1 fun w2 ws3 =>
      (nilK ws3
        (bif (((!(AVal.isAgg w2)) && true) && true) then
          (Tr.ret ([(AVal.obj h1.objs.length 0)], (Heap.push h1 (Go.Weave.Obj.cells ([w2, (AVal.int .i64 0)].map HCell.val)))))
        else
          Tr.fail)))) := by kernel_rfl
/- f90 strandline/table.Diff$1 -/
end Go.Proofs.Ytdlcjibefbnckaa.Wa
end

section
/- Tables. -/
namespace Go.Proofs.Ytdlcjibefbnckaa.Wa
open Go Go.Weave
set_option maxRecDepth 100000
set_option linter.unusedSimpArgs false
set_option linter.unusedVariables false
set_option linter.unusedSectionVars false

/-! ### Sorted pairs, plainly -/
def btot : List KPair → Nat
  | [] => 0
  | p :: l => p.key.length + p.val.length + btot l
theorem btot_append (a b : List KPair) : btot (a ++ b) = btot a + btot b := by
  induction a with
  | nil => simp [btot]
  | cons p a ih => simp only [List.cons_append, btot, ih]; omega
theorem btot_le {B : Nat} : ∀ {l : List KPair}, (∀ p ∈ l, p.key.length ≤ B ∧ p.val.length ≤ B) → btot l ≤ l.length * (2 * B)
  | [], _ => by simp [btot]
  | p :: l, h => by
    have h1 := h p List.mem_cons_self
    have h2 := btot_le fun q hq => h q (List.mem_cons_of_mem _ hq)
    simp only [btot, List.length_cons, Nat.add_mul, Nat.one_mul]
    omega
theorem btot_new {k v : List UInt8} {l : List KPair} (h : (lget k l).isSome = false) : btot (lput k v l) = btot l + v.length + k.length := by
  have h0 := lget_none h
  have : ∀ l : List KPair, (∀ p ∈ l, p.key ≠ k) → btot (l.filter (fun p => blt p.key k)) + btot (l.filter (fun p => blt k p.key)) = btot l := by
    intro l
    induction l with
    | nil => intro _; rfl
    | cons p l ih =>
      intro h
      have ih := ih fun q hq => h q (List.mem_cons_of_mem _ hq)
      have hp := h p List.mem_cons_self
      rw [List.filter_cons, List.filter_cons]
      by_cases c : blt p.key k = true
      · rw [if_pos c, if_neg (by rw [blt_asym c]; simp)]
        simp only [btot]; omega
      · have c2 : blt k p.key = true := by
          cases hh : blt k p.key
          · exact absurd (blt_tri (by simpa using c) hh) hp
          · rfl
        rw [if_neg c, if_pos c2]
        simp only [btot]; omega
  unfold lput
  rw [btot_append]
  simp only [btot]
  have := this l h0
  omega
theorem lget_split {k : List UInt8} {l : List KPair} (h : (lget k l).isSome = true) : ∃ a b, l = a ++ ⟨k, oVal (lget k l)⟩ :: b := by
  cases hp : lget k l with
  | none => rw [hp] at h; simp at h
  | some p =>
    unfold lget at hp
    have e : p.key = k := by simpa using List.find?_some hp
    obtain ⟨a, b, e2⟩ := List.append_of_mem (List.mem_of_find?_eq_some hp)
    exact ⟨a, b, by rw [e2, ← e]; rfl⟩
theorem btot_old {k v : List UInt8} {l : List KPair} (hs : Srt l) (h : (lget k l).isSome = true) : btot (lput k v l) + (oVal (lget k l)).length = btot l + v.length := by
  obtain ⟨a, b, e⟩ := lget_split h
  generalize oVal (lget k l) = x at e
  subst e
  rw [lput_eq hs, btot_append, btot_append]
  simp only [btot]; omega
theorem btot_del {k : List UInt8} {l : List KPair} (hs : Srt l) (h : (lget k l).isSome = true) : btot (ldel k l) + (k.length + (oVal (lget k l)).length) = btot l := by
  obtain ⟨a, b, e⟩ := lget_split h
  generalize oVal (lget k l) = x at e
  subst e
  have := ldel_eq hs
  simp only at this
  rw [this, btot_append, btot_append]
  simp only [btot]; omega
theorem oVal_new {k : List UInt8} {l : List KPair} (h : (lget k l).isSome = false) : oVal (lget k l) = [] := by cases hp : lget k l <;> simp_all [oVal]
/-! ### Operations, plainly -/
def rightO (o : KOp) : Bool := decide (1 ≤ o.key.length) && (decide (o.key.length ≤ 24) && ((o.kind == 1 && decide (o.val.length ≤ 128)) || (o.kind == 2 && (o.val == []))))
def apO (l : List KPair) (o : KOp) : List KPair := if o.kind = 1 then lput o.key o.val l else ldel o.key l
def aps (l : List KPair) (ops : List KOp) : List KPair := ops.foldl (fun l o => if rightO o then apO l o else l) l
def cntO (ops : List KOp) : Nat := (ops.filter rightO).length
theorem aps_nil (l : List KPair) : aps l [] = l := rfl
theorem aps_cons (l : List KPair) (o : KOp) (ops : List KOp) : aps l (o :: ops) = aps (if rightO o then apO l o else l) ops := rfl
end Go.Proofs.Ytdlcjibefbnckaa.Wa
end

section
/- Tables: what the program does with them. -/
namespace Go.Proofs.Ytdlcjibefbnckaa.Wa
open Go Go.Weave
set_option maxRecDepth 100000
set_option linter.unusedSimpArgs false
set_option linter.unusedVariables false
set_option linter.unusedSectionVars false

/-! ### Right operations -/
theorem opright_run {d : Nat} {o : KOp} {h : Heap} {Q : Res → Prop} {tg : Hid Q} : Run (evFn Cw (d + 1) 84 [.agg [.int .i64 o.kind, .str o.key, .str o.val]] h) Q tg = Q ([.bool (rightO o)], h) := by
  rw [F84_eq]
  by_cases c1 : 1 ≤ o.key.length
  · by_cases c2 : o.key.length ≤ 24
    · by_cases c3 : o.kind = 1
      · have c3' : (o.kind == 1) = true := by simp [c3]
        have e : rightO o = decide ((o.val.length : Int) ≤ 128) := by simp [rightO, c1, c2, c3]; omega
        rw [e]
        simp (disch := (first | assumption | (simp only [Bool.and_eq_true, Bool.and_eq_false_iff, decide_eq_true_eq, decide_eq_false_iff_not, bne_iff_ne, beq_iff_eq, beq_eq_false_iff_ne, bne_eq_false_iff_eq, Bool.not_eq_true', Bool.not_eq_false', bys_length, List.length_append, List.length_cons, List.length_nil, List.length_map, List.length_drop, List.length_take, Int.natCast_add, wrap_i64_eq, wrap_u64, wrap_u8, ne_eq, not_true_eq_false, not_false_eq_true, Nat.zero_add, Nat.mul_one] <;> omega) | omega | (simp; done) | (simp; omega))) only [↓CR, MC, ↓PR, MR, c3']
      · have c3' : (o.kind == 1) = false := by simpa using c3
        by_cases c4 : o.kind = 2
        · have c4' : (o.kind == 2) = true := by simp [c4]
          have e : rightO o = (o.val == []) := by simp [rightO, c1, c2, c4]
          rw [e]
          simp (disch := (first | assumption | (simp only [Bool.and_eq_true, Bool.and_eq_false_iff, decide_eq_true_eq, decide_eq_false_iff_not, bne_iff_ne, beq_iff_eq, beq_eq_false_iff_ne, bne_eq_false_iff_eq, Bool.not_eq_true', Bool.not_eq_false', bys_length, List.length_append, List.length_cons, List.length_nil, List.length_map, List.length_drop, List.length_take, Int.natCast_add, wrap_i64_eq, wrap_u64, wrap_u8, ne_eq, not_true_eq_false, not_false_eq_true, Nat.zero_add, Nat.mul_one] <;> omega) | omega | (simp; done) | (simp; omega))) only [↓CR, MC, ↓PR, MR, c3', c4']
        · have c4' : (o.kind == 2) = false := by simpa using c4
          have e : rightO o = false := by simp [rightO, c3, c4]
          rw [e]
          simp (disch := (first | assumption | (simp only [Bool.and_eq_true, Bool.and_eq_false_iff, decide_eq_true_eq, decide_eq_false_iff_not, bne_iff_ne, beq_iff_eq, beq_eq_false_iff_ne, bne_eq_false_iff_eq, Bool.not_eq_true', Bool.not_eq_false', bys_length, List.length_append, List.length_cons, List.length_nil, List.length_map, List.length_drop, List.length_take, Int.natCast_add, wrap_i64_eq, wrap_u64, wrap_u8, ne_eq, not_true_eq_false, not_false_eq_true, Nat.zero_add, Nat.mul_one] <;> omega) | omega | (simp; done) | (simp; omega))) only [↓CR, MC, ↓PR, MR, c3', c4']
    · have e : rightO o = false := by simp [rightO, c2]
      rw [e]
      simp (disch := (first | assumption | (simp only [Bool.and_eq_true, Bool.and_eq_false_iff, decide_eq_true_eq, decide_eq_false_iff_not, bne_iff_ne, beq_iff_eq, beq_eq_false_iff_ne, bne_eq_false_iff_eq, Bool.not_eq_true', Bool.not_eq_false', bys_length, List.length_append, List.length_cons, List.length_nil, List.length_map, List.length_drop, List.length_take, Int.natCast_add, wrap_i64_eq, wrap_u64, wrap_u8, ne_eq, not_true_eq_false, not_false_eq_true, Nat.zero_add, Nat.mul_one] <;> omega) | omega | (simp; done) | (simp; omega))) only [↓CR, MC, ↓PR, MR]
  · have e : rightO o = false := by simp [rightO, c1]
    rw [e]
    simp (disch := (first | assumption | (simp only [Bool.and_eq_true, Bool.and_eq_false_iff, decide_eq_true_eq, decide_eq_false_iff_not, bne_iff_ne, beq_iff_eq, beq_eq_false_iff_ne, bne_eq_false_iff_eq, Bool.not_eq_true', Bool.not_eq_false', bys_length, List.length_append, List.length_cons, List.length_nil, List.length_map, List.length_drop, List.length_take, Int.natCast_add, wrap_i64_eq, wrap_u64, wrap_u8, ne_eq, not_true_eq_false, not_false_eq_true, Nat.zero_add, Nat.mul_one] <;> omega) | omega | (simp; done) | (simp; omega))) only [↓CR, MC, ↓PR, MR]
theorem rightO_ok {o : KOp} (h : rightO o = true) : KPair.ok ⟨o.key, o.val⟩ := by
  unfold rightO at h
  simp only [Bool.and_eq_true, decide_eq_true_eq, Bool.or_eq_true, beq_iff_eq] at h
  obtain ⟨h1, h2, h3⟩ := h
  refine ⟨by show o.key.length ≤ _; omega, ?_⟩
  show o.val.length ≤ _
  rcases h3 with ⟨_, h3⟩ | ⟨_, h3⟩
  · omega
  · rw [h3]; simp

/-! ### A table -/
def tabO (ti : Nat) (b : Nat) : Weave.Obj := .cells [HCell.val (.obj ti 0), HCell.val (.int .i64 b)]
structure IsTab (h : Heap) (i ti : Nat) (t : Nd) : Prop where
  tb : h.objs[i]? = some (tabO ti (btot t.toL))
  tr : h.objs[ti]? = some (trT t)
  ne : i ≠ ti
  ok : TOk' t
  kv : ∀ p ∈ t.toL, p.key.length ≤ 140737488351232 ∧ p.val.length ≤ 140737488351232
theorem IsTab.bytes {h : Heap} {i ti : Nat} {t : Nd} (T : IsTab h i ti t) : btot t.toL ≤ 8725724277776384000 := by
  have := btot_le T.kv
  have h2 := T.ok.len
  have : t.toL.length * (2 * 140737488351232) ≤ 31000 * (2 * 140737488351232) := Nat.mul_le_mul_right _ h2
  omega
def tabH (h : Heap) (i ti : Nat) (t : Nd) : Heap := (h.put ti (trT t)).put i (tabO ti (btot t.toL))
theorem tabH_ne {h : Heap} {i ti j : Nat} {t : Nd} (h1 : j ≠ i) (h2 : j ≠ ti) : (tabH h i ti t).objs[j]? = h.objs[j]? := by unfold tabH; rw [Heap.put_ne (Ne.symm h1), Heap.put_ne (Ne.symm h2)]
theorem tabH_tabH {h : Heap} {i ti : Nat} {t t' : Nd} (hne : i ≠ ti) : tabH (tabH h i ti t) i ti t' = tabH h i ti t' := by
  unfold tabH
  rw [Heap.put_comm _ _ _ hne, Heap.put_put, Heap.put_put]
theorem tabH_self {h : Heap} {i ti : Nat} {t : Nd} (T : IsTab h i ti t) : tabH h i ti t = h := by
  unfold tabH
  rw [Heap.put_self' T.tr, Heap.put_self' T.tb]
theorem IsTab.step {h : Heap} {i ti : Nat} {t t' : Nd} (T : IsTab h i ti t) (ok : TOk' t') (kv : ∀ p ∈ t'.toL, p.key.length ≤ 140737488351232 ∧ p.val.length ≤ 140737488351232) : IsTab (tabH h i ti t') i ti t' := by
  refine ⟨?_, ?_, T.ne, ok, kv⟩
  · unfold tabH; exact Heap.put_get (o' := tabO ti (btot t.toL)) (by rw [Heap.put_ne (Ne.symm T.ne)]; exact T.tb)
  · unfold tabH; rw [Heap.put_ne T.ne]; exact Heap.put_get T.tr
theorem IsTab.ext {h h' : Heap} {i ti : Nat} {t : Nd} (T : IsTab h i ti t) (E : h.ext h') : IsTab h' i ti t := ⟨E.get T.tb, E.get T.tr, T.ne, T.ok, T.kv⟩
theorem tab_t {h : Heap} {i ti b : Nat} (hm : h.objs[i]? = some (tabO ti b)) : h.cell? i 0 = some (HCell.val (.obj ti 0)) := by rw [Heap.cell_at hm]; rfl
theorem tab_b {h : Heap} {i ti b : Nat} (hm : h.objs[i]? = some (tabO ti b)) : h.cell? i 1 = some (HCell.val (.int .i64 b)) := by rw [Heap.cell_at hm]; rfl
theorem tab_s {h : Heap} {i ti b b' : Nat} (hm : h.objs[i]? = some (tabO ti b)) : h.setCell i 1 (HCell.val (.int .i64 b')) = h.put i (tabO ti b') := by rw [Heap.set_at hm]; rfl
theorem lput_kv {k v : List UInt8} {l : List KPair} (hk : k.length ≤ 140737488351232) (hv : v.length ≤ 140737488351232) (h : ∀ p ∈ l, p.key.length ≤ 140737488351232 ∧ p.val.length ≤ 140737488351232) : ∀ p ∈ lput k v l, p.key.length ≤ 140737488351232 ∧ p.val.length ≤ 140737488351232 := by
  intro p hp
  unfold lput at hp
  rcases List.mem_append.1 hp with hp | hp
  · exact h p (List.mem_filter.1 hp).1
  · rcases List.mem_cons.1 hp with rfl | hp
    · exact ⟨hk, hv⟩
    · exact h p (List.mem_filter.1 hp).1
theorem tabput_run {d i ti : Nat} {t : Nd} {k v : List UInt8} {h : Heap} {Q : Res → Prop} {tg : Hid Q} (T : IsTab h i ti t) (hl : t.toL.length ≤ 30999) (hk : k.length ≤ 140737488351232) (hv : v.length ≤ 140737488351232) (hd : 31010 ≤ d) :
    Run (evFn Cw (d + 1) 85 [.obj i 0, .str k, .str v] h) Q tg = Q ([], tabH h i ti (t.put k v)) := by
  have rp := fun (Q : Res → Prop) (tg : Hid Q) => tput_run (d := d) (k := k) (v := v) (Q := Q) (tg := tg) T.ok hl T.tr hd
  have hb := T.bytes
  have m1 : (h.put ti (trT (t.put k v))).objs[i]? = some (tabO ti (btot t.toL)) := by rw [Heap.put_ne (Ne.symm T.ne)]; exact T.tb
  have eL := (T.ok.put k v hl).2
  rw [F85_eq]
  unfold tabH
  rw [eL]
  cases hg : (lget k t.toL).isSome
  · have eb := btot_new (v := v) hg
    have eo := oVal_new hg
    have e0' : (([] : List UInt8).length : Int) = 0 := rfl
    have e1 : IntKind.i64.wrap ((v.length : Int) - 0) = (v.length : Int) := by rw [wrap_i64_id (by omega) (by omega)]; omega
    have e2 : IntKind.i64.wrap (((btot t.toL : Nat) : Int) + (v.length : Int)) = ((btot t.toL + v.length : Nat) : Int) := by rw [wrap_i64_id (by omega) (by omega)]; omega
    have m2 : ((h.put ti (trT (t.put k v))).put i (tabO ti (btot t.toL + v.length))).objs[i]? = some (tabO ti (btot t.toL + v.length)) := Heap.put_get m1
    have e3 : IntKind.i64.wrap (((btot t.toL + v.length : Nat) : Int) + (k.length : Int)) = ((btot (lput k v t.toL) : Nat) : Int) := by rw [wrap_i64_id (by omega) (by omega)]; omega
    rw [hg, eo] at rp
    simp (disch := (first | assumption | (simp only [Bool.and_eq_true, Bool.and_eq_false_iff, decide_eq_true_eq, decide_eq_false_iff_not, bne_iff_ne, beq_iff_eq, beq_eq_false_iff_ne, bne_eq_false_iff_eq, Bool.not_eq_true', Bool.not_eq_false', bys_length, List.length_append, List.length_cons, List.length_nil, List.length_map, List.length_drop, List.length_take, Int.natCast_add, wrap_i64_eq, wrap_u64, wrap_u8, ne_eq, not_true_eq_false, not_false_eq_true, Nat.zero_add, Nat.mul_one] <;> omega) | omega | (simp; done) | (simp; omega))) only [↓CR, MC, ↓PR, MR, tab_t T.tb, rp, tab_b m1, e0', e1, e2, tab_s m1, Bool.not_false, tab_b m2, e3, tab_s m2, Heap.put_put]
  · have eb := btot_old (v := v) T.ok.srt hg
    have el := btot_del T.ok.srt hg
    rw [hg] at rp
    generalize (oVal (lget k t.toL)).length = n at *
    have e1 : IntKind.i64.wrap ((v.length : Int) - ((oVal (lget k t.toL)).length : Int)) = (v.length : Int) - ((oVal (lget k t.toL)).length : Int) := wrap_i64_id (by have := btot_del T.ok.srt hg; omega) (by have := btot_del T.ok.srt hg; omega)
    have e2 : IntKind.i64.wrap (((btot t.toL : Nat) : Int) + ((v.length : Int) - ((oVal (lget k t.toL)).length : Int))) = ((btot (lput k v t.toL) : Nat) : Int) := by
      have h1 := btot_del T.ok.srt hg
      have h2 := btot_old (v := v) T.ok.srt hg
      rw [wrap_i64_id (by omega) (by omega)]; omega
    simp (disch := (first | assumption | (simp only [Bool.and_eq_true, Bool.and_eq_false_iff, decide_eq_true_eq, decide_eq_false_iff_not, bne_iff_ne, beq_iff_eq, beq_eq_false_iff_ne, bne_eq_false_iff_eq, Bool.not_eq_true', Bool.not_eq_false', bys_length, List.length_append, List.length_cons, List.length_nil, List.length_map, List.length_drop, List.length_take, Int.natCast_add, wrap_i64_eq, wrap_u64, wrap_u8, ne_eq, not_true_eq_false, not_false_eq_true, Nat.zero_add, Nat.mul_one] <;> omega) | omega | (simp; done) | (simp; omega))) only [↓CR, MC, ↓PR, MR, tab_t T.tb, rp, tab_b m1, e1, e2, tab_s m1, Bool.not_true]
theorem tabnew_run {d : Nat} {h : Heap} {Q : Res → Prop} {tg : Hid Q} : Run (evFn Cw (d + 2) 29 [] h) Q tg = Q ([.obj (h.objs.length + 1) 0], (h.push (trT .nil)).push (tabO h.objs.length 0)) := by
  have e1 : (h.push (trT .nil)).objs.length = h.objs.length + 1 := Heap.push_len _ _
  have e2 : AVal.isAgg (.obj h.objs.length 0) = false := rfl
  have e3 : Weave.Obj.cells ([AVal.obj h.objs.length 0, AVal.int .i64 0].map HCell.val) = tabO h.objs.length 0 := of_eq_true (eq_self _)
  rw [F29_eq]
  simp (disch := (first | assumption | (simp only [Bool.and_eq_true, Bool.and_eq_false_iff, decide_eq_true_eq, decide_eq_false_iff_not, bne_iff_ne, beq_iff_eq, beq_eq_false_iff_ne, bne_eq_false_iff_eq, Bool.not_eq_true', Bool.not_eq_false', bys_length, List.length_append, List.length_cons, List.length_nil, List.length_map, List.length_drop, List.length_take, Int.natCast_add, wrap_i64_eq, wrap_u64, wrap_u8, ne_eq, not_true_eq_false, not_false_eq_true, Nat.zero_add, Nat.mul_one] <;> omega) | omega | (simp; done) | (simp; omega))) only [↓CR, MC, ↓PR, MR, tnew_run, e1, e2, e3, Bool.not_false]
theorem tabnew_is (h : Heap) : h.ext ((h.push (trT .nil)).push (tabO h.objs.length 0)) ∧ IsTab ((h.push (trT .nil)).push (tabO h.objs.length 0)) (h.objs.length + 1) h.objs.length .nil := by
  have E1 := Heap.ext.push h (trT .nil)
  have E2 := Heap.ext.push (h.push (trT .nil)) (tabO h.objs.length 0)
  have e1 : (h.push (trT .nil)).objs.length = h.objs.length + 1 := Heap.push_len _ _
  have m := Heap.push_new (h.push (trT .nil)) (tabO h.objs.length 0)
  rw [e1] at m
  exact ⟨E1.trans E2, m, E2.get (Heap.push_new _ _), by omega, ⟨trivial, List.Pairwise.nil, by simp [Nd.toL]⟩, by simp [Nd.toL]⟩
theorem tabtree_run {d i ti : Nat} {t : Nd} {h : Heap} {Q : Res → Prop} {tg : Hid Q} (T : IsTab h i ti t) : Run (evFn Cw (d + 1) 86 [.obj i 0] h) Q tg = Q ([.obj ti 0], h) := by
  rw [F86_eq]
  simp (disch := (first | assumption | (simp only [Bool.and_eq_true, Bool.and_eq_false_iff, decide_eq_true_eq, decide_eq_false_iff_not, bne_iff_ne, beq_iff_eq, beq_eq_false_iff_ne, bne_eq_false_iff_eq, Bool.not_eq_true', Bool.not_eq_false', bys_length, List.length_append, List.length_cons, List.length_nil, List.length_map, List.length_drop, List.length_take, Int.natCast_add, wrap_i64_eq, wrap_u64, wrap_u8, ne_eq, not_true_eq_false, not_false_eq_true, Nat.zero_add, Nat.mul_one] <;> omega) | omega | (simp; done) | (simp; omega))) only [↓CR, MC, ↓PR, MR, tab_t T.tb]
theorem tablen_run {d i ti : Nat} {t : Nd} {h : Heap} {Q : Res → Prop} {tg : Hid Q} (T : IsTab h i ti t) : Run (evFn Cw (d + 2) 33 [.obj i 0] h) Q tg = Q ([.int .i64 t.toL.length], h) := by
  have r := fun (Q : Res → Prop) (tg : Hid Q) => tabtree_run (d := d) (Q := Q) (tg := tg) T
  have q := fun (Q : Res → Prop) (tg : Hid Q) => tlen_run (d := d) (Q := Q) (tg := tg) T.tr
  rw [F33_eq]
  simp (disch := (first | assumption | (simp only [Bool.and_eq_true, Bool.and_eq_false_iff, decide_eq_true_eq, decide_eq_false_iff_not, bne_iff_ne, beq_iff_eq, beq_eq_false_iff_ne, bne_eq_false_iff_eq, Bool.not_eq_true', Bool.not_eq_false', bys_length, List.length_append, List.length_cons, List.length_nil, List.length_map, List.length_drop, List.length_take, Int.natCast_add, wrap_i64_eq, wrap_u64, wrap_u8, ne_eq, not_true_eq_false, not_false_eq_true, Nat.zero_add, Nat.mul_one] <;> omega) | omega | (simp; done) | (simp; omega))) only [↓CR, MC, ↓PR, MR, r, q]
theorem tabget_run {d i ti : Nat} {t : Nd} {s : List UInt8} {h : Heap} {Q : Res → Prop} {tg : Hid Q} (T : IsTab h i ti t) : Run (evFn Cw (d + 4) 32 [.obj i 0, .str s] h) Q tg = Q ([.str (oVal (lget s t.toL)), .bool (lget s t.toL).isSome], h) := by
  have r := fun (Q : Res → Prop) (tg : Hid Q) => tabtree_run (d := d + 2) (Q := Q) (tg := tg) T
  have q := fun (Q : Res → Prop) (tg : Hid Q) => tget_run (d := d) (s := s) (Q := Q) (tg := tg) T.ok T.tr
  rw [F32_eq]
  simp (disch := (first | assumption | (simp only [Bool.and_eq_true, Bool.and_eq_false_iff, decide_eq_true_eq, decide_eq_false_iff_not, bne_iff_ne, beq_iff_eq, beq_eq_false_iff_ne, bne_eq_false_iff_eq, Bool.not_eq_true', Bool.not_eq_false', bys_length, List.length_append, List.length_cons, List.length_nil, List.length_map, List.length_drop, List.length_take, Int.natCast_add, wrap_i64_eq, wrap_u64, wrap_u8, ne_eq, not_true_eq_false, not_false_eq_true, Nat.zero_add, Nat.mul_one] <;> omega) | omega | (simp; done) | (simp; omega))) only [↓CR, MC, ↓PR, MR, r, q]
theorem tabrange_run (d i ti : Nat) (t : Nd) (fr to : List UInt8) (most : Int) (h : Heap) (T : IsTab h i ti t) :
    ∃ h', h.ext h' ∧ ∀ (Q : Res → Prop) (tg : Hid Q), Run (evFn Cw (d + 6) 38 [.obj i 0, .str fr, .str to, .int .i64 most] h) Q tg = Q ([.sl false 3 (prs (rngR fr to most t.toL []))], h') := by
  obtain ⟨h', E, q⟩ := crange_run d ti fr to most t T.ok (fun p hp => (T.kv p hp).1) h T.tr
  refine ⟨h', E, fun Q tg => ?_⟩
  have r := fun (Q : Res → Prop) (tg : Hid Q) => tabtree_run (d := d + 4) (Q := Q) (tg := tg) T
  rw [F38_eq]
  simp (disch := (first | assumption | (simp only [Bool.and_eq_true, Bool.and_eq_false_iff, decide_eq_true_eq, decide_eq_false_iff_not, bne_iff_ne, beq_iff_eq, beq_eq_false_iff_ne, bne_eq_false_iff_eq, Bool.not_eq_true', Bool.not_eq_false', bys_length, List.length_append, List.length_cons, List.length_nil, List.length_map, List.length_drop, List.length_take, Int.natCast_add, wrap_i64_eq, wrap_u64, wrap_u8, ne_eq, not_true_eq_false, not_false_eq_true, Nat.zero_add, Nat.mul_one] <;> omega) | omega | (simp; done) | (simp; omega))) only [↓CR, MC, ↓PR, MR, r, q]
theorem rng_all {most : Int} : ∀ {l acc : List KPair}, ((acc.length + l.length : Nat) : Int) ≤ most → rngR [] [] most l acc = acc ++ l
  | [], acc, _ => by unfold rngR; simp
  | p :: l, acc, h => by
    unfold rngR
    simp only [List.length_cons] at h
    have e : (!blt p.key [] && inTo [] p.key) = true := by
      have : blt p.key [] = false := by cases p.key <;> rfl
      rw [this]; simp [inTo]
    rw [if_pos (by omega), if_pos e, rng_all (by simp; omega)]
    simp
theorem tabpairs_run (d i ti : Nat) (t : Nd) (h : Heap) (T : IsTab h i ti t) :
    ∃ h', h.ext h' ∧ ∀ (Q : Res → Prop) (tg : Hid Q), Run (evFn Cw (d + 7) 37 [.obj i 0] h) Q tg = Q ([.sl false 3 (prs t.toL)], h') := by
  obtain ⟨h', E, q⟩ := tabrange_run d i ti t [] [] (t.toL.length : Nat) h T
  have e : rngR [] [] (t.toL.length : Nat) t.toL [] = t.toL := by rw [rng_all (by simp)]; rfl
  rw [e] at q
  refine ⟨h', E, fun Q tg => ?_⟩
  have r := fun (Q : Res → Prop) (tg : Hid Q) => tablen_run (d := d + 4) (Q := Q) (tg := tg) T
  rw [F37_eq]
  simp (disch := (first | assumption | (simp only [Bool.and_eq_true, Bool.and_eq_false_iff, decide_eq_true_eq, decide_eq_false_iff_not, bne_iff_ne, beq_iff_eq, beq_eq_false_iff_ne, bne_eq_false_iff_eq, Bool.not_eq_true', Bool.not_eq_false', bys_length, List.length_append, List.length_cons, List.length_nil, List.length_map, List.length_drop, List.length_take, Int.natCast_add, wrap_i64_eq, wrap_u64, wrap_u8, ne_eq, not_true_eq_false, not_false_eq_true, Nat.zero_add, Nat.mul_one] <;> omega) | omega | (simp; done) | (simp; omega))) only [↓CR, MC, ↓PR, MR, r, q]
theorem cntO_cons (o : KOp) (ops : List KOp) : cntO (o :: ops) = (if rightO o then 1 else 0) + cntO ops := by
  unfold cntO
  rw [List.filter_cons]
  cases rightO o <;> simp
  omega
theorem tabapply_loop (d i ti : Nat) (f : Bool) (ops : List KOp) (ho : ops.length ≤ 31000) : ∀ (n j k c : Nat) (t : Nd) (h : Heap), IsTab h i ti t → t.toL.length + n ≤ 31000 → ops.length = j + n → n < k → c ≤ j →
    ∃ t', IsTab (tabH h i ti t') i ti t' ∧ t'.toL = aps t.toL (ops.drop j) ∧ ∀ (Q : Res → Prop) (tg : Hid Q),
      Run (P30_0 (d + 31020) k i c f (kops ops) (ops.length : Int) j h) Q tg = Q ([.int .i64 (c + cntO (ops.drop j) : Nat)], tabH h i ti t') := by
  intro n
  induction n with
  | zero =>
    intro j k c t h T hl hj hk hc
    obtain ⟨k, rfl⟩ : ∃ m, k = m + 1 := ⟨k - 1, by omega⟩
    have hd : ops.drop j = [] := List.drop_eq_nil_of_le (by omega)
    refine ⟨t, by rw [tabH_self T]; exact T, by rw [hd]; rfl, fun Q tg => ?_⟩
    rw [tabH_self T, P30_0_eq, hd]
    have e : c + cntO [] = c := rfl
    rw [e]
    simp (disch := (first | assumption | (simp only [Bool.and_eq_true, Bool.and_eq_false_iff, decide_eq_true_eq, decide_eq_false_iff_not, bne_iff_ne, beq_iff_eq, beq_eq_false_iff_ne, bne_eq_false_iff_eq, Bool.not_eq_true', Bool.not_eq_false', bys_length, List.length_append, List.length_cons, List.length_nil, List.length_map, List.length_drop, List.length_take, Int.natCast_add, wrap_i64_eq, wrap_u64, wrap_u8, ne_eq, not_true_eq_false, not_false_eq_true, Nat.zero_add, Nat.mul_one] <;> omega) | omega | (simp; done) | (simp; omega))) only [↓CR, MC, ↓PR, MR]
  | succ n ih =>
    intro j k c t h T hl hj hk hc
    obtain ⟨k, rfl⟩ : ∃ m, k = m + 1 := ⟨k - 1, by omega⟩
    have h1 : j < ops.length := by omega
    have e1 := succ_wrap (i := j) (by omega)
    have e2 := succ_wrap (i := c) (by omega)
    rw [List.drop_eq_getElem_cons h1, aps_cons, cntO_cons]
    cases hr : rightO ops[j]
    · obtain ⟨t', T', hL, r⟩ := ih (j + 1) k c t h T (by omega) (by omega) (by omega) (by omega)
      refine ⟨t', T', by simpa using hL, fun Q tg => ?_⟩
      have r' : ∀ (Q : Res → Prop) (tg : Hid Q), Run (P30_0 (d + 31020) k i c f (kops ops) (ops.length : Int) (j + 1 : Nat) h) Q tg = Q ([.int .i64 (c + ((if false = true then 1 else 0) + cntO (ops.drop (j + 1))) : Nat)], tabH h i ti t') := by simpa using r
      rw [P30_0_eq]
      simp (disch := (first | assumption | (simp only [Bool.and_eq_true, Bool.and_eq_false_iff, decide_eq_true_eq, decide_eq_false_iff_not, bne_iff_ne, beq_iff_eq, beq_eq_false_iff_ne, bne_eq_false_iff_eq, Bool.not_eq_true', Bool.not_eq_false', bys_length, List.length_append, List.length_cons, List.length_nil, List.length_map, List.length_drop, List.length_take, Int.natCast_add, wrap_i64_eq, wrap_u64, wrap_u8, ne_eq, not_true_eq_false, not_false_eq_true, Nat.zero_add, Nat.mul_one] <;> omega) | omega | (simp; done) | (simp; omega))) only [↓CR, MC, ↓PR, MR, kops_length, kops_getD h1, opright_run, hr, Bool.not_false, e1, r']
    · have hok := rightO_ok hr
      by_cases c1 : ops[j].kind = 1
      · have c1' : (ops[j].kind == 1) = true := by simp [c1]
        have rp := fun (Q : Res → Prop) (tg : Hid Q) => tabput_run (d := d + 31019) (k := ops[j].key) (v := ops[j].val) (Q := Q) (tg := tg) T (by omega) hok.1 hok.2 (by omega)
        obtain ⟨ok', hP⟩ := T.ok.put ops[j].key ops[j].val (by omega)
        have T1 := T.step ok' (by rw [hP]; exact lput_kv hok.1 hok.2 T.kv)
        have hlen' : (t.put ops[j].key ops[j].val).toL.length + n ≤ 31000 := by rw [hP]; have := lput_len_le (k := ops[j].key) (v := ops[j].val) T.ok.srt; omega
        obtain ⟨t', T', hL, r⟩ := ih (j + 1) k (c + 1) _ _ T1 hlen' (by omega) (by omega) (by omega)
        rw [tabH_tabH T.ne] at T' r
        refine ⟨t', T', by rw [if_pos rfl]; unfold apO; rw [if_pos c1, hL, hP], fun Q tg => ?_⟩
        have r' : ∀ (Q : Res → Prop) (tg : Hid Q), Run (P30_0 (d + 31020) k i (c + 1 : Nat) f (kops ops) (ops.length : Int) (j + 1 : Nat) (tabH h i ti (t.put ops[j].key ops[j].val))) Q tg = Q ([.int .i64 (c + ((if true = true then 1 else 0) + cntO (ops.drop (j + 1))) : Nat)], tabH h i ti t') := fun Q tg => by
          rw [r Q tg, if_pos rfl, Nat.add_assoc]
        rw [P30_0_eq]
        simp (disch := (first | assumption | (simp only [Bool.and_eq_true, Bool.and_eq_false_iff, decide_eq_true_eq, decide_eq_false_iff_not, bne_iff_ne, beq_iff_eq, beq_eq_false_iff_ne, bne_eq_false_iff_eq, Bool.not_eq_true', Bool.not_eq_false', bys_length, List.length_append, List.length_cons, List.length_nil, List.length_map, List.length_drop, List.length_take, Int.natCast_add, wrap_i64_eq, wrap_u64, wrap_u8, ne_eq, not_true_eq_false, not_false_eq_true, Nat.zero_add, Nat.mul_one] <;> omega) | omega | (simp; done) | (simp; omega))) only [↓CR, MC, ↓PR, MR, kops_length, kops_getD h1, opright_run, hr, Bool.not_true, c1', rp, e1, e2, r']
      · have c1' : (ops[j].kind == 1) = false := by simpa using c1
        have rd := fun (Q : Res → Prop) (tg : Hid Q) => tdel_run (d := d + 31020) (k := ops[j].key) (Q := Q) (tg := tg) T.ok T.tr (by omega)
        have hb := T.bytes
        obtain ⟨t1, ok1, hL1, hT1, hrun⟩ : ∃ t1, TOk' t1 ∧ t1.toL = ldel ops[j].key t.toL ∧ t1.toL.length ≤ t.toL.length ∧ ∀ (Q : Res → Prop) (tg : Hid Q),
            Run (P30_0 (d + 31020) (k + 1) i c f (kops ops) (ops.length : Int) j h) Q tg = Run (P30_0 (d + 31020) k i (c + 1 : Nat) f (kops ops) (ops.length : Int) (j + 1 : Nat) (tabH h i ti t1)) Q ⟨⟩ := by
          cases hg : (lget ops[j].key t.toL).isSome
          · have hn := ldel_none (lget_none hg)
            refine ⟨t, T.ok, hn.symm, Nat.le_refl _, fun Q tg => ?_⟩
            rw [hg] at rd
            simp only [Bool.false_eq_true, if_false] at rd
            rw [Heap.put_self' T.tr] at rd
            rw [tabH_self T, P30_0_eq]
            simp (disch := (first | assumption | (simp only [Bool.and_eq_true, Bool.and_eq_false_iff, decide_eq_true_eq, decide_eq_false_iff_not, bne_iff_ne, beq_iff_eq, beq_eq_false_iff_ne, bne_eq_false_iff_eq, Bool.not_eq_true', Bool.not_eq_false', bys_length, List.length_append, List.length_cons, List.length_nil, List.length_map, List.length_drop, List.length_take, Int.natCast_add, wrap_i64_eq, wrap_u64, wrap_u8, ne_eq, not_true_eq_false, not_false_eq_true, Nat.zero_add, Nat.mul_one] <;> omega) | omega | (simp; done) | (simp; omega))) only [↓CR, MC, ↓PR, MR, kops_length, kops_getD h1, opright_run, hr, Bool.not_true, c1', tab_t T.tb, rd, e1, e2]
          · obtain ⟨ok1, hL1⟩ := T.ok.del hg
            have el := btot_del T.ok.srt hg
            refine ⟨t.without ops[j].key, ok1, hL1, by rw [hL1]; exact ldel_len_le _ _, fun Q tg => ?_⟩
            rw [hg] at rd
            simp only [if_true] at rd
            have m1 : (h.put ti (trT (t.without ops[j].key))).objs[i]? = some (tabO ti (btot t.toL)) := by rw [Heap.put_ne (Ne.symm T.ne)]; exact T.tb
            have w1 : IntKind.i64.wrap ((ops[j].key.length : Int) + ((oVal (lget ops[j].key t.toL)).length : Int)) = (ops[j].key.length : Int) + ((oVal (lget ops[j].key t.toL)).length : Int) := wrap_i64_id (by omega) (by omega)
            have w2 : IntKind.i64.wrap (((btot t.toL : Nat) : Int) - ((ops[j].key.length : Int) + ((oVal (lget ops[j].key t.toL)).length : Int))) = ((btot (t.without ops[j].key).toL : Nat) : Int) := by
              rw [hL1, wrap_i64_id (by omega) (by omega)]; omega
            unfold tabH
            rw [P30_0_eq]
            simp (disch := (first | assumption | (simp only [Bool.and_eq_true, Bool.and_eq_false_iff, decide_eq_true_eq, decide_eq_false_iff_not, bne_iff_ne, beq_iff_eq, beq_eq_false_iff_ne, bne_eq_false_iff_eq, Bool.not_eq_true', Bool.not_eq_false', bys_length, List.length_append, List.length_cons, List.length_nil, List.length_map, List.length_drop, List.length_take, Int.natCast_add, wrap_i64_eq, wrap_u64, wrap_u8, ne_eq, not_true_eq_false, not_false_eq_true, Nat.zero_add, Nat.mul_one] <;> omega) | omega | (simp; done) | (simp; omega))) only [↓CR, MC, ↓PR, MR, kops_length, kops_getD h1, opright_run, hr, Bool.not_true, c1', tab_t T.tb, rd, tab_b m1, w1, w2, tab_s m1, e1, e2]
        have T1 := T.step ok1 (by rw [hL1]; intro p hp; exact T.kv p (List.mem_filter.1 hp).1)
        obtain ⟨t', T', hL, r⟩ := ih (j + 1) k (c + 1) _ _ T1 (by omega) (by omega) (by omega) (by omega)
        rw [tabH_tabH T.ne] at T' r
        refine ⟨t', T', by rw [if_pos rfl]; unfold apO; rw [if_neg c1, hL, hL1], fun Q tg => ?_⟩
        rw [hrun Q tg, r Q ⟨⟩, if_pos rfl, Nat.add_assoc]
theorem tabapply_run (d i ti : Nat) (f : Bool) (ops : List KOp) (t : Nd) (h : Heap) (T : IsTab h i ti t) (hl : t.toL.length + ops.length ≤ 31000) :
    ∃ t', IsTab (tabH h i ti t') i ti t' ∧ t'.toL = aps t.toL ops ∧ ∀ (Q : Res → Prop) (tg : Hid Q),
      Run (evFn Cw (d + 31021) 30 [.obj i 0, .sl f 4 (kops ops)] h) Q tg = Q ([.int .i64 (cntO ops : Nat)], tabH h i ti t') := by
  obtain ⟨t', T', hL, r⟩ := tabapply_loop d i ti f ops (by omega) ops.length 0 rounds 0 t h T (by omega) (by omega) (rounds_gt' (by omega)) (by omega)
  rw [List.drop_zero] at hL r
  rw [e0, Nat.zero_add] at r
  refine ⟨t', T', hL, fun Q tg => ?_⟩
  rw [F30_eq]
  simp (disch := (first | assumption | (simp only [Bool.and_eq_true, Bool.and_eq_false_iff, decide_eq_true_eq, decide_eq_false_iff_not, bne_iff_ne, beq_iff_eq, beq_eq_false_iff_ne, bne_eq_false_iff_eq, Bool.not_eq_true', Bool.not_eq_false', bys_length, List.length_append, List.length_cons, List.length_nil, List.length_map, List.length_drop, List.length_take, Int.natCast_add, wrap_i64_eq, wrap_u64, wrap_u8, ne_eq, not_true_eq_false, not_false_eq_true, Nat.zero_add, Nat.mul_one] <;> omega) | omega | (simp; done) | (simp; omega))) only [↓CR, MC, ↓PR, MR, kops_length, r]
end Go.Proofs.Ytdlcjibefbnckaa.Wa
end

section
/- What the evaluator comes to in these functions. -/
namespace Go.Proofs.Ytdlcjibefbnckaa.Wa
open Go Go.Weave
set_option maxRecDepth 100000
set_option linter.unusedVariables false
/- f54 strandline/strandlinelaw45.Few -/
noncomputable def P54_0 (d k : Nat) (f0 : Bool) (l1 : List AVal) (x2 : Int) (h : Heap) : Tr Res :=
  loopPt Cw d 54 [true, false, true, true] [] k ⟨[(0, (EV.one (SV.val (AVal.sl f0 6 l1)))), (3, (EV.one (SV.val (AVal.int .i64 x2))))], []⟩ h
theorem P54_0_eq (d k : Nat) (f0 : Bool) (l1 : List AVal) (x2 : Int) (h : Heap) : P54_0 d (k + 1) f0 l1 x2 h =
  (bif (decide ((x2 : Int) < (l1.length : Int))) then
    (bif (decide ((0 : Int) ≤ x2) && decide ((x2 : Int) < (l1.length : Int))) then
      (optK ((AVal.cells (l1.getD (Int.toNat x2) AVal.undef))[4]?) fun w1 =>
        (slK 0 w1 fun fl2 es3 =>
          (bif (decide (((es3.length : Int) : Int) > 600)) then (Tr.ret ([(AVal.bool false)], h)) else (P54_0 d k f0 l1 (IntKind.i64.wrap (x2 + 1)) h))))
    else
      Tr.fail)
  else
    (Tr.ret ([(AVal.bool (decide (((l1.length : Int) : Int) ≤ 100)))], h))) := by kernel_rfl
theorem F54_eq (d : Nat) (f0 : Bool) (l1 : List AVal) (h : Heap) : evFn Cw (d + 1) 54 [(AVal.sl f0 6 l1)] h =
  (P54_0 d rounds f0 l1 0 h) := by kernel_rfl
/- f106 (*strandline/loser.State).one$1 -/
theorem F106_eq (d : Nat) (i0 : Nat) (h : Heap) : evFn Cw (d + 1) 106 [(AVal.obj i0 0)] h =
  (optK (Heap.cell? h i0 0) fun z1 =>
    (boolK (HCell.toA z1) fun bb2 =>
      (Tr.ret ([(AVal.bool (!bb2))], h)))) := by kernel_rfl
/- f108 (*strandline/loser.State).change -/
theorem F108_eq (d : Nat) (i0 : Nat) (f1 : Bool) (l2 : List AVal) (h : Heap) : evFn Cw (d + 1) 108 [(AVal.obj i0 0), (AVal.sl f1 0 l2)] h =
  (runK (evFn Cw d 120 [(AVal.sl f1 0 l2)] h) fun r1 h1 =>
    (consK r1 fun w2 ws3 =>
      (aggK 6 w2 fun cc4 =>
        (consK ws3 fun w5 ws6 =>
          (intK .i64 w5 fun y7 =>
            (nilK ws6
              (bif ((cc4.length == 6) && true) then
                (bif ((y7 : Int) != 0) then
                  (Tr.ret ([(AVal.bool false)], h1))
                else
                  (optK (Heap.cell? h1 i0 0) fun z8 =>
                    (optK (cc4[0]?) fun w9 =>
                      (strK w9 fun ss10 =>
                        (runK (evFn Cw d 32 [(HCell.toA z8), (AVal.str ss10)] h1) fun r11 h11 =>
                          (consK r11 fun w12 ws13 =>
                            (strK w12 fun ss14 =>
                              (consK ws13 fun w15 ws16 =>
                                (boolK w15 fun bb17 =>
                                  (nilK ws16
                                    (optK (cc4[1]?) fun w18 =>
                                      (boolK w18 fun bb19 =>
                                        (bif (!(bb17 == bb19)) then
                                          (Tr.ret ([(AVal.bool false)], h11))
                                        else
                                          (optK (cc4[3]?) fun w20 =>
                                            (strK w20 fun ss21 =>
                                              (bif (!(ss14 == ss21)) then
                                                (Tr.ret ([(AVal.bool false)], h11))
                                              else
                                                (bif decide (0 + 6 ≤ cc4.length) then
                                                  (Tr.anyL [
                                                    (optK (Heap.cell? h11 i0 0) fun z22 =>
                                                      (runK (evFn Cw d 121 [(AVal.agg ((cc4.drop 0).take 6))] h11) fun r23 h23 =>
                                                        (consK r23 fun w24 ws25 =>
                                                          (aggK 3 w24 fun cc26 =>
                                                            (nilK ws25
                                                              (bif ((cc26.length == 3) && true) then
                                                                (runK (evFn Cw d 30 [(HCell.toA z22), (AVal.sl true 4 [(AVal.agg cc26)])] h23) fun r27 h27 =>
                                                                  (consK r27 fun w28 ws29 =>
                                                                    (intK .i64 w28 fun y30 =>
                                                                      (nilK ws29
                                                                        (Tr.ret ([(AVal.bool true)], h27))))))
                                                              else
                                                                Tr.fail)))))),
                                                    (runK (evFn Cw d 121 [(AVal.agg ((cc4.drop 0).take 6))] h11) fun r22 h22 =>
                                                      (consK r22 fun w23 ws24 =>
                                                        (aggK 3 w23 fun cc25 =>
                                                          (nilK ws24
                                                            (Tr.anyL [
                                                              (optK (Heap.cell? h22 i0 0) fun z26 =>
                                                                (bif ((cc25.length == 3) && true) then
                                                                  (runK (evFn Cw d 30 [(HCell.toA z26), (AVal.sl true 4 [(AVal.agg cc25)])] h22) fun r27 h27 =>
                                                                    (consK r27 fun w28 ws29 =>
                                                                      (intK .i64 w28 fun y30 =>
                                                                        (nilK ws29
                                                                          (Tr.ret ([(AVal.bool true)], h27))))))
                                                                else
                                                                  Tr.fail)),
                                                              (bif ((cc25.length == 3) && true) then
                                                                (optK (Heap.cell? h22 i0 0) fun z26 =>
                                                                  (runK (evFn Cw d 30 [(HCell.toA z26), (AVal.sl true 4 [(AVal.agg cc25)])] h22) fun r27 h27 =>
                                                                    (consK r27 fun w28 ws29 =>
                                                                      (intK .i64 w28 fun y30 =>
                                                                        (nilK ws29
                                                                          (Tr.ret ([(AVal.bool true)], h27)))))))
                                                              else
                                                                Tr.fail)])))))])
                                                else
                                                  Tr.fail)))))))))))))))))
              else
                Tr.fail))))))) := by kernel_rfl
/- f107 (*strandline/loser.State).one$2 -/
theorem F107_eq (d : Nat) (i0 : Nat) (i1 : Nat) (c2 : List AVal) (h : Heap) : evFn Cw (d + 1) 107 [(AVal.obj i0 0), (AVal.elt (AVal.obj i1 0) false 1 0), (AVal.elt (AVal.agg c2) true 5 0)] h =
  (optK (Heap.cell? h i0 0) fun z1 =>
    (boolK (HCell.toA z1) fun bb2 =>
      (bif bb2 then
        (optK (c2[4]?) fun w3 =>
          (slK 0 w3 fun fl4 es5 =>
            (runK (evFn Cw d 108 [(AVal.obj i1 0), (AVal.sl fl4 0 es5)] h) fun r6 h6 =>
              (consK r6 fun w7 ws8 =>
                (boolK w7 fun bb9 =>
                  (nilK ws8
                    (Tr.ret ([(AVal.bool bb9)], h6))))))))
      else
        (Tr.ret ([(AVal.bool false)], h))))) := by kernel_rfl
/- f109 (*strandline/loser.State).one$3 -/
theorem F109_eq (d : Nat) (i0 : Nat) (i1 : Nat) (c2 : List AVal) (h : Heap) : evFn Cw (d + 1) 109 [(AVal.obj i0 0), (AVal.elt (AVal.obj i1 0) false 1 0), (AVal.elt (AVal.agg c2) true 5 0)] h =
  (optK (Heap.cell? h i0 0) fun z1 =>
    (boolK (HCell.toA z1) fun bb2 =>
      (bif bb2 then
        (optK (c2[4]?) fun w3 =>
          (slK 0 w3 fun fl4 es5 =>
            (runK (evFn Cw d 108 [(AVal.obj i1 0), (AVal.sl fl4 0 es5)] h) fun r6 h6 =>
              (consK r6 fun w7 ws8 =>
                (boolK w7 fun bb9 =>
                  (nilK ws8
                    (Tr.ret ([(AVal.bool bb9)], h6))))))))
      else
        (Tr.ret ([(AVal.bool false)], h))))) := by kernel_rfl
/- f111 (*strandline/loser.State).end -/
theorem F111_eq (d : Nat) (i0 : Nat) (x1 : Int) (x2 : Int) (x3 : Int) (x4 : Int) (f5 : Bool) (l6 : List AVal) (h : Heap) : evFn Cw (d + 1) 111 [(AVal.obj i0 0), (AVal.agg [(AVal.int .i64 x1), (AVal.int .i64 x2), (AVal.int .i64 x3), (AVal.int .i64 x4), (AVal.sl f5 0 l6)])] h =
  (bif ((x1 : Int) == 8) then
    (optK (Heap.cell? h i0 5) fun z1 =>
      (intK .i64 (HCell.toA z1) fun y2 =>
        (optK (Heap.cell? h i0 5) fun _ =>
          (sameL 2
            (optK (Heap.cell? (Heap.setCell h i0 5 (HCell.val (AVal.int .i64 (IntKind.i64.wrap (y2 + 1))))) i0 7) fun z3 =>
              (slK 0 (HCell.toA z3) fun _ es4 =>
                (bif decide ((es4.length + (1 : Nat)) * 8 ≤ 140737488355328) then
                  (lentK (Heap.setCell h i0 5 (HCell.val (AVal.int .i64 (IntKind.i64.wrap (y2 + 1))))) i0 7 0 es4 fun h5 =>
                    (optK (Heap.cell? h5 i0 7) fun _ =>
                      (Tr.ret ([(AVal.bool true)], (Heap.setCell h5 i0 7 (HCell.own 0 (es4 ++ [(AVal.int .i64 x3)])))))))
                else
                  Tr.fail)))))))
  else
    (optK (Heap.cell? h i0 6) fun z6 =>
      (intK .i64 (HCell.toA z6) fun y7 =>
        (optK (Heap.cell? h i0 6) fun _ =>
          (Tr.ret ([(AVal.bool true)], (Heap.setCell h i0 6 (HCell.val (AVal.int .i64 (IntKind.i64.wrap (y7 + 1))))))))))) := by kernel_rfl
/- f110 (*strandline/loser.State).one$4 -/
theorem F110_eq (d : Nat) (i0 : Nat) (i1 : Nat) (c2 : List AVal) (h : Heap) : evFn Cw (d + 1) 110 [(AVal.obj i0 0), (AVal.elt (AVal.obj i1 0) false 1 0), (AVal.elt (AVal.agg c2) true 5 0)] h =
  (optK (Heap.cell? h i0 0) fun z1 =>
    (boolK (HCell.toA z1) fun bb2 =>
      (bif bb2 then
        (bif (c2.length == 5) then
          (runK (evFn Cw d 111 [(AVal.obj i1 0), (AVal.agg c2)] h) fun r3 h3 =>
            (consK r3 fun w4 ws5 =>
              (boolK w4 fun bb6 =>
                (nilK ws5
                  (Tr.ret ([(AVal.bool bb6)], h3))))))
        else
          Tr.fail)
      else
        (Tr.ret ([(AVal.bool false)], h))))) := by kernel_rfl
/- f112 (*strandline/loser.State).one$5 -/
theorem F112_eq (d : Nat) (i0 : Nat) (i1 : Nat) (c2 : List AVal) (h : Heap) : evFn Cw (d + 1) 112 [(AVal.obj i0 0), (AVal.elt (AVal.obj i1 0) false 1 0), (AVal.elt (AVal.agg c2) true 5 0)] h =
  (optK (Heap.cell? h i0 0) fun z1 =>
    (boolK (HCell.toA z1) fun bb2 =>
      (bif bb2 then
        (bif (c2.length == 5) then
          (runK (evFn Cw d 111 [(AVal.obj i1 0), (AVal.agg c2)] h) fun r3 h3 =>
            (consK r3 fun w4 ws5 =>
              (boolK w4 fun bb6 =>
                (nilK ws5
                  (Tr.ret ([(AVal.bool bb6)], h3))))))
        else
          Tr.fail)
      else
        (Tr.ret ([(AVal.bool false)], h))))) := by kernel_rfl
/- f94 (*strandline/loser.State).one -/
noncomputable def P94_0 (d : Nat) (i0 : Nat) (x1 : Int) (x2 : Int) (x3 : Int) (x4 : Int) (f5 : Bool) (l6 : List AVal) (i7 : Nat) (h : Heap) : Tr Res :=
  heldPt Cw d 94 [true, true] [] ⟨[(2, (EV.one (SV.val (AVal.elt (AVal.obj i0 0) false 1 0)))), (3, (EV.one (SV.val (AVal.elt (AVal.agg [(AVal.int .i64 x1), (AVal.int .i64 x2), (AVal.int .i64 x3), (AVal.int .i64 x4), (AVal.sl f5 0 l6)]) true 5 0)))), (5, (EV.one (SV.val (AVal.obj i7 0))))], []⟩ h
theorem P94_0_eq (d : Nat) (i0 : Nat) (x1 : Int) (x2 : Int) (x3 : Int) (x4 : Int) (f5 : Bool) (l6 : List AVal) (i7 : Nat) (h : Heap) : P94_0 d i0 x1 x2 x3 x4 f5 l6 i7 h =
  (updK 3 (AVal.map h.objs.length) (AVal.int .i64 5) (AVal.fn 106 [] [(AVal.obj i7 0)]) (Heap.push h (Go.Weave.Obj.map 3 [] 0)) fun h1 =>
    (updK 3 (AVal.map h.objs.length) (AVal.int .i64 6) (AVal.fn 107 [] [(AVal.obj i7 0), (AVal.elt (AVal.obj i0 0) false 1 0), (AVal.elt (AVal.agg [(AVal.int .i64 x1), (AVal.int .i64 x2), (AVal.int .i64 x3), (AVal.int .i64 x4), (AVal.sl f5 0 l6)]) true 5 0)]) h1 fun h2 =>
      (updK 3 (AVal.map h.objs.length) (AVal.int .i64 7) (AVal.fn 109 [] [(AVal.obj i7 0), (AVal.elt (AVal.obj i0 0) false 1 0), (AVal.elt (AVal.agg [(AVal.int .i64 x1), (AVal.int .i64 x2), (AVal.int .i64 x3), (AVal.int .i64 x4), (AVal.sl f5 0 l6)]) true 5 0)]) h2 fun h3 =>
        (updK 3 (AVal.map h.objs.length) (AVal.int .i64 8) (AVal.fn 110 [] [(AVal.obj i7 0), (AVal.elt (AVal.obj i0 0) false 1 0), (AVal.elt (AVal.agg [(AVal.int .i64 x1), (AVal.int .i64 x2), (AVal.int .i64 x3), (AVal.int .i64 x4), (AVal.sl f5 0 l6)]) true 5 0)]) h3 fun h4 =>
          (updK 3 (AVal.map h.objs.length) (AVal.int .i64 9) (AVal.fn 112 [] [(AVal.obj i7 0), (AVal.elt (AVal.obj i0 0) false 1 0), (AVal.elt (AVal.agg [(AVal.int .i64 x1), (AVal.int .i64 x2), (AVal.int .i64 x3), (AVal.int .i64 x4), (AVal.sl f5 0 l6)]) true 5 0)]) h4 fun h5 =>
            (lookK 3 AVal.nilfn (AVal.map h.objs.length) (AVal.int .i64 x1) h5 fun w6 bb7 =>
              (bif (!bb7) then
                (Tr.ret ([(AVal.bool false)], h5))
              else
                (bif AVal.isFnOf 106 1 w6 then
                  (runK (evFn Cw d 106 [AVal.capAt 0 w6] h5) fun r8 h8 =>
                    (consK r8 fun w9 ws10 =>
                      (boolK w9 fun bb11 =>
                        (nilK ws10
                          (bif (!bb11) then
                            (Tr.ret ([(AVal.bool false)], h8))
                          else
                            (bif (decide ((0 : Int) ≤ x2) && decide ((x2 : Int) < 4)) then
                              (optK (Heap.cell? h8 i0 (1 + ((Int.toNat x2) * 1))) fun _ =>
                                (bif ((x1 : Int) == 8) then
                                  (bif (decide ((0 : Int) ≤ x2) && decide ((x2 : Int) < 4)) then
                                    (optK (Heap.cell? (Heap.setCell h8 i0 (1 + ((Int.toNat x2) * 1)) (HCell.val (AVal.int .i64 x3))) i0 (1 + ((Int.toNat x2) * 1))) fun _ =>
                                      (Tr.ret ([(AVal.bool true)], (Heap.setCell (Heap.setCell h8 i0 (1 + ((Int.toNat x2) * 1)) (HCell.val (AVal.int .i64 x3))) i0 (1 + ((Int.toNat x2) * 1)) (HCell.val (AVal.int .i64 0))))))
                                  else
                                    Tr.fail)
                                else
                                  (bif ((x1 : Int) == 9) then
                                    (bif (decide ((0 : Int) ≤ x2) && decide ((x2 : Int) < 4)) then
                                      (optK (Heap.cell? (Heap.setCell h8 i0 (1 + ((Int.toNat x2) * 1)) (HCell.val (AVal.int .i64 x3))) i0 (1 + ((Int.toNat x2) * 1))) fun _ =>
                                        (Tr.ret ([(AVal.bool true)], (Heap.setCell (Heap.setCell h8 i0 (1 + ((Int.toNat x2) * 1)) (HCell.val (AVal.int .i64 x3))) i0 (1 + ((Int.toNat x2) * 1)) (HCell.val (AVal.int .i64 0))))))
                                    else
                                      Tr.fail)
                                  else
                                    (Tr.ret ([(AVal.bool true)], (Heap.setCell h8 i0 (1 + ((Int.toNat x2) * 1)) (HCell.val (AVal.int .i64 x3))))))))
                            else
                              Tr.fail))))))
                else
                  (bif AVal.isFnOf 107 3 w6 then
                    (runK (evFn Cw d 107 [AVal.capAt 0 w6, AVal.capAt 1 w6, AVal.capAt 2 w6] h5) fun r12 h12 =>
                      (consK r12 fun w13 ws14 =>
                        (boolK w13 fun bb15 =>
                          (nilK ws14
                            (bif (!bb15) then
                              (Tr.ret ([(AVal.bool false)], h12))
                            else
                              (bif (decide ((0 : Int) ≤ x2) && decide ((x2 : Int) < 4)) then
                                (optK (Heap.cell? h12 i0 (1 + ((Int.toNat x2) * 1))) fun _ =>
                                  (bif ((x1 : Int) == 8) then
                                    (bif (decide ((0 : Int) ≤ x2) && decide ((x2 : Int) < 4)) then
                                      (optK (Heap.cell? (Heap.setCell h12 i0 (1 + ((Int.toNat x2) * 1)) (HCell.val (AVal.int .i64 x3))) i0 (1 + ((Int.toNat x2) * 1))) fun _ =>
                                        (Tr.ret ([(AVal.bool true)], (Heap.setCell (Heap.setCell h12 i0 (1 + ((Int.toNat x2) * 1)) (HCell.val (AVal.int .i64 x3))) i0 (1 + ((Int.toNat x2) * 1)) (HCell.val (AVal.int .i64 0))))))
                                    else
                                      Tr.fail)
                                  else
                                    (bif ((x1 : Int) == 9) then
                                      (bif (decide ((0 : Int) ≤ x2) && decide ((x2 : Int) < 4)) then
                                        (optK (Heap.cell? (Heap.setCell h12 i0 (1 + ((Int.toNat x2) * 1)) (HCell.val (AVal.int .i64 x3))) i0 (1 + ((Int.toNat x2) * 1))) fun _ =>
                                          (Tr.ret ([(AVal.bool true)], (Heap.setCell (Heap.setCell h12 i0 (1 + ((Int.toNat x2) * 1)) (HCell.val (AVal.int .i64 x3))) i0 (1 + ((Int.toNat x2) * 1)) (HCell.val (AVal.int .i64 0))))))
                                      else
                                        Tr.fail)
                                    else
                                      (Tr.ret ([(AVal.bool true)], (Heap.setCell h12 i0 (1 + ((Int.toNat x2) * 1)) (HCell.val (AVal.int .i64 x3))))))))
                              else
                                Tr.fail))))))
                  else
                    (bif AVal.isFnOf 109 3 w6 then
                      (runK (evFn Cw d 109 [AVal.capAt 0 w6, AVal.capAt 1 w6, AVal.capAt 2 w6] h5) fun r16 h16 =>
                        (consK r16 fun w17 ws18 =>
                          (boolK w17 fun bb19 =>
                            (nilK ws18
                              (bif (!bb19) then
                                (Tr.ret ([(AVal.bool false)], h16))
                              else
                                (bif (decide ((0 : Int) ≤ x2) && decide ((x2 : Int) < 4)) then
                                  (optK (Heap.cell? h16 i0 (1 + ((Int.toNat x2) * 1))) fun _ =>
                                    (bif ((x1 : Int) == 8) then
                                      (bif (decide ((0 : Int) ≤ x2) && decide ((x2 : Int) < 4)) then
                                        (optK (Heap.cell? (Heap.setCell h16 i0 (1 + ((Int.toNat x2) * 1)) (HCell.val (AVal.int .i64 x3))) i0 (1 + ((Int.toNat x2) * 1))) fun _ =>
                                          (Tr.ret ([(AVal.bool true)], (Heap.setCell (Heap.setCell h16 i0 (1 + ((Int.toNat x2) * 1)) (HCell.val (AVal.int .i64 x3))) i0 (1 + ((Int.toNat x2) * 1)) (HCell.val (AVal.int .i64 0))))))
                                      else
                                        Tr.fail)
                                    else
                                      (bif ((x1 : Int) == 9) then
                                        (bif (decide ((0 : Int) ≤ x2) && decide ((x2 : Int) < 4)) then
                                          (optK (Heap.cell? (Heap.setCell h16 i0 (1 + ((Int.toNat x2) * 1)) (HCell.val (AVal.int .i64 x3))) i0 (1 + ((Int.toNat x2) * 1))) fun _ =>
                                            (Tr.ret ([(AVal.bool true)], (Heap.setCell (Heap.setCell h16 i0 (1 + ((Int.toNat x2) * 1)) (HCell.val (AVal.int .i64 x3))) i0 (1 + ((Int.toNat x2) * 1)) (HCell.val (AVal.int .i64 0))))))
                                        else
                                          Tr.fail)
                                      else
                                        (Tr.ret ([(AVal.bool true)], (Heap.setCell h16 i0 (1 + ((Int.toNat x2) * 1)) (HCell.val (AVal.int .i64 x3))))))))
                                else
                                  Tr.fail))))))
                    else
                      (bif AVal.isFnOf 110 3 w6 then
                        (runK (evFn Cw d 110 [AVal.capAt 0 w6, AVal.capAt 1 w6, AVal.capAt 2 w6] h5) fun r20 h20 =>
                          (consK r20 fun w21 ws22 =>
                            (boolK w21 fun bb23 =>
                              (nilK ws22
                                (bif (!bb23) then
                                  (Tr.ret ([(AVal.bool false)], h20))
                                else
                                  (bif (decide ((0 : Int) ≤ x2) && decide ((x2 : Int) < 4)) then
                                    (optK (Heap.cell? h20 i0 (1 + ((Int.toNat x2) * 1))) fun _ =>
                                      (bif ((x1 : Int) == 8) then
                                        (bif (decide ((0 : Int) ≤ x2) && decide ((x2 : Int) < 4)) then
                                          (optK (Heap.cell? (Heap.setCell h20 i0 (1 + ((Int.toNat x2) * 1)) (HCell.val (AVal.int .i64 x3))) i0 (1 + ((Int.toNat x2) * 1))) fun _ =>
                                            (Tr.ret ([(AVal.bool true)], (Heap.setCell (Heap.setCell h20 i0 (1 + ((Int.toNat x2) * 1)) (HCell.val (AVal.int .i64 x3))) i0 (1 + ((Int.toNat x2) * 1)) (HCell.val (AVal.int .i64 0))))))
                                        else
                                          Tr.fail)
                                      else
                                        (bif ((x1 : Int) == 9) then
                                          (bif (decide ((0 : Int) ≤ x2) && decide ((x2 : Int) < 4)) then
                                            (optK (Heap.cell? (Heap.setCell h20 i0 (1 + ((Int.toNat x2) * 1)) (HCell.val (AVal.int .i64 x3))) i0 (1 + ((Int.toNat x2) * 1))) fun _ =>
                                              (Tr.ret ([(AVal.bool true)], (Heap.setCell (Heap.setCell h20 i0 (1 + ((Int.toNat x2) * 1)) (HCell.val (AVal.int .i64 x3))) i0 (1 + ((Int.toNat x2) * 1)) (HCell.val (AVal.int .i64 0))))))
                                          else
                                            Tr.fail)
                                        else
                                          (Tr.ret ([(AVal.bool true)], (Heap.setCell h20 i0 (1 + ((Int.toNat x2) * 1)) (HCell.val (AVal.int .i64 x3))))))))
                                  else
                                    Tr.fail))))))
                      else
                        (bif AVal.isFnOf 112 3 w6 then
                          (runK (evFn Cw d 112 [AVal.capAt 0 w6, AVal.capAt 1 w6, AVal.capAt 2 w6] h5) fun r24 h24 =>
                            (consK r24 fun w25 ws26 =>
                              (boolK w25 fun bb27 =>
                                (nilK ws26
                                  (bif (!bb27) then
                                    (Tr.ret ([(AVal.bool false)], h24))
                                  else
                                    (bif (decide ((0 : Int) ≤ x2) && decide ((x2 : Int) < 4)) then
                                      (optK (Heap.cell? h24 i0 (1 + ((Int.toNat x2) * 1))) fun _ =>
                                        (bif ((x1 : Int) == 8) then
                                          (bif (decide ((0 : Int) ≤ x2) && decide ((x2 : Int) < 4)) then
                                            (optK (Heap.cell? (Heap.setCell h24 i0 (1 + ((Int.toNat x2) * 1)) (HCell.val (AVal.int .i64 x3))) i0 (1 + ((Int.toNat x2) * 1))) fun _ =>
                                              (Tr.ret ([(AVal.bool true)], (Heap.setCell (Heap.setCell h24 i0 (1 + ((Int.toNat x2) * 1)) (HCell.val (AVal.int .i64 x3))) i0 (1 + ((Int.toNat x2) * 1)) (HCell.val (AVal.int .i64 0))))))
                                          else
                                            Tr.fail)
                                        else
                                          (bif ((x1 : Int) == 9) then
                                            (bif (decide ((0 : Int) ≤ x2) && decide ((x2 : Int) < 4)) then
                                              (optK (Heap.cell? (Heap.setCell h24 i0 (1 + ((Int.toNat x2) * 1)) (HCell.val (AVal.int .i64 x3))) i0 (1 + ((Int.toNat x2) * 1))) fun _ =>
                                                (Tr.ret ([(AVal.bool true)], (Heap.setCell (Heap.setCell h24 i0 (1 + ((Int.toNat x2) * 1)) (HCell.val (AVal.int .i64 x3))) i0 (1 + ((Int.toNat x2) * 1)) (HCell.val (AVal.int .i64 0))))))
                                            else
                                              Tr.fail)
                                          else
                                            (Tr.ret ([(AVal.bool true)], (Heap.setCell h24 i0 (1 + ((Int.toNat x2) * 1)) (HCell.val (AVal.int .i64 x3))))))))
                                    else
                                      Tr.fail))))))
                        else
                          Tr.fail)))))))))))) := (heldPt_eq _ _ _ _ _ _ _).trans (by kernel_rfl)
theorem F94_eq (d : Nat) (i0 : Nat) (x1 : Int) (x2 : Int) (x3 : Int) (x4 : Int) (f5 : Bool) (l6 : List AVal) (h : Heap) : evFn Cw (d + 1) 94 [(AVal.obj i0 0), (AVal.agg [(AVal.int .i64 x1), (AVal.int .i64 x2), (AVal.int .i64 x3), (AVal.int .i64 x4), (AVal.sl f5 0 l6)])] h =
  (Tr.anyL [
    (Tr.anyL [
      (bif (decide ((0 : Int) ≤ x2) && decide ((x2 : Int) < 4)) then
        (Tr.anyL [
          (optK (Heap.cell? h i0 (1 + ((Int.toNat x2) * 1))) fun z1 =>
            (intK .i64 (HCell.toA z1) fun y2 =>
              (optK (Heap.cell? (Heap.push h (Go.Weave.Obj.cells [(HCell.val (AVal.bool false))])) h.objs.length 0) fun _ =>
                (P94_0 d i0 x1 x2 x3 x4 f5 l6 h.objs.length (Heap.setCell (Heap.push h (Go.Weave.Obj.cells [(HCell.val (AVal.bool false))])) h.objs.length 0 (HCell.val (AVal.bool ((y2 : Int) != 0)))))))),
          (optK (Heap.cell? (Heap.push h (Go.Weave.Obj.cells [(HCell.val (AVal.bool false))])) i0 (1 + ((Int.toNat x2) * 1))) fun z1 =>
            (intK .i64 (HCell.toA z1) fun y2 =>
              (optK (Heap.cell? (Heap.push h (Go.Weave.Obj.cells [(HCell.val (AVal.bool false))])) h.objs.length 0) fun _ =>
                (P94_0 d i0 x1 x2 x3 x4 f5 l6 h.objs.length (Heap.setCell (Heap.push h (Go.Weave.Obj.cells [(HCell.val (AVal.bool false))])) h.objs.length 0 (HCell.val (AVal.bool ((y2 : Int) != 0))))))))])
      else
        Tr.fail),
      (bif (decide ((0 : Int) ≤ x2) && decide ((x2 : Int) < 4)) then
        (optK (Heap.cell? (Heap.push h (Go.Weave.Obj.cells [(HCell.val (AVal.bool false))])) i0 (1 + ((Int.toNat x2) * 1))) fun z1 =>
          (intK .i64 (HCell.toA z1) fun y2 =>
            (optK (Heap.cell? (Heap.push h (Go.Weave.Obj.cells [(HCell.val (AVal.bool false))])) h.objs.length 0) fun _ =>
              (P94_0 d i0 x1 x2 x3 x4 f5 l6 h.objs.length (Heap.setCell (Heap.push h (Go.Weave.Obj.cells [(HCell.val (AVal.bool false))])) h.objs.length 0 (HCell.val (AVal.bool ((y2 : Int) != 0))))))))
      else
        Tr.fail)]),
    (Tr.anyL [
      (bif (decide ((0 : Int) ≤ x2) && decide ((x2 : Int) < 4)) then
        (Tr.anyL [
          (optK (Heap.cell? h i0 (1 + ((Int.toNat x2) * 1))) fun z1 =>
            (intK .i64 (HCell.toA z1) fun y2 =>
              (optK (Heap.cell? (Heap.push h (Go.Weave.Obj.cells [(HCell.val (AVal.bool false))])) h.objs.length 0) fun _ =>
                (P94_0 d i0 x1 x2 x3 x4 f5 l6 h.objs.length (Heap.setCell (Heap.push h (Go.Weave.Obj.cells [(HCell.val (AVal.bool false))])) h.objs.length 0 (HCell.val (AVal.bool ((y2 : Int) != 0)))))))),
          (optK (Heap.cell? (Heap.push h (Go.Weave.Obj.cells [(HCell.val (AVal.bool false))])) i0 (1 + ((Int.toNat x2) * 1))) fun z1 =>
            (intK .i64 (HCell.toA z1) fun y2 =>
              (optK (Heap.cell? (Heap.push h (Go.Weave.Obj.cells [(HCell.val (AVal.bool false))])) h.objs.length 0) fun _ =>
                (P94_0 d i0 x1 x2 x3 x4 f5 l6 h.objs.length (Heap.setCell (Heap.push h (Go.Weave.Obj.cells [(HCell.val (AVal.bool false))])) h.objs.length 0 (HCell.val (AVal.bool ((y2 : Int) != 0))))))))])
      else
        Tr.fail),
      (bif (decide ((0 : Int) ≤ x2) && decide ((x2 : Int) < 4)) then
        (optK (Heap.cell? (Heap.push h (Go.Weave.Obj.cells [(HCell.val (AVal.bool false))])) i0 (1 + ((Int.toNat x2) * 1))) fun z1 =>
          (intK .i64 (HCell.toA z1) fun y2 =>
            (optK (Heap.cell? (Heap.push h (Go.Weave.Obj.cells [(HCell.val (AVal.bool false))])) h.objs.length 0) fun _ =>
              (P94_0 d i0 x1 x2 x3 x4 f5 l6 h.objs.length (Heap.setCell (Heap.push h (Go.Weave.Obj.cells [(HCell.val (AVal.bool false))])) h.objs.length 0 (HCell.val (AVal.bool ((y2 : Int) != 0))))))))
      else
        Tr.fail)]),
    (bif (decide ((0 : Int) ≤ x2) && decide ((x2 : Int) < 4)) then
      (optK (Heap.cell? (Heap.push h (Go.Weave.Obj.cells [(HCell.val (AVal.bool false))])) i0 (1 + ((Int.toNat x2) * 1))) fun z1 =>
        (intK .i64 (HCell.toA z1) fun y2 =>
          (optK (Heap.cell? (Heap.push h (Go.Weave.Obj.cells [(HCell.val (AVal.bool false))])) h.objs.length 0) fun _ =>
            (P94_0 d i0 x1 x2 x3 x4 f5 l6 h.objs.length (Heap.setCell (Heap.push h (Go.Weave.Obj.cells [(HCell.val (AVal.bool false))])) h.objs.length 0 (HCell.val (AVal.bool ((y2 : Int) != 0))))))))
    else
      Tr.fail)]) := by kernel_rfl
/- f56 strandline/loser.Analyze -/
noncomputable def P56_0 (d k : Nat) (i0 : Nat) (f1 : Bool) (l2 : List AVal) (x3 : Int) (x4 : Int) (x5 : Int) (x6 : Int) (x7 : Int) (x8 : Int) (x9 : Int) (x10 : Int) (h : Heap) : Tr Res :=
  loopPt Cw d 56 [true, true, false, true, true] [] k ⟨[(2, (EV.one (SV.loc 2 0))), (4, (EV.one (SV.val (AVal.obj i0 0)))), (9, (EV.one (SV.val (AVal.sl f1 6 l2)))), (10, (EV.one (SV.val (AVal.int .i64 x3)))), (11, (EV.one (SV.val (AVal.int .i64 x4))))], [(2, (Box.plain [AVal.nilp, (AVal.int .i64 x5), (AVal.int .i64 x6), (AVal.int .i64 x7), (AVal.int .i64 x8), (AVal.int .i64 x9), (AVal.int .i64 x10), (AVal.sl true 0 [])]))]⟩ h
theorem P56_0_eq (d k : Nat) (i0 : Nat) (f1 : Bool) (l2 : List AVal) (x3 : Int) (x4 : Int) (x5 : Int) (x6 : Int) (x7 : Int) (x8 : Int) (x9 : Int) (x10 : Int) (h : Heap) : P56_0 d (k + 1) i0 f1 l2 x3 x4 x5 x6 x7 x8 x9 x10 h =
  (bif (decide ((x4 : Int) < x3)) then
    (bif (decide ((0 : Int) ≤ x4) && decide ((x4 : Int) < (l2.length : Int))) then
      (aggK 5 (l2.getD (Int.toNat x4) AVal.undef) fun cc1 =>
        (bif ((cc1.length == 5) && true) then
          (optK (cc1[1]?) fun w2 =>
            (intK .i64 w2 fun y3 =>
              (bif ((y3 : Int) == 0) then
                (P56_0 d k i0 f1 l2 x3 (IntKind.i64.wrap (x4 + 1)) x5 x6 x7 x8 x9 x10 h)
              else
                (optK (cc1[0]?) fun w4 =>
                  (intK .i64 w4 fun y5 =>
                    (bif ((y5 : Int) == 1) then
                      (P56_0 d k i0 f1 l2 x3 (IntKind.i64.wrap (x4 + 1)) x5 x6 x7 x8 x9 x10 h)
                    else
                      (optK (cc1[1]?) fun w6 =>
                        (intK .i64 w6 fun y7 =>
                          (bif (decide ((y7 : Int) < 0)) then
                            (Tr.ret ([(AVal.agg [AVal.nilp, (AVal.int .i64 0), (AVal.int .i64 0), (AVal.int .i64 0), (AVal.int .i64 0), (AVal.int .i64 0), (AVal.int .i64 0), (AVal.sl true 0 [])]), (AVal.int .i64 12)], h))
                          else
                            (optK (cc1[1]?) fun w8 =>
                              (intK .i64 w8 fun y9 =>
                                (bif (decide ((y9 : Int) > 3)) then
                                  (Tr.ret ([(AVal.agg [AVal.nilp, (AVal.int .i64 0), (AVal.int .i64 0), (AVal.int .i64 0), (AVal.int .i64 0), (AVal.int .i64 0), (AVal.int .i64 0), (AVal.sl true 0 [])]), (AVal.int .i64 12)], h))
                                else
                                  (optK (cc1[2]?) fun w10 =>
                                    (intK .i64 w10 fun y11 =>
                                      (bif (decide ((y11 : Int) < 1)) then
                                        (Tr.ret ([(AVal.agg [AVal.nilp, (AVal.int .i64 0), (AVal.int .i64 0), (AVal.int .i64 0), (AVal.int .i64 0), (AVal.int .i64 0), (AVal.int .i64 0), (AVal.sl true 0 [])]), (AVal.int .i64 12)], h))
                                      else
                                        (bif decide (0 + 5 ≤ cc1.length) then
                                          (runK (evFn Cw d 94 [(AVal.obj i0 0), (AVal.agg ((cc1.drop 0).take 5))] h) fun r12 h12 =>
                                            (consK r12 fun w13 ws14 =>
                                              (boolK w13 fun bb15 =>
                                                (nilK ws14
                                                  (bif (!bb15) then
                                                    (Tr.ret ([(AVal.agg [AVal.nilp, (AVal.int .i64 0), (AVal.int .i64 0), (AVal.int .i64 0), (AVal.int .i64 0), (AVal.int .i64 0), (AVal.int .i64 0), (AVal.sl true 0 [])]), (AVal.int .i64 12)], h12))
                                                  else
                                                    (P56_0 d k i0 f1 l2 x3 (IntKind.i64.wrap (x4 + 1)) x5 x6 x7 x8 x9 x10 h12))))))
                                        else
                                          Tr.fail))))))))))))))))
        else
          Tr.fail))
    else
      Tr.fail)
  else
    (optK (Heap.cells? h i0 0 8) fun cc16 =>
      (bif (cc16.length == 8) then
        (bif ((cc16.length == 8) && true) then
          (bif decide (0 + 8 ≤ cc16.length) then (Tr.ret ([(AVal.agg ((cc16.drop 0).take 8)), (AVal.int .i64 0)], h)) else Tr.fail)
        else
          Tr.fail)
      else
        Tr.fail))) := by kernel_rfl
theorem F56_eq (d : Nat) (f0 : Bool) (l1 : List AVal) (h : Heap) : evFn Cw (d + 1) 56 [(AVal.sl f0 6 l1)] h =
  (runK (evFn Cw d 29 [] h) fun r1 h1 =>
    (consK r1 fun w2 ws3 =>
      (nilK ws3
        (bif (((!(AVal.isAgg w2)) && true) && true) then
          (putCellsK (Heap.push h1 (Go.Weave.Obj.cells ([AVal.nilp, (AVal.int .i64 0), (AVal.int .i64 0), (AVal.int .i64 0), (AVal.int .i64 0), (AVal.int .i64 0), (AVal.int .i64 0), (AVal.sl true 0 [])].map HCell.val))) h1.objs.length 0 8 [w2, (AVal.int .i64 0), (AVal.int .i64 0), (AVal.int .i64 0), (AVal.int .i64 0), (AVal.int .i64 0), (AVal.int .i64 0), (AVal.sl true 0 [])] fun h4 =>
            (P56_0 d rounds h1.objs.length f0 l1 (l1.length : Int) 0 0 0 0 0 0 0 h4))
        else
          Tr.fail)))) := by kernel_rfl
/- f58 strandline/loser.Losers -/
noncomputable def P58_0 (d k : Nat) (l0 : List AVal) (x1 : Int) (x2 : Int) (x3 : Int) (x4 : Int) (x5 : Int) (h : Heap) : Tr Res :=
  loopPt Cw d 58 [true, true, false, true, true] [] k ⟨[(3, (EV.one (SV.own (tokOf 3 0) 0 l0))), (7, (EV.one (SV.val (AVal.agg [(AVal.int .i64 x1), (AVal.int .i64 x2), (AVal.int .i64 x3), (AVal.int .i64 x4)])))), (8, (EV.one (SV.val (AVal.int .i64 x5))))], []⟩ h
theorem P58_0_eq (d k : Nat) (l0 : List AVal) (x1 : Int) (x2 : Int) (x3 : Int) (x4 : Int) (x5 : Int) (h : Heap) : P58_0 d (k + 1) l0 x1 x2 x3 x4 x5 h =
  (bif (decide ((x5 : Int) < 4)) then
    (bif (decide ((0 : Int) ≤ x5) && decide ((x5 : Int) < 4)) then
      (optK ([(AVal.int .i64 x1), (AVal.int .i64 x2), (AVal.int .i64 x3), (AVal.int .i64 x4)][((Int.toNat x5) * 1)]?) fun w1 =>
        (intK .i64 w1 fun y2 =>
          (bif ((y2 : Int) != 0) then
            (bif decide ((l0.length + (1 : Nat)) * 8 ≤ 140737488355328) then (P58_0 d k (l0 ++ [(AVal.int .i64 x5)]) x1 x2 x3 x4 (IntKind.i64.wrap (x5 + 1)) h) else Tr.fail)
          else
            (P58_0 d k l0 x1 x2 x3 x4 (IntKind.i64.wrap (x5 + 1)) h))))
    else
      Tr.fail)
  else
    (Tr.ret ([(AVal.sl false 0 l0)], h))) := by kernel_rfl
theorem F58_eq (d : Nat) (v0 : AVal) (x1 : Int) (x2 : Int) (x3 : Int) (x4 : Int) (x5 : Int) (x6 : Int) (f7 : Bool) (l8 : List AVal) (h : Heap) : evFn Cw (d + 1) 58 [(AVal.agg [v0, (AVal.int .i64 x1), (AVal.int .i64 x2), (AVal.int .i64 x3), (AVal.int .i64 x4), (AVal.int .i64 x5), (AVal.int .i64 x6), (AVal.sl f7 0 l8)])] h =
  (P58_0 d rounds [] x1 x2 x3 x4 0 h) := by kernel_rfl
/- f55 strandline/strandlinelaw45.awake -/
theorem F55_eq (d : Nat) (h : Heap) : evFn Cw (d + 1) 55 [] h =
  (runK (evFn Cw d 93 [(AVal.agg [(AVal.str [97]), (AVal.bool false), (AVal.bool true), (AVal.str []), (AVal.str [120]), (AVal.int .i64 0)])] h) fun r1 h1 =>
    (consK r1 fun w2 ws3 =>
      (slOK 0 w2 fun es4 =>
        (nilK ws3
          (runK (evFn Cw d 56 [(AVal.sl true 6 [(AVal.agg [(AVal.int .i64 5), (AVal.int .i64 2), (AVal.int .i64 1), (AVal.int .i64 0), (AVal.sl true 0 [])]), (AVal.agg [(AVal.int .i64 6), (AVal.int .i64 2), (AVal.int .i64 2), (AVal.int .i64 1), (AVal.sl false 0 es4)])])] h1) fun r5 h5 =>
            (consK r5 fun w6 ws7 =>
              (aggK 8 w6 fun cc8 =>
                (consK ws7 fun w9 ws10 =>
                  (intK .i64 w9 fun y11 =>
                    (nilK ws10
                      (bif ((cc8.length == 8) && true) then
                        (bif ((y11 : Int) == 0) then
                          (optK (cc8[0]?) fun w12 =>
                            (runK (evFn Cw d 33 [w12] h5) fun r13 h13 =>
                              (consK r13 fun w14 ws15 =>
                                (intK .i64 w14 fun y16 =>
                                  (nilK ws15
                                    (bif ((y16 : Int) == 1) then
                                      (bif decide (1 + 4 ≤ cc8.length) then
                                        (bif ((arrOk Cw.P 4 3 (AVal.agg ((cc8.drop 1).take 4))) && true) then
                                          (bif (eqCells ((cc8.drop 1).take 4) [(AVal.int .i64 0), (AVal.int .i64 0), (AVal.int .i64 2), (AVal.int .i64 0)]) then
                                            (bif decide (0 + 8 ≤ cc8.length) then
                                              (runK (evFn Cw d 58 [(AVal.agg ((cc8.drop 0).take 8))] h13) fun r17 h17 =>
                                                (consK r17 fun w18 ws19 =>
                                                  (slOK 0 w18 fun es20 =>
                                                    (nilK ws19
                                                      (Tr.ret ([(AVal.bool (((es20.length : Int) : Int) == 1))], h17))))))
                                            else
                                              Tr.fail)
                                          else
                                            (Tr.ret ([(AVal.bool false)], h13)))
                                        else
                                          Tr.fail)
                                      else
                                        Tr.fail)
                                    else
                                      (Tr.ret ([(AVal.bool false)], h13))))))))
                        else
                          (Tr.ret ([(AVal.bool false)], h5)))
                      else
                        Tr.fail))))))))))) := by kernel_rfl
/- f96 strandline/strandlineref45.Change -/
theorem F96_eq (d : Nat) (f0 : Bool) (l1 : List AVal) (s2 : List UInt8) (b3 : Bool) (b4 : Bool) (s5 : List UInt8) (s6 : List UInt8) (x7 : Int) (h : Heap) : evFn Cw (d + 1) 96 [(AVal.sl f0 3 l1), (AVal.agg [(AVal.str s2), (AVal.bool b3), (AVal.bool b4), (AVal.str s5), (AVal.str s6), (AVal.int .i64 x7)])] h =
  (runK (evFn Cw d 26 [(AVal.sl f0 3 l1), (AVal.str s2)] h) fun r1 h1 =>
    (consK r1 fun w2 ws3 =>
      (strK w2 fun ss4 =>
        (consK ws3 fun w5 ws6 =>
          (boolK w5 fun bb7 =>
            (nilK ws6
              (bif (!(bb7 == b3)) then
                (Tr.ret ([(AVal.sl f0 3 l1), (AVal.bool false)], h1))
              else
                (bif (!(ss4 == s5)) then
                  (Tr.ret ([(AVal.sl f0 3 l1), (AVal.bool false)], h1))
                else
                  (bif b4 then
                    (runK (evFn Cw d 22 [(AVal.sl f0 3 l1), (AVal.str s2), (AVal.str s6)] h1) fun r8 h8 =>
                      (consK r8 fun w9 ws10 =>
                        (slOK 3 w9 fun es11 =>
                          (nilK ws10
                            (Tr.ret ([(AVal.sl false 3 es11), (AVal.bool true)], h8))))))
                  else
                    (runK (evFn Cw d 24 [(AVal.sl f0 3 l1), (AVal.str s2)] h1) fun r12 h12 =>
                      (consK r12 fun w13 ws14 =>
                        (slOK 3 w13 fun es15 =>
                          (nilK ws14
                            (Tr.ret ([(AVal.sl false 3 es15), (AVal.bool true)], h12))))))))))))))) := by kernel_rfl
/- f57 strandline/strandlineref45.Analyze -/
noncomputable def P57_0 (d k : Nat) (f0 : Bool) (l1 : List AVal) (i2 : Nat) (x3 : Int) (l4 : List AVal) (x5 : Int) (x6 : Int) (x7 : Int) (x8 : Int) (x9 : Int) (x10 : Int) (h : Heap) : Tr Res :=
  loopPt Cw d 57 [true, true, false, true, true] [] k ⟨[(0, (EV.one (SV.val (AVal.sl f0 6 l1)))), (2, (EV.one (SV.loc 2 0))), (4, (EV.one (SV.val (AVal.obj i2 0)))), (5, (EV.one (SV.val (AVal.int .i64 x3))))], [(2, (Box.plain [(AVal.sl true 3 l4), (AVal.int .i64 x5), (AVal.int .i64 x6), (AVal.int .i64 x7), (AVal.int .i64 x8), (AVal.int .i64 x9), (AVal.int .i64 x10), (AVal.sl true 0 [])]))]⟩ h
noncomputable def P57_1 (d n0 : Nat) (f0 : Bool) (l1 : List AVal) (i2 : Nat) (x3 : Int) (l4 : List AVal) (x5 : Int) (x6 : Int) (x7 : Int) (x8 : Int) (x9 : Int) (x10 : Int) (c11 : List AVal) (h : Heap) : Tr Res :=
  heldPt Cw d 57 [true, true, false, true, true, true, true, false, true, true, true, true, true] [n0] ⟨[(0, (EV.one (SV.val (AVal.sl f0 6 l1)))), (2, (EV.one (SV.loc 2 0))), (4, (EV.one (SV.val (AVal.obj i2 0)))), (5, (EV.one (SV.val (AVal.int .i64 x3)))), (6, (EV.one (SV.loc 6 0)))], [(2, (Box.plain [(AVal.sl true 3 l4), (AVal.int .i64 x5), (AVal.int .i64 x6), (AVal.int .i64 x7), (AVal.int .i64 x8), (AVal.int .i64 x9), (AVal.int .i64 x10), (AVal.sl true 0 [])])), (6, (Box.plain c11))]⟩ h
theorem P57_0_eq (d k : Nat) (f0 : Bool) (l1 : List AVal) (i2 : Nat) (x3 : Int) (l4 : List AVal) (x5 : Int) (x6 : Int) (x7 : Int) (x8 : Int) (x9 : Int) (x10 : Int) (h : Heap) : P57_0 d (k + 1) f0 l1 i2 x3 l4 x5 x6 x7 x8 x9 x10 h =
  (bif (decide ((x3 : Int) < (l1.length : Int))) then
    (bif (decide ((0 : Int) ≤ x3) && decide ((x3 : Int) < (l1.length : Int))) then
      (aggK 5 (l1.getD (Int.toNat x3) AVal.undef) fun cc1 =>
        (bif ((cc1.length == 5) && true) then
          (optK (cc1[1]?) fun w2 =>
            (intK .i64 w2 fun y3 =>
              (bif ((y3 : Int) == 0) then
                (P57_0 d k f0 l1 i2 (IntKind.i64.wrap (x3 + 1)) l4 x5 x6 x7 x8 x9 x10 h)
              else
                (optK (cc1[0]?) fun w4 =>
                  (intK .i64 w4 fun y5 =>
                    (bif ((y5 : Int) == 1) then
                      (P57_0 d k f0 l1 i2 (IntKind.i64.wrap (x3 + 1)) l4 x5 x6 x7 x8 x9 x10 h)
                    else
                      (optK (cc1[1]?) fun w6 =>
                        (intK .i64 w6 fun y7 =>
                          (bif (decide ((y7 : Int) < 0)) then
                            (Tr.ret ([(AVal.agg [(AVal.sl true 3 []), (AVal.int .i64 0), (AVal.int .i64 0), (AVal.int .i64 0), (AVal.int .i64 0), (AVal.int .i64 0), (AVal.int .i64 0), (AVal.sl true 0 [])]), (AVal.int .i64 12)], h))
                          else
                            (optK (cc1[1]?) fun w8 =>
                              (intK .i64 w8 fun y9 =>
                                (bif (decide ((y9 : Int) > 3)) then
                                  (Tr.ret ([(AVal.agg [(AVal.sl true 3 []), (AVal.int .i64 0), (AVal.int .i64 0), (AVal.int .i64 0), (AVal.int .i64 0), (AVal.int .i64 0), (AVal.int .i64 0), (AVal.sl true 0 [])]), (AVal.int .i64 12)], h))
                                else
                                  (optK (cc1[0]?) fun w10 =>
                                    (intK .i64 w10 fun y11 =>
                                      (bif (decide ((y11 : Int) < 5)) then
                                        (Tr.ret ([(AVal.agg [(AVal.sl true 3 []), (AVal.int .i64 0), (AVal.int .i64 0), (AVal.int .i64 0), (AVal.int .i64 0), (AVal.int .i64 0), (AVal.int .i64 0), (AVal.sl true 0 [])]), (AVal.int .i64 12)], h))
                                      else
                                        (optK (cc1[0]?) fun w12 =>
                                          (intK .i64 w12 fun y13 =>
                                            (bif (decide ((y13 : Int) > 9)) then
                                              (Tr.ret ([(AVal.agg [(AVal.sl true 3 []), (AVal.int .i64 0), (AVal.int .i64 0), (AVal.int .i64 0), (AVal.int .i64 0), (AVal.int .i64 0), (AVal.int .i64 0), (AVal.sl true 0 [])]), (AVal.int .i64 12)], h))
                                            else
                                              (optK (cc1[2]?) fun w14 =>
                                                (intK .i64 w14 fun y15 =>
                                                  (bif (decide ((y15 : Int) < 1)) then
                                                    (Tr.ret ([(AVal.agg [(AVal.sl true 3 []), (AVal.int .i64 0), (AVal.int .i64 0), (AVal.int .i64 0), (AVal.int .i64 0), (AVal.int .i64 0), (AVal.int .i64 0), (AVal.sl true 0 [])]), (AVal.int .i64 12)], h))
                                                  else
                                                    (optK (cc1[0]?) fun w16 =>
                                                      (intK .i64 w16 fun y17 =>
                                                        (optK (cc1[1]?) fun w18 =>
                                                          (intK .i64 w18 fun y19 =>
                                                            (bif (decide ((0 : Int) ≤ y19) && decide ((y19 : Int) < 4)) then
                                                              (optK (Heap.cell? h i2 (1 + ((Int.toNat y19) * 1))) fun z20 =>
                                                                (intK .i64 (HCell.toA z20) fun y21 =>
                                                                  (bif (!(((y17 : Int) == 5) == ((y21 : Int) == 0))) then
                                                                    (Tr.ret ([(AVal.agg [(AVal.sl true 3 []), (AVal.int .i64 0), (AVal.int .i64 0), (AVal.int .i64 0), (AVal.int .i64 0), (AVal.int .i64 0), (AVal.int .i64 0), (AVal.sl true 0 [])]), (AVal.int .i64 12)], h))
                                                                  else
                                                                    (optK (cc1[0]?) fun w22 =>
                                                                      (intK .i64 w22 fun y23 =>
                                                                        (bif ((y23 : Int) == 6) then
                                                                          (optK (cc1[4]?) fun w24 =>
                                                                            (slK 0 w24 fun fl25 es26 =>
                                                                              (runK (evFn Cw d 95 [(AVal.sl fl25 0 es26)] h) fun r27 h27 =>
                                                                                (consK r27 fun w28 ws29 =>
                                                                                  (aggK 6 w28 fun cc30 =>
                                                                                    (consK ws29 fun w31 ws32 =>
                                                                                      (intK .i64 w31 fun y33 =>
                                                                                        (nilK ws32
                                                                                          (bif ((cc30.length == 6) && true) then
                                                                                            (optK (Heap.cell? h27 i2 0) fun z34 =>
                                                                                              (slK 3 (HCell.toA z34) fun _ es35 =>
                                                                                                (bif decide (0 + 6 ≤ cc30.length) then
                                                                                                  (runK (evFn Cw d 96 [(AVal.sl false 3 es35), (AVal.agg ((cc30.drop 0).take 6))] h27) fun r36 h36 =>
                                                                                                    (consK r36 fun w37 ws38 =>
                                                                                                      (slK 3 w37 fun fl39 es40 =>
                                                                                                        (consK ws38 fun w41 ws42 =>
                                                                                                          (boolK w41 fun bb43 =>
                                                                                                            (nilK ws42
                                                                                                              (bif ((y33 : Int) != 0) then
                                                                                                                (Tr.ret ([(AVal.agg [(AVal.sl true 3 []), (AVal.int .i64 0), (AVal.int .i64 0), (AVal.int .i64 0), (AVal.int .i64 0), (AVal.int .i64 0), (AVal.int .i64 0), (AVal.sl true 0 [])]), (AVal.int .i64 12)], h36))
                                                                                                              else
                                                                                                                (bif (!bb43) then
                                                                                                                  (Tr.ret ([(AVal.agg [(AVal.sl true 3 []), (AVal.int .i64 0), (AVal.int .i64 0), (AVal.int .i64 0), (AVal.int .i64 0), (AVal.int .i64 0), (AVal.int .i64 0), (AVal.sl true 0 [])]), (AVal.int .i64 12)], h36))
                                                                                                                else
                                                                                                                  (optK (Heap.cell? h36 i2 0) fun _ =>
                                                                                                                    (P57_1 d k f0 l1 i2 x3 l4 x5 x6 x7 x8 x9 x10 cc1 (Heap.setCell h36 i2 0 (HCell.val (AVal.sl fl39 3 es40)))))))))))))
                                                                                                else
                                                                                                  Tr.fail)))
                                                                                          else
                                                                                            Tr.fail)))))))))
                                                                        else
                                                                          (optK (cc1[0]?) fun w44 =>
                                                                            (intK .i64 w44 fun y45 =>
                                                                              (bif ((y45 : Int) == 7) then
                                                                                (optK (cc1[4]?) fun w46 =>
                                                                                  (slK 0 w46 fun fl47 es48 =>
                                                                                    (runK (evFn Cw d 95 [(AVal.sl fl47 0 es48)] h) fun r49 h49 =>
                                                                                      (consK r49 fun w50 ws51 =>
                                                                                        (aggK 6 w50 fun cc52 =>
                                                                                          (consK ws51 fun w53 ws54 =>
                                                                                            (intK .i64 w53 fun y55 =>
                                                                                              (nilK ws54
                                                                                                (bif ((cc52.length == 6) && true) then
                                                                                                  (optK (Heap.cell? h49 i2 0) fun z56 =>
                                                                                                    (slK 3 (HCell.toA z56) fun _ es57 =>
                                                                                                      (bif decide (0 + 6 ≤ cc52.length) then
                                                                                                        (runK (evFn Cw d 96 [(AVal.sl false 3 es57), (AVal.agg ((cc52.drop 0).take 6))] h49) fun r58 h58 =>
                                                                                                          (consK r58 fun w59 ws60 =>
                                                                                                            (slK 3 w59 fun fl61 es62 =>
                                                                                                              (consK ws60 fun w63 ws64 =>
                                                                                                                (boolK w63 fun bb65 =>
                                                                                                                  (nilK ws64
                                                                                                                    (bif ((y55 : Int) != 0) then
                                                                                                                      (Tr.ret ([(AVal.agg [(AVal.sl true 3 []), (AVal.int .i64 0), (AVal.int .i64 0), (AVal.int .i64 0), (AVal.int .i64 0), (AVal.int .i64 0), (AVal.int .i64 0), (AVal.sl true 0 [])]), (AVal.int .i64 12)], h58))
                                                                                                                    else
                                                                                                                      (bif (!bb65) then
                                                                                                                        (Tr.ret ([(AVal.agg [(AVal.sl true 3 []), (AVal.int .i64 0), (AVal.int .i64 0), (AVal.int .i64 0), (AVal.int .i64 0), (AVal.int .i64 0), (AVal.int .i64 0), (AVal.sl true 0 [])]), (AVal.int .i64 12)], h58))
                                                                                                                      else
                                                                                                                        (optK (Heap.cell? h58 i2 0) fun _ =>
                                                                                                                          (P57_1 d k f0 l1 i2 x3 l4 x5 x6 x7 x8 x9 x10 cc1 (Heap.setCell h58 i2 0 (HCell.val (AVal.sl fl61 3 es62)))))))))))))
                                                                                                      else
                                                                                                        Tr.fail)))
                                                                                                else
                                                                                                  Tr.fail)))))))))
                                                                              else
                                                                                (P57_1 d k f0 l1 i2 x3 l4 x5 x6 x7 x8 x9 x10 cc1 h))))))))))
                                                            else
                                                              Tr.fail))))))))))))))))))))))))))
        else
          Tr.fail))
    else
      Tr.fail)
  else
    (optK (Heap.cells? h i2 0 8) fun cc66 =>
      (bif (cc66.length == 8) then
        (bif ((cc66.length == 8) && true) then
          (bif decide (0 + 8 ≤ cc66.length) then (Tr.ret ([(AVal.agg ((cc66.drop 0).take 8)), (AVal.int .i64 0)], h)) else Tr.fail)
        else
          Tr.fail)
      else
        Tr.fail))) := by kernel_rfl
theorem P57_1_eq (d n0 : Nat) (f0 : Bool) (l1 : List AVal) (i2 : Nat) (x3 : Int) (l4 : List AVal) (x5 : Int) (x6 : Int) (x7 : Int) (x8 : Int) (x9 : Int) (x10 : Int) (c11 : List AVal) (h : Heap) : P57_1 d n0 f0 l1 i2 x3 l4 x5 x6 x7 x8 x9 x10 c11 h =
  (optK (c11[1]?) fun w1 =>
    (intK .i64 w1 fun y2 =>
      (optK (c11[2]?) fun w3 =>
        (intK .i64 w3 fun y4 =>
          (bif (decide ((0 : Int) ≤ y2) && decide ((y2 : Int) < 4)) then
            (optK (Heap.cell? h i2 (1 + ((Int.toNat y2) * 1))) fun _ =>
              (optK (c11[0]?) fun w5 =>
                (intK .i64 w5 fun y6 =>
                  (bif ((y6 : Int) == 8) then
                    (optK (Heap.cell? (Heap.setCell h i2 (1 + ((Int.toNat y2) * 1)) (HCell.val (AVal.int .i64 y4))) i2 5) fun z7 =>
                      (intK .i64 (HCell.toA z7) fun y8 =>
                        (optK (Heap.cell? (Heap.setCell h i2 (1 + ((Int.toNat y2) * 1)) (HCell.val (AVal.int .i64 y4))) i2 5) fun _ =>
                          (optK (Heap.cell? (Heap.setCell (Heap.setCell h i2 (1 + ((Int.toNat y2) * 1)) (HCell.val (AVal.int .i64 y4))) i2 5 (HCell.val (AVal.int .i64 (IntKind.i64.wrap (y8 + 1))))) i2 7) fun z9 =>
                            (slK 0 (HCell.toA z9) fun _ es10 =>
                              (optK (c11[2]?) fun w11 =>
                                (intK .i64 w11 fun y12 =>
                                  (bif decide ((es10.length + (1 : Nat)) * 8 ≤ 140737488355328) then
                                    (lentK (Heap.setCell (Heap.setCell h i2 (1 + ((Int.toNat y2) * 1)) (HCell.val (AVal.int .i64 y4))) i2 5 (HCell.val (AVal.int .i64 (IntKind.i64.wrap (y8 + 1))))) i2 7 0 es10 fun h13 =>
                                      (optK (Heap.cell? h13 i2 7) fun _ =>
                                        (optK (c11[1]?) fun w14 =>
                                          (intK .i64 w14 fun y15 =>
                                            (bif (decide ((0 : Int) ≤ y15) && decide ((y15 : Int) < 4)) then
                                              (optK (Heap.cell? (Heap.setCell h13 i2 7 (HCell.own 0 (es10 ++ [(AVal.int .i64 y12)]))) i2 (1 + ((Int.toNat y15) * 1))) fun _ =>
                                                (optK (c11[0]?) fun w16 =>
                                                  (intK .i64 w16 fun y17 =>
                                                    (bif ((y17 : Int) == 9) then
                                                      (optK (Heap.cell? (Heap.setCell (Heap.setCell h13 i2 7 (HCell.own 0 (es10 ++ [(AVal.int .i64 y12)]))) i2 (1 + ((Int.toNat y15) * 1)) (HCell.val (AVal.int .i64 0))) i2 6) fun z18 =>
                                                        (intK .i64 (HCell.toA z18) fun y19 =>
                                                          (optK (Heap.cell? (Heap.setCell (Heap.setCell h13 i2 7 (HCell.own 0 (es10 ++ [(AVal.int .i64 y12)]))) i2 (1 + ((Int.toNat y15) * 1)) (HCell.val (AVal.int .i64 0))) i2 6) fun _ =>
                                                            (optK (c11[1]?) fun w20 =>
                                                              (intK .i64 w20 fun y21 =>
                                                                (bif (decide ((0 : Int) ≤ y21) && decide ((y21 : Int) < 4)) then
                                                                  (optK (Heap.cell? (Heap.setCell (Heap.setCell (Heap.setCell h13 i2 7 (HCell.own 0 (es10 ++ [(AVal.int .i64 y12)]))) i2 (1 + ((Int.toNat y15) * 1)) (HCell.val (AVal.int .i64 0))) i2 6 (HCell.val (AVal.int .i64 (IntKind.i64.wrap (y19 + 1))))) i2 (1 + ((Int.toNat y21) * 1))) fun _ =>
                                                                    (P57_0 d n0 f0 l1 i2 (IntKind.i64.wrap (x3 + 1)) l4 x5 x6 x7 x8 x9 x10 (Heap.setCell (Heap.setCell (Heap.setCell (Heap.setCell h13 i2 7 (HCell.own 0 (es10 ++ [(AVal.int .i64 y12)]))) i2 (1 + ((Int.toNat y15) * 1)) (HCell.val (AVal.int .i64 0))) i2 6 (HCell.val (AVal.int .i64 (IntKind.i64.wrap (y19 + 1))))) i2 (1 + ((Int.toNat y21) * 1)) (HCell.val (AVal.int .i64 0)))))
                                                                else
                                                                  Tr.fail))))))
                                                    else
                                                      (P57_0 d n0 f0 l1 i2 (IntKind.i64.wrap (x3 + 1)) l4 x5 x6 x7 x8 x9 x10 (Heap.setCell (Heap.setCell h13 i2 7 (HCell.own 0 (es10 ++ [(AVal.int .i64 y12)]))) i2 (1 + ((Int.toNat y15) * 1)) (HCell.val (AVal.int .i64 0))))))))
                                            else
                                              Tr.fail)))))
                                  else
                                    Tr.fail))))))))
                  else
                    (optK (c11[0]?) fun w22 =>
                      (intK .i64 w22 fun y23 =>
                        (bif ((y23 : Int) == 9) then
                          (optK (Heap.cell? (Heap.setCell h i2 (1 + ((Int.toNat y2) * 1)) (HCell.val (AVal.int .i64 y4))) i2 6) fun z24 =>
                            (intK .i64 (HCell.toA z24) fun y25 =>
                              (optK (Heap.cell? (Heap.setCell h i2 (1 + ((Int.toNat y2) * 1)) (HCell.val (AVal.int .i64 y4))) i2 6) fun _ =>
                                (optK (c11[1]?) fun w26 =>
                                  (intK .i64 w26 fun y27 =>
                                    (bif (decide ((0 : Int) ≤ y27) && decide ((y27 : Int) < 4)) then
                                      (optK (Heap.cell? (Heap.setCell (Heap.setCell h i2 (1 + ((Int.toNat y2) * 1)) (HCell.val (AVal.int .i64 y4))) i2 6 (HCell.val (AVal.int .i64 (IntKind.i64.wrap (y25 + 1))))) i2 (1 + ((Int.toNat y27) * 1))) fun _ =>
                                        (P57_0 d n0 f0 l1 i2 (IntKind.i64.wrap (x3 + 1)) l4 x5 x6 x7 x8 x9 x10 (Heap.setCell (Heap.setCell (Heap.setCell h i2 (1 + ((Int.toNat y2) * 1)) (HCell.val (AVal.int .i64 y4))) i2 6 (HCell.val (AVal.int .i64 (IntKind.i64.wrap (y25 + 1))))) i2 (1 + ((Int.toNat y27) * 1)) (HCell.val (AVal.int .i64 0)))))
                                    else
                                      Tr.fail))))))
                        else
                          (P57_0 d n0 f0 l1 i2 (IntKind.i64.wrap (x3 + 1)) l4 x5 x6 x7 x8 x9 x10 (Heap.setCell h i2 (1 + ((Int.toNat y2) * 1)) (HCell.val (AVal.int .i64 y4)))))))))))
          else
            Tr.fail))))) := (heldPt_eq _ _ _ _ _ _ _).trans (by kernel_rfl)
theorem F57_eq (d : Nat) (f0 : Bool) (l1 : List AVal) (h : Heap) : evFn Cw (d + 1) 57 [(AVal.sl f0 6 l1)] h =
  (putCellsK (Heap.push h (Go.Weave.Obj.cells ([(AVal.sl true 3 []), (AVal.int .i64 0), (AVal.int .i64 0), (AVal.int .i64 0), (AVal.int .i64 0), (AVal.int .i64 0), (AVal.int .i64 0), (AVal.sl true 0 [])].map HCell.val))) h.objs.length 0 8 [(AVal.sl true 3 []), (AVal.int .i64 0), (AVal.int .i64 0), (AVal.int .i64 0), (AVal.int .i64 0), (AVal.int .i64 0), (AVal.int .i64 0), (AVal.sl true 0 [])] fun h1 =>
    (P57_0 d rounds f0 l1 h.objs.length 0 [] 0 0 0 0 0 0 h1)) := by kernel_rfl
/- f8 strandline/strandlinelaw45.LoserTells -/
noncomputable def P8_0 (d k : Nat) (x0 : Int) (c1 : List AVal) (c2 : List AVal) (h : Heap) : Tr Res :=
  loopPt Cw d 8 [true, true, true, true, true, false, true, true] [] k ⟨[(3, (EV.one (SV.loc 3 0))), (5, (EV.one (SV.loc 5 0))), (7, (EV.one (SV.val (AVal.int .i64 x0))))], [(3, (Box.plain c1)), (5, (Box.plain c2))]⟩ h
noncomputable def P8_1 (d k : Nat) (l0 : List AVal) (x1 : Int) (x2 : Int) (c3 : List AVal) (h : Heap) : Tr Res :=
  loopPt Cw d 8 [true, true, true, true, true, true, true, true, false, true, true] [] k ⟨[(5, (EV.one (SV.loc 5 0))), (8, (EV.one (SV.own (tokOf 8 0) 0 l0))), (9, (EV.one (SV.val (AVal.int .i64 x1)))), (10, (EV.one (SV.val (AVal.int .i64 x2))))], [(5, (Box.plain c3))]⟩ h
theorem P8_0_eq (d k : Nat) (x0 : Int) (c1 : List AVal) (c2 : List AVal) (h : Heap) : P8_0 d (k + 1) x0 c1 c2 h =
  (optK (c1[7]?) fun w1 =>
    (slK 0 w1 fun fl2 es3 =>
      (bif (decide ((x0 : Int) < (es3.length : Int))) then
        (optK (c1[7]?) fun w4 =>
          (slK 0 w4 fun fl5 es6 =>
            (bif (decide ((0 : Int) ≤ x0) && decide ((x0 : Int) < (es6.length : Int))) then
              (intK .i64 (es6.getD (Int.toNat x0) AVal.undef) fun y7 =>
                (optK (c2[7]?) fun w8 =>
                  (slK 0 w8 fun fl9 es10 =>
                    (bif (decide ((0 : Int) ≤ x0) && decide ((x0 : Int) < (es10.length : Int))) then
                      (intK .i64 (es10.getD (Int.toNat x0) AVal.undef) fun y11 =>
                        (bif ((y7 : Int) != y11) then (Tr.ret ([(AVal.bool false)], h)) else (P8_0 d k (IntKind.i64.wrap (x0 + 1)) c1 c2 h)))
                    else
                      Tr.fail))))
            else
              Tr.fail)))
      else
        (bif decide (0 + 8 ≤ c1.length) then
          (runK (evFn Cw d 58 [(AVal.agg ((c1.drop 0).take 8))] h) fun r12 h12 =>
            (consK r12 fun w13 ws14 =>
              (slOK 0 w13 fun es15 =>
                (nilK ws14
                  (P8_1 d rounds es15 0 0 c2 h12)))))
        else
          Tr.fail)))) := by kernel_rfl
theorem P8_1_eq (d k : Nat) (l0 : List AVal) (x1 : Int) (x2 : Int) (c3 : List AVal) (h : Heap) : P8_1 d (k + 1) l0 x1 x2 c3 h =
  (bif (decide ((x2 : Int) < 4)) then
    (bif (decide ((0 : Int) ≤ x2) && decide ((x2 : Int) < 4)) then
      (optK (c3[(1 + ((Int.toNat x2) * 1))]?) fun w1 =>
        (intK .i64 w1 fun y2 =>
          (bif ((y2 : Int) != 0) then
            (bif (decide ((x1 : Int) ≥ (l0.length : Int))) then
              (Tr.ret ([(AVal.bool false)], h))
            else
              (bif (decide ((0 : Int) ≤ x1) && decide ((x1 : Int) < (l0.length : Int))) then
                (intK .i64 (l0.getD (Int.toNat x1) AVal.undef) fun y3 =>
                  (bif ((y3 : Int) != x2) then (Tr.ret ([(AVal.bool false)], h)) else (P8_1 d k l0 (IntKind.i64.wrap (x1 + 1)) (IntKind.i64.wrap (x2 + 1)) c3 h)))
              else
                Tr.fail))
          else
            (P8_1 d k l0 x1 (IntKind.i64.wrap (x2 + 1)) c3 h))))
    else
      Tr.fail)
  else
    (bif ((x1 : Int) == (l0.length : Int)) then
      (runK (evFn Cw d 55 [] h) fun r4 h4 =>
        (consK r4 fun w5 ws6 =>
          (boolK w5 fun bb7 =>
            (nilK ws6
              (Tr.ret ([(AVal.bool bb7)], h4))))))
    else
      (Tr.ret ([(AVal.bool false)], h)))) := by kernel_rfl
theorem F8_eq (d : Nat) (f0 : Bool) (l1 : List AVal) (h : Heap) : evFn Cw (d + 1) 8 [(AVal.sl f0 6 l1)] h =
  (runK (evFn Cw d 54 [(AVal.sl f0 6 l1)] h) fun r1 h1 =>
    (consK r1 fun w2 ws3 =>
      (boolK w2 fun bb4 =>
        (nilK ws3
          (bif (!bb4) then
            (runK (evFn Cw d 55 [] h1) fun r5 h5 =>
              (consK r5 fun w6 ws7 =>
                (boolK w6 fun bb8 =>
                  (nilK ws7
                    (Tr.ret ([(AVal.bool bb8)], h5))))))
          else
            (runK (evFn Cw d 56 [(AVal.sl f0 6 l1)] h1) fun r9 h9 =>
              (consK r9 fun w10 ws11 =>
                (aggK 8 w10 fun cc12 =>
                  (consK ws11 fun w13 ws14 =>
                    (intK .i64 w13 fun y15 =>
                      (nilK ws14
                        (bif ((cc12.length == 8) && true) then
                          (runK (evFn Cw d 57 [(AVal.sl f0 6 l1)] h9) fun r16 h16 =>
                            (consK r16 fun w17 ws18 =>
                              (aggK 8 w17 fun cc19 =>
                                (consK ws18 fun w20 ws21 =>
                                  (intK .i64 w20 fun y22 =>
                                    (nilK ws21
                                      (bif ((cc19.length == 8) && true) then
                                        (bif ((y15 : Int) != y22) then
                                          (Tr.ret ([(AVal.bool false)], h16))
                                        else
                                          (bif decide (1 + 4 ≤ cc12.length) then
                                            (bif decide (1 + 4 ≤ cc19.length) then
                                              (bif ((arrOk Cw.P 4 3 (AVal.agg ((cc12.drop 1).take 4))) && (arrOk Cw.P 4 3 (AVal.agg ((cc19.drop 1).take 4)))) then
                                                (bif (!(eqCells ((cc12.drop 1).take 4) ((cc19.drop 1).take 4))) then
                                                  (Tr.ret ([(AVal.bool false)], h16))
                                                else
                                                  (optK (cc12[5]?) fun w23 =>
                                                    (intK .i64 w23 fun y24 =>
                                                      (optK (cc19[5]?) fun w25 =>
                                                        (intK .i64 w25 fun y26 =>
                                                          (bif ((y24 : Int) != y26) then
                                                            (Tr.ret ([(AVal.bool false)], h16))
                                                          else
                                                            (optK (cc12[6]?) fun w27 =>
                                                              (intK .i64 w27 fun y28 =>
                                                                (optK (cc19[6]?) fun w29 =>
                                                                  (intK .i64 w29 fun y30 =>
                                                                    (bif ((y28 : Int) != y30) then
                                                                      (Tr.ret ([(AVal.bool false)], h16))
                                                                    else
                                                                      (optK (cc12[7]?) fun w31 =>
                                                                        (slK 0 w31 fun fl32 es33 =>
                                                                          (optK (cc19[7]?) fun w34 =>
                                                                            (slK 0 w34 fun fl35 es36 =>
                                                                              (bif (((es33.length : Int) : Int) != (es36.length : Int)) then
                                                                                (Tr.ret ([(AVal.bool false)], h16))
                                                                              else
                                                                                (optK (cc12[0]?) fun w37 =>
                                                                                  (optK (cc19[0]?) fun w38 =>
                                                                                    (slK 3 w38 fun fl39 es40 =>
                                                                                      (runK (evFn Cw d 37 [w37] h16) fun r41 h41 =>
                                                                                        (consK r41 fun w42 ws43 =>
                                                                                          (slOK 3 w42 fun es44 =>
                                                                                            (nilK ws43
                                                                                              (runK (evFn Cw d 36 [(AVal.sl false 3 es44), (AVal.sl fl39 3 es40)] h41) fun r45 h45 =>
                                                                                                (consK r45 fun w46 ws47 =>
                                                                                                  (boolK w46 fun bb48 =>
                                                                                                    (nilK ws47
                                                                                                      (bif (!bb48) then
                                                                                                        (Tr.ret ([(AVal.bool false)], h45))
                                                                                                      else
                                                                                                        (optK (cc12[0]?) fun w49 =>
                                                                                                          (bif AVal.isPtr w49 then (bif (!((AVal.isNilp w49) == ((y15 : Int) != 0))) then (Tr.ret ([(AVal.bool false)], h45)) else (P8_0 d rounds 0 cc12 cc19 h45)) else Tr.fail))))))))))))))))))))))))))))))
                                              else
                                                Tr.fail)
                                            else
                                              Tr.fail)
                                          else
                                            Tr.fail))
                                      else
                                        Tr.fail)))))))
                        else
                          Tr.fail)))))))))))) := by kernel_rfl
end Go.Proofs.Ytdlcjibefbnckaa.Wa
end

section
/- Losers: in plain words; the state, a change, an end, a record, run. -/
namespace Go.Proofs.Ytdlcjibefbnckaa.Wa
open Go Go.Weave
set_option maxRecDepth 100000
set_option linter.unusedSimpArgs false
set_option linter.unusedVariables false
set_option linter.unusedSectionVars false

structure LS where
  tab : List KPair
  hd : List Int
  com : Nat
  und : Nat
  ends : List Int
noncomputable def lchange (tab : List KPair) (b : List UInt8) : Option (List KPair) :=
  if (cdec b).2 ≠ 0 then none else
  if (lget (cdec b).1.key tab).isSome ≠ (cdec b).1.was ∨ oVal (lget (cdec b).1.key tab) ≠ (cdec b).1.old then none else
  some (if (cdec b).1.is then lput (cdec b).1.key (cdec b).1.new tab else ldel (cdec b).1.key tab)
noncomputable def lsone (s : LS) (r : Rec) : Option LS :=
  if r.kind < 5 ∨ 9 < r.kind then none else
  if (r.kind == 5) ≠ (s.hd.getD r.chain.toNat 0 == 0) then none else
  if r.kind = 6 ∨ r.kind = 7 then (match lchange s.tab r.data with | none => none | some t => some ⟨t, s.hd.set r.chain.toNat r.lsn, s.com, s.und, s.ends⟩)
  else if r.kind = 8 then some ⟨s.tab, s.hd.set r.chain.toNat 0, s.com + 1, s.und, s.ends ++ [r.lsn]⟩
  else if r.kind = 9 then some ⟨s.tab, s.hd.set r.chain.toNat 0, s.com, s.und + 1, s.ends⟩
  else some ⟨s.tab, s.hd.set r.chain.toNat r.lsn, s.com, s.und, s.ends⟩
noncomputable def lstep (s : LS) (r : Rec) : Option LS :=
  if r.chain = 0 ∨ r.kind = 1 then some s else if r.chain < 0 ∨ 3 < r.chain ∨ r.lsn < 1 then none else lsone s r
noncomputable def lrun : LS → List Rec → Option LS
  | s, [] => some s
  | s, r :: l => match lstep s r with | none => none | some s' => lrun s' l
def lini : LS := ⟨[], [0, 0, 0, 0], 0, 0, []⟩
structure LInv (n : Nat) (s : LS) : Prop where
  srt : Srt s.tab
  len : s.tab.length ≤ n
  hd : s.hd.length = 4
  com : s.com ≤ n
  und : s.und ≤ n
  ends : s.ends.length ≤ n
theorem lini_inv : LInv 0 lini := ⟨List.Pairwise.nil, Nat.le_refl _, rfl, Nat.le_refl _, Nat.le_refl _, Nat.le_refl _⟩
theorem LInv.up {n : Nat} {s : LS} (I : LInv n s) : LInv (n + 1) s := ⟨I.srt, by have := I.len; omega, I.hd, by have := I.com; omega, by have := I.und; omega, by have := I.ends; omega⟩
theorem lchange_inv {tab t : List KPair} {b : List UInt8} (hs : Srt tab) (h : lchange tab b = some t) : Srt t ∧ t.length ≤ tab.length + 1 := by
  unfold lchange at h
  split at h
  · cases h
  · split at h
    · cases h
    · simp only [Option.some.injEq] at h
      subst h
      split
      · exact ⟨hs.put, lput_len_le hs⟩
      · exact ⟨hs.del, by have := ldel_len_le (cdec b).1.key tab; omega⟩
theorem lstep_inv {n : Nat} {s s' : LS} {r : Rec} (I : LInv n s) (h : lstep s r = some s') : LInv (n + 1) s' := by
  have hl := I.len
  have h1 := I.com
  have h2 := I.und
  have h3 := I.ends
  unfold lstep at h
  split at h
  · simp only [Option.some.injEq] at h; subst h; exact I.up
  · split at h
    · cases h
    · unfold lsone at h
      split at h
      · cases h
      · split at h
        · cases h
        · split at h
          · split at h
            · cases h
            · rename_i t ht
              obtain ⟨t1, t2⟩ := lchange_inv I.srt ht
              simp only [Option.some.injEq] at h; subst h
              exact ⟨t1, by simp only; omega, by simp [I.hd], by simp only; omega, by simp only; omega, by simp only; omega⟩
          · split at h
            · simp only [Option.some.injEq] at h; subst h
              exact ⟨I.srt, by simp only; omega, by simp [I.hd], by simp only; omega, by simp only; omega, by simp; omega⟩
            · split at h
              · simp only [Option.some.injEq] at h; subst h
                exact ⟨I.srt, by simp only; omega, by simp [I.hd], by simp only; omega, by simp only; omega, by simp only; omega⟩
              · simp only [Option.some.injEq] at h; subst h
                exact ⟨I.srt, by simp only; omega, by simp [I.hd], by simp only; omega, by simp only; omega, by simp only; omega⟩

/-! ### The state's cells -/
def lsO (c0 : HCell) (hd : List Int) (com und : Nat) (e : HCell) : Weave.Obj := .cells (c0 :: (hd.map (fun x => HCell.val (.int .i64 x)) ++ [HCell.val (.int .i64 com), HCell.val (.int .i64 und), e]))
def enOK (e : HCell) (l : List Int) : Prop := e = .own 0 (ints l) ∨ (e = .val (.sl true 0 []) ∧ l = [])
theorem enOK.toA {e : HCell} {l : List Int} (h : enOK e l) : ∃ f, e.toA = .sl f 0 (ints l) := by
  rcases h with rfl | ⟨rfl, rfl⟩
  · exact ⟨false, rfl⟩
  · exact ⟨true, rfl⟩
theorem four {hd : List Int} (h : hd.length = 4) : ∃ a b c d, hd = [a, b, c, d] := by
  match hd, h with
  | [a, b, c, d], _ => exact ⟨a, b, c, d, rfl⟩
section
variable {h : Heap} {i : Nat} {c0 : HCell} {hd : List Int} {com und : Nat} {e : HCell}
theorem ls_c0 (hm : h.objs[i]? = some (lsO c0 hd com und e)) : h.cell? i 0 = some c0 := by rw [Heap.cell_at hm]; rfl
theorem ls_hd (hm : h.objs[i]? = some (lsO c0 hd com und e)) (hl : hd.length = 4) {c : Nat} (hc : c < 4) : h.cell? i (1 + c * 1) = some (HCell.val (.int .i64 (hd.getD c 0))) := by
  obtain ⟨x, y, z, w, rfl⟩ := four hl
  rw [Heap.cell_at hm]
  match c, hc with
  | 0, _ => rfl
  | 1, _ => rfl
  | 2, _ => rfl
  | 3, _ => rfl
theorem ls_5 (hm : h.objs[i]? = some (lsO c0 hd com und e)) (hl : hd.length = 4) : h.cell? i 5 = some (HCell.val (.int .i64 com)) := by
  obtain ⟨x, y, z, w, rfl⟩ := four hl
  rw [Heap.cell_at hm]; rfl
theorem ls_6 (hm : h.objs[i]? = some (lsO c0 hd com und e)) (hl : hd.length = 4) : h.cell? i 6 = some (HCell.val (.int .i64 und)) := by
  obtain ⟨x, y, z, w, rfl⟩ := four hl
  rw [Heap.cell_at hm]; rfl
theorem ls_7 (hm : h.objs[i]? = some (lsO c0 hd com und e)) (hl : hd.length = 4) : h.cell? i 7 = some e := by
  obtain ⟨x, y, z, w, rfl⟩ := four hl
  rw [Heap.cell_at hm]; rfl
theorem ls_s0 (hm : h.objs[i]? = some (lsO c0 hd com und e)) {c0' : HCell} : h.setCell i 0 c0' = h.put i (lsO c0' hd com und e) := by rw [Heap.set_at hm]; rfl
theorem ls_shd (hm : h.objs[i]? = some (lsO c0 hd com und e)) (hl : hd.length = 4) {c : Nat} (hc : c < 4) {v : Int} : h.setCell i (1 + c * 1) (HCell.val (.int .i64 v)) = h.put i (lsO c0 (hd.set c v) com und e) := by
  obtain ⟨x, y, z, w, rfl⟩ := four hl
  rw [Heap.set_at hm]
  match c, hc with
  | 0, _ => rfl
  | 1, _ => rfl
  | 2, _ => rfl
  | 3, _ => rfl
theorem ls_s5 (hm : h.objs[i]? = some (lsO c0 hd com und e)) (hl : hd.length = 4) {v : Nat} : h.setCell i 5 (HCell.val (.int .i64 v)) = h.put i (lsO c0 hd v und e) := by
  obtain ⟨x, y, z, w, rfl⟩ := four hl
  rw [Heap.set_at hm]; rfl
theorem ls_s6 (hm : h.objs[i]? = some (lsO c0 hd com und e)) (hl : hd.length = 4) {v : Nat} : h.setCell i 6 (HCell.val (.int .i64 v)) = h.put i (lsO c0 hd com v e) := by
  obtain ⟨x, y, z, w, rfl⟩ := four hl
  rw [Heap.set_at hm]; rfl
theorem ls_s7 (hm : h.objs[i]? = some (lsO c0 hd com und e)) (hl : hd.length = 4) {e' : HCell} : h.setCell i 7 e' = h.put i (lsO c0 hd com und e') := by
  obtain ⟨x, y, z, w, rfl⟩ := four hl
  rw [Heap.set_at hm]; rfl
theorem ls_all (hm : h.objs[i]? = some (lsO c0 hd com und e)) (hl : hd.length = 4) : h.cells? i 0 8 = some (c0.toA :: (hd.map (fun x => AVal.int .i64 x) ++ [.int .i64 com, .int .i64 und, e.toA])) := by
  obtain ⟨x, y, z, w, rfl⟩ := four hl
  have hm' : h.objs[i]? = some (.cells [c0, HCell.val (.int .i64 x), HCell.val (.int .i64 y), HCell.val (.int .i64 z), HCell.val (.int .i64 w), HCell.val (.int .i64 com), HCell.val (.int .i64 und), e]) := hm
  rw [Heap.cells_at hm' (by simp)]; rfl
end
/-- More at the end of the list of LSNs. -/
theorem lent_ends {h : Heap} {i : Nat} {c0 : HCell} {hd : List Int} {com und : Nat} {e : HCell} {ends : List Int} (hm : h.objs[i]? = some (lsO c0 hd com und e)) (hl : hd.length = 4) (he : enOK e ends) {K : Heap → Tr Res} {Q : Res → Prop} {tg : Hid Q} {X : Prop}
    (hK : ∀ h2 : Heap, (∃ e', h2.objs[i]? = some (lsO c0 hd com und e')) → (∀ o, h2.put i o = h.put i o) → Run (K h2) Q ⟨⟩ = X) : Run (lentK h i 7 0 (ints ends) K) Q tg = X := by
  have c7 := ls_7 hm hl
  rcases he with rfl | ⟨rfl, e⟩
  · rw [at_lentK_own c7, ls_s7 hm hl]
    exact hK _ ⟨_, Heap.put_get hm⟩ (fun o => Heap.put_put _ _ _ _)
  · rw [at_lentK_full c7]
    exact hK _ ⟨_, hm⟩ (fun o => rfl)
structure IsLs (h : Heap) (i ti tr : Nat) (t : Nd) (e : HCell) (s : LS) : Prop where
  at' : h.objs[i]? = some (lsO (HCell.val (.obj ti 0)) s.hd s.com s.und e)
  en : enOK e s.ends
  T : IsTab h ti tr t
  tl : t.toL = s.tab
  n1 : ti ≠ i
  n2 : tr ≠ i
theorem IsTab.put' {h : Heap} {i ti tr : Nat} {t : Nd} {o : Weave.Obj} (T : IsTab h ti tr t) (h1 : ti ≠ i) (h2 : tr ≠ i) : IsTab (h.put i o) ti tr t :=
  ⟨by rw [Heap.put_ne (Ne.symm h1)]; exact T.tb, by rw [Heap.put_ne (Ne.symm h2)]; exact T.tr, T.ne, T.ok, T.kv⟩
theorem IsLs.ext {h h' : Heap} {i ti tr : Nat} {t : Nd} {e : HCell} {s : LS} (L : IsLs h i ti tr t e s) (E : h.ext h') : IsLs h' i ti tr t e s := ⟨E.get L.at', L.en, L.T.ext E, L.tl, L.n1, L.n2⟩

theorem opC {b : List UInt8} (h : (cdec b).2 = 0) : rightO ⟨if (cdec b).1.is then 1 else 2, (cdec b).1.key, if (cdec b).1.is then (cdec b).1.new else []⟩ = true := by
  obtain ⟨k, w, i, o, n, x, e1, e2, _⟩ := cdec_spec h
  rw [e1]
  simp only [cright, decide_eq_true_eq] at e2
  unfold rightO
  cases i <;> simp <;> omega
theorem change_run (d : Nat) (i ti tr : Nat) (t : Nd) (e : HCell) (s : LS) (h : Heap) (L : IsLs h i ti tr t e s) (hlen : s.tab.length ≤ 1000) (g : Bool) (b : List UInt8) (hb : b.length ≤ 600) :
    ∃ h' t', IsTab h' ti tr t' ∧ h'.objs[i]? = some (lsO (HCell.val (.obj ti 0)) s.hd s.com s.und e) ∧ (∀ j, j < h.objs.length → j ≠ ti → j ≠ tr → h'.objs[j]? = h.objs[j]?) ∧ t'.toL = (lchange s.tab b).getD s.tab ∧
      ∀ (Q : Res → Prop) (tg : Hid Q), Run (evFn Cw (d + 31023) 108 [.obj i 0, .sl g 0 (bys b)] h) Q tg = Q ([.bool (lchange s.tab b).isSome], h') := by
  obtain ⟨h1, E, r1⟩ := cdecode_run (d := d + 31018) (f := g) (b := b) (h := h) (by omega)
  have L1 := L.ext E
  have hA : (cdec b).1.A = .agg [.str (cdec b).1.key, .bool (cdec b).1.was, .bool (cdec b).1.is, .str (cdec b).1.old, .str (cdec b).1.new, .int .i64 (cdec b).1.next] := of_eq_true (eq_self _)
  rw [hA] at r1
  have c0 := ls_c0 L1.at'
  have rg := fun (Q : Res → Prop) (tg : Hid Q) => tabget_run (d := d + 31018) (s := (cdec b).1.key) (Q := Q) (tg := tg) L1.T
  rw [L1.tl] at rg
  by_cases e1 : (cdec b).2 = 0
  · have b1 : ((((cdec b).2 : Nat) : Int) != 0) = false := by simp [e1]
    by_cases e2 : (lget (cdec b).1.key s.tab).isSome = (cdec b).1.was
    · have b2 : (!((lget (cdec b).1.key s.tab).isSome == (cdec b).1.was)) = false := by simp [e2]
      by_cases e3 : oVal (lget (cdec b).1.key s.tab) = (cdec b).1.old
      · have b3 : (!(oVal (lget (cdec b).1.key s.tab) == (cdec b).1.old)) = false := by simp [e3]
        have el : lchange s.tab b = some (if (cdec b).1.is then lput (cdec b).1.key (cdec b).1.new s.tab else ldel (cdec b).1.key s.tab) := by
          unfold lchange; rw [if_neg (by simp [e1]), if_neg (by simp [e2, e3])]
        have ro := fun (Q : Res → Prop) (tg : Hid Q) => op_run (d := d + 31021) (k := (cdec b).1.key) (w := (cdec b).1.was) (i := (cdec b).1.is) (o := (cdec b).1.old) (n := (cdec b).1.new) (x := (cdec b).1.next) (h := h1) (Q := Q) (tg := tg)
        have ek : [AVal.agg [.int .i64 (if (cdec b).1.is then 1 else 2), .str (cdec b).1.key, .str (if (cdec b).1.is then (cdec b).1.new else [])]] = kops [⟨if (cdec b).1.is then 1 else 2, (cdec b).1.key, if (cdec b).1.is then (cdec b).1.new else []⟩] := of_eq_true (eq_self _)
        obtain ⟨t', T', hL, ra⟩ := tabapply_run (d + 1) ti tr true [⟨if (cdec b).1.is then 1 else 2, (cdec b).1.key, if (cdec b).1.is then (cdec b).1.new else []⟩] t h1 L1.T (by rw [L1.tl]; simp; omega)
        rw [← ek] at ra
        have ea : aps t.toL [⟨if (cdec b).1.is then 1 else 2, (cdec b).1.key, if (cdec b).1.is then (cdec b).1.new else []⟩] = if (cdec b).1.is then lput (cdec b).1.key (cdec b).1.new s.tab else ldel (cdec b).1.key s.tab := by
          rw [aps_cons, aps_nil, if_pos (opC e1), L1.tl]
          unfold apO
          cases (cdec b).1.is <;> simp
        rw [ea] at hL
        have hne : ∀ j, j ≠ ti → j ≠ tr → (tabH h1 ti tr t').objs[j]? = h1.objs[j]? := fun j h1 h2 => tabH_ne h1 h2
        refine ⟨tabH h1 ti tr t', t', T', by rw [hne i (Ne.symm L1.n1) (Ne.symm L1.n2)]; exact L1.at', fun j hj h1' h2' => by rw [hne j h1' h2', E.old j hj], by rw [hL, el]; rfl, fun Q tg => ?_⟩
        rw [F108_eq, el]
        simp (disch := (first | assumption | (simp only [Bool.and_eq_true, Bool.and_eq_false_iff, decide_eq_true_eq, decide_eq_false_iff_not, bne_iff_ne, beq_iff_eq, beq_eq_false_iff_ne, bne_eq_false_iff_eq, Bool.not_eq_true', Bool.not_eq_false', bys_length, List.length_append, List.length_cons, List.length_nil, List.length_map, List.length_drop, List.length_take, Int.natCast_add, wrap_i64_eq, wrap_u64, wrap_u8, ne_eq, not_true_eq_false, not_false_eq_true, Nat.zero_add, Nat.mul_one] <;> omega) | omega | (simp; done) | (simp; omega))) only [↓CR, MC, ↓PR, MR, r1, b1, c0, rg, b2, b3, ro, ra, Option.isSome_some]
      · have b3 : (!(oVal (lget (cdec b).1.key s.tab) == (cdec b).1.old)) = true := by simp [e3]
        have el : lchange s.tab b = none := by unfold lchange; rw [if_neg (by simp [e1]), if_pos (.inr e3)]
        refine ⟨h1, t, L1.T, L1.at', fun j hj _ _ => E.old j hj, by rw [el]; exact L1.tl, fun Q tg => ?_⟩
        rw [F108_eq, el]
        simp (disch := (first | assumption | (simp only [Bool.and_eq_true, Bool.and_eq_false_iff, decide_eq_true_eq, decide_eq_false_iff_not, bne_iff_ne, beq_iff_eq, beq_eq_false_iff_ne, bne_eq_false_iff_eq, Bool.not_eq_true', Bool.not_eq_false', bys_length, List.length_append, List.length_cons, List.length_nil, List.length_map, List.length_drop, List.length_take, Int.natCast_add, wrap_i64_eq, wrap_u64, wrap_u8, ne_eq, not_true_eq_false, not_false_eq_true, Nat.zero_add, Nat.mul_one] <;> omega) | omega | (simp; done) | (simp; omega))) only [↓CR, MC, ↓PR, MR, r1, b1, c0, rg, b2, b3, Option.isSome_none]
    · have b2 : (!((lget (cdec b).1.key s.tab).isSome == (cdec b).1.was)) = true := by simp [e2]
      have el : lchange s.tab b = none := by unfold lchange; rw [if_neg (by simp [e1]), if_pos (.inl e2)]
      refine ⟨h1, t, L1.T, L1.at', fun j hj _ _ => E.old j hj, by rw [el]; exact L1.tl, fun Q tg => ?_⟩
      rw [F108_eq, el]
      simp (disch := (first | assumption | (simp only [Bool.and_eq_true, Bool.and_eq_false_iff, decide_eq_true_eq, decide_eq_false_iff_not, bne_iff_ne, beq_iff_eq, beq_eq_false_iff_ne, bne_eq_false_iff_eq, Bool.not_eq_true', Bool.not_eq_false', bys_length, List.length_append, List.length_cons, List.length_nil, List.length_map, List.length_drop, List.length_take, Int.natCast_add, wrap_i64_eq, wrap_u64, wrap_u8, ne_eq, not_true_eq_false, not_false_eq_true, Nat.zero_add, Nat.mul_one] <;> omega) | omega | (simp; done) | (simp; omega))) only [↓CR, MC, ↓PR, MR, r1, b1, c0, rg, b2, Option.isSome_none]
  · have b1 : ((((cdec b).2 : Nat) : Int) != 0) = true := by simp; exact e1
    have el : lchange s.tab b = none := by unfold lchange; rw [if_pos e1]
    refine ⟨h1, t, L1.T, L1.at', fun j hj _ _ => E.old j hj, by rw [el]; exact L1.tl, fun Q tg => ?_⟩
    rw [F108_eq, el]
    simp (disch := (first | assumption | (simp only [Bool.and_eq_true, Bool.and_eq_false_iff, decide_eq_true_eq, decide_eq_false_iff_not, bne_iff_ne, beq_iff_eq, beq_eq_false_iff_ne, bne_eq_false_iff_eq, Bool.not_eq_true', Bool.not_eq_false', bys_length, List.length_append, List.length_cons, List.length_nil, List.length_map, List.length_drop, List.length_take, Int.natCast_add, wrap_i64_eq, wrap_u64, wrap_u8, ne_eq, not_true_eq_false, not_false_eq_true, Nat.zero_add, Nat.mul_one] <;> omega) | omega | (simp; done) | (simp; omega))) only [↓CR, MC, ↓PR, MR, r1, b1, Option.isSome_none]
theorem end_run (d : Nat) (i ti tr : Nat) (t : Nd) (e : HCell) (s : LS) (h : Heap) (L : IsLs h i ti tr t e s) (hh : s.hd.length = 4) (hc : s.com ≤ 1000) (hu : s.und ≤ 1000) (he : s.ends.length ≤ 1000) (r : Rec) (hk : r.kind = 8 ∨ r.kind = 9) :
    ∃ e', enOK e' (if r.kind = 8 then s.ends ++ [r.lsn] else s.ends) ∧ ∀ (Q : Res → Prop) (tg : Hid Q), Run (evFn Cw (d + 1) 111 [.obj i 0, .agg [.int .i64 r.kind, .int .i64 r.chain, .int .i64 r.lsn, .int .i64 r.prev, .sl r.full 0 (bys r.data)]] h) Q tg
      = Q ([.bool true], h.put i (lsO (HCell.val (.obj ti 0)) s.hd (if r.kind = 8 then s.com + 1 else s.com) (if r.kind = 8 then s.und else s.und + 1) e')) := by
  have c5 := ls_5 L.at' hh
  have c6 := ls_6 L.at' hh
  rcases hk with hk | hk
  · have b1 : ((r.kind : Int) == 8) = true := by simp [hk]
    have ew := succ_wrap (i := s.com) (by omega)
    have s5 := ls_s5 L.at' hh (v := s.com + 1)
    have m5 := Heap.put_get (o := lsO (HCell.val (.obj ti 0)) s.hd (s.com + 1) s.und e) L.at'
    have c7 := ls_7 m5 hh
    obtain ⟨fl, eA⟩ := L.en.toA
    refine ⟨.own 0 (ints (s.ends ++ [r.lsn])), .inl (by rw [if_pos hk]), fun Q tg => ?_⟩
    rw [F111_eq, if_pos hk, if_pos hk]
    simp (disch := (first | assumption | (simp only [Bool.and_eq_true, Bool.and_eq_false_iff, decide_eq_true_eq, decide_eq_false_iff_not, bne_iff_ne, beq_iff_eq, beq_eq_false_iff_ne, bne_eq_false_iff_eq, Bool.not_eq_true', Bool.not_eq_false', bys_length, List.length_append, List.length_cons, List.length_nil, List.length_map, List.length_drop, List.length_take, Int.natCast_add, wrap_i64_eq, wrap_u64, wrap_u8, ne_eq, not_true_eq_false, not_false_eq_true, Nat.zero_add, Nat.mul_one] <;> omega) | omega | (simp; done) | (simp; omega))) only [↓CR, MC, ↓PR, MR, b1, c5, ew, s5, c7, eA, ints_length, ints_snoc]
    refine lent_ends m5 hh L.en fun h2 hm2 hp2 => ?_
    obtain ⟨e2, hm2⟩ := hm2
    have c7' := ls_7 hm2 hh
    have s7 := ls_s7 hm2 hh (e' := .own 0 (ints (s.ends ++ [r.lsn])))
    rw [hp2, Heap.put_put] at s7
    simp (disch := (first | assumption | (simp only [Bool.and_eq_true, Bool.and_eq_false_iff, decide_eq_true_eq, decide_eq_false_iff_not, bne_iff_ne, beq_iff_eq, beq_eq_false_iff_ne, bne_eq_false_iff_eq, Bool.not_eq_true', Bool.not_eq_false', bys_length, List.length_append, List.length_cons, List.length_nil, List.length_map, List.length_drop, List.length_take, Int.natCast_add, wrap_i64_eq, wrap_u64, wrap_u8, ne_eq, not_true_eq_false, not_false_eq_true, Nat.zero_add, Nat.mul_one] <;> omega) | omega | (simp; done) | (simp; omega))) only [↓CR, MC, ↓PR, MR, c7', s7]
  · have b1 : ((r.kind : Int) == 8) = false := by simp [hk]
    have ew := succ_wrap (i := s.und) (by omega)
    have s6 := ls_s6 L.at' hh (v := s.und + 1)
    have hk8 : ¬ r.kind = 8 := by omega
    refine ⟨e, by rw [if_neg hk8]; exact L.en, fun Q tg => ?_⟩
    rw [F111_eq, if_neg hk8, if_neg hk8]
    simp (disch := (first | assumption | (simp only [Bool.and_eq_true, Bool.and_eq_false_iff, decide_eq_true_eq, decide_eq_false_iff_not, bne_iff_ne, beq_iff_eq, beq_eq_false_iff_ne, bne_eq_false_iff_eq, Bool.not_eq_true', Bool.not_eq_false', bys_length, List.length_append, List.length_cons, List.length_nil, List.length_map, List.length_drop, List.length_take, Int.natCast_add, wrap_i64_eq, wrap_u64, wrap_u8, ne_eq, not_true_eq_false, not_false_eq_true, Nat.zero_add, Nat.mul_one] <;> omega) | omega | (simp; done) | (simp; omega))) only [↓CR, MC, ↓PR, MR, b1, c6, ew, s6]
end Go.Proofs.Ytdlcjibefbnckaa.Wa
end

section
/- Losers: one record, run. -/
namespace Go.Proofs.Ytdlcjibefbnckaa.Wa
open Go Go.Weave
set_option maxRecDepth 100000
set_option linter.unusedSimpArgs false
set_option linter.unusedVariables false
set_option linter.unusedSectionVars false

section
variable {Q : Res → Prop} {tg : Hid Q}
theorem at_updP {h : Heap} {k : Int} {v : AVal} {l : List (Int × AVal × Nat)} {c : Nat} {K : Heap → Tr Res} (l' : List (Int × AVal × Nat)) (hl : tput k v l c = l') (hg : tget k l = none) :
    Run (updK 3 (.map h.objs.length) (.int .i64 k) v (h.push (.map 3 (encM (AVal.int .i64) l) c)) K) Q tg = Run (K (h.push (.map 3 (encM (AVal.int .i64) l') (c + 1)))) Q ⟨⟩ := by
  have ep : ∀ o o' : Weave.Obj, (h.push o).put h.objs.length o' = h.push o' := fun o o' => by simp [Heap.push, Heap.put]
  rw [at_updK encInt (Heap.push_new h _), hl, hg, ep]
  rfl
def tb5 (a b c e g : AVal) : List (Int × AVal × Nat) := [(5, a, 0), (6, b, 1), (7, c, 2), (8, e, 3), (9, g, 4)]
theorem at_upd5 {h : Heap} {a b c e g : AVal} {K : Heap → Tr Res} :
    Run (updK 3 (.map h.objs.length) (.int .i64 5) a (h.push (.map 3 [] 0)) fun h1 => updK 3 (.map h.objs.length) (.int .i64 6) b h1 fun h2 => updK 3 (.map h.objs.length) (.int .i64 7) c h2 fun h3 =>
      updK 3 (.map h.objs.length) (.int .i64 8) e h3 fun h4 => updK 3 (.map h.objs.length) (.int .i64 9) g h4 K) Q tg = Run (K (h.push (.map 3 (encM (AVal.int .i64) (tb5 a b c e g)) 5))) Q ⟨⟩ := by
  have em : ([] : List (AVal × AVal × Nat)) = encM (AVal.int .i64) [] := rfl
  rw [em, at_updP (l := []) [(5, a, 0)] rfl rfl, at_updP [(5, a, 0), (6, b, 1)] rfl rfl, at_updP [(5, a, 0), (6, b, 1), (7, c, 2)] rfl rfl, at_updP [(5, a, 0), (6, b, 1), (7, c, 2), (8, e, 3)] rfl rfl, at_updP (tb5 a b c e g) rfl rfl]
end
theorem tb5_get (a b c e g : AVal) : tget 5 (tb5 a b c e g) = some a ∧ tget 6 (tb5 a b c e g) = some b ∧ tget 7 (tb5 a b c e g) = some c ∧ tget 8 (tb5 a b c e g) = some e ∧ tget 9 (tb5 a b c e g) = some g := ⟨rfl, rfl, rfl, rfl, rfl⟩
theorem tb5_none {a b c e g : AVal} {k : Int} (h : k < 5 ∨ 9 < k) : tget k (tb5 a b c e g) = none := by
  refine tget_none ?_
  simp only [tkeys, tb5, List.map_cons, List.map_nil, List.mem_cons, List.not_mem_nil, or_false]
  omega
theorem isF_n {f n g : Nat} {cp : List AVal} (h : (g == f) = false) : AVal.isFnOf f n (.fn g [] cp) = false := by show (g == f && (true && cp.length == n)) = false; rw [h]; rfl
theorem isF_1 (g : Nat) (a : AVal) : AVal.isFnOf g 1 (.fn g [] [a]) = true := by show (g == g && (true && [a].length == 1)) = true; simp
theorem isF_3 (g : Nat) (a b c : AVal) : AVal.isFnOf g 3 (.fn g [] [a, b, c]) = true := by show (g == g && (true && [a, b, c].length == 3)) = true; simp
theorem cap_0 (g : Nat) (a : AVal) (r : List AVal) : AVal.capAt 0 (.fn g [] (a :: r)) = a := rfl
theorem cap_1 (g : Nat) (a b : AVal) (r : List AVal) : AVal.capAt 1 (.fn g [] (a :: b :: r)) = b := rfl
theorem cap_2 (g : Nat) (a b c : AVal) (r : List AVal) : AVal.capAt 2 (.fn g [] (a :: b :: c :: r)) = c := rfl

/-- The heads, and the answer, behind what a kind of record does. -/
theorem hd_len {hd : List Int} {c : Nat} {v : Int} (h : hd.length = 4) : (hd.set c v).length = 4 := by simp [h]
structure OneTail (H : Heap) (i : Nat) (c : Int) (l : Int) (o1 o2 : Weave.Obj) : Prop where
  g1 : ∃ x, H.cell? i (1 + c.toNat * 1) = some x
  s1 : H.setCell i (1 + c.toNat * 1) (HCell.val (.int .i64 l)) = H.put i o1
  g2 : ∃ x, (H.put i o1).cell? i (1 + c.toNat * 1) = some x
  s2 : (H.put i o1).setCell i (1 + c.toNat * 1) (HCell.val (.int .i64 0)) = H.put i o2
theorem oneTail {H : Heap} {i : Nat} {c0 : HCell} {hd : List Int} {com und : Nat} {e : HCell} (hm : H.objs[i]? = some (lsO c0 hd com und e)) (hh : hd.length = 4) {c l : Int} (h0 : 0 ≤ c) (h3 : c < 4) :
    OneTail H i c l (lsO c0 (hd.set c.toNat l) com und e) (lsO c0 (hd.set c.toNat 0) com und e) := by
  have hc : c.toNat < 4 := by omega
  have m2 := Heap.put_get (o := lsO c0 (hd.set c.toNat l) com und e) hm
  have s2 := ls_shd m2 (hd_len hh) hc (v := 0)
  rw [Heap.put_put, List.set_set] at s2
  exact ⟨⟨_, ls_hd hm hh hc⟩, ls_shd hm hh hc, ⟨_, ls_hd m2 (hd_len hh) hc⟩, s2⟩

theorem lsone_out {s : LS} {r : Rec} (h : r.kind < 5 ∨ 9 < r.kind) : lsone s r = none := by unfold lsone; rw [if_pos h]
theorem lsone_hd {s : LS} {r : Rec} (h : (r.kind == 5) ≠ (s.hd.getD r.chain.toNat 0 == 0)) : lsone s r = none := by
  unfold lsone
  split
  · rfl
  · first | rfl | exact if_pos h
section
variable {d i i7 : Nat} {k c l p : Int} {b : List UInt8} {g : Bool} {H : Heap} {Q : Res → Prop} {tg : Hid Q}
theorem cl1_run {o : Bool} (c7 : H.cell? i7 0 = some (HCell.val (.bool o))) : Run (evFn Cw (d + 1) 106 [AVal.obj i7 0] H) Q tg = Q ([.bool (!o)], H) := by
  rw [F106_eq]; simp (disch := (first | assumption | (simp only [Bool.and_eq_true, Bool.and_eq_false_iff, decide_eq_true_eq, decide_eq_false_iff_not, bne_iff_ne, beq_iff_eq, beq_eq_false_iff_ne, bne_eq_false_iff_eq, Bool.not_eq_true', Bool.not_eq_false', bys_length, List.length_append, List.length_cons, List.length_nil, List.length_map, List.length_drop, List.length_take, Int.natCast_add, wrap_i64_eq, wrap_u64, wrap_u8, ne_eq, not_true_eq_false, not_false_eq_true, Nat.zero_add, Nat.mul_one] <;> omega) | omega | (simp; done) | (simp; omega))) only [↓CR, MC, ↓PR, MR, c7]
theorem cl2_no (c7 : H.cell? i7 0 = some (HCell.val (.bool false))) : Run (evFn Cw (d + 1) 107 [(AVal.obj i7 0), (AVal.elt (AVal.obj i 0) false 1 0), (AVal.elt (AVal.agg [(AVal.int .i64 k), (AVal.int .i64 c), (AVal.int .i64 l), (AVal.int .i64 p), (AVal.sl g 0 (bys b))]) true 5 0)] H) Q tg = Q ([.bool false], H) := by
  rw [F107_eq]; simp (disch := (first | assumption | (simp only [Bool.and_eq_true, Bool.and_eq_false_iff, decide_eq_true_eq, decide_eq_false_iff_not, bne_iff_ne, beq_iff_eq, beq_eq_false_iff_ne, bne_eq_false_iff_eq, Bool.not_eq_true', Bool.not_eq_false', bys_length, List.length_append, List.length_cons, List.length_nil, List.length_map, List.length_drop, List.length_take, Int.natCast_add, wrap_i64_eq, wrap_u64, wrap_u8, ne_eq, not_true_eq_false, not_false_eq_true, Nat.zero_add, Nat.mul_one] <;> omega) | omega | (simp; done) | (simp; omega))) only [↓CR, MC, ↓PR, MR, c7]
theorem cl3_no (c7 : H.cell? i7 0 = some (HCell.val (.bool false))) : Run (evFn Cw (d + 1) 109 [(AVal.obj i7 0), (AVal.elt (AVal.obj i 0) false 1 0), (AVal.elt (AVal.agg [(AVal.int .i64 k), (AVal.int .i64 c), (AVal.int .i64 l), (AVal.int .i64 p), (AVal.sl g 0 (bys b))]) true 5 0)] H) Q tg = Q ([.bool false], H) := by
  rw [F109_eq]; simp (disch := (first | assumption | (simp only [Bool.and_eq_true, Bool.and_eq_false_iff, decide_eq_true_eq, decide_eq_false_iff_not, bne_iff_ne, beq_iff_eq, beq_eq_false_iff_ne, bne_eq_false_iff_eq, Bool.not_eq_true', Bool.not_eq_false', bys_length, List.length_append, List.length_cons, List.length_nil, List.length_map, List.length_drop, List.length_take, Int.natCast_add, wrap_i64_eq, wrap_u64, wrap_u8, ne_eq, not_true_eq_false, not_false_eq_true, Nat.zero_add, Nat.mul_one] <;> omega) | omega | (simp; done) | (simp; omega))) only [↓CR, MC, ↓PR, MR, c7]
theorem cl4_no (c7 : H.cell? i7 0 = some (HCell.val (.bool false))) : Run (evFn Cw (d + 1) 110 [(AVal.obj i7 0), (AVal.elt (AVal.obj i 0) false 1 0), (AVal.elt (AVal.agg [(AVal.int .i64 k), (AVal.int .i64 c), (AVal.int .i64 l), (AVal.int .i64 p), (AVal.sl g 0 (bys b))]) true 5 0)] H) Q tg = Q ([.bool false], H) := by
  rw [F110_eq]; simp (disch := (first | assumption | (simp only [Bool.and_eq_true, Bool.and_eq_false_iff, decide_eq_true_eq, decide_eq_false_iff_not, bne_iff_ne, beq_iff_eq, beq_eq_false_iff_ne, bne_eq_false_iff_eq, Bool.not_eq_true', Bool.not_eq_false', bys_length, List.length_append, List.length_cons, List.length_nil, List.length_map, List.length_drop, List.length_take, Int.natCast_add, wrap_i64_eq, wrap_u64, wrap_u8, ne_eq, not_true_eq_false, not_false_eq_true, Nat.zero_add, Nat.mul_one] <;> omega) | omega | (simp; done) | (simp; omega))) only [↓CR, MC, ↓PR, MR, c7]
theorem cl5_no (c7 : H.cell? i7 0 = some (HCell.val (.bool false))) : Run (evFn Cw (d + 1) 112 [(AVal.obj i7 0), (AVal.elt (AVal.obj i 0) false 1 0), (AVal.elt (AVal.agg [(AVal.int .i64 k), (AVal.int .i64 c), (AVal.int .i64 l), (AVal.int .i64 p), (AVal.sl g 0 (bys b))]) true 5 0)] H) Q tg = Q ([.bool false], H) := by
  rw [F112_eq]; simp (disch := (first | assumption | (simp only [Bool.and_eq_true, Bool.and_eq_false_iff, decide_eq_true_eq, decide_eq_false_iff_not, bne_iff_ne, beq_iff_eq, beq_eq_false_iff_ne, bne_eq_false_iff_eq, Bool.not_eq_true', Bool.not_eq_false', bys_length, List.length_append, List.length_cons, List.length_nil, List.length_map, List.length_drop, List.length_take, Int.natCast_add, wrap_i64_eq, wrap_u64, wrap_u8, ne_eq, not_true_eq_false, not_false_eq_true, Nat.zero_add, Nat.mul_one] <;> omega) | omega | (simp; done) | (simp; omega))) only [↓CR, MC, ↓PR, MR, c7]
theorem cl2_yes {a : Bool} {H' : Heap} (c7 : H.cell? i7 0 = some (HCell.val (.bool true))) (r : ∀ (Q : Res → Prop) (tg : Hid Q), Run (evFn Cw d 108 [.obj i 0, .sl g 0 (bys b)] H) Q tg = Q ([.bool a], H')) : Run (evFn Cw (d + 1) 107 [(AVal.obj i7 0), (AVal.elt (AVal.obj i 0) false 1 0), (AVal.elt (AVal.agg [(AVal.int .i64 k), (AVal.int .i64 c), (AVal.int .i64 l), (AVal.int .i64 p), (AVal.sl g 0 (bys b))]) true 5 0)] H) Q tg = Q ([.bool a], H') := by
  rw [F107_eq]; simp (disch := (first | assumption | (simp only [Bool.and_eq_true, Bool.and_eq_false_iff, decide_eq_true_eq, decide_eq_false_iff_not, bne_iff_ne, beq_iff_eq, beq_eq_false_iff_ne, bne_eq_false_iff_eq, Bool.not_eq_true', Bool.not_eq_false', bys_length, List.length_append, List.length_cons, List.length_nil, List.length_map, List.length_drop, List.length_take, Int.natCast_add, wrap_i64_eq, wrap_u64, wrap_u8, ne_eq, not_true_eq_false, not_false_eq_true, Nat.zero_add, Nat.mul_one] <;> omega) | omega | (simp; done) | (simp; omega))) only [↓CR, MC, ↓PR, MR, c7, r]
theorem cl3_yes {a : Bool} {H' : Heap} (c7 : H.cell? i7 0 = some (HCell.val (.bool true))) (r : ∀ (Q : Res → Prop) (tg : Hid Q), Run (evFn Cw d 108 [.obj i 0, .sl g 0 (bys b)] H) Q tg = Q ([.bool a], H')) : Run (evFn Cw (d + 1) 109 [(AVal.obj i7 0), (AVal.elt (AVal.obj i 0) false 1 0), (AVal.elt (AVal.agg [(AVal.int .i64 k), (AVal.int .i64 c), (AVal.int .i64 l), (AVal.int .i64 p), (AVal.sl g 0 (bys b))]) true 5 0)] H) Q tg = Q ([.bool a], H') := by
  rw [F109_eq]; simp (disch := (first | assumption | (simp only [Bool.and_eq_true, Bool.and_eq_false_iff, decide_eq_true_eq, decide_eq_false_iff_not, bne_iff_ne, beq_iff_eq, beq_eq_false_iff_ne, bne_eq_false_iff_eq, Bool.not_eq_true', Bool.not_eq_false', bys_length, List.length_append, List.length_cons, List.length_nil, List.length_map, List.length_drop, List.length_take, Int.natCast_add, wrap_i64_eq, wrap_u64, wrap_u8, ne_eq, not_true_eq_false, not_false_eq_true, Nat.zero_add, Nat.mul_one] <;> omega) | omega | (simp; done) | (simp; omega))) only [↓CR, MC, ↓PR, MR, c7, r]
theorem cl4_yes {a : Bool} {H' : Heap} (c7 : H.cell? i7 0 = some (HCell.val (.bool true))) (r : ∀ (Q : Res → Prop) (tg : Hid Q), Run (evFn Cw d 111 [.obj i 0, AVal.agg [(AVal.int .i64 k), (AVal.int .i64 c), (AVal.int .i64 l), (AVal.int .i64 p), (AVal.sl g 0 (bys b))]] H) Q tg = Q ([.bool a], H')) : Run (evFn Cw (d + 1) 110 [(AVal.obj i7 0), (AVal.elt (AVal.obj i 0) false 1 0), (AVal.elt (AVal.agg [(AVal.int .i64 k), (AVal.int .i64 c), (AVal.int .i64 l), (AVal.int .i64 p), (AVal.sl g 0 (bys b))]) true 5 0)] H) Q tg = Q ([.bool a], H') := by
  rw [F110_eq]; simp (disch := (first | assumption | (simp only [Bool.and_eq_true, Bool.and_eq_false_iff, decide_eq_true_eq, decide_eq_false_iff_not, bne_iff_ne, beq_iff_eq, beq_eq_false_iff_ne, bne_eq_false_iff_eq, Bool.not_eq_true', Bool.not_eq_false', bys_length, List.length_append, List.length_cons, List.length_nil, List.length_map, List.length_drop, List.length_take, Int.natCast_add, wrap_i64_eq, wrap_u64, wrap_u8, ne_eq, not_true_eq_false, not_false_eq_true, Nat.zero_add, Nat.mul_one] <;> omega) | omega | (simp; done) | (simp; omega))) only [↓CR, MC, ↓PR, MR, c7, r]
theorem cl5_yes {a : Bool} {H' : Heap} (c7 : H.cell? i7 0 = some (HCell.val (.bool true))) (r : ∀ (Q : Res → Prop) (tg : Hid Q), Run (evFn Cw d 111 [.obj i 0, AVal.agg [(AVal.int .i64 k), (AVal.int .i64 c), (AVal.int .i64 l), (AVal.int .i64 p), (AVal.sl g 0 (bys b))]] H) Q tg = Q ([.bool a], H')) : Run (evFn Cw (d + 1) 112 [(AVal.obj i7 0), (AVal.elt (AVal.obj i 0) false 1 0), (AVal.elt (AVal.agg [(AVal.int .i64 k), (AVal.int .i64 c), (AVal.int .i64 l), (AVal.int .i64 p), (AVal.sl g 0 (bys b))]) true 5 0)] H) Q tg = Q ([.bool a], H') := by
  rw [F112_eq]; simp (disch := (first | assumption | (simp only [Bool.and_eq_true, Bool.and_eq_false_iff, decide_eq_true_eq, decide_eq_false_iff_not, bne_iff_ne, beq_iff_eq, beq_eq_false_iff_ne, bne_eq_false_iff_eq, Bool.not_eq_true', Bool.not_eq_false', bys_length, List.length_append, List.length_cons, List.length_nil, List.length_map, List.length_drop, List.length_take, Int.natCast_add, wrap_i64_eq, wrap_u64, wrap_u8, ne_eq, not_true_eq_false, not_false_eq_true, Nat.zero_add, Nat.mul_one] <;> omega) | omega | (simp; done) | (simp; omega))) only [↓CR, MC, ↓PR, MR, c7, r]
end
theorem IsLs.hd' {h : Heap} {i ti tr : Nat} {t : Nd} {e : HCell} {tab : List KPair} {hd' : List Int} {com und : Nat} {ends : List Int} {o : Weave.Obj} (T : IsTab h ti tr t) (hm : h.objs[i]? = some o) (he : enOK e ends) (ht : t.toL = tab) (n1 : ti ≠ i) (n2 : tr ≠ i) :
    IsLs (h.put i (lsO (HCell.val (.obj ti 0)) hd' com und e)) i ti tr t e ⟨tab, hd', com, und, ends⟩ := ⟨Heap.put_get hm, he, T.put' n1 n2, ht, n1, n2⟩
theorem one0_run (d i ti tr i7 : Nat) (t : Nd) (e : HCell) (s : LS) (h : Heap) (L : IsLs h i ti tr t e s) (I : LInv 1000 s) (k c l p : Int) (g : Bool) (b : List UInt8) (hb : b.length ≤ 600) (h0 : 0 < c) (h3 : c ≤ 3)
    (hm7 : h.objs[i7]? = some (.cells [HCell.val (.bool (s.hd.getD c.toNat 0 != 0))])) :
    ∃ h' : Heap, (∀ s', lsone s ⟨k, c, l, p, g, b⟩ = some s' → ∃ t' e', IsLs h' i ti tr t' e' s') ∧ ∀ (Q : Res → Prop) (tg : Hid Q),
      Run (P94_0 (d + 31024) i k c l p g (bys b) i7 h) Q tg = Q ([.bool (lsone s ⟨k, c, l, p, g, b⟩).isSome], h') := by
  have hh := I.hd
  have hen := I.ends
  have hcm := I.com
  have hun := I.und
  have q1 : (decide ((0 : Int) ≤ c) && decide (c < 4)) = true := by simp; omega
  obtain ⟨TB, hTB⟩ : ∃ TB, TB = tb5 (AVal.fn 106 [] [(AVal.obj i7 0)]) (AVal.fn 107 [] [(AVal.obj i7 0), (AVal.elt (AVal.obj i 0) false 1 0), (AVal.elt (AVal.agg [(AVal.int .i64 k), (AVal.int .i64 c), (AVal.int .i64 l), (AVal.int .i64 p), (AVal.sl g 0 (bys b))]) true 5 0)]) (AVal.fn 109 [] [(AVal.obj i7 0), (AVal.elt (AVal.obj i 0) false 1 0), (AVal.elt (AVal.agg [(AVal.int .i64 k), (AVal.int .i64 c), (AVal.int .i64 l), (AVal.int .i64 p), (AVal.sl g 0 (bys b))]) true 5 0)]) (AVal.fn 110 [] [(AVal.obj i7 0), (AVal.elt (AVal.obj i 0) false 1 0), (AVal.elt (AVal.agg [(AVal.int .i64 k), (AVal.int .i64 c), (AVal.int .i64 l), (AVal.int .i64 p), (AVal.sl g 0 (bys b))]) true 5 0)]) (AVal.fn 112 [] [(AVal.obj i7 0), (AVal.elt (AVal.obj i 0) false 1 0), (AVal.elt (AVal.agg [(AVal.int .i64 k), (AVal.int .i64 c), (AVal.int .i64 l), (AVal.int .i64 p), (AVal.sl g 0 (bys b))]) true 5 0)]) := ⟨_, rfl⟩
  obtain ⟨g5, g6, g7, g8, g9⟩ := tb5_get (AVal.fn 106 [] [(AVal.obj i7 0)]) (AVal.fn 107 [] [(AVal.obj i7 0), (AVal.elt (AVal.obj i 0) false 1 0), (AVal.elt (AVal.agg [(AVal.int .i64 k), (AVal.int .i64 c), (AVal.int .i64 l), (AVal.int .i64 p), (AVal.sl g 0 (bys b))]) true 5 0)]) (AVal.fn 109 [] [(AVal.obj i7 0), (AVal.elt (AVal.obj i 0) false 1 0), (AVal.elt (AVal.agg [(AVal.int .i64 k), (AVal.int .i64 c), (AVal.int .i64 l), (AVal.int .i64 p), (AVal.sl g 0 (bys b))]) true 5 0)]) (AVal.fn 110 [] [(AVal.obj i7 0), (AVal.elt (AVal.obj i 0) false 1 0), (AVal.elt (AVal.agg [(AVal.int .i64 k), (AVal.int .i64 c), (AVal.int .i64 l), (AVal.int .i64 p), (AVal.sl g 0 (bys b))]) true 5 0)]) (AVal.fn 112 [] [(AVal.obj i7 0), (AVal.elt (AVal.obj i 0) false 1 0), (AVal.elt (AVal.agg [(AVal.int .i64 k), (AVal.int .i64 c), (AVal.int .i64 l), (AVal.int .i64 p), (AVal.sl g 0 (bys b))]) true 5 0)])
  have gn : k < 5 ∨ 9 < k → tget k TB = none := fun hk => by rw [hTB]; exact tb5_none hk
  rw [← hTB] at g5 g6 g7 g8 g9
  obtain ⟨H, hH⟩ : ∃ H, H = h.push (.map 3 (encM (AVal.int .i64) TB) 5) := ⟨_, rfl⟩
  have E : h.ext H := by rw [hH]; exact Heap.ext.push _ _
  have hmH : H.objs[h.objs.length]? = some (.map 3 (encM (AVal.int .i64) TB) 5) := by rw [hH]; exact Heap.push_new _ _
  have LH := L.ext E
  have mH7 := E.get hm7
  have c7 : H.cell? i7 0 = some (HCell.val (.bool (s.hd.getD c.toNat 0 != 0))) := by rw [Heap.cell_at mH7]; rfl
  by_cases ko : k < 5 ∨ 9 < k
  · refine ⟨H, fun s' hs => absurd hs (by rw [lsone_out ko]; simp), fun Q tg => ?_⟩
    rw [P94_0_eq, at_upd5, ← hTB, ← hH, at_lookK encInt hmH, gn ko, lsone_out ko]
    simp (disch := (first | assumption | (simp only [Bool.and_eq_true, Bool.and_eq_false_iff, decide_eq_true_eq, decide_eq_false_iff_not, bne_iff_ne, beq_iff_eq, beq_eq_false_iff_ne, bne_eq_false_iff_eq, Bool.not_eq_true', Bool.not_eq_false', bys_length, List.length_append, List.length_cons, List.length_nil, List.length_map, List.length_drop, List.length_take, Int.natCast_add, wrap_i64_eq, wrap_u64, wrap_u8, ne_eq, not_true_eq_false, not_false_eq_true, Nat.zero_add, Nat.mul_one] <;> omega) | omega | (simp; done) | (simp; omega))) only [↓CR, MC, ↓PR, MR, Option.isSome_none, Bool.not_false]
  · have k' : k = 5 ∨ k = 6 ∨ k = 7 ∨ k = 8 ∨ k = 9 := by omega
    by_cases hx : (k == 5) ≠ (s.hd.getD c.toNat 0 == 0)
    · refine ⟨H, fun s' hs => absurd hs (by rw [lsone_hd hx]; simp), fun Q tg => ?_⟩
      rw [P94_0_eq, at_upd5, ← hTB, ← hH, at_lookK encInt hmH, lsone_hd hx]
      have hop : (s.hd.getD c.toNat 0 != 0) = (k == 5) := by
        simp only [bne]
        revert hx
        cases (k == 5) <;> cases (s.hd.getD c.toNat 0 == 0) <;> simp
      rw [hop] at c7
      rcases k' with rfl | rfl | rfl | rfl | rfl
      · have r := fun (Q : Res → Prop) (tg : Hid Q) => cl1_run (d := d + 31023) (Q := Q) (tg := tg) (o := true) c7
        rw [g5]
        simp (disch := (first | assumption | (simp only [Bool.and_eq_true, Bool.and_eq_false_iff, decide_eq_true_eq, decide_eq_false_iff_not, bne_iff_ne, beq_iff_eq, beq_eq_false_iff_ne, bne_eq_false_iff_eq, Bool.not_eq_true', Bool.not_eq_false', bys_length, List.length_append, List.length_cons, List.length_nil, List.length_map, List.length_drop, List.length_take, Int.natCast_add, wrap_i64_eq, wrap_u64, wrap_u8, ne_eq, not_true_eq_false, not_false_eq_true, Nat.zero_add, Nat.mul_one] <;> omega) | omega | (simp; done) | (simp; omega))) only [↓CR, MC, ↓PR, MR, Option.getD_some, Option.isSome_some, Option.isSome_none, isF_1, cap_0, Bool.not_true, Bool.not_false, r]
      · have r := fun (Q : Res → Prop) (tg : Hid Q) => cl2_no (d := d + 31023) (i := i) (k := 6) (c := c) (l := l) (p := p) (b := b) (g := g) (Q := Q) (tg := tg) c7
        have z1 := fun n cp => isF_n (f := 106) (n := n) (g := 107) (cp := cp) rfl
        rw [g6]
        simp (disch := (first | assumption | (simp only [Bool.and_eq_true, Bool.and_eq_false_iff, decide_eq_true_eq, decide_eq_false_iff_not, bne_iff_ne, beq_iff_eq, beq_eq_false_iff_ne, bne_eq_false_iff_eq, Bool.not_eq_true', Bool.not_eq_false', bys_length, List.length_append, List.length_cons, List.length_nil, List.length_map, List.length_drop, List.length_take, Int.natCast_add, wrap_i64_eq, wrap_u64, wrap_u8, ne_eq, not_true_eq_false, not_false_eq_true, Nat.zero_add, Nat.mul_one] <;> omega) | omega | (simp; done) | (simp; omega))) only [↓CR, MC, ↓PR, MR, Option.getD_some, Option.isSome_some, Option.isSome_none, z1, isF_3, cap_0, cap_1, cap_2, Bool.not_true, Bool.not_false, r]
      · have r := fun (Q : Res → Prop) (tg : Hid Q) => cl3_no (d := d + 31023) (i := i) (k := 7) (c := c) (l := l) (p := p) (b := b) (g := g) (Q := Q) (tg := tg) c7
        have z1 := fun n cp => isF_n (f := 106) (n := n) (g := 109) (cp := cp) rfl
        have z2 := fun n cp => isF_n (f := 107) (n := n) (g := 109) (cp := cp) rfl
        rw [g7]
        simp (disch := (first | assumption | (simp only [Bool.and_eq_true, Bool.and_eq_false_iff, decide_eq_true_eq, decide_eq_false_iff_not, bne_iff_ne, beq_iff_eq, beq_eq_false_iff_ne, bne_eq_false_iff_eq, Bool.not_eq_true', Bool.not_eq_false', bys_length, List.length_append, List.length_cons, List.length_nil, List.length_map, List.length_drop, List.length_take, Int.natCast_add, wrap_i64_eq, wrap_u64, wrap_u8, ne_eq, not_true_eq_false, not_false_eq_true, Nat.zero_add, Nat.mul_one] <;> omega) | omega | (simp; done) | (simp; omega))) only [↓CR, MC, ↓PR, MR, Option.getD_some, Option.isSome_some, Option.isSome_none, z1, z2, isF_3, cap_0, cap_1, cap_2, Bool.not_true, Bool.not_false, r]
      · have r := fun (Q : Res → Prop) (tg : Hid Q) => cl4_no (d := d + 31023) (i := i) (k := 8) (c := c) (l := l) (p := p) (b := b) (g := g) (Q := Q) (tg := tg) c7
        have z1 := fun n cp => isF_n (f := 106) (n := n) (g := 110) (cp := cp) rfl
        have z2 := fun n cp => isF_n (f := 107) (n := n) (g := 110) (cp := cp) rfl
        have z3 := fun n cp => isF_n (f := 109) (n := n) (g := 110) (cp := cp) rfl
        rw [g8]
        simp (disch := (first | assumption | (simp only [Bool.and_eq_true, Bool.and_eq_false_iff, decide_eq_true_eq, decide_eq_false_iff_not, bne_iff_ne, beq_iff_eq, beq_eq_false_iff_ne, bne_eq_false_iff_eq, Bool.not_eq_true', Bool.not_eq_false', bys_length, List.length_append, List.length_cons, List.length_nil, List.length_map, List.length_drop, List.length_take, Int.natCast_add, wrap_i64_eq, wrap_u64, wrap_u8, ne_eq, not_true_eq_false, not_false_eq_true, Nat.zero_add, Nat.mul_one] <;> omega) | omega | (simp; done) | (simp; omega))) only [↓CR, MC, ↓PR, MR, Option.getD_some, Option.isSome_some, Option.isSome_none, z1, z2, z3, isF_3, cap_0, cap_1, cap_2, Bool.not_true, Bool.not_false, r]
      · have r := fun (Q : Res → Prop) (tg : Hid Q) => cl5_no (d := d + 31023) (i := i) (k := 9) (c := c) (l := l) (p := p) (b := b) (g := g) (Q := Q) (tg := tg) c7
        have z1 := fun n cp => isF_n (f := 106) (n := n) (g := 112) (cp := cp) rfl
        have z2 := fun n cp => isF_n (f := 107) (n := n) (g := 112) (cp := cp) rfl
        have z3 := fun n cp => isF_n (f := 109) (n := n) (g := 112) (cp := cp) rfl
        have z4 := fun n cp => isF_n (f := 110) (n := n) (g := 112) (cp := cp) rfl
        rw [g9]
        simp (disch := (first | assumption | (simp only [Bool.and_eq_true, Bool.and_eq_false_iff, decide_eq_true_eq, decide_eq_false_iff_not, bne_iff_ne, beq_iff_eq, beq_eq_false_iff_ne, bne_eq_false_iff_eq, Bool.not_eq_true', Bool.not_eq_false', bys_length, List.length_append, List.length_cons, List.length_nil, List.length_map, List.length_drop, List.length_take, Int.natCast_add, wrap_i64_eq, wrap_u64, wrap_u8, ne_eq, not_true_eq_false, not_false_eq_true, Nat.zero_add, Nat.mul_one] <;> omega) | omega | (simp; done) | (simp; omega))) only [↓CR, MC, ↓PR, MR, Option.getD_some, Option.isSome_some, Option.isSome_none, z1, z2, z3, z4, isF_3, cap_0, cap_1, cap_2, Bool.not_true, Bool.not_false, r]
    · have hop : (s.hd.getD c.toNat 0 != 0) = !(k == 5) := by
        simp only [bne]
        revert hx
        cases (k == 5) <;> cases (s.hd.getD c.toNat 0 == 0) <;> simp
      rw [hop] at c7
      have e1 : lsone s ⟨k, c, l, p, g, b⟩ = (if k = 6 ∨ k = 7 then (match lchange s.tab b with | none => none | some t => some ⟨t, s.hd.set c.toNat l, s.com, s.und, s.ends⟩)
          else if k = 8 then some ⟨s.tab, s.hd.set c.toNat 0, s.com + 1, s.und, s.ends ++ [l]⟩
          else if k = 9 then some ⟨s.tab, s.hd.set c.toNat 0, s.com, s.und + 1, s.ends⟩
          else some ⟨s.tab, s.hd.set c.toNat l, s.com, s.und, s.ends⟩) := by
        unfold lsone
        rw [if_neg ko, if_neg hx]
        try rfl
      rcases k' with rfl | rfl | rfl | rfl | rfl
      · have r := fun (Q : Res → Prop) (tg : Hid Q) => cl1_run (d := d + 31023) (Q := Q) (tg := tg) (o := false) c7
        have eo : lsone s ⟨5, c, l, p, g, b⟩ = some ⟨s.tab, s.hd.set c.toNat l, s.com, s.und, s.ends⟩ := by rw [e1]; rfl
        obtain ⟨⟨x1, t1⟩, t2, ⟨x3, t3⟩, t4⟩ := oneTail LH.at' hh (c := c) (l := l) (by omega) (by omega)
        have z8 : ((5 : Int) == 8) = false := rfl
        have z9 : ((5 : Int) == 9) = false := rfl
        refine ⟨H.put i (lsO (HCell.val (.obj ti 0)) (s.hd.set c.toNat l) s.com s.und e), fun s' hs => ?_, fun Q tg => ?_⟩
        · rw [eo] at hs
          cases hs
          exact ⟨t, e, IsLs.hd' LH.T LH.at' LH.en LH.tl LH.n1 LH.n2⟩
        · rw [P94_0_eq, at_upd5, ← hTB, ← hH, at_lookK encInt hmH, g5, eo]
          simp (disch := (first | assumption | (simp only [Bool.and_eq_true, Bool.and_eq_false_iff, decide_eq_true_eq, decide_eq_false_iff_not, bne_iff_ne, beq_iff_eq, beq_eq_false_iff_ne, bne_eq_false_iff_eq, Bool.not_eq_true', Bool.not_eq_false', bys_length, List.length_append, List.length_cons, List.length_nil, List.length_map, List.length_drop, List.length_take, Int.natCast_add, wrap_i64_eq, wrap_u64, wrap_u8, ne_eq, not_true_eq_false, not_false_eq_true, Nat.zero_add, Nat.mul_one] <;> omega) | omega | (simp; done) | (simp; omega))) only [↓CR, MC, ↓PR, MR, Option.getD_some, Option.isSome_some, isF_1, cap_0, Bool.not_true, Bool.not_false, r, q1, t1, t2, z8, z9]
      · obtain ⟨h', t', T', hm', hold', hL', rc⟩ := change_run d i ti tr t e s H LH I.len g b hb
        have r := fun (Q : Res → Prop) (tg : Hid Q) => cl2_yes (d := d + 31023) (i := i) (k := 6) (c := c) (l := l) (p := p) (b := b) (g := g) (Q := Q) (tg := tg) c7 rc
        have z1 := fun n cp => isF_n (f := 106) (n := n) (g := 107) (cp := cp) rfl
        cases hc : lchange s.tab b with
        | none =>
          have eo : lsone s ⟨6, c, l, p, g, b⟩ = none := by rw [e1, hc]; rfl
          rw [hc] at r
          refine ⟨h', fun s' hs => absurd hs (by rw [eo]; simp), fun Q tg => ?_⟩
          rw [P94_0_eq, at_upd5, ← hTB, ← hH, at_lookK encInt hmH, g6, eo]
          simp (disch := (first | assumption | (simp only [Bool.and_eq_true, Bool.and_eq_false_iff, decide_eq_true_eq, decide_eq_false_iff_not, bne_iff_ne, beq_iff_eq, beq_eq_false_iff_ne, bne_eq_false_iff_eq, Bool.not_eq_true', Bool.not_eq_false', bys_length, List.length_append, List.length_cons, List.length_nil, List.length_map, List.length_drop, List.length_take, Int.natCast_add, wrap_i64_eq, wrap_u64, wrap_u8, ne_eq, not_true_eq_false, not_false_eq_true, Nat.zero_add, Nat.mul_one] <;> omega) | omega | (simp; done) | (simp; omega))) only [↓CR, MC, ↓PR, MR, Option.getD_some, Option.isSome_some, Option.isSome_none, z1, isF_3, cap_0, cap_1, cap_2, Bool.not_true, Bool.not_false, r]
        | some tb =>
          have eo : lsone s ⟨6, c, l, p, g, b⟩ = some ⟨tb, s.hd.set c.toNat l, s.com, s.und, s.ends⟩ := by rw [e1, hc]; rfl
          rw [hc] at r hL'
          obtain ⟨⟨x1, t1⟩, t2, ⟨x3, t3⟩, t4⟩ := oneTail hm' hh (c := c) (l := l) (by omega) (by omega)
          have z8 : ((6 : Int) == 8) = false := rfl
          have z9 : ((6 : Int) == 9) = false := rfl
          refine ⟨h'.put i (lsO (HCell.val (.obj ti 0)) (s.hd.set c.toNat l) s.com s.und e), fun s' hs => ?_, fun Q tg => ?_⟩
          · rw [eo] at hs
            cases hs
            exact ⟨t', e, IsLs.hd' T' hm' LH.en hL' LH.n1 LH.n2⟩
          · rw [P94_0_eq, at_upd5, ← hTB, ← hH, at_lookK encInt hmH, g6, eo]
            simp (disch := (first | assumption | (simp only [Bool.and_eq_true, Bool.and_eq_false_iff, decide_eq_true_eq, decide_eq_false_iff_not, bne_iff_ne, beq_iff_eq, beq_eq_false_iff_ne, bne_eq_false_iff_eq, Bool.not_eq_true', Bool.not_eq_false', bys_length, List.length_append, List.length_cons, List.length_nil, List.length_map, List.length_drop, List.length_take, Int.natCast_add, wrap_i64_eq, wrap_u64, wrap_u8, ne_eq, not_true_eq_false, not_false_eq_true, Nat.zero_add, Nat.mul_one] <;> omega) | omega | (simp; done) | (simp; omega))) only [↓CR, MC, ↓PR, MR, Option.getD_some, Option.isSome_some, z1, isF_3, cap_0, cap_1, cap_2, Bool.not_true, Bool.not_false, r, q1, t1, t2, z8, z9]
      · obtain ⟨h', t', T', hm', hold', hL', rc⟩ := change_run d i ti tr t e s H LH I.len g b hb
        have r := fun (Q : Res → Prop) (tg : Hid Q) => cl3_yes (d := d + 31023) (i := i) (k := 7) (c := c) (l := l) (p := p) (b := b) (g := g) (Q := Q) (tg := tg) c7 rc
        have z1 := fun n cp => isF_n (f := 106) (n := n) (g := 109) (cp := cp) rfl
        have z2 := fun n cp => isF_n (f := 107) (n := n) (g := 109) (cp := cp) rfl
        cases hc : lchange s.tab b with
        | none =>
          have eo : lsone s ⟨7, c, l, p, g, b⟩ = none := by rw [e1, hc]; rfl
          rw [hc] at r
          refine ⟨h', fun s' hs => absurd hs (by rw [eo]; simp), fun Q tg => ?_⟩
          rw [P94_0_eq, at_upd5, ← hTB, ← hH, at_lookK encInt hmH, g7, eo]
          simp (disch := (first | assumption | (simp only [Bool.and_eq_true, Bool.and_eq_false_iff, decide_eq_true_eq, decide_eq_false_iff_not, bne_iff_ne, beq_iff_eq, beq_eq_false_iff_ne, bne_eq_false_iff_eq, Bool.not_eq_true', Bool.not_eq_false', bys_length, List.length_append, List.length_cons, List.length_nil, List.length_map, List.length_drop, List.length_take, Int.natCast_add, wrap_i64_eq, wrap_u64, wrap_u8, ne_eq, not_true_eq_false, not_false_eq_true, Nat.zero_add, Nat.mul_one] <;> omega) | omega | (simp; done) | (simp; omega))) only [↓CR, MC, ↓PR, MR, Option.getD_some, Option.isSome_some, Option.isSome_none, z1, z2, isF_3, cap_0, cap_1, cap_2, Bool.not_true, Bool.not_false, r]
        | some tb =>
          have eo : lsone s ⟨7, c, l, p, g, b⟩ = some ⟨tb, s.hd.set c.toNat l, s.com, s.und, s.ends⟩ := by rw [e1, hc]; rfl
          rw [hc] at r hL'
          obtain ⟨⟨x1, t1⟩, t2, ⟨x3, t3⟩, t4⟩ := oneTail hm' hh (c := c) (l := l) (by omega) (by omega)
          have z8 : ((7 : Int) == 8) = false := rfl
          have z9 : ((7 : Int) == 9) = false := rfl
          refine ⟨h'.put i (lsO (HCell.val (.obj ti 0)) (s.hd.set c.toNat l) s.com s.und e), fun s' hs => ?_, fun Q tg => ?_⟩
          · rw [eo] at hs
            cases hs
            exact ⟨t', e, IsLs.hd' T' hm' LH.en hL' LH.n1 LH.n2⟩
          · rw [P94_0_eq, at_upd5, ← hTB, ← hH, at_lookK encInt hmH, g7, eo]
            simp (disch := (first | assumption | (simp only [Bool.and_eq_true, Bool.and_eq_false_iff, decide_eq_true_eq, decide_eq_false_iff_not, bne_iff_ne, beq_iff_eq, beq_eq_false_iff_ne, bne_eq_false_iff_eq, Bool.not_eq_true', Bool.not_eq_false', bys_length, List.length_append, List.length_cons, List.length_nil, List.length_map, List.length_drop, List.length_take, Int.natCast_add, wrap_i64_eq, wrap_u64, wrap_u8, ne_eq, not_true_eq_false, not_false_eq_true, Nat.zero_add, Nat.mul_one] <;> omega) | omega | (simp; done) | (simp; omega))) only [↓CR, MC, ↓PR, MR, Option.getD_some, Option.isSome_some, z1, z2, isF_3, cap_0, cap_1, cap_2, Bool.not_true, Bool.not_false, r, q1, t1, t2, z8, z9]
      · obtain ⟨e', he'', rc'⟩ := end_run (d + 31022) i ti tr t e s H LH hh hcm hun hen ⟨8, c, l, p, g, b⟩ (.inl rfl)
        have he' : enOK e' (s.ends ++ [l]) := he''
        have rc : ∀ (Q : Res → Prop) (tg : Hid Q), Run (evFn Cw (d + 31023) 111 [.obj i 0, AVal.agg [(AVal.int .i64 8), (AVal.int .i64 c), (AVal.int .i64 l), (AVal.int .i64 p), (AVal.sl g 0 (bys b))]] H) Q tg = Q ([.bool true], H.put i (lsO (HCell.val (.obj ti 0)) s.hd (s.com + 1) s.und e')) := rc'
        have r := fun (Q : Res → Prop) (tg : Hid Q) => cl4_yes (d := d + 31023) (i := i) (k := 8) (c := c) (l := l) (p := p) (b := b) (g := g) (Q := Q) (tg := tg) c7 rc
        have z1 := fun n cp => isF_n (f := 106) (n := n) (g := 110) (cp := cp) rfl
        have z2 := fun n cp => isF_n (f := 107) (n := n) (g := 110) (cp := cp) rfl
        have z3 := fun n cp => isF_n (f := 109) (n := n) (g := 110) (cp := cp) rfl
        have eo : lsone s ⟨8, c, l, p, g, b⟩ = some ⟨s.tab, s.hd.set c.toNat 0, s.com + 1, s.und, s.ends ++ [l]⟩ := by rw [e1]; rfl
        have hm' := Heap.put_get (o := lsO (HCell.val (.obj ti 0)) s.hd (s.com + 1) s.und e') LH.at'
        obtain ⟨⟨x1, t1⟩, t2, ⟨x3, t3⟩, t4⟩ := oneTail hm' hh (c := c) (l := l) (by omega) (by omega)
        rw [Heap.put_put] at t2 t3 t4
        rw [Heap.put_put] at t4
        have z8 : ((8 : Int) == 8) = true := rfl
        have z9 : ((8 : Int) == 9) = false := rfl
        refine ⟨H.put i (lsO (HCell.val (.obj ti 0)) (s.hd.set c.toNat 0) (s.com + 1) s.und e'), fun s' hs => ?_, fun Q tg => ?_⟩
        · rw [eo] at hs
          cases hs
          exact ⟨t, e', IsLs.hd' LH.T LH.at' he' LH.tl LH.n1 LH.n2⟩
        · rw [P94_0_eq, at_upd5, ← hTB, ← hH, at_lookK encInt hmH, g8, eo]
          simp (disch := (first | assumption | (simp only [Bool.and_eq_true, Bool.and_eq_false_iff, decide_eq_true_eq, decide_eq_false_iff_not, bne_iff_ne, beq_iff_eq, beq_eq_false_iff_ne, bne_eq_false_iff_eq, Bool.not_eq_true', Bool.not_eq_false', bys_length, List.length_append, List.length_cons, List.length_nil, List.length_map, List.length_drop, List.length_take, Int.natCast_add, wrap_i64_eq, wrap_u64, wrap_u8, ne_eq, not_true_eq_false, not_false_eq_true, Nat.zero_add, Nat.mul_one] <;> omega) | omega | (simp; done) | (simp; omega))) only [↓CR, MC, ↓PR, MR, Option.getD_some, Option.isSome_some, z1, z2, z3, isF_3, cap_0, cap_1, cap_2, Bool.not_true, Bool.not_false, r, q1, t1, t2, t3, t4, z8, z9]
      · obtain ⟨e', he'', rc'⟩ := end_run (d + 31022) i ti tr t e s H LH hh hcm hun hen ⟨9, c, l, p, g, b⟩ (.inr rfl)
        have he' : enOK e' (s.ends) := he''
        have rc : ∀ (Q : Res → Prop) (tg : Hid Q), Run (evFn Cw (d + 31023) 111 [.obj i 0, AVal.agg [(AVal.int .i64 9), (AVal.int .i64 c), (AVal.int .i64 l), (AVal.int .i64 p), (AVal.sl g 0 (bys b))]] H) Q tg = Q ([.bool true], H.put i (lsO (HCell.val (.obj ti 0)) s.hd s.com (s.und + 1) e')) := rc'
        have r := fun (Q : Res → Prop) (tg : Hid Q) => cl5_yes (d := d + 31023) (i := i) (k := 9) (c := c) (l := l) (p := p) (b := b) (g := g) (Q := Q) (tg := tg) c7 rc
        have z1 := fun n cp => isF_n (f := 106) (n := n) (g := 112) (cp := cp) rfl
        have z2 := fun n cp => isF_n (f := 107) (n := n) (g := 112) (cp := cp) rfl
        have z3 := fun n cp => isF_n (f := 109) (n := n) (g := 112) (cp := cp) rfl
        have z4 := fun n cp => isF_n (f := 110) (n := n) (g := 112) (cp := cp) rfl
        have eo : lsone s ⟨9, c, l, p, g, b⟩ = some ⟨s.tab, s.hd.set c.toNat 0, s.com, s.und + 1, s.ends⟩ := by rw [e1]; rfl
        have hm' := Heap.put_get (o := lsO (HCell.val (.obj ti 0)) s.hd s.com (s.und + 1) e') LH.at'
        obtain ⟨⟨x1, t1⟩, t2, ⟨x3, t3⟩, t4⟩ := oneTail hm' hh (c := c) (l := l) (by omega) (by omega)
        rw [Heap.put_put] at t2 t3 t4
        rw [Heap.put_put] at t4
        have z8 : ((9 : Int) == 8) = false := rfl
        have z9 : ((9 : Int) == 9) = true := rfl
        refine ⟨H.put i (lsO (HCell.val (.obj ti 0)) (s.hd.set c.toNat 0) s.com (s.und + 1) e'), fun s' hs => ?_, fun Q tg => ?_⟩
        · rw [eo] at hs
          cases hs
          exact ⟨t, e', IsLs.hd' LH.T LH.at' he' LH.tl LH.n1 LH.n2⟩
        · rw [P94_0_eq, at_upd5, ← hTB, ← hH, at_lookK encInt hmH, g9, eo]
          simp (disch := (first | assumption | (simp only [Bool.and_eq_true, Bool.and_eq_false_iff, decide_eq_true_eq, decide_eq_false_iff_not, bne_iff_ne, beq_iff_eq, beq_eq_false_iff_ne, bne_eq_false_iff_eq, Bool.not_eq_true', Bool.not_eq_false', bys_length, List.length_append, List.length_cons, List.length_nil, List.length_map, List.length_drop, List.length_take, Int.natCast_add, wrap_i64_eq, wrap_u64, wrap_u8, ne_eq, not_true_eq_false, not_false_eq_true, Nat.zero_add, Nat.mul_one] <;> omega) | omega | (simp; done) | (simp; omega))) only [↓CR, MC, ↓PR, MR, Option.getD_some, Option.isSome_some, z1, z2, z3, z4, isF_3, cap_0, cap_1, cap_2, Bool.not_true, Bool.not_false, r, q1, t1, t2, t3, t4, z8, z9]
theorem one_run (d i ti tr : Nat) (t : Nd) (e : HCell) (s : LS) (h : Heap) (L : IsLs h i ti tr t e s) (I : LInv 1000 s) (k c l p : Int) (g : Bool) (b : List UInt8) (hb : b.length ≤ 600) (h0 : 0 < c) (h3 : c ≤ 3) :
    ∃ h' : Heap, (∀ s', lsone s ⟨k, c, l, p, g, b⟩ = some s' → ∃ t' e', IsLs h' i ti tr t' e' s') ∧ ∀ (Q : Res → Prop) (tg : Hid Q),
      Run (evFn Cw (d + 31025) 94 [.obj i 0, .agg [.int .i64 k, .int .i64 c, .int .i64 l, .int .i64 p, .sl g 0 (bys b)]] h) Q tg = Q ([.bool (lsone s ⟨k, c, l, p, g, b⟩).isSome], h') := by
  have E := Heap.ext.push h (.cells [HCell.val (.bool (s.hd.getD c.toNat 0 != 0))])
  have E0 := Heap.ext.push h (.cells [HCell.val (.bool false)])
  obtain ⟨h', H1, r⟩ := one0_run d i ti tr h.objs.length t e s _ (L.ext E) I k c l p g b hb h0 h3 (Heap.push_new h _)
  have q1 : (decide ((0 : Int) ≤ c) && decide (c < 4)) = true := by simp; omega
  have hc : c.toNat < 4 := by omega
  have c1 := ls_hd L.at' I.hd hc
  have c2 := ls_hd (L.ext E0).at' I.hd hc
  have c3 : (h.push (.cells [HCell.val (.bool false)])).cell? h.objs.length 0 = some (HCell.val (.bool false)) := by rw [Heap.cell_at (Heap.push_new h _)]; rfl
  have s3 : ∀ b, (h.push (.cells [HCell.val (.bool false)])).setCell h.objs.length 0 (HCell.val (.bool b)) = h.push (.cells [HCell.val (.bool b)]) := fun b => by
    rw [Heap.set_at (Heap.push_new h _)]; simp [Heap.push, Heap.put]
  refine ⟨h', H1, fun Q tg => ?_⟩
  rw [F94_eq]
  simp (disch := (first | assumption | (simp only [Bool.and_eq_true, Bool.and_eq_false_iff, decide_eq_true_eq, decide_eq_false_iff_not, bne_iff_ne, beq_iff_eq, beq_eq_false_iff_ne, bne_eq_false_iff_eq, Bool.not_eq_true', Bool.not_eq_false', bys_length, List.length_append, List.length_cons, List.length_nil, List.length_map, List.length_drop, List.length_take, Int.natCast_add, wrap_i64_eq, wrap_u64, wrap_u8, ne_eq, not_true_eq_false, not_false_eq_true, Nat.zero_add, Nat.mul_one] <;> omega) | omega | (simp; done) | (simp; omega))) only [↓CR, MC, ↓PR, MR, q1, c1, c2, c3, s3, r]
end Go.Proofs.Ytdlcjibefbnckaa.Wa
end

section
/- Losers: the program's Analyze; the chains that are open; Few. -/
namespace Go.Proofs.Ytdlcjibefbnckaa.Wa
open Go Go.Weave
set_option maxRecDepth 100000
set_option linter.unusedSimpArgs false
set_option linter.unusedVariables false
set_option linter.unusedSectionVars false

def lcs (l : List Rec) : List AVal := l.map Rec.A
theorem lcs_length (l : List Rec) : (lcs l).length = l.length := by simp [lcs]
theorem lcs_getD {l : List Rec} {i : Nat} (h : i < l.length) (hf : l[i].full = false) : (lcs l).getD i AVal.undef = .agg [.int .i64 l[i].kind, .int .i64 l[i].chain, .int .i64 l[i].lsn, .int .i64 l[i].prev, .sl false 0 (bys l[i].data)] := by simp [lcs, h, Rec.A, Rec.C, hf]
theorem lcs_getD' {l : List Rec} {i : Nat} (h : i < l.length) : (lcs l).getD i AVal.undef = .agg [.int .i64 l[i].kind, .int .i64 l[i].chain, .int .i64 l[i].lsn, .int .i64 l[i].prev, .sl l[i].full 0 (bys l[i].data)] := by simp [lcs, h, Rec.A, Rec.C]
theorem LInv.mono {n m : Nat} {s : LS} (I : LInv n s) (h : n ≤ m) : LInv m s := ⟨I.srt, Nat.le_trans I.len h, I.hd, Nat.le_trans I.com h, Nat.le_trans I.und h, Nat.le_trans I.ends h⟩
theorem lsone_full {s : LS} {r : Rec} : lsone s ⟨r.kind, r.chain, r.lsn, r.prev, r.full, r.data⟩ = lsone s r := rfl
/-- What an analysis answers. -/
def LRes (h : Heap) : Option LS → List AVal → Prop
  | none, vs => vs = [.agg [.nilp, .int .i64 0, .int .i64 0, .int .i64 0, .int .i64 0, .int .i64 0, .int .i64 0, .sl true 0 []], .int .i64 12]
  | some s, vs => ∃ ti tr t fl x y z w, s.hd = [x, y, z, w] ∧ IsTab h ti tr t ∧ t.toL = s.tab ∧ vs = [.agg [.obj ti 0, .int .i64 x, .int .i64 y, .int .i64 z, .int .i64 w, .int .i64 s.com, .int .i64 s.und, .sl fl 0 (ints s.ends)], .int .i64 0]
theorem lrun_cons (s : LS) (r : Rec) (l : List Rec) : lrun s (r :: l) = match lstep s r with | none => none | some s' => lrun s' l := rfl
theorem lstep_skip {s : LS} {r : Rec} (h : r.chain = 0 ∨ r.kind = 1) : lstep s r = some s := by unfold lstep; rw [if_pos h]
theorem lstep_bad {s : LS} {r : Rec} (h : ¬ (r.chain = 0 ∨ r.kind = 1)) (h2 : r.chain < 0 ∨ 3 < r.chain ∨ r.lsn < 1) : lstep s r = none := by unfold lstep; rw [if_neg h, if_pos h2]
theorem lstep_one {s : LS} {r : Rec} (h : ¬ (r.chain = 0 ∨ r.kind = 1)) (h2 : ¬ (r.chain < 0 ∨ 3 < r.chain ∨ r.lsn < 1)) : lstep s r = lsone s r := by unfold lstep; rw [if_neg h, if_neg h2]
theorem lana_loop (d : Nat) (f : Bool) (l : List Rec) (hl : l.length ≤ 100) (hr : ∀ r ∈ l, r.data.length ≤ 600) (i ti tr : Nat) :
    ∀ (n j k : Nat) (t : Nd) (e : HCell) (s : LS) (h : Heap), LInv j s → IsLs h i ti tr t e s → l.length = j + n → n < k →
      ∃ (h' : Heap) (vs : List AVal), LRes h' (lrun s (l.drop j)) vs ∧ ∀ (Q : Res → Prop) (tg : Hid Q), Run (P56_0 (d + 31025) k i f (lcs l) (l.length : Nat) j 0 0 0 0 0 0 h) Q tg = Q (vs, h') := by
  intro n
  induction n with
  | zero =>
    intro j k t e s h I L hj hk
    obtain ⟨k, rfl⟩ : ∃ m, k = m + 1 := ⟨k - 1, by omega⟩
    have hd : l.drop j = [] := List.drop_eq_nil_of_le (by omega)
    obtain ⟨x, y, z, w, hq⟩ := four I.hd
    obtain ⟨fl, hfl⟩ := L.en.toA
    have ha := ls_all L.at' I.hd
    rw [hq, hfl] at ha
    simp only [List.map_cons, List.map_nil, List.cons_append, List.nil_append] at ha
    rw [hd]
    refine ⟨h, _, ⟨ti, tr, t, fl, x, y, z, w, hq, L.T, L.tl, rfl⟩, fun Q tg => ?_⟩
    rw [P56_0_eq]
    simp (disch := (first | assumption | (simp only [Bool.and_eq_true, Bool.and_eq_false_iff, decide_eq_true_eq, decide_eq_false_iff_not, bne_iff_ne, beq_iff_eq, beq_eq_false_iff_ne, bne_eq_false_iff_eq, Bool.not_eq_true', Bool.not_eq_false', bys_length, List.length_append, List.length_cons, List.length_nil, List.length_map, List.length_drop, List.length_take, Int.natCast_add, wrap_i64_eq, wrap_u64, wrap_u8, ne_eq, not_true_eq_false, not_false_eq_true, Nat.zero_add, Nat.mul_one] <;> omega) | omega | (simp; done) | (simp; omega))) only [↓CR, MC, ↓PR, MR, ha]
  | succ n ih =>
    intro j k t e s h I L hj hk
    obtain ⟨k, rfl⟩ : ∃ m, k = m + 1 := ⟨k - 1, by omega⟩
    have h1 : j < l.length := by omega
    have e1 := succ_wrap (i := j) (by omega)
    have hb := hr _ (List.getElem_mem h1)
    have qi : (decide ((0 : Int) ≤ (j : Nat)) && decide (((j : Nat) : Int) < (l.length : Nat))) = true := by simp; omega
    have qj : decide (((j : Nat) : Int) < (l.length : Nat)) = true := by simp; omega
    rw [List.drop_eq_getElem_cons h1, lrun_cons]
    by_cases c1 : l[j].chain = 0 ∨ l[j].kind = 1
    · rw [lstep_skip c1]
      obtain ⟨h', vs, H, r⟩ := ih (j + 1) k t e s h I.up L (by omega) (by omega)
      refine ⟨h', vs, H, fun Q tg => ?_⟩
      rw [P56_0_eq]
      by_cases c0 : l[j].chain = 0
      · have b1 : ((l[j].chain : Int) == 0) = true := by simp [c0]
        simp (disch := (first | assumption | (simp only [Bool.and_eq_true, Bool.and_eq_false_iff, decide_eq_true_eq, decide_eq_false_iff_not, bne_iff_ne, beq_iff_eq, beq_eq_false_iff_ne, bne_eq_false_iff_eq, Bool.not_eq_true', Bool.not_eq_false', bys_length, List.length_append, List.length_cons, List.length_nil, List.length_map, List.length_drop, List.length_take, Int.natCast_add, wrap_i64_eq, wrap_u64, wrap_u8, ne_eq, not_true_eq_false, not_false_eq_true, Nat.zero_add, Nat.mul_one] <;> omega) | omega | (simp; done) | (simp; omega))) only [↓CR, MC, ↓PR, MR, lcs_length, lcs_getD' h1, qi, qj, b1, e1, r]
      · have b1 : ((l[j].chain : Int) == 0) = false := by simp [c0]
        have b2 : ((l[j].kind : Int) == 1) = true := by simp; omega
        simp (disch := (first | assumption | (simp only [Bool.and_eq_true, Bool.and_eq_false_iff, decide_eq_true_eq, decide_eq_false_iff_not, bne_iff_ne, beq_iff_eq, beq_eq_false_iff_ne, bne_eq_false_iff_eq, Bool.not_eq_true', Bool.not_eq_false', bys_length, List.length_append, List.length_cons, List.length_nil, List.length_map, List.length_drop, List.length_take, Int.natCast_add, wrap_i64_eq, wrap_u64, wrap_u8, ne_eq, not_true_eq_false, not_false_eq_true, Nat.zero_add, Nat.mul_one] <;> omega) | omega | (simp; done) | (simp; omega))) only [↓CR, MC, ↓PR, MR, lcs_length, lcs_getD' h1, qi, qj, b1, b2, e1, r]
    · have b1 : ((l[j].chain : Int) == 0) = false := by simp; omega
      have b2 : ((l[j].kind : Int) == 1) = false := by simp; omega
      by_cases c2 : l[j].chain < 0 ∨ 3 < l[j].chain ∨ l[j].lsn < 1
      · rw [lstep_bad c1 c2]
        refine ⟨h, _, rfl, fun Q tg => ?_⟩
        rw [P56_0_eq]
        by_cases c3 : l[j].chain < 0
        · have b3 : decide (l[j].chain < 0) = true := by simp [c3]
          simp (disch := (first | assumption | (simp only [Bool.and_eq_true, Bool.and_eq_false_iff, decide_eq_true_eq, decide_eq_false_iff_not, bne_iff_ne, beq_iff_eq, beq_eq_false_iff_ne, bne_eq_false_iff_eq, Bool.not_eq_true', Bool.not_eq_false', bys_length, List.length_append, List.length_cons, List.length_nil, List.length_map, List.length_drop, List.length_take, Int.natCast_add, wrap_i64_eq, wrap_u64, wrap_u8, ne_eq, not_true_eq_false, not_false_eq_true, Nat.zero_add, Nat.mul_one] <;> omega) | omega | (simp; done) | (simp; omega))) only [↓CR, MC, ↓PR, MR, lcs_length, lcs_getD' h1, qi, qj, b1, b2, b3]
        · have b3 : decide (l[j].chain < 0) = false := by simp; omega
          by_cases c4 : 3 < l[j].chain
          · have b4 : decide (l[j].chain > 3) = true := by simp; omega
            simp (disch := (first | assumption | (simp only [Bool.and_eq_true, Bool.and_eq_false_iff, decide_eq_true_eq, decide_eq_false_iff_not, bne_iff_ne, beq_iff_eq, beq_eq_false_iff_ne, bne_eq_false_iff_eq, Bool.not_eq_true', Bool.not_eq_false', bys_length, List.length_append, List.length_cons, List.length_nil, List.length_map, List.length_drop, List.length_take, Int.natCast_add, wrap_i64_eq, wrap_u64, wrap_u8, ne_eq, not_true_eq_false, not_false_eq_true, Nat.zero_add, Nat.mul_one] <;> omega) | omega | (simp; done) | (simp; omega))) only [↓CR, MC, ↓PR, MR, lcs_length, lcs_getD' h1, qi, qj, b1, b2, b3, b4]
          · have b4 : decide (l[j].chain > 3) = false := by simp; omega
            have b5 : decide (l[j].lsn < 1) = true := by simp; omega
            simp (disch := (first | assumption | (simp only [Bool.and_eq_true, Bool.and_eq_false_iff, decide_eq_true_eq, decide_eq_false_iff_not, bne_iff_ne, beq_iff_eq, beq_eq_false_iff_ne, bne_eq_false_iff_eq, Bool.not_eq_true', Bool.not_eq_false', bys_length, List.length_append, List.length_cons, List.length_nil, List.length_map, List.length_drop, List.length_take, Int.natCast_add, wrap_i64_eq, wrap_u64, wrap_u8, ne_eq, not_true_eq_false, not_false_eq_true, Nat.zero_add, Nat.mul_one] <;> omega) | omega | (simp; done) | (simp; omega))) only [↓CR, MC, ↓PR, MR, lcs_length, lcs_getD' h1, qi, qj, b1, b2, b3, b4, b5]
      · rw [lstep_one c1 c2]
        have b3 : decide (l[j].chain < 0) = false := by simp; omega
        have b4 : decide (l[j].chain > 3) = false := by simp; omega
        have b5 : decide (l[j].lsn < 1) = false := by simp; omega
        obtain ⟨h1', H1, ro⟩ := one_run d i ti tr t e s h L (I.mono (by omega)) l[j].kind l[j].chain l[j].lsn l[j].prev l[j].full l[j].data hb (by omega) (by omega)
        rw [lsone_full] at H1 ro
        cases ho : lsone s l[j] with
        | none =>
          rw [ho] at ro
          refine ⟨h1', _, rfl, fun Q tg => ?_⟩
          rw [P56_0_eq]
          simp (disch := (first | assumption | (simp only [Bool.and_eq_true, Bool.and_eq_false_iff, decide_eq_true_eq, decide_eq_false_iff_not, bne_iff_ne, beq_iff_eq, beq_eq_false_iff_ne, bne_eq_false_iff_eq, Bool.not_eq_true', Bool.not_eq_false', bys_length, List.length_append, List.length_cons, List.length_nil, List.length_map, List.length_drop, List.length_take, Int.natCast_add, wrap_i64_eq, wrap_u64, wrap_u8, ne_eq, not_true_eq_false, not_false_eq_true, Nat.zero_add, Nat.mul_one] <;> omega) | omega | (simp; done) | (simp; omega))) only [↓CR, MC, ↓PR, MR, lcs_length, lcs_getD' h1, qi, qj, b1, b2, b3, b4, b5, ro, Option.isSome_none, Bool.not_false]
        | some s' =>
          rw [ho] at ro
          obtain ⟨t', e', L'⟩ := H1 s' ho
          have I' : LInv (j + 1) s' := lstep_inv I (r := l[j]) (by rw [lstep_one c1 c2]; exact ho)
          obtain ⟨h', vs, H, r⟩ := ih (j + 1) k t' e' s' h1' I' L' (by omega) (by omega)
          refine ⟨h', vs, H, fun Q tg => ?_⟩
          rw [P56_0_eq]
          simp (disch := (first | assumption | (simp only [Bool.and_eq_true, Bool.and_eq_false_iff, decide_eq_true_eq, decide_eq_false_iff_not, bne_iff_ne, beq_iff_eq, beq_eq_false_iff_ne, bne_eq_false_iff_eq, Bool.not_eq_true', Bool.not_eq_false', bys_length, List.length_append, List.length_cons, List.length_nil, List.length_map, List.length_drop, List.length_take, Int.natCast_add, wrap_i64_eq, wrap_u64, wrap_u8, ne_eq, not_true_eq_false, not_false_eq_true, Nat.zero_add, Nat.mul_one] <;> omega) | omega | (simp; done) | (simp; omega))) only [↓CR, MC, ↓PR, MR, lcs_length, lcs_getD' h1, qi, qj, b1, b2, b3, b4, b5, ro, Option.isSome_some, Bool.not_true, e1, r]
section
variable {Q : Res → Prop} {tg : Hid Q}
theorem at_putLs {h : Heap} {i : Nat} {a0 a1 a2 a3 a4 a5 a6 a7 v0 v7 : AVal} {K : Heap → Tr Res} (hm : h.objs[i]? = some (.cells ([a0, a1, a2, a3, a4, a5, a6, a7].map HCell.val))) :
    Run (putCellsK h i 0 8 [v0, .int .i64 0, .int .i64 0, .int .i64 0, .int .i64 0, .int .i64 0, .int .i64 0, v7] K) Q tg = Run (K (h.put i (lsO (.val v0) [0, 0, 0, 0] 0 0 (.val v7)))) Q ⟨⟩ := by
  refine at_eq ?_
  unfold putCellsK
  rw [Heap.cells_at hm (by simp), hm]
  rfl
end
theorem lana_run (d : Nat) (f : Bool) (l : List Rec) (hl : l.length ≤ 100) (hr : ∀ r ∈ l, r.data.length ≤ 600) (h : Heap) :
    ∃ (h' : Heap) (vs : List AVal), LRes h' (lrun lini l) vs ∧ ∀ (Q : Res → Prop) (tg : Hid Q), Run (evFn Cw (d + 31026) 56 [.sl f 6 (lcs l)] h) Q tg = Q (vs, h') := by
  obtain ⟨E1, T1⟩ := tabnew_is h
  obtain ⟨h1, hh1⟩ : ∃ h1, h1 = (h.push (trT .nil)).push (tabO h.objs.length 0) := ⟨_, rfl⟩
  rw [← hh1] at E1 T1
  have hlen : h1.objs.length = h.objs.length + 2 := by rw [hh1, Heap.push_len, Heap.push_len]
  obtain ⟨O, hO⟩ : ∃ O : Weave.Obj, O = Weave.Obj.cells ([AVal.nilp, (AVal.int .i64 0), (AVal.int .i64 0), (AVal.int .i64 0), (AVal.int .i64 0), (AVal.int .i64 0), (AVal.int .i64 0), (AVal.sl true 0 [])].map HCell.val) := ⟨_, rfl⟩
  have E2 := Heap.ext.push h1 O
  have m2 := Heap.push_new h1 O
  have L : IsLs ((h1.push O).put h1.objs.length (lsO (.val (.obj (h.objs.length + 1) 0)) [0, 0, 0, 0] 0 0 (.val (.sl true 0 [])))) h1.objs.length (h.objs.length + 1) h.objs.length .nil (.val (.sl true 0 [])) lini :=
    ⟨Heap.put_get m2, .inr ⟨rfl, rfl⟩, (T1.ext E2).put' (by omega) (by omega), rfl, by omega, by omega⟩
  obtain ⟨h', vs, H, r⟩ := lana_loop (d := d) f l hl hr h1.objs.length _ _ l.length 0 rounds _ _ _ _ lini_inv L (by omega) (Nat.lt_of_lt_of_le (by omega) rounds_ge)
  rw [List.drop_zero] at H
  refine ⟨h', vs, H, fun Q tg => ?_⟩
  have rn := fun (Q : Res → Prop) (tg : Hid Q) => tabnew_run (d := d + 31023) (h := h) (Q := Q) (tg := tg)
  rw [← hh1] at rn
  have e2 : AVal.isAgg (.obj (h.objs.length + 1) 0) = false := rfl
  rw [e0] at r
  rw [hO] at m2 r
  rw [F56_eq]
  simp (disch := (first | assumption | (simp only [Bool.and_eq_true, Bool.and_eq_false_iff, decide_eq_true_eq, decide_eq_false_iff_not, bne_iff_ne, beq_iff_eq, beq_eq_false_iff_ne, bne_eq_false_iff_eq, Bool.not_eq_true', Bool.not_eq_false', bys_length, List.length_append, List.length_cons, List.length_nil, List.length_map, List.length_drop, List.length_take, Int.natCast_add, wrap_i64_eq, wrap_u64, wrap_u8, ne_eq, not_true_eq_false, not_false_eq_true, Nat.zero_add, Nat.mul_one] <;> omega) | omega | (simp; done) | (simp; omega))) only [↓CR, MC, ↓PR, MR, rn, e2, Bool.not_false, at_putLs m2, lcs_length, r]

/-! ### The chains that are open -/
def opn : List Int → Nat → List Int
  | [], _ => []
  | x :: r, c => if x = 0 then opn r (c + 1) else (c : Int) :: opn r (c + 1)
theorem losers_run {d : Nat} {v0 : AVal} {x y z w a b : Int} {f7 : Bool} {l8 : List AVal} {h : Heap} {Q : Res → Prop} {tg : Hid Q} :
    Run (evFn Cw (d + 1) 58 [.agg [v0, .int .i64 x, .int .i64 y, .int .i64 z, .int .i64 w, .int .i64 a, .int .i64 b, .sl f7 0 l8]] h) Q tg = Q ([.sl false 0 (ints (opn [x, y, z, w] 0))], h) := by
  have loop : ∀ (n j k : Nat) (acc : List Int) (tg : Hid Q), acc.length ≤ j → 4 = j + n → n < k → Run (P58_0 d k (ints acc) x y z w j h) Q tg = Q ([.sl false 0 (ints (acc ++ opn ([x, y, z, w].drop j) j))], h) := by
    intro n
    induction n with
    | zero =>
      intro j k acc tg ha hj hk
      obtain ⟨k, rfl⟩ : ∃ m, k = m + 1 := ⟨k - 1, by omega⟩
      obtain rfl : j = 4 := by omega
      rw [P58_0_eq]
      simp (disch := (first | assumption | (simp only [Bool.and_eq_true, Bool.and_eq_false_iff, decide_eq_true_eq, decide_eq_false_iff_not, bne_iff_ne, beq_iff_eq, beq_eq_false_iff_ne, bne_eq_false_iff_eq, Bool.not_eq_true', Bool.not_eq_false', bys_length, List.length_append, List.length_cons, List.length_nil, List.length_map, List.length_drop, List.length_take, Int.natCast_add, wrap_i64_eq, wrap_u64, wrap_u8, ne_eq, not_true_eq_false, not_false_eq_true, Nat.zero_add, Nat.mul_one] <;> omega) | omega | (simp; done) | (simp; omega))) only [↓CR, MC, ↓PR, MR]
      simp [opn]
    | succ n ih =>
      intro j k acc tg ha hj hk
      obtain ⟨k, rfl⟩ : ∃ m, k = m + 1 := ⟨k - 1, by omega⟩
      have h1 : j < [x, y, z, w].length := by simp; omega
      have e1 := succ_wrap (i := j) (by omega)
      have g : [(AVal.int .i64 x), (AVal.int .i64 y), (AVal.int .i64 z), (AVal.int .i64 w)][j * 1]? = some (.int .i64 ([x, y, z, w][j])) := by
        have : [(AVal.int .i64 x), (AVal.int .i64 y), (AVal.int .i64 z), (AVal.int .i64 w)] = ints [x, y, z, w] := rfl
        rw [this, Nat.mul_one, ints_get h1]
      rw [List.drop_eq_getElem_cons h1, P58_0_eq]
      unfold opn
      by_cases c : [x, y, z, w][j] = 0
      · have b1 : (([x, y, z, w][j] : Int) != 0) = false := by simp [c]
        rw [if_pos c]
        simp (disch := (first | assumption | (simp only [Bool.and_eq_true, Bool.and_eq_false_iff, decide_eq_true_eq, decide_eq_false_iff_not, bne_iff_ne, beq_iff_eq, beq_eq_false_iff_ne, bne_eq_false_iff_eq, Bool.not_eq_true', Bool.not_eq_false', bys_length, List.length_append, List.length_cons, List.length_nil, List.length_map, List.length_drop, List.length_take, Int.natCast_add, wrap_i64_eq, wrap_u64, wrap_u8, ne_eq, not_true_eq_false, not_false_eq_true, Nat.zero_add, Nat.mul_one] <;> omega) | omega | (simp; done) | (simp; omega))) only [↓CR, MC, ↓PR, MR, g, b1, e1, ih (j + 1) k acc ⟨⟩ (by omega) (by omega) (by omega)]
      · have b1 : (([x, y, z, w][j] : Int) != 0) = true := by simp [c]
        rw [if_neg c]
        simp (disch := (first | assumption | (simp only [Bool.and_eq_true, Bool.and_eq_false_iff, decide_eq_true_eq, decide_eq_false_iff_not, bne_iff_ne, beq_iff_eq, beq_eq_false_iff_ne, bne_eq_false_iff_eq, Bool.not_eq_true', Bool.not_eq_false', bys_length, List.length_append, List.length_cons, List.length_nil, List.length_map, List.length_drop, List.length_take, Int.natCast_add, wrap_i64_eq, wrap_u64, wrap_u8, ne_eq, not_true_eq_false, not_false_eq_true, Nat.zero_add, Nat.mul_one] <;> omega) | omega | (simp; done) | (simp; omega))) only [↓CR, MC, ↓PR, MR, g, b1, e1, ints_length, ints_snoc, ih (j + 1) k (acc ++ [(j : Int)]) ⟨⟩ (by simp; omega) (by omega) (by omega)]
        simp
  have := loop 4 0 rounds [] ⟨⟩ (by simp) (by omega) (Nat.lt_of_lt_of_le (by omega) rounds_ge)
  rw [e0, ints_nil] at this
  rw [F58_eq]
  exact this

/-! ### Few -/
def fewF : List Rec → Bool
  | [] => true
  | r :: l => !decide (600 < r.data.length) && fewF l
def fewB (l : List Rec) : Bool := fewF l && decide (l.length ≤ 100)
theorem fewF_mem : ∀ {l : List Rec}, fewF l = true → ∀ r ∈ l, r.data.length ≤ 600
  | [], _, r, hr => by simp at hr
  | x :: l, h, r, hr => by
    unfold fewF at h
    simp only [Bool.and_eq_true, Bool.not_eq_true', decide_eq_false_iff_not] at h
    rcases List.mem_cons.1 hr with rfl | hr
    · omega
    · exact fewF_mem h.2 r hr
theorem few_loop (d : Nat) (f : Bool) (l : List Rec) (hl : l.length ≤ 140737488351232) (hr : ∀ r ∈ l, r.data.length ≤ 140737488351232 ∧ r.full = false) (h : Heap) (Q : Res → Prop) : ∀ (n j k : Nat) (tg : Hid Q), l.length = j + n → n < k →
    Run (P54_0 d k f (lcs l) j h) Q tg = Q ([.bool (fewF (l.drop j) && decide (l.length ≤ 100))], h) := by
  intro n
  induction n with
  | zero =>
    intro j k tg hj hk
    obtain ⟨k, rfl⟩ : ∃ m, k = m + 1 := ⟨k - 1, by omega⟩
    have hd : l.drop j = [] := List.drop_eq_nil_of_le (by omega)
    rw [P54_0_eq, hd]
    have eq : decide ((l.length : Int) ≤ 100) = decide (l.length ≤ 100) := by simp only [decide_eq_decide]; omega
    simp (disch := (first | assumption | (simp only [Bool.and_eq_true, Bool.and_eq_false_iff, decide_eq_true_eq, decide_eq_false_iff_not, bne_iff_ne, beq_iff_eq, beq_eq_false_iff_ne, bne_eq_false_iff_eq, Bool.not_eq_true', Bool.not_eq_false', bys_length, List.length_append, List.length_cons, List.length_nil, List.length_map, List.length_drop, List.length_take, Int.natCast_add, wrap_i64_eq, wrap_u64, wrap_u8, ne_eq, not_true_eq_false, not_false_eq_true, Nat.zero_add, Nat.mul_one] <;> omega) | omega | (simp; done) | (simp; omega))) only [↓CR, MC, ↓PR, MR, lcs_length, eq]
    simp [fewF]
  | succ n ih =>
    intro j k tg hj hk
    obtain ⟨k, rfl⟩ : ∃ m, k = m + 1 := ⟨k - 1, by omega⟩
    have h1 : j < l.length := by omega
    have e1 := succ_wrap (i := j) (by omega)
    obtain ⟨hb, hf⟩ := hr _ (List.getElem_mem h1)
    have ih' := fun tg => ih (j + 1) k tg (by omega) (by omega)
    rw [P54_0_eq, List.drop_eq_getElem_cons h1]
    unfold fewF
    by_cases c : 600 < (l[j]).data.length
    · rw [decide_eq_true c]
      simp (disch := (first | assumption | (simp only [Bool.and_eq_true, Bool.and_eq_false_iff, decide_eq_true_eq, decide_eq_false_iff_not, bne_iff_ne, beq_iff_eq, beq_eq_false_iff_ne, bne_eq_false_iff_eq, Bool.not_eq_true', Bool.not_eq_false', bys_length, List.length_append, List.length_cons, List.length_nil, List.length_map, List.length_drop, List.length_take, Int.natCast_add, wrap_i64_eq, wrap_u64, wrap_u8, ne_eq, not_true_eq_false, not_false_eq_true, Nat.zero_add, Nat.mul_one] <;> omega) | omega | (simp; done) | (simp; omega))) only [↓CR, MC, ↓PR, MR, lcs_length, lcs_getD h1 hf]
      rfl
    · rw [decide_eq_false c]
      simp (disch := (first | assumption | (simp only [Bool.and_eq_true, Bool.and_eq_false_iff, decide_eq_true_eq, decide_eq_false_iff_not, bne_iff_ne, beq_iff_eq, beq_eq_false_iff_ne, bne_eq_false_iff_eq, Bool.not_eq_true', Bool.not_eq_false', bys_length, List.length_append, List.length_cons, List.length_nil, List.length_map, List.length_drop, List.length_take, Int.natCast_add, wrap_i64_eq, wrap_u64, wrap_u8, ne_eq, not_true_eq_false, not_false_eq_true, Nat.zero_add, Nat.mul_one] <;> omega) | omega | (simp; done) | (simp; omega))) only [↓CR, MC, ↓PR, MR, lcs_length, lcs_getD h1 hf, e1, ih']
      simp
theorem few_run {d : Nat} {f : Bool} {l : List Rec} (hl : l.length ≤ 140737488351232) (hr : ∀ r ∈ l, r.data.length ≤ 140737488351232 ∧ r.full = false) {h : Heap} {Q : Res → Prop} {tg : Hid Q} :
    Run (evFn Cw (d + 1) 54 [.sl f 6 (lcs l)] h) Q tg = Q ([.bool (fewB l)], h) := by
  have := few_loop d f l hl hr h Q l.length 0 rounds ⟨⟩ (by omega) (Nat.lt_of_lt_of_le (by omega) rounds_ge)
  rw [e0, List.drop_zero] at this
  rw [F54_eq]
  exact this
end Go.Proofs.Ytdlcjibefbnckaa.Wa
end

section
/- Losers: the reference's Analyze. -/
namespace Go.Proofs.Ytdlcjibefbnckaa.Wa
open Go Go.Weave
set_option maxRecDepth 100000
set_option linter.unusedSimpArgs false
set_option linter.unusedVariables false
set_option linter.unusedSectionVars false

noncomputable def rchg (tab : List KPair) (c : Change) : Option (List KPair) :=
  if (lget c.key tab).isSome ≠ c.was ∨ oVal (lget c.key tab) ≠ c.old then none else
  some (if c.is then lput c.key c.new tab else ldel c.key tab)
theorem lchange_eq (tab : List KPair) (b : List UInt8) : lchange tab b = if (cdec b).2 ≠ 0 then none else rchg tab (cdec b).1 := rfl
theorem rchange45_run {d : Nat} {f : Bool} {tab : List KPair} {c : Change} {h : Heap} (hs : Srt tab) (hl : tab.length ≤ 1000) :
    ∃ f', ∀ (Q : Res → Prop) (tg : Hid Q), Run (evFn Cw (d + 3) 96 [.sl f 3 (prs tab), c.A] h) Q tg = Q ([.sl f' 3 (prs ((rchg tab c).getD tab)), .bool (rchg tab c).isSome], h) := by
  have hA : c.A = .agg [.str c.key, .bool c.was, .bool c.is, .str c.old, .str c.new, .int .i64 c.next] := of_eq_true (eq_self _)
  have rg := fun (Q : Res → Prop) (tg : Hid Q) => rget31_run (d := d + 1) (f := f) (l := tab) (s := c.key) (h := h) (Q := Q) (tg := tg) (by omega)
  rw [hA]
  by_cases e2 : (lget c.key tab).isSome = c.was
  · have b2 : (!((lget c.key tab).isSome == c.was)) = false := by simp [e2]
    by_cases e3 : oVal (lget c.key tab) = c.old
    · have b3 : (!(oVal (lget c.key tab) == c.old)) = false := by simp [e3]
      have el : rchg tab c = some (if c.is then lput c.key c.new tab else ldel c.key tab) := by unfold rchg; rw [if_neg (by simp [e2, e3])]
      have rp := fun (Q : Res → Prop) (tg : Hid Q) => rput31_run (d := d) (f := f) (l := tab) (s := c.key) (v := c.new) (h := h) (Q := Q) (tg := tg) hs (by omega)
      have rd := fun (Q : Res → Prop) (tg : Hid Q) => rdel31_run (d := d + 1) (f := f) (l := tab) (s := c.key) (h := h) (Q := Q) (tg := tg) (by omega)
      refine ⟨false, fun Q tg => ?_⟩
      rw [F96_eq, el]
      cases hi : c.is
      · simp (disch := (first | assumption | (simp only [Bool.and_eq_true, Bool.and_eq_false_iff, decide_eq_true_eq, decide_eq_false_iff_not, bne_iff_ne, beq_iff_eq, beq_eq_false_iff_ne, bne_eq_false_iff_eq, Bool.not_eq_true', Bool.not_eq_false', bys_length, List.length_append, List.length_cons, List.length_nil, List.length_map, List.length_drop, List.length_take, Int.natCast_add, wrap_i64_eq, wrap_u64, wrap_u8, ne_eq, not_true_eq_false, not_false_eq_true, Nat.zero_add, Nat.mul_one] <;> omega) | omega | (simp; done) | (simp; omega))) only [↓CR, MC, ↓PR, MR, rg, b2, b3, hi, rd, Option.getD_some, Option.isSome_some]
        rfl
      · simp (disch := (first | assumption | (simp only [Bool.and_eq_true, Bool.and_eq_false_iff, decide_eq_true_eq, decide_eq_false_iff_not, bne_iff_ne, beq_iff_eq, beq_eq_false_iff_ne, bne_eq_false_iff_eq, Bool.not_eq_true', Bool.not_eq_false', bys_length, List.length_append, List.length_cons, List.length_nil, List.length_map, List.length_drop, List.length_take, Int.natCast_add, wrap_i64_eq, wrap_u64, wrap_u8, ne_eq, not_true_eq_false, not_false_eq_true, Nat.zero_add, Nat.mul_one] <;> omega) | omega | (simp; done) | (simp; omega))) only [↓CR, MC, ↓PR, MR, rg, b2, b3, hi, rp, Option.getD_some, Option.isSome_some]
        rfl
    · have b3 : (!(oVal (lget c.key tab) == c.old)) = true := by simp [e3]
      have el : rchg tab c = none := by unfold rchg; rw [if_pos (.inr e3)]
      refine ⟨f, fun Q tg => ?_⟩
      rw [F96_eq, el]
      simp (disch := (first | assumption | (simp only [Bool.and_eq_true, Bool.and_eq_false_iff, decide_eq_true_eq, decide_eq_false_iff_not, bne_iff_ne, beq_iff_eq, beq_eq_false_iff_ne, bne_eq_false_iff_eq, Bool.not_eq_true', Bool.not_eq_false', bys_length, List.length_append, List.length_cons, List.length_nil, List.length_map, List.length_drop, List.length_take, Int.natCast_add, wrap_i64_eq, wrap_u64, wrap_u8, ne_eq, not_true_eq_false, not_false_eq_true, Nat.zero_add, Nat.mul_one] <;> omega) | omega | (simp; done) | (simp; omega))) only [↓CR, MC, ↓PR, MR, rg, b2, b3, Option.getD_none, Option.isSome_none]
  · have b2 : (!((lget c.key tab).isSome == c.was)) = true := by simp [e2]
    have el : rchg tab c = none := by unfold rchg; rw [if_pos (.inl e2)]
    refine ⟨f, fun Q tg => ?_⟩
    rw [F96_eq, el]
    simp (disch := (first | assumption | (simp only [Bool.and_eq_true, Bool.and_eq_false_iff, decide_eq_true_eq, decide_eq_false_iff_not, bne_iff_ne, beq_iff_eq, beq_eq_false_iff_ne, bne_eq_false_iff_eq, Bool.not_eq_true', Bool.not_eq_false', bys_length, List.length_append, List.length_cons, List.length_nil, List.length_map, List.length_drop, List.length_take, Int.natCast_add, wrap_i64_eq, wrap_u64, wrap_u8, ne_eq, not_true_eq_false, not_false_eq_true, Nat.zero_add, Nat.mul_one] <;> omega) | omega | (simp; done) | (simp; omega))) only [↓CR, MC, ↓PR, MR, rg, b2, Option.getD_none, Option.isSome_none]

def lend (k c l : Int) (s : LS) : LS :=
  if k = 8 then ⟨s.tab, s.hd.set c.toNat 0, s.com + 1, s.und, s.ends ++ [l]⟩
  else if k = 9 then ⟨s.tab, s.hd.set c.toNat 0, s.com, s.und + 1, s.ends⟩
  else ⟨s.tab, s.hd.set c.toNat l, s.com, s.und, s.ends⟩
theorem rone1_run (d n0 : Nat) (f : Bool) (L : List AVal) (i j : Nat) (hj : j ≤ 1000) (s : LS) (I : LInv 1000 s) (c0 e : HCell) (h : Heap) (hm : h.objs[i]? = some (lsO c0 s.hd s.com s.und e)) (he : enOK e s.ends) (k c l p : Int) (b : List UInt8) (h0 : 0 ≤ c) (h3 : c ≤ 3) :
    ∃ e', enOK e' (lend k c l s).ends ∧ ∀ (Q : Res → Prop) (tg : Hid Q), Run (P57_1 d n0 f L i j [] 0 0 0 0 0 0 [.int .i64 k, .int .i64 c, .int .i64 l, .int .i64 p, .sl false 0 (bys b)] h) Q tg =
      Run (P57_0 d n0 f L i (j + 1 : Nat) [] 0 0 0 0 0 0 (h.put i (lsO c0 (lend k c l s).hd (lend k c l s).com (lend k c l s).und e'))) Q ⟨⟩ := by
  have hh := I.hd
  have hen := I.ends
  have hcm := I.com
  have hun := I.und
  have q1 : (decide ((0 : Int) ≤ c) && decide (c < 4)) = true := by simp; omega
  have e1 := succ_wrap (i := j) (by omega)
  have hc : c.toNat < 4 := by omega
  have c1 := ls_hd hm hh hc
  have s1 := ls_shd hm hh hc (v := l)
  have hh1 := hd_len (c := c.toNat) (v := l) hh
  have m1 := Heap.put_get (o := lsO c0 (s.hd.set c.toNat l) s.com s.und e) hm
  by_cases k8 : k = 8
  · have b8 : ((k : Int) == 8) = true := by simp [k8]
    have b9 : ((k : Int) == 9) = false := by simp [k8]
    have c5 := ls_5 m1 hh1
    have ew := succ_wrap (i := s.com) (by omega)
    have s5 := ls_s5 m1 hh1 (v := s.com + 1)
    rw [Heap.put_put] at s5
    have m5 := Heap.put_get (o := lsO c0 (s.hd.set c.toNat l) (s.com + 1) s.und e) hm
    have c7 := ls_7 m5 hh1
    obtain ⟨fl, eA⟩ := he.toA
    have eq : lend k c l s = ⟨s.tab, s.hd.set c.toNat 0, s.com + 1, s.und, s.ends ++ [l]⟩ := by unfold lend; rw [if_pos k8]
    rw [eq]
    refine ⟨.own 0 (ints (s.ends ++ [l])), .inl rfl, fun Q tg => ?_⟩
    rw [P57_1_eq]
    simp (disch := (first | assumption | (simp only [Bool.and_eq_true, Bool.and_eq_false_iff, decide_eq_true_eq, decide_eq_false_iff_not, bne_iff_ne, beq_iff_eq, beq_eq_false_iff_ne, bne_eq_false_iff_eq, Bool.not_eq_true', Bool.not_eq_false', bys_length, List.length_append, List.length_cons, List.length_nil, List.length_map, List.length_drop, List.length_take, Int.natCast_add, wrap_i64_eq, wrap_u64, wrap_u8, ne_eq, not_true_eq_false, not_false_eq_true, Nat.zero_add, Nat.mul_one] <;> omega) | omega | (simp; done) | (simp; omega))) only [↓CR, MC, ↓PR, MR, q1, c1, s1, b8, c5, ew, s5, c7, eA, ints_length, ints_snoc]
    refine lent_ends m5 hh1 he fun h2 hm2 hp2 => ?_
    obtain ⟨e2, hm2⟩ := hm2
    have c7' := ls_7 hm2 hh1
    have s7 := ls_s7 hm2 hh1 (e' := .own 0 (ints (s.ends ++ [l])))
    rw [hp2, Heap.put_put] at s7
    have m7 := Heap.put_get (o := lsO c0 (s.hd.set c.toNat l) (s.com + 1) s.und (.own 0 (ints (s.ends ++ [l])))) hm
    have c8 := ls_hd m7 hh1 hc
    have s8 := ls_shd m7 hh1 hc (v := 0)
    rw [Heap.put_put, List.set_set] at s8
    simp (disch := (first | assumption | (simp only [Bool.and_eq_true, Bool.and_eq_false_iff, decide_eq_true_eq, decide_eq_false_iff_not, bne_iff_ne, beq_iff_eq, beq_eq_false_iff_ne, bne_eq_false_iff_eq, Bool.not_eq_true', Bool.not_eq_false', bys_length, List.length_append, List.length_cons, List.length_nil, List.length_map, List.length_drop, List.length_take, Int.natCast_add, wrap_i64_eq, wrap_u64, wrap_u8, ne_eq, not_true_eq_false, not_false_eq_true, Nat.zero_add, Nat.mul_one] <;> omega) | omega | (simp; done) | (simp; omega))) only [↓CR, MC, ↓PR, MR, c7', s7, q1, c8, s8, b9, e1]
  · have b8 : ((k : Int) == 8) = false := by simp [k8]
    by_cases k9 : k = 9
    · have b9 : ((k : Int) == 9) = true := by simp [k9]
      have c6 := ls_6 m1 hh1
      have ew := succ_wrap (i := s.und) (by omega)
      have s6 := ls_s6 m1 hh1 (v := s.und + 1)
      rw [Heap.put_put] at s6
      have m6 := Heap.put_get (o := lsO c0 (s.hd.set c.toNat l) s.com (s.und + 1) e) hm
      have c8 := ls_hd m6 hh1 hc
      have s8 := ls_shd m6 hh1 hc (v := 0)
      rw [Heap.put_put, List.set_set] at s8
      have eq : lend k c l s = ⟨s.tab, s.hd.set c.toNat 0, s.com, s.und + 1, s.ends⟩ := by unfold lend; rw [if_neg k8, if_pos k9]
      rw [eq]
      refine ⟨e, he, fun Q tg => ?_⟩
      rw [P57_1_eq]
      simp (disch := (first | assumption | (simp only [Bool.and_eq_true, Bool.and_eq_false_iff, decide_eq_true_eq, decide_eq_false_iff_not, bne_iff_ne, beq_iff_eq, beq_eq_false_iff_ne, bne_eq_false_iff_eq, Bool.not_eq_true', Bool.not_eq_false', bys_length, List.length_append, List.length_cons, List.length_nil, List.length_map, List.length_drop, List.length_take, Int.natCast_add, wrap_i64_eq, wrap_u64, wrap_u8, ne_eq, not_true_eq_false, not_false_eq_true, Nat.zero_add, Nat.mul_one] <;> omega) | omega | (simp; done) | (simp; omega))) only [↓CR, MC, ↓PR, MR, q1, c1, s1, b8, b9, c6, ew, s6, c8, s8, e1]
    · have b9 : ((k : Int) == 9) = false := by simp [k9]
      have eq : lend k c l s = ⟨s.tab, s.hd.set c.toNat l, s.com, s.und, s.ends⟩ := by unfold lend; rw [if_neg k8, if_neg k9]
      rw [eq]
      refine ⟨e, he, fun Q tg => ?_⟩
      rw [P57_1_eq]
      simp (disch := (first | assumption | (simp only [Bool.and_eq_true, Bool.and_eq_false_iff, decide_eq_true_eq, decide_eq_false_iff_not, bne_iff_ne, beq_iff_eq, beq_eq_false_iff_ne, bne_eq_false_iff_eq, Bool.not_eq_true', Bool.not_eq_false', bys_length, List.length_append, List.length_cons, List.length_nil, List.length_map, List.length_drop, List.length_take, Int.natCast_add, wrap_i64_eq, wrap_u64, wrap_u8, ne_eq, not_true_eq_false, not_false_eq_true, Nat.zero_add, Nat.mul_one] <;> omega) | omega | (simp; done) | (simp; omega))) only [↓CR, MC, ↓PR, MR, q1, c1, s1, b8, b9, e1]
theorem lsone_in {s : LS} {r : Rec} (ko : ¬ (r.kind < 5 ∨ 9 < r.kind)) (hx : ¬ ((r.kind == 5) ≠ (s.hd.getD r.chain.toNat 0 == 0))) :
    lsone s r = if r.kind = 6 ∨ r.kind = 7 then (match lchange s.tab r.data with | none => none | some t => some (lend r.kind r.chain r.lsn ⟨t, s.hd, s.com, s.und, s.ends⟩)) else some (lend r.kind r.chain r.lsn s) := by
  unfold lsone
  rw [if_neg ko, if_neg hx]
  by_cases k6 : r.kind = 6 ∨ r.kind = 7
  · rw [if_pos k6, if_pos k6]
    cases lchange s.tab r.data with
    | none => rfl
    | some t =>
      simp only [lend]
      rw [if_neg (by omega), if_neg (by omega)]
  · rw [if_neg k6, if_neg k6]
    unfold lend
    split
    · rfl
    · split <;> rfl
/-- What the reference answers. -/
def RRes : Option LS → List AVal → Prop
  | none, vs => vs = [.agg [.sl true 3 [], .int .i64 0, .int .i64 0, .int .i64 0, .int .i64 0, .int .i64 0, .int .i64 0, .sl true 0 []], .int .i64 12]
  | some s, vs => ∃ ft fl x y z w, s.hd = [x, y, z, w] ∧ Srt s.tab ∧ vs = [.agg [.sl ft 3 (prs s.tab), .int .i64 x, .int .i64 y, .int .i64 z, .int .i64 w, .int .i64 s.com, .int .i64 s.und, .sl fl 0 (ints s.ends)], .int .i64 0]
set_option maxHeartbeats 2000000 in
theorem rana_loop (d : Nat) (f : Bool) (l : List Rec) (hl : l.length ≤ 100) (hr : ∀ r ∈ l, r.data.length ≤ 600 ∧ r.full = false) (h0 : Heap) (i : Nat) (hi : h0.objs.length ≤ i) :
    ∀ (n j k : Nat) (e : HCell) (ft : Bool) (s : LS) (h : Heap), LInv j s → h0.ext h → h.objs[i]? = some (lsO (.val (.sl ft 3 (prs s.tab))) s.hd s.com s.und e) → enOK e s.ends → l.length = j + n → n < k →
      ∃ (h' : Heap) (vs : List AVal), h0.ext h' ∧ RRes (lrun s (l.drop j)) vs ∧ ∀ (Q : Res → Prop) (tg : Hid Q), Run (P57_0 (d + 3) k f (lcs l) i j [] 0 0 0 0 0 0 h) Q tg = Q (vs, h') := by
  intro n
  induction n with
  | zero =>
    intro j k e ft s h I E hm he hj hk
    obtain ⟨k, rfl⟩ : ∃ m, k = m + 1 := ⟨k - 1, by omega⟩
    have hd : l.drop j = [] := List.drop_eq_nil_of_le (by omega)
    obtain ⟨x, y, z, w, hq⟩ := four I.hd
    obtain ⟨fl, hfl⟩ := he.toA
    have ha := ls_all hm I.hd
    rw [hq, hfl] at ha
    simp only [List.map_cons, List.map_nil, List.cons_append, List.nil_append] at ha
    rw [hd]
    refine ⟨h, _, E, ⟨ft, fl, x, y, z, w, hq, I.srt, rfl⟩, fun Q tg => ?_⟩
    rw [P57_0_eq]
    simp (disch := (first | assumption | (simp only [Bool.and_eq_true, Bool.and_eq_false_iff, decide_eq_true_eq, decide_eq_false_iff_not, bne_iff_ne, beq_iff_eq, beq_eq_false_iff_ne, bne_eq_false_iff_eq, Bool.not_eq_true', Bool.not_eq_false', bys_length, List.length_append, List.length_cons, List.length_nil, List.length_map, List.length_drop, List.length_take, Int.natCast_add, wrap_i64_eq, wrap_u64, wrap_u8, ne_eq, not_true_eq_false, not_false_eq_true, Nat.zero_add, Nat.mul_one] <;> omega) | omega | (simp; done) | (simp; omega))) only [↓CR, MC, ↓PR, MR, lcs_length, ha]
  | succ n ih =>
    intro j k e ft s h I E hm he hj hk
    obtain ⟨k, rfl⟩ : ∃ m, k = m + 1 := ⟨k - 1, by omega⟩
    have h1 : j < l.length := by omega
    have e1 := succ_wrap (i := j) (by omega)
    obtain ⟨hb, hf⟩ := hr _ (List.getElem_mem h1)
    have qi : (decide ((0 : Int) ≤ (j : Nat)) && decide (((j : Nat) : Int) < (l.length : Nat))) = true := by simp; omega
    have qj : decide (((j : Nat) : Int) < (l.length : Nat)) = true := by simp; omega
    rw [List.drop_eq_getElem_cons h1, lrun_cons]
    by_cases c1 : l[j].chain = 0 ∨ l[j].kind = 1
    · rw [lstep_skip c1]
      obtain ⟨h', vs, E', H, r⟩ := ih (j + 1) k e ft s h I.up E hm he (by omega) (by omega)
      refine ⟨h', vs, E', H, fun Q tg => ?_⟩
      rw [P57_0_eq]
      by_cases c0 : l[j].chain = 0
      · have b1 : ((l[j].chain : Int) == 0) = true := by simp [c0]
        simp (disch := (first | assumption | (simp only [Bool.and_eq_true, Bool.and_eq_false_iff, decide_eq_true_eq, decide_eq_false_iff_not, bne_iff_ne, beq_iff_eq, beq_eq_false_iff_ne, bne_eq_false_iff_eq, Bool.not_eq_true', Bool.not_eq_false', bys_length, List.length_append, List.length_cons, List.length_nil, List.length_map, List.length_drop, List.length_take, Int.natCast_add, wrap_i64_eq, wrap_u64, wrap_u8, ne_eq, not_true_eq_false, not_false_eq_true, Nat.zero_add, Nat.mul_one] <;> omega) | omega | (simp; done) | (simp; omega))) only [↓CR, MC, ↓PR, MR, lcs_length, lcs_getD h1 hf, qi, qj, b1, e1, r]
      · have b1 : ((l[j].chain : Int) == 0) = false := by simp [c0]
        have b2 : ((l[j].kind : Int) == 1) = true := by simp; omega
        simp (disch := (first | assumption | (simp only [Bool.and_eq_true, Bool.and_eq_false_iff, decide_eq_true_eq, decide_eq_false_iff_not, bne_iff_ne, beq_iff_eq, beq_eq_false_iff_ne, bne_eq_false_iff_eq, Bool.not_eq_true', Bool.not_eq_false', bys_length, List.length_append, List.length_cons, List.length_nil, List.length_map, List.length_drop, List.length_take, Int.natCast_add, wrap_i64_eq, wrap_u64, wrap_u8, ne_eq, not_true_eq_false, not_false_eq_true, Nat.zero_add, Nat.mul_one] <;> omega) | omega | (simp; done) | (simp; omega))) only [↓CR, MC, ↓PR, MR, lcs_length, lcs_getD h1 hf, qi, qj, b1, b2, e1, r]
    · have b1 : ((l[j].chain : Int) == 0) = false := by simp; omega
      have b2 : ((l[j].kind : Int) == 1) = false := by simp; omega
      by_cases cb : (l[j].chain < 0 ∨ 3 < l[j].chain ∨ l[j].lsn < 1) ∨ l[j].kind < 5 ∨ 9 < l[j].kind
      · have hn : lstep s l[j] = none := by
          by_cases c2 : l[j].chain < 0 ∨ 3 < l[j].chain ∨ l[j].lsn < 1
          · exact lstep_bad c1 c2
          · rw [lstep_one c1 c2]; exact lsone_out (by omega)
        rw [hn]
        refine ⟨h, _, E, rfl, fun Q tg => ?_⟩
        rw [P57_0_eq]
        by_cases c3 : l[j].chain < 0
        · have b3 : decide (l[j].chain < 0) = true := by simp [c3]
          simp (disch := (first | assumption | (simp only [Bool.and_eq_true, Bool.and_eq_false_iff, decide_eq_true_eq, decide_eq_false_iff_not, bne_iff_ne, beq_iff_eq, beq_eq_false_iff_ne, bne_eq_false_iff_eq, Bool.not_eq_true', Bool.not_eq_false', bys_length, List.length_append, List.length_cons, List.length_nil, List.length_map, List.length_drop, List.length_take, Int.natCast_add, wrap_i64_eq, wrap_u64, wrap_u8, ne_eq, not_true_eq_false, not_false_eq_true, Nat.zero_add, Nat.mul_one] <;> omega) | omega | (simp; done) | (simp; omega))) only [↓CR, MC, ↓PR, MR, lcs_length, lcs_getD h1 hf, qi, qj, b1, b2, b3]
        · have b3 : decide (l[j].chain < 0) = false := by simp; omega
          by_cases c4 : 3 < l[j].chain
          · have b4 : decide (l[j].chain > 3) = true := by simp; omega
            simp (disch := (first | assumption | (simp only [Bool.and_eq_true, Bool.and_eq_false_iff, decide_eq_true_eq, decide_eq_false_iff_not, bne_iff_ne, beq_iff_eq, beq_eq_false_iff_ne, bne_eq_false_iff_eq, Bool.not_eq_true', Bool.not_eq_false', bys_length, List.length_append, List.length_cons, List.length_nil, List.length_map, List.length_drop, List.length_take, Int.natCast_add, wrap_i64_eq, wrap_u64, wrap_u8, ne_eq, not_true_eq_false, not_false_eq_true, Nat.zero_add, Nat.mul_one] <;> omega) | omega | (simp; done) | (simp; omega))) only [↓CR, MC, ↓PR, MR, lcs_length, lcs_getD h1 hf, qi, qj, b1, b2, b3, b4]
          · have b4 : decide (l[j].chain > 3) = false := by simp; omega
            by_cases c5 : l[j].kind < 5
            · have b5 : decide (l[j].kind < 5) = true := by simp; omega
              simp (disch := (first | assumption | (simp only [Bool.and_eq_true, Bool.and_eq_false_iff, decide_eq_true_eq, decide_eq_false_iff_not, bne_iff_ne, beq_iff_eq, beq_eq_false_iff_ne, bne_eq_false_iff_eq, Bool.not_eq_true', Bool.not_eq_false', bys_length, List.length_append, List.length_cons, List.length_nil, List.length_map, List.length_drop, List.length_take, Int.natCast_add, wrap_i64_eq, wrap_u64, wrap_u8, ne_eq, not_true_eq_false, not_false_eq_true, Nat.zero_add, Nat.mul_one] <;> omega) | omega | (simp; done) | (simp; omega))) only [↓CR, MC, ↓PR, MR, lcs_length, lcs_getD h1 hf, qi, qj, b1, b2, b3, b4, b5]
            · have b5 : decide (l[j].kind < 5) = false := by simp; omega
              by_cases c6 : 9 < l[j].kind
              · have b6 : decide (l[j].kind > 9) = true := by simp; omega
                simp (disch := (first | assumption | (simp only [Bool.and_eq_true, Bool.and_eq_false_iff, decide_eq_true_eq, decide_eq_false_iff_not, bne_iff_ne, beq_iff_eq, beq_eq_false_iff_ne, bne_eq_false_iff_eq, Bool.not_eq_true', Bool.not_eq_false', bys_length, List.length_append, List.length_cons, List.length_nil, List.length_map, List.length_drop, List.length_take, Int.natCast_add, wrap_i64_eq, wrap_u64, wrap_u8, ne_eq, not_true_eq_false, not_false_eq_true, Nat.zero_add, Nat.mul_one] <;> omega) | omega | (simp; done) | (simp; omega))) only [↓CR, MC, ↓PR, MR, lcs_length, lcs_getD h1 hf, qi, qj, b1, b2, b3, b4, b5, b6]
              · have b6 : decide (l[j].kind > 9) = false := by simp; omega
                have b7 : decide (l[j].lsn < 1) = true := by simp; omega
                simp (disch := (first | assumption | (simp only [Bool.and_eq_true, Bool.and_eq_false_iff, decide_eq_true_eq, decide_eq_false_iff_not, bne_iff_ne, beq_iff_eq, beq_eq_false_iff_ne, bne_eq_false_iff_eq, Bool.not_eq_true', Bool.not_eq_false', bys_length, List.length_append, List.length_cons, List.length_nil, List.length_map, List.length_drop, List.length_take, Int.natCast_add, wrap_i64_eq, wrap_u64, wrap_u8, ne_eq, not_true_eq_false, not_false_eq_true, Nat.zero_add, Nat.mul_one] <;> omega) | omega | (simp; done) | (simp; omega))) only [↓CR, MC, ↓PR, MR, lcs_length, lcs_getD h1 hf, qi, qj, b1, b2, b3, b4, b5, b6, b7]
      · have b3 : decide (l[j].chain < 0) = false := by simp; omega
        have b4 : decide (l[j].chain > 3) = false := by simp; omega
        have b5 : decide (l[j].kind < 5) = false := by simp; omega
        have b6 : decide (l[j].kind > 9) = false := by simp; omega
        have b7 : decide (l[j].lsn < 1) = false := by simp; omega
        have q1 : (decide ((0 : Int) ≤ l[j].chain) && decide (l[j].chain < 4)) = true := by simp; omega
        have hc : l[j].chain.toNat < 4 := by omega
        have g1 := ls_hd hm I.hd hc
        have hst : lstep s l[j] = lsone s l[j] := lstep_one c1 (by omega)
        rw [hst]
        by_cases hx : (l[j].kind == 5) ≠ (s.hd.getD l[j].chain.toNat 0 == 0)
        · have b8 : (!(((l[j].kind : Int) == 5) == ((s.hd.getD l[j].chain.toNat 0 : Int) == 0))) = true := by
            revert hx
            cases (l[j].kind == 5) <;> cases (s.hd.getD l[j].chain.toNat 0 == 0) <;> simp
          rw [lsone_hd hx]
          refine ⟨h, _, E, rfl, fun Q tg => ?_⟩
          rw [P57_0_eq]
          simp (disch := (first | assumption | (simp only [Bool.and_eq_true, Bool.and_eq_false_iff, decide_eq_true_eq, decide_eq_false_iff_not, bne_iff_ne, beq_iff_eq, beq_eq_false_iff_ne, bne_eq_false_iff_eq, Bool.not_eq_true', Bool.not_eq_false', bys_length, List.length_append, List.length_cons, List.length_nil, List.length_map, List.length_drop, List.length_take, Int.natCast_add, wrap_i64_eq, wrap_u64, wrap_u8, ne_eq, not_true_eq_false, not_false_eq_true, Nat.zero_add, Nat.mul_one] <;> omega) | omega | (simp; done) | (simp; omega))) only [↓CR, MC, ↓PR, MR, lcs_length, lcs_getD h1 hf, qi, qj, b1, b2, b3, b4, b5, b6, b7, q1, g1, b8]
        · have b8 : (!(((l[j].kind : Int) == 5) == ((s.hd.getD l[j].chain.toNat 0 : Int) == 0))) = false := by
            revert hx
            cases (l[j].kind == 5) <;> cases (s.hd.getD l[j].chain.toNat 0 == 0) <;> simp
          have hin := lsone_in (s := s) (r := l[j]) (by omega) hx
          by_cases k6 : l[j].kind = 6 ∨ l[j].kind = 7
          · rw [if_pos k6] at hin
            have rd := fun (Q : Res → Prop) (tg : Hid Q) => rcdecode_run (d := d) (f := false) (b := l[j].data) (h := h) (by omega) Q tg
            have hA : (cdec l[j].data).1.A = .agg [.str (cdec l[j].data).1.key, .bool (cdec l[j].data).1.was, .bool (cdec l[j].data).1.is, .str (cdec l[j].data).1.old, .str (cdec l[j].data).1.new, .int .i64 (cdec l[j].data).1.next] := of_eq_true (eq_self _)
            obtain ⟨f', rc⟩ := rchange45_run (d := d) (f := false) (tab := s.tab) (c := (cdec l[j].data).1) (h := h) I.srt (by have := I.len; omega)
            rw [hA] at rd rc
            have gc := ls_c0 hm
            by_cases ed : (cdec l[j].data).2 = 0
            · have bd : ((((cdec l[j].data).2 : Nat) : Int) != 0) = false := by simp [ed]
              have hlc : lchange s.tab l[j].data = rchg s.tab (cdec l[j].data).1 := by rw [lchange_eq, if_neg (by simp [ed])]
              rw [hlc] at hin
              cases hrc : rchg s.tab (cdec l[j].data).1 with
              | none =>
                rw [hrc] at hin rc hlc
                rw [hin]
                refine ⟨h, _, E, rfl, fun Q tg => ?_⟩
                rw [P57_0_eq]
                rcases k6 with k6 | k6
                · have b9 : ((l[j].kind : Int) == 6) = true := by simp [k6]
                  simp (disch := (first | assumption | (simp only [Bool.and_eq_true, Bool.and_eq_false_iff, decide_eq_true_eq, decide_eq_false_iff_not, bne_iff_ne, beq_iff_eq, beq_eq_false_iff_ne, bne_eq_false_iff_eq, Bool.not_eq_true', Bool.not_eq_false', bys_length, List.length_append, List.length_cons, List.length_nil, List.length_map, List.length_drop, List.length_take, Int.natCast_add, wrap_i64_eq, wrap_u64, wrap_u8, ne_eq, not_true_eq_false, not_false_eq_true, Nat.zero_add, Nat.mul_one] <;> omega) | omega | (simp; done) | (simp; omega))) only [↓CR, MC, ↓PR, MR, lcs_length, lcs_getD h1 hf, qi, qj, b1, b2, b3, b4, b5, b6, b7, q1, g1, b8, b9, rd, gc, rc, bd, Option.isSome_none, Bool.not_false]
                · have b9 : ((l[j].kind : Int) == 6) = false := by simp [k6]
                  have b10 : ((l[j].kind : Int) == 7) = true := by simp [k6]
                  simp (disch := (first | assumption | (simp only [Bool.and_eq_true, Bool.and_eq_false_iff, decide_eq_true_eq, decide_eq_false_iff_not, bne_iff_ne, beq_iff_eq, beq_eq_false_iff_ne, bne_eq_false_iff_eq, Bool.not_eq_true', Bool.not_eq_false', bys_length, List.length_append, List.length_cons, List.length_nil, List.length_map, List.length_drop, List.length_take, Int.natCast_add, wrap_i64_eq, wrap_u64, wrap_u8, ne_eq, not_true_eq_false, not_false_eq_true, Nat.zero_add, Nat.mul_one] <;> omega) | omega | (simp; done) | (simp; omega))) only [↓CR, MC, ↓PR, MR, lcs_length, lcs_getD h1 hf, qi, qj, b1, b2, b3, b4, b5, b6, b7, q1, g1, b8, b9, b10, rd, gc, rc, bd, Option.isSome_none, Bool.not_false]
              | some tb =>
                rw [hrc] at hin rc hlc
                rw [hin]
                obtain ⟨t1, t2⟩ := lchange_inv I.srt hlc
                have I1 : LInv (j + 1) ⟨tb, s.hd, s.com, s.und, s.ends⟩ := ⟨t1, by have := I.len; simp only; omega, I.hd, I.up.com, I.up.und, I.up.ends⟩
                have ss := ls_s0 hm (c0' := .val (.sl f' 3 (prs tb)))
                have mm := Heap.put_get (o := lsO (.val (.sl f' 3 (prs tb))) s.hd s.com s.und e) hm
                obtain ⟨e', he', r1⟩ := rone1_run (d + 3) k f (lcs l) i j (by omega) ⟨tb, s.hd, s.com, s.und, s.ends⟩ (I1.mono (by omega)) _ e _ mm he l[j].kind l[j].chain l[j].lsn l[j].prev l[j].data (by omega) (by omega)
                simp only [Heap.put_put] at r1
                have I' : LInv (j + 1) (lend l[j].kind l[j].chain l[j].lsn ⟨tb, s.hd, s.com, s.und, s.ends⟩) := lstep_inv I (r := l[j]) (by rw [hst, hin])
                have htb : (lend l[j].kind l[j].chain l[j].lsn ⟨tb, s.hd, s.com, s.und, s.ends⟩).tab = tb := by unfold lend; split; rfl; split <;> rfl
                obtain ⟨h', vs, E', H, r⟩ := ih (j + 1) k e' f' (lend l[j].kind l[j].chain l[j].lsn ⟨tb, s.hd, s.com, s.und, s.ends⟩) _ I' (E.put hi) (by rw [htb]; exact Heap.put_get hm) he' (by omega) (by omega)
                refine ⟨h', vs, E', H, fun Q tg => ?_⟩
                rw [P57_0_eq]
                rcases k6 with k6 | k6
                · have b9 : ((l[j].kind : Int) == 6) = true := by simp [k6]
                  simp (disch := (first | assumption | (simp only [Bool.and_eq_true, Bool.and_eq_false_iff, decide_eq_true_eq, decide_eq_false_iff_not, bne_iff_ne, beq_iff_eq, beq_eq_false_iff_ne, bne_eq_false_iff_eq, Bool.not_eq_true', Bool.not_eq_false', bys_length, List.length_append, List.length_cons, List.length_nil, List.length_map, List.length_drop, List.length_take, Int.natCast_add, wrap_i64_eq, wrap_u64, wrap_u8, ne_eq, not_true_eq_false, not_false_eq_true, Nat.zero_add, Nat.mul_one] <;> omega) | omega | (simp; done) | (simp; omega))) only [↓CR, MC, ↓PR, MR, lcs_length, lcs_getD h1 hf, qi, qj, b1, b2, b3, b4, b5, b6, b7, q1, g1, b8, b9, rd, gc, rc, bd, Option.isSome_some, Option.getD_some, Bool.not_true, ss, r1, r]
                · have b9 : ((l[j].kind : Int) == 6) = false := by simp [k6]
                  have b10 : ((l[j].kind : Int) == 7) = true := by simp [k6]
                  simp (disch := (first | assumption | (simp only [Bool.and_eq_true, Bool.and_eq_false_iff, decide_eq_true_eq, decide_eq_false_iff_not, bne_iff_ne, beq_iff_eq, beq_eq_false_iff_ne, bne_eq_false_iff_eq, Bool.not_eq_true', Bool.not_eq_false', bys_length, List.length_append, List.length_cons, List.length_nil, List.length_map, List.length_drop, List.length_take, Int.natCast_add, wrap_i64_eq, wrap_u64, wrap_u8, ne_eq, not_true_eq_false, not_false_eq_true, Nat.zero_add, Nat.mul_one] <;> omega) | omega | (simp; done) | (simp; omega))) only [↓CR, MC, ↓PR, MR, lcs_length, lcs_getD h1 hf, qi, qj, b1, b2, b3, b4, b5, b6, b7, q1, g1, b8, b9, b10, rd, gc, rc, bd, Option.isSome_some, Option.getD_some, Bool.not_true, ss, r1, r]
            · have bd : ((((cdec l[j].data).2 : Nat) : Int) != 0) = true := by simp; exact ed
              have hlc : lchange s.tab l[j].data = none := by rw [lchange_eq, if_pos ed]
              rw [hlc] at hin
              rw [hin]
              refine ⟨h, _, E, rfl, fun Q tg => ?_⟩
              rw [P57_0_eq]
              rcases k6 with k6 | k6
              · have b9 : ((l[j].kind : Int) == 6) = true := by simp [k6]
                simp (disch := (first | assumption | (simp only [Bool.and_eq_true, Bool.and_eq_false_iff, decide_eq_true_eq, decide_eq_false_iff_not, bne_iff_ne, beq_iff_eq, beq_eq_false_iff_ne, bne_eq_false_iff_eq, Bool.not_eq_true', Bool.not_eq_false', bys_length, List.length_append, List.length_cons, List.length_nil, List.length_map, List.length_drop, List.length_take, Int.natCast_add, wrap_i64_eq, wrap_u64, wrap_u8, ne_eq, not_true_eq_false, not_false_eq_true, Nat.zero_add, Nat.mul_one] <;> omega) | omega | (simp; done) | (simp; omega))) only [↓CR, MC, ↓PR, MR, lcs_length, lcs_getD h1 hf, qi, qj, b1, b2, b3, b4, b5, b6, b7, q1, g1, b8, b9, rd, gc, rc, bd]
              · have b9 : ((l[j].kind : Int) == 6) = false := by simp [k6]
                have b10 : ((l[j].kind : Int) == 7) = true := by simp [k6]
                simp (disch := (first | assumption | (simp only [Bool.and_eq_true, Bool.and_eq_false_iff, decide_eq_true_eq, decide_eq_false_iff_not, bne_iff_ne, beq_iff_eq, beq_eq_false_iff_ne, bne_eq_false_iff_eq, Bool.not_eq_true', Bool.not_eq_false', bys_length, List.length_append, List.length_cons, List.length_nil, List.length_map, List.length_drop, List.length_take, Int.natCast_add, wrap_i64_eq, wrap_u64, wrap_u8, ne_eq, not_true_eq_false, not_false_eq_true, Nat.zero_add, Nat.mul_one] <;> omega) | omega | (simp; done) | (simp; omega))) only [↓CR, MC, ↓PR, MR, lcs_length, lcs_getD h1 hf, qi, qj, b1, b2, b3, b4, b5, b6, b7, q1, g1, b8, b9, b10, rd, gc, rc, bd]
          · rw [if_neg k6] at hin
            rw [hin]
            have b9 : ((l[j].kind : Int) == 6) = false := by simp; omega
            have b10 : ((l[j].kind : Int) == 7) = false := by simp; omega
            obtain ⟨e', he', r1⟩ := rone1_run (d + 3) k f (lcs l) i j (by omega) s (I.mono (by omega)) _ e h hm he l[j].kind l[j].chain l[j].lsn l[j].prev l[j].data (by omega) (by omega)
            have I' : LInv (j + 1) (lend l[j].kind l[j].chain l[j].lsn s) := lstep_inv I (r := l[j]) (by rw [hst, hin])
            have htb : (lend l[j].kind l[j].chain l[j].lsn s).tab = s.tab := by unfold lend; split; rfl; split <;> rfl
            obtain ⟨h', vs, E', H, r⟩ := ih (j + 1) k e' ft (lend l[j].kind l[j].chain l[j].lsn s) _ I' (E.put hi) (by rw [htb]; exact Heap.put_get hm) he' (by omega) (by omega)
            refine ⟨h', vs, E', H, fun Q tg => ?_⟩
            rw [P57_0_eq]
            simp (disch := (first | assumption | (simp only [Bool.and_eq_true, Bool.and_eq_false_iff, decide_eq_true_eq, decide_eq_false_iff_not, bne_iff_ne, beq_iff_eq, beq_eq_false_iff_ne, bne_eq_false_iff_eq, Bool.not_eq_true', Bool.not_eq_false', bys_length, List.length_append, List.length_cons, List.length_nil, List.length_map, List.length_drop, List.length_take, Int.natCast_add, wrap_i64_eq, wrap_u64, wrap_u8, ne_eq, not_true_eq_false, not_false_eq_true, Nat.zero_add, Nat.mul_one] <;> omega) | omega | (simp; done) | (simp; omega))) only [↓CR, MC, ↓PR, MR, lcs_length, lcs_getD h1 hf, qi, qj, b1, b2, b3, b4, b5, b6, b7, q1, g1, b8, b9, b10, r1, r]
theorem rana_run (d : Nat) (f : Bool) (l : List Rec) (hl : l.length ≤ 100) (hr : ∀ r ∈ l, r.data.length ≤ 600 ∧ r.full = false) (h : Heap) :
    ∃ (h' : Heap) (vs : List AVal), h.ext h' ∧ RRes (lrun lini l) vs ∧ ∀ (Q : Res → Prop) (tg : Hid Q), Run (evFn Cw (d + 4) 57 [.sl f 6 (lcs l)] h) Q tg = Q (vs, h') := by
  obtain ⟨O, hO⟩ : ∃ O : Weave.Obj, O = Weave.Obj.cells ([(AVal.sl true 3 []), (AVal.int .i64 0), (AVal.int .i64 0), (AVal.int .i64 0), (AVal.int .i64 0), (AVal.int .i64 0), (AVal.int .i64 0), (AVal.sl true 0 [])].map HCell.val) := ⟨_, rfl⟩
  have E := Heap.ext.push h O
  have m := Heap.push_new h O
  obtain ⟨h', vs, E', H, r⟩ := rana_loop d f l hl hr h h.objs.length (Nat.le_refl _) l.length 0 rounds (.val (.sl true 0 [])) true lini ((h.push O).put h.objs.length (lsO (.val (.sl true 3 [])) [0, 0, 0, 0] 0 0 (.val (.sl true 0 [])))) lini_inv (E.put (Nat.le_refl _)) (Heap.put_get m) (.inr ⟨rfl, rfl⟩) (by omega) (Nat.lt_of_lt_of_le (by omega) rounds_ge)
  rw [List.drop_zero] at H
  rw [e0] at r
  rw [hO] at m r
  refine ⟨h', vs, E', H, fun Q tg => ?_⟩
  rw [F57_eq]
  simp (disch := (first | assumption | (simp only [Bool.and_eq_true, Bool.and_eq_false_iff, decide_eq_true_eq, decide_eq_false_iff_not, bne_iff_ne, beq_iff_eq, beq_eq_false_iff_ne, bne_eq_false_iff_eq, Bool.not_eq_true', Bool.not_eq_false', bys_length, List.length_append, List.length_cons, List.length_nil, List.length_map, List.length_drop, List.length_take, Int.natCast_add, wrap_i64_eq, wrap_u64, wrap_u8, ne_eq, not_true_eq_false, not_false_eq_true, Nat.zero_add, Nat.mul_one] <;> omega) | omega | (simp; done) | (simp; omega))) only [↓CR, MC, ↓PR, MR, at_putLs m, r]
end Go.Proofs.Ytdlcjibefbnckaa.Wa
end

section
/- What the evaluator comes to in these functions. -/
namespace Go.Proofs.Ytdlcjibefbnckaa.Wa
open Go Go.Weave
set_option maxRecDepth 100000
set_option linter.unusedVariables false
/- f93 strandline/strandlineref42.Bytes -/
noncomputable def P93_0 (d : Nat) (s0 : List UInt8) (b1 : Bool) (b2 : Bool) (s3 : List UInt8) (s4 : List UInt8) (x5 : Int) (l6 : List AVal) (h : Heap) : Tr Res :=
  heldPt Cw d 93 [true, true, true, true] [] ⟨[(1, (EV.one (SV.loc 1 0))), (3, (EV.one (SV.lsl 4))), (4, (EV.one SV.unk))], [(1, (Box.plain [(AVal.str s0), (AVal.bool b1), (AVal.bool b2), (AVal.str s3), (AVal.str s4), (AVal.int .i64 x5)])), (4, (Box.arr 0 l6))]⟩ h
theorem P93_0_eq (d : Nat) (s0 : List UInt8) (b1 : Bool) (b2 : Bool) (s3 : List UInt8) (s4 : List UInt8) (x5 : Int) (l6 : List AVal) (h : Heap) : P93_0 d s0 b1 b2 s3 s4 x5 l6 h =
  (bif b2 then
    (bif decide ((0 : Int) < (l6.length : Int)) then
      (bif decide (0 < l6.length) then
        (intK .u8 (l6.getD 0 AVal.undef) fun y1 =>
          (bif decide ((0 : Int) < (l6.length : Int)) then
            (bif (decide (0 < l6.length) && true) then
              (runK (evFn Cw d 104 [(AVal.sl true 0 [(AVal.sl false 0 (s4.map ofByte))])] h) fun r2 h2 =>
                (consK r2 fun w3 ws4 =>
                  (slOK 0 w3 fun es5 =>
                    (nilK ws4
                      (bif decide (((l6.set 0 (AVal.int .u8 (IntKind.u8.wrap (y1 + 2)))).length + es5.length) * 1 ≤ 140737488355328) then
                        (runK (evFn Cw d 105 [(AVal.sl false 0 ((l6.set 0 (AVal.int .u8 (IntKind.u8.wrap (y1 + 2)))) ++ es5)), (AVal.int .u64 (IntKind.u64.wrap x5))] h2) fun r6 h6 =>
                          (consK r6 fun w7 ws8 =>
                            (slOK 0 w7 fun es9 =>
                              (nilK ws8
                                (Tr.ret ([(AVal.sl false 0 es9)], h6))))))
                      else
                        Tr.fail)))))
            else
              Tr.fail)
          else
            Tr.fail))
      else
        Tr.fail)
    else
      Tr.fail)
  else
    (runK (evFn Cw d 105 [(AVal.sl false 0 l6), (AVal.int .u64 (IntKind.u64.wrap x5))] h) fun r10 h10 =>
      (consK r10 fun w11 ws12 =>
        (slOK 0 w11 fun es13 =>
          (nilK ws12
            (Tr.ret ([(AVal.sl false 0 es13)], h10))))))) := (heldPt_eq _ _ _ _ _ _ _).trans (by kernel_rfl)
theorem F93_eq (d : Nat) (s0 : List UInt8) (b1 : Bool) (b2 : Bool) (s3 : List UInt8) (s4 : List UInt8) (x5 : Int) (h : Heap) : evFn Cw (d + 1) 93 [(AVal.agg [(AVal.str s0), (AVal.bool b1), (AVal.bool b2), (AVal.str s3), (AVal.str s4), (AVal.int .i64 x5)])] h =
  (runK (evFn Cw d 104 [(AVal.sl true 0 [(AVal.sl false 0 (s0.map ofByte))])] h) fun r1 h1 =>
    (consK r1 fun w2 ws3 =>
      (slOK 0 w2 fun es4 =>
        (nilK ws3
          (bif decide (((1 : Nat) + es4.length) * 1 ≤ 140737488355328) then
            (bif b1 then
              (bif decide ((0 : Int) < (([(AVal.int .u8 0)] ++ es4).length : Int)) then
                (bif decide (0 < ([(AVal.int .u8 0)] ++ es4).length) then
                  (intK .u8 (([(AVal.int .u8 0)] ++ es4).getD 0 AVal.undef) fun y5 =>
                    (bif decide ((0 : Int) < (([(AVal.int .u8 0)] ++ es4).length : Int)) then
                      (bif (decide (0 < ([(AVal.int .u8 0)] ++ es4).length) && true) then
                        (runK (evFn Cw d 104 [(AVal.sl true 0 [(AVal.sl false 0 (s3.map ofByte))])] h1) fun r6 h6 =>
                          (consK r6 fun w7 ws8 =>
                            (slOK 0 w7 fun es9 =>
                              (nilK ws8
                                (bif decide (((([(AVal.int .u8 0)] ++ es4).set 0 (AVal.int .u8 (IntKind.u8.wrap (y5 + 1)))).length + es9.length) * 1 ≤ 140737488355328) then
                                  (P93_0 d s0 b1 b2 s3 s4 x5 ((([(AVal.int .u8 0)] ++ es4).set 0 (AVal.int .u8 (IntKind.u8.wrap (y5 + 1)))) ++ es9) h6)
                                else
                                  Tr.fail)))))
                      else
                        Tr.fail)
                    else
                      Tr.fail))
                else
                  Tr.fail)
              else
                Tr.fail)
            else
              (P93_0 d s0 b1 b2 s3 s4 x5 ([(AVal.int .u8 0)] ++ es4) h1))
          else
            Tr.fail))))) := by kernel_rfl
end Go.Proofs.Ytdlcjibefbnckaa.Wa
end

section
/- TxEncodes. -/
namespace Go.Proofs.Ytdlcjibefbnckaa.Wa
open Go Go.Weave
set_option maxRecDepth 100000
set_option linter.unusedSimpArgs false
set_option linter.unusedVariables false
set_option linter.unusedSectionVars false

theorem fget_pk {f rest : List UInt8} (h : f.length ≤ 65536) : fget (pk f ++ rest) = (f, (pk f).length, 0) := by
  have e : pk f = enc f.length ++ f := by unfold pk; rw [if_neg (by omega)]
  rw [fget_eq, e]
  unfold fgetW
  rw [List.append_assoc, get_enc0 f.length (f ++ rest) (by omega)]
  simp only [ne_eq, not_true_eq_false, if_false]
  rw [if_neg (by omega), if_neg (by simp), List.drop_left, List.take_left, List.length_append]
theorem dtext_pk {f rest : List UInt8} (h : f.length ≤ 65536) : dtext true (pk f ++ rest) 0 = (f, rest, 0) := by
  rw [dtext_on, fget_pk h, List.drop_left]
theorem ctail_enc {w i : Bool} {k o n : List UInt8} {m : Nat} (hr : cright k w i o n (m : Int) = true) : ctail w i k o n (enc m) = (⟨k, w, i, o, n, m⟩, 0) := by
  have hm : m ≤ 2147483647 := by simp only [cright, decide_eq_true_eq] at hr; omega
  have g := get_enc0 m [] (by omega)
  rw [List.append_nil] at g
  unfold ctail
  rw [g]
  simp only [ne_eq, not_true_eq_false, if_false]
  have e : min m 2147483648 = m := by omega
  rw [if_neg (by omega), e, if_pos hr]
theorem cdec_cbytes {k : List UInt8} {w i : Bool} {o n : List UInt8} {x : Int} (hr : cright k w i o n x = true) : cdec (cbytes k w i o n x) = (⟨k, w, i, o, n, x⟩, 0) := by
  have hr2 := hr
  simp only [cright, decide_eq_true_eq] at hr2
  obtain ⟨m, rfl⟩ : ∃ m : Nat, x = (m : Int) := ⟨x.toNat, by omega⟩
  have em : ((m : Nat) : Int).toNat = m := by omega
  have hk : k.length ≤ 65536 := by omega
  have ho : o.length ≤ 65536 := by omega
  have hn : n.length ≤ 65536 := by omega
  unfold cdec cbytes
  rw [em]
  have h4 : ¬ 4 ≤ (cflags w i).toNat := by cases w <;> cases i <;> decide
  have hw : decide ((cflags w i).toNat % 2 = 1) = w := by cases w <;> cases i <;> decide
  have hi : decide (2 ≤ (cflags w i).toNat) = i := by cases w <;> cases i <;> decide
  simp only [h4, if_false, hw, hi]
  unfold cdec1 cfields pks
  cases w <;> cases i
  · have e1 : o = [] := by simpa using hr2.2.2.2.2.1
    have e2 : n = [] := by simpa using hr2.2.2.2.2.2.1
    subst e1; subst e2
    simp only [List.flatMap_cons, List.flatMap_nil, List.append_nil, List.append_assoc, if_false, Bool.false_eq_true, dtext_pk hk, dtext_off, ne_eq, not_true_eq_false, List.nil_append]
    exact ctail_enc hr
  · have e1 : o = [] := by simpa using hr2.2.2.2.2.1
    subst e1
    simp only [List.flatMap_append, List.flatMap_cons, List.flatMap_nil, List.append_nil, List.append_assoc, if_false, if_true, Bool.false_eq_true, dtext_pk hk, dtext_pk hn, dtext_off, ne_eq, not_true_eq_false, List.nil_append]
    exact ctail_enc hr
  · have e2 : n = [] := by simpa using hr2.2.2.2.2.2.1
    subst e2
    simp only [List.flatMap_append, List.flatMap_cons, List.flatMap_nil, List.append_nil, List.append_assoc, if_false, if_true, Bool.false_eq_true, dtext_pk hk, dtext_pk ho, dtext_off, ne_eq, not_true_eq_false, List.nil_append]
    exact ctail_enc hr
  · simp only [List.flatMap_append, List.flatMap_cons, List.flatMap_nil, List.append_nil, List.append_assoc, if_true, dtext_pk hk, dtext_pk ho, dtext_pk hn, ne_eq, not_true_eq_false, if_false, List.nil_append]
    exact ctail_enc hr

/-! ### The reference's bytes -/
theorem rpk_run {d : Nat} {f : Bool} {b : List UInt8} (hb : b.length ≤ 128) {h : Heap} {Q : Res → Prop} {tg : Hid Q} : Run (evFn Cw (d + 2) 104 [.sl f 0 [.sl false 0 (bys b)]] h) Q tg = Q ([.sl false 0 (bys (pk b))], h) := by
  have hp := pk_len b
  have e : pks [b] = pk b := pks_one b
  have := rpack_run (d := d) (f := f) (l := [b]) (h := h) (Q := Q) (tg := tg) (by rw [e]; omega) (by simp)
  rw [e] at this
  exact this
theorem pk_len2 {f : List UInt8} (hf : f.length ≤ 128) : (pk f).length ≤ 138 := by
  unfold pk
  rw [if_neg (by omega), List.length_append]
  have := (enc_length 9 f.length (lt_128_10 (by omega))).2
  omega
theorem bytes42_fin {d : Nat} {k : List UInt8} {w i : Bool} {o n : List UInt8} {x : Int} {c : UInt8} {b : List UInt8} (hc : c.toNat ≤ 1) (hx : 0 ≤ x ∧ x ≤ 2147483647) (hn : n.length ≤ 128) (hb : b.length ≤ 1000) {h : Heap} {Q : Res → Prop} {tg : Hid Q} :
    Run (P93_0 (d + 2) k w i o n x (bys (c :: b)) h) Q tg = Q ([.sl false 0 (bys ((c + (if i then 2 else 0)) :: (b ++ (if i then pk n else []) ++ enc x.toNat)))], h) := by
  have e1 : IntKind.u64.wrap x = ((x.toNat : Nat) : Int) := by rw [wrap_u64_id (by omega) (by omega)]; omega
  have hp := pk_len2 hn
  rw [P93_0_eq]
  cases i
  · have r := fun (Q : Res → Prop) (tg : Hid Q) => rput_run (d := d + 1) (f := false) (l := c :: b) (n := x.toNat) (h := h) (Q := Q) (tg := tg) (by omega) (by simp; omega)
    simp (disch := (first | assumption | (simp only [Bool.and_eq_true, Bool.and_eq_false_iff, decide_eq_true_eq, decide_eq_false_iff_not, bne_iff_ne, beq_iff_eq, beq_eq_false_iff_ne, bne_eq_false_iff_eq, Bool.not_eq_true', Bool.not_eq_false', bys_length, List.length_append, List.length_cons, List.length_nil, List.length_map, List.length_drop, List.length_take, Int.natCast_add, wrap_i64_eq, wrap_u64, wrap_u8, ne_eq, not_true_eq_false, not_false_eq_true, Nat.zero_add, Nat.mul_one] <;> omega) | omega | (simp; done) | (simp; omega))) only [↓CR, MC, ↓PR, MR, e1, r]
    simp
  · have e2 : IntKind.u8.wrap ((c.toNat : Int) + 2) = ((c + 2).toNat : Int) := by
      have : c = 0 ∨ c = 1 := by
        rcases Nat.lt_or_ge c.toNat 1 with h | h
        · left; exact UInt8.toNat_inj.1 (by simp; omega)
        · right; exact UInt8.toNat_inj.1 (by simp; omega)
      rcases this with rfl | rfl <;> decide
    have e3 : (bys (c :: b)).set 0 (AVal.int .u8 ((c + 2).toNat : Int)) = bys ((c + 2) :: b) := of_eq_true (eq_self _)
    have e4 : (bys (c :: b)).getD 0 AVal.undef = AVal.int .u8 (c.toNat : Int) := of_eq_true (eq_self _)
    have e5 : bys ((c + 2) :: b) ++ bys (pk n) = bys ((c + 2) :: (b ++ pk n)) := by rw [← bys_append]; rfl
    have r := fun (Q : Res → Prop) (tg : Hid Q) => rput_run (d := d + 1) (f := false) (l := (c + 2) :: (b ++ pk n)) (n := x.toNat) (h := h) (Q := Q) (tg := tg) (by omega) (by simp; omega)
    have rp := fun (Q : Res → Prop) (tg : Hid Q) => rpk_run (d := d) (f := true) hn (h := h) (Q := Q) (tg := tg)
    simp (disch := (first | assumption | (simp only [Bool.and_eq_true, Bool.and_eq_false_iff, decide_eq_true_eq, decide_eq_false_iff_not, bne_iff_ne, beq_iff_eq, beq_eq_false_iff_ne, bne_eq_false_iff_eq, Bool.not_eq_true', Bool.not_eq_false', bys_length, List.length_append, List.length_cons, List.length_nil, List.length_map, List.length_drop, List.length_take, Int.natCast_add, wrap_i64_eq, wrap_u64, wrap_u8, ne_eq, not_true_eq_false, not_false_eq_true, Nat.zero_add, Nat.mul_one] <;> omega) | omega | (simp; done) | (simp; omega))) only [↓CR, MC, ↓PR, MR, bys_length, List.length_cons, e4, e2, e3, map_bys, rp, e5, e1, r]
    simp
theorem bytes42_run {d : Nat} {k : List UInt8} {w i : Bool} {o n : List UInt8} {x : Int} (hr : cright k w i o n x = true) {h : Heap} {Q : Res → Prop} {tg : Hid Q} :
    Run (evFn Cw (d + 3) 93 [.agg [.str k, .bool w, .bool i, .str o, .str n, .int .i64 x]] h) Q tg = Q ([.sl false 0 (bys (cbytes k w i o n x))], h) := by
  simp only [cright, decide_eq_true_eq] at hr
  have hk := pk_len2 (f := k) (by omega)
  have ho := pk_len2 (f := o) (by omega)
  have b0 : AVal.int .u8 0 = ofByte 0 := of_eq_true (eq_self _)
  have e1 : ofByte 0 :: bys (pk k) = bys (0 :: pk k) := of_eq_true (eq_self _)
  have rk := fun (Q : Res → Prop) (tg : Hid Q) => rpk_run (d := d) (f := true) (b := k) (by omega) (h := h) (Q := Q) (tg := tg)
  have ro := fun (Q : Res → Prop) (tg : Hid Q) => rpk_run (d := d) (f := true) (b := o) (by omega) (h := h) (Q := Q) (tg := tg)
  rw [F93_eq, b0]
  cases w
  · have rf := fun (Q : Res → Prop) (tg : Hid Q) => bytes42_fin (d := d) (k := k) (w := false) (i := i) (o := o) (n := n) (x := x) (c := 0) (b := pk k) (by decide) (by omega) (by omega) (by omega) (h := h) (Q := Q) (tg := tg)
    have ec : (0 + (if i then 2 else 0) : UInt8) :: (pk k ++ (if i then pk n else []) ++ enc x.toNat) = cbytes k false i o n x := by
      unfold cbytes cfields cflags pks
      cases i <;> simp
    rw [ec] at rf
    simp (disch := (first | assumption | (simp only [Bool.and_eq_true, Bool.and_eq_false_iff, decide_eq_true_eq, decide_eq_false_iff_not, bne_iff_ne, beq_iff_eq, beq_eq_false_iff_ne, bne_eq_false_iff_eq, Bool.not_eq_true', Bool.not_eq_false', bys_length, List.length_append, List.length_cons, List.length_nil, List.length_map, List.length_drop, List.length_take, Int.natCast_add, wrap_i64_eq, wrap_u64, wrap_u8, ne_eq, not_true_eq_false, not_false_eq_true, Nat.zero_add, Nat.mul_one] <;> omega) | omega | (simp; done) | (simp; omega))) only [↓CR, MC, ↓PR, MR, map_bys, rk, bys_length, e1, rf]
  · have e2 : IntKind.u8.wrap ((0 : Int) + 1) = 1 := by decide
    have e3 : (bys (0 :: pk k)).set 0 (AVal.int .u8 1) = bys (1 :: pk k) := of_eq_true (eq_self _)
    have e4 : (bys (0 :: pk k)).getD 0 AVal.undef = AVal.int .u8 0 := of_eq_true (eq_self _)
    have e5 : bys (1 :: pk k) ++ bys (pk o) = bys (1 :: (pk k ++ pk o)) := by rw [← bys_append]; rfl
    have rf := fun (Q : Res → Prop) (tg : Hid Q) => bytes42_fin (d := d) (k := k) (w := true) (i := i) (o := o) (n := n) (x := x) (c := 1) (b := pk k ++ pk o) (by decide) (by omega) (by omega) (by simp; omega) (h := h) (Q := Q) (tg := tg)
    have ec : (1 + (if i then 2 else 0) : UInt8) :: (pk k ++ pk o ++ (if i then pk n else []) ++ enc x.toNat) = cbytes k true i o n x := by
      unfold cbytes cfields cflags pks
      cases i <;> simp
    rw [ec] at rf
    simp (disch := (first | assumption | (simp only [Bool.and_eq_true, Bool.and_eq_false_iff, decide_eq_true_eq, decide_eq_false_iff_not, bne_iff_ne, beq_iff_eq, beq_eq_false_iff_ne, bne_eq_false_iff_eq, Bool.not_eq_true', Bool.not_eq_false', bys_length, List.length_append, List.length_cons, List.length_nil, List.length_map, List.length_drop, List.length_take, Int.natCast_add, wrap_i64_eq, wrap_u64, wrap_u8, ne_eq, not_true_eq_false, not_false_eq_true, Nat.zero_add, Nat.mul_one] <;> omega) | omega | (simp; done) | (simp; omega))) only [↓CR, MC, ↓PR, MR, map_bys, rk, ro, bys_length, List.length_cons, e1, e4, e2, e3, e5, rf]
end Go.Proofs.Ytdlcjibefbnckaa.Wa
end
