/- Texts of this proof, laid together: the evaluator, what it comes to, and the laws. No condition. -/
import Derived.Test.YtdlcjibefbnckaaProg
import Derived.Shelf.Sort.Plain
import Derived.Sort.EveryDepth
import Derived.WalkKit
import Derived.Sort.OwnSorted
import Derived.Maps.RangeWalk
import Derived.Maps.AppendAt
import Derived.Test.YtdlcjibefbnckaaWvHd
import Derived.Test.YtdlcjibefbnckaaWvZ
import Derived.KernelRfl
import Derived.Test.YtdlcjibefbnckaaWvU
import Derived.Sort.KeysCollected
import Derived.Test.YtdlcjibefbnckaaWvLb
import Derived.Test.YtdlcjibefbnckaaWvY
import Derived.Test.YtdlcjibefbnckaaWvLc
import Derived.Sort.Walk0
section
/- The library's sort at this program. -/
namespace Go.Proofs
open Go.Shelf
def Try.lays190_ren : Go.Shelf.Ren := ⟨fun | 190 => 97 | 125 => 117 | 258 => 116 | 128 => 131 | 129 => 132 | 302 => 122 | 303 => 123 | 304 => 124 | 305 => 125 | 306 => 126 | 307 => 127 | 308 => 128 | 309 => 129 | 310 => 130 | 333 => 136 | 329 => 137 | 330 => 138 | 334 => 139 | 335 => 140 | 336 => 141 | 344 => 143 | n => n, fun | 31 => 107 | 9 => 9 | 3 => 3 | 46 => 31 | 0 => 0 | 51 => 187 | 53 => 166 | 4 => 4 | 183 => 181 | 182 => 180 | 131 => 109 | 5 => 5 | 218 => 193 | 222 => 197 | 228 => 199 | 229 => 200 | n => n, fun | n => n⟩
theorem Try.lays190 : Go.Proofs.Lays.n190 Try.prog Try.lays190_ren := {
  mixed := by kernel_rfl
  f125 := Try.func117.trans (congrArg some (by kernel_rfl))
  f128 := Try.func131.trans (congrArg some (by kernel_rfl))
  f129 := Try.func132.trans (congrArg some (by kernel_rfl))
  f190 := Try.func97.trans (congrArg some (by kernel_rfl))
  f258 := Try.func116.trans (congrArg some (by kernel_rfl))
  f302 := Try.func122.trans (congrArg some (by kernel_rfl))
  f303 := Try.func123.trans (congrArg some (by kernel_rfl))
  f304 := Try.func124.trans (congrArg some (by kernel_rfl))
  f305 := Try.func125.trans (congrArg some (by kernel_rfl))
  f306 := Try.func126.trans (congrArg some (by kernel_rfl))
  f307 := Try.func127.trans (congrArg some (by kernel_rfl))
  f308 := Try.func128.trans (congrArg some (by kernel_rfl))
  f309 := Try.func129.trans (congrArg some (by kernel_rfl))
  f310 := Try.func130.trans (congrArg some (by kernel_rfl))
  f329 := Try.func137.trans (congrArg some (by kernel_rfl))
  f330 := Try.func138.trans (congrArg some (by kernel_rfl))
  f333 := Try.func136.trans (congrArg some (by kernel_rfl))
  f334 := Try.func139.trans (congrArg some (by kernel_rfl))
  f335 := Try.func140.trans (congrArg some (by kernel_rfl))
  f336 := Try.func141.trans (congrArg some (by kernel_rfl))
  f344 := Try.func143.trans (congrArg some (by kernel_rfl))
  t0 := Try.underlying0
  a0 := Try.isAgg0
  z0 := Try.sizeOf0
  v0 := Try.zeroValue0
  t3 := Try.underlying3
  a3 := Try.isAgg3
  z3 := Try.sizeOf3
  v3 := Try.zeroValue3
  t4 := Try.underlying4
  a4 := Try.isAgg4
  z4 := Try.sizeOf4
  v4 := Try.zeroValue4
  t5 := Try.underlying5
  a5 := Try.isAgg5
  z5 := Try.sizeOf5
  v5 := Try.zeroValue5
  t9 := Try.underlying9
  a9 := Try.isAgg9
  z9 := Try.sizeOf9
  v9 := Try.zeroValue9
  t31 := Try.underlying107
  a31 := Try.isAgg107
  z31 := Try.sizeOf107
  v31 := Try.zeroValue107
  t46 := Try.underlying31
  a46 := Try.isAgg31
  z46 := Try.sizeOf31
  v46 := Try.zeroValue31
  t51 := Try.underlying187
  a51 := Try.isAgg187
  z51 := Try.sizeOf187
  v51 := Try.zeroValue187
  t53 := Try.underlying166
  a53 := Try.isAgg166
  z53 := Try.sizeOf166
  v53 := Try.zeroValue166
  t131 := Try.underlying109
  a131 := Try.isAgg109
  z131 := Try.sizeOf109
  v131 := Try.zeroValue109
  t182 := Try.underlying180
  a182 := Try.isAgg180
  z182 := Try.sizeOf180
  v182 := Try.zeroValue180
  t183 := Try.underlying181
  a183 := Try.isAgg181
  z183 := Try.sizeOf181
  v183 := Try.zeroValue181
  t218 := Try.underlying193
  a218 := Try.isAgg193
  z218 := Try.sizeOf193
  v218 := Try.zeroValue193
  t222 := Try.underlying197
  a222 := Try.isAgg197
  z222 := Try.sizeOf197
  v222 := Try.zeroValue197
  t228 := Try.underlying199
  a228 := Try.isAgg199
  z228 := Try.sizeOf199
  v228 := Try.zeroValue199
  t229 := Try.underlying200
  a229 := Try.isAgg200
  z229 := Try.sizeOf200
  v229 := Try.zeroValue200 }
end Go.Proofs
namespace Go.Proofs.Ytdlcjibefbnckaa.Wa
open Go Go.RowKit Go.Maps Go.Sort
set_option maxRecDepth 100000
set_option linter.unusedSimpArgs false
set_option linter.unusedVariables false
set_option linter.unusedSectionVars false
theorem sort_some (blk cap : Nat) (ss : List (List UInt8)) (w : World) (hH : Go.Sort.Holds encStr w blk 0 ss.toArray) (hblk : blk < w.heap.size) (hsz : ss.length < 4611686018427387904) :
    Calls Try.prog 97 #[.slice (some ⟨blk, 0, none⟩) ss.length cap] w fun e w' =>
      e = .returned (.tuple #[]) ∧ ∃ n os, w' = Go.Sort.grow (Go.Sort.putRow encStr (Go.Sort.ahead w n) blk 0 (ss.mergeSort fun x y => decide (x ≤ y)).toArray) os :=
  Go.Proofs.Any.slices_Sort_string Try.lays190 blk 0 cap ss w hH hblk hsz
theorem ins_nil (w : World) : Calls Try.prog 122 #[.slice none 0 0, .int .i64 0, .int .i64 0] w fun e w' => e = .returned (.tuple #[]) ∧ w' = w := by
  go_enter Try.func122, Try.ntmps122
  go_wp2
  refine wp_loop_rounds 1 ?_
  rw [rounds_succ]
  go_wp2
  go_end0
  exact ⟨rfl, rfl⟩
theorem pdq_nil (x : Int) (w : World) : Calls Try.prog 116 #[.slice none 0 0, .int .i64 0, .int .i64 0, .int .i64 x] w fun e w' => e = .returned (.tuple #[]) ∧ w' = w := by
  go_enter Try.func116, Try.ntmps116
  go_wp2
  refine wp_loop_rounds 1 ?_
  rw [rounds_succ]
  go_wp2_with (go_at_call 122; refine (ins_nil _).mono ?_; rintro e w' ⟨rfl, rfl⟩)
  (try simp only [Exit.inBlock, Exit.then]); refine bodyPost_ret (results_none rfl _ _ _) rfl ?_
  exact ⟨rfl, rfl⟩
theorem len64_zero (w : World) : Calls Try.prog 132 #[.int .u64 0] w fun e w' => (∃ x, e = .returned (.int .i64 x)) ∧ w' = w := by
  go_enter Try.func132, Try.ntmps132
  go_wp2
  go_ret
  exact ⟨⟨_, rfl⟩, rfl⟩
set_option maxHeartbeats 1000000 in
theorem len_zero (w : World) : Calls Try.prog 117 #[.int .u64 0] w fun e w' => (∃ x, e = .returned (.int .i64 x)) ∧ w' = w := by
  go_enter Try.func117, Try.ntmps117
  go_wp2_with (go_at_call 132; refine (len64_zero _).mono ?_; rintro e w' ⟨⟨x, rfl⟩, rfl⟩)
  go_ret
  exact ⟨⟨_, rfl⟩, rfl⟩
set_option maxHeartbeats 1000000 in
theorem sort_nil (w : World) : Calls Try.prog 97 #[.slice none 0 0] w fun e w' => e = .returned (.tuple #[]) ∧ w' = w := by
  go_enter Try.func97, Try.ntmps97
  go_wp2_with (first
    | (go_at_call 117; refine (len_zero _).mono ?_; rintro e w' ⟨⟨x, rfl⟩, rfl⟩)
    | (go_at_call 116; refine (pdq_nil _ _).mono ?_; rintro e w' ⟨rfl, rfl⟩))
  go_end0
  exact ⟨rfl, rfl⟩

/-! ### A map gone through -/
section
variable {P : Program} (w : World) {ops : Array Oper} {rest : List Oper} {o : Oper} {a : Act} {Q : Exit → Act → World → Prop}
theorem wpList_range_raw (hg : o.guard = none) (m : Operand) (t : TypeId) (hop : o.op = Op.range t m) (k e : TypeId) (ht : P.underlying t = some (.map k e)) (b clock : Nat) (es : Array MapEntry) (hm : a.eval m = .map (some b)) (hb : w.heap[b]? = some (.map es clock))
    (hK : wpList P ops Q rest (a.put o.dst (.pointer (some ⟨w.heap.size, 0, none⟩))) (w.alloc (.mapIter (some b) clock #[] clock))) : wpList P ops Q (o :: rest) a w := by
  refine wpList_plain hg fun K' hK' => ?_
  have hrun := run_range_map (P := P) w t k e b es clock ht hb
  unfold Oper.wp
  simp [execOp, hop, hm, hrun, Result.andThen]
  exact hK' _ _ hK
theorem wpList_next_raw (hg : o.guard = none) (it : Operand) (hop : o.op = Op.next it false) (r bm clock c0 : Nat) (seen : Array Nat) (es : Array MapEntry) (hit : a.eval it = .pointer (some ⟨r, 0, none⟩))
    (hr : w.heap[r]? = some (.mapIter (some bm) clock seen c0)) (hb : w.heap[bm]? = some (.map es clock)) (hold : ∀ x ∈ es.toList, x.born < clock) (hsc : clock ≤ c0) (hn : (es.toList.map (·.born)).Nodup)
    (hDone : (leftOf es seen).size = 0 → wpList P ops Q rest (a.put o.dst (.tuple #[.bool false])) w)
    (hMore : ∀ e ∈ (leftOf es seen).toList, ∀ w' : World, w.grownBy w' (some r) → w'.heap.size = w.heap.size → w'.heap[r]? = some (.mapIter (some bm) clock (seen.push e.born) clock) →
      (Instr.entry (.pointer (some ⟨r, 0, none⟩))).run P w' = .ok (.tuple #[e.key, e.val]) w' → wpList P ops Q rest (a.put o.dst (.tuple #[.bool true, e.key, e.val])) w') : wpList P ops Q (o :: rest) a w := by
  refine wpList_plain hg fun K' hK' => ?_
  have hrs : r < w.heap.size := (Array.getElem?_eq_some_iff.1 hr).1
  have hne : r ≠ bm := by intro e; rw [e, hb] at hr; cases hr
  unfold Oper.wp
  rcases run_next_at (P := P) w o.type r bm clock c0 seen es clock hr hb hold hsc with ⟨h0, hrun⟩ | ⟨e, he, w1, hal, hrun⟩
  · simp [execOp, hop, hit, hrun, Result.andThen]
    exact hK' _ _ (hDone h0)
  · have hw1 : w1.os = w.os ∧ w1.tape = w.tape ∧ w1.output = w.output ∧ w1.heap = w.heap := by rcases hal with rfl | rfl <;> exact ⟨rfl, rfl, rfl, rfl⟩
    have hr2 : (Go.ChangeMaps.setBlock w1 r (.mapIter (some bm) clock (seen.push e.born) clock)).heap[r]? = some (.mapIter (some bm) clock (seen.push e.born) clock) := by
      simp [Go.ChangeMaps.setBlock, hw1.2.2.2, hrs]
    have hgr : w.grownBy (Go.ChangeMaps.setBlock w1 r (.mapIter (some bm) clock (seen.push e.born) clock)) (some r) := by
      refine ⟨hw1.1, hw1.2.1, hw1.2.2.1, by simp [Go.ChangeMaps.setBlock, hw1.2.2.2], fun k hk hne => ?_⟩
      have : r ≠ k := fun e => hne (by rw [e])
      simp [Go.ChangeMaps.setBlock, hw1.2.2.2, Array.getElem?_setIfInBounds, this]
    have hb2 : (Go.ChangeMaps.setBlock w1 r (.mapIter (some bm) clock (seen.push e.born) clock)).heap[bm]? = some (.map es clock) := by
      rw [hgr.block bm (Array.getElem?_eq_some_iff.1 hb).1 (by simp; exact fun e => hne e.symm)]; exact hb
    have hem : e ∈ es.toList := by unfold leftOf at he; simp at he ⊢; exact he.1
    have hen := run_entry_at (P := P) (Go.ChangeMaps.setBlock w1 r (.mapIter (some bm) clock (seen.push e.born) clock)) r bm clock seen es clock e hr2 hb2 hem hn
    simp [execOp, hop, hit, hrun, Result.andThen]
    exact hK' _ _ (hMore e he _ hgr (by simp [Go.ChangeMaps.setBlock, hw1.2.2.2]) hr2 hen)
end
abbrev HL := List UInt8 × Int × Nat
def hE (x : HL) : MapEntry := ⟨.agg #[.string ⟨x.1.toArray⟩], .int .i64 x.2.1, x.2.2⟩
def hL (L : List HL) (who : Int) : List (List UInt8) := (L.filter (fun x => x.2.1 == who)).map (·.1)
theorem hL_append (A B : List HL) (who : Int) : hL (A ++ B) who = hL A who ++ hL B who := by simp [hL]
def hLeft (w : World) (b r : Nat) : Nat :=
  match w.heap[b]?, w.heap[r]? with
  | some (.map es _), some (.mapIter _ _ seen _) => (leftOf es seen).size
  | _, _ => 0
theorem left_lt {es : Array MapEntry} {seen : Array Nat} {e : MapEntry} (he : e ∈ (leftOf es seen).toList) : (leftOf es (seen.push e.born)).size < (leftOf es seen).size := by
  have e1 : leftOf es (seen.push e.born) = (leftOf es seen).filter (fun x => !(seen.push e.born).contains x.born) := by
    unfold leftOf
    rw [Array.filter_filter]
    congr 1
    funext x
    simp [Array.contains_push]
    intro h1
    simp [h1]
  have e2 : ∀ (A : Array MapEntry) (p : MapEntry → Bool), (A.filter p).size = (A.toList.filter p).length := fun A p => by rw [← Array.length_toList, Array.toList_filter]
  rw [e1, e2, ← Array.length_toList (xs := leftOf es seen), List.length_filter_lt_length_iff_exists]
  exact ⟨e, he, by simp⟩
theorem left_mem {es : Array MapEntry} {seen : Array Nat} {e : MapEntry} : e ∈ (leftOf es seen).toList ↔ e ∈ es.toList ∧ e.born ∉ seen := by
  unfold leftOf; simp
/-! ### Held -/
theorem hinfo9 : (Try.prog.info? 9).map (fun i => (i.zero, i.size, i.bytes)) = some (some (.string ⟨#[]⟩), 1, 16) := by kernel_rfl
set_option maxHeartbeats 2000000 in
theorem held_any (w : World) (bi bm : Nat) (who : Int) (hx : w.cell? ⟨bi, 0, none⟩ = some (.map (some bm))) (_hbi : bi < w.heap.size) (L : List HL) (clock : Nat) (hm : w.heap[bm]? = some (.map (L.map hE).toArray clock)) (hn : (L.map (·.2.2)).Nodup)
    (hc : ∀ x ∈ L, x.2.2 < clock) (hsz : L.length ≤ 1000000) :
    Calls Try.prog 68 #[.pointer (some ⟨bi, 0, none⟩), .int .i64 who] w fun e w' => ∃ (v : Value) (ss : List (List UInt8)), e = .returned v ∧ ss.Perm (hL L who) ∧ w'.ownsRow (w.heap.size + 1) 9 1 v ss.length ((ss.mergeSort fun x y => decide (x ≤ y)).map encStr) ∧ Below w.heap.size w w' := by
  obtain ⟨i0, hi, hz0, hz1, hz2⟩ := info_parts hinfo9
  have hbm : bm < w.heap.size := (Array.getElem?_eq_some_iff.1 hm).1
  have hold : Hid (∀ x ∈ (L.map hE).toArray.toList, x.born < clock) := fun x hx => by
    simp only [List.mem_map] at hx
    obtain ⟨y, hy, rfl⟩ := hx
    exact hc y hy
  have hnd : Hid ((((L.map hE).toArray.toList).map (·.born)).Nodup) := by
    show ((L.map hE).map (·.born)).Nodup
    rw [List.map_map]; exact hn
  clear hc hn
  go_enter Try.func68, Try.ntmps68
  go_wp2_with (first
    | (at_range; refine wpList_range_raw _ rfl _ 147 rfl 153 3 Try.underlying147 bm clock (L.map hE).toArray rfl hm ?_)
    | go_in)
  try go_frame
  go_loopw [5] (fun v wr => ∃ (done rest : List HL) (seen : Array Nat) (c1 : Nat), (done ++ rest).Perm L ∧ seen.toList = done.map (·.2.2) ∧ wr.heap[w.heap.size]? = some (.mapIter (some bm) clock seen c1) ∧ clock ≤ c1 ∧
      wr.ownsRow (w.heap.size + 1) 9 1 v (hL done who).length ((hL done who).map encStr) ∧ Below w.heap.size w wr ∧ w.heap.size + 1 ≤ wr.heap.size)
    (fun _ wr => hLeft wr bm w.heap.size)
  case atStart =>
    exact ⟨[], L, #[], clock, List.Perm.refl _, rfl, (MapKept.heap_alloc w _).1, Nat.le_refl _, World.ownsRow_nil _ _ _ _, (Below.refl _ _).alloc (Nat.le_refl _) _, by simp⟩
  case round =>
    obtain ⟨done, rest, seen, c1, hperm, hseen, hr, hsc, hrow, hbel, hws⟩ := hrel
    have hmr : wr.heap[bm]? = some (.map (L.map hE).toArray clock) := (hbel.block bm hbm).trans hm
    go_wp2_with (first
      | (at_next; refine wpList_next_raw _ rfl _ rfl w.heap.size bm clock c1 seen (L.map hE).toArray rfl hr hmr hold.out hsc hnd.out ?_ ?_)
      | go_in)
    · intro h0
      have hrest : rest = [] := by
        cases rest with
        | nil => rfl
        | cons x rs =>
          exfalso
          have hxL : x ∈ L := hperm.mem_iff.1 (by simp)
          have h1 : hE x ∉ (leftOf (L.map hE).toArray seen).toList := by
            rw [h0]; simp
          apply h1
          refine left_mem.2 ⟨List.mem_map.2 ⟨x, hxL, rfl⟩, fun h2 => ?_⟩
          rw [← Array.mem_toList_iff, hseen] at h2
          have h3 : ((done ++ x :: rs).map (·.2.2)).Nodup := by
            have := hnd.out
            simp only [List.map_map] at this
            exact ((hperm.map (·.2.2)).nodup_iff).2 this
          rw [List.map_append, List.map_cons, List.nodup_append] at h3
          exact h3.2.2 x.2.2 h2 x.2.2 (by simp) rfl
      subst hrest
      rw [List.append_nil] at hperm
      have hP : Hid ((hL done who).Perm (hL L who)) := (hperm.filter _).map _
      have hsz1 : (hL done who).length ≤ 1000000 := by
        have h1 : (hL done who).length ≤ done.length := by unfold hL; rw [List.length_map]; exact List.length_filter_le _ _
        have := hperm.length_eq
        omega
      clear hperm hseen
      rcases hrow.2 with ⟨hnil, hl0⟩ | ⟨g, cap, cur, hv, hbase, hb, h1, h2, h3, h4⟩
      · subst hnil
        have he : hL done who = [] := List.length_eq_zero_iff.1 hl0
        clear hrow
        go_wp2_with (go_at_call 97; refine (sort_nil _).mono ?_; rintro e w' ⟨rfl, rfl⟩)
        go_ret
        exact ⟨.slice none 0 0, [], rfl, by rw [← he]; exact hP.out, by rw [List.mergeSort_nil]; exact World.ownsRow_nil _ _ _ _, hbel⟩
      · subst hv
        have hH : Go.Sort.Holds encStr wr g 0 (hL done who).toArray := holds_of_block hb (by simpa using h4)
        have hgl : g < wr.heap.size := (Array.getElem?_eq_some_iff.1 hb).1
        have HH : Hid (Go.Sort.Holds encStr wr g 0 (hL done who).toArray) := hH
        have HG : Hid (g < wr.heap.size) := hgl
        clear hH h4 hrow
        go_wp2_with (go_at_call 97; refine (sort_some g cap (hL done who) wr HH.out HG.out (by omega)).mono ?_; rintro e w' ⟨rfl, nn, os, rfl⟩)
        go_ret
        exact ⟨_, hL done who, rfl, hP.out, ownsRow_sorted (by simp) hbase hb h1 h2 h3, hbel.grown (grownBy_sorted _) (by omega) (fun j hj => by cases hj; omega)⟩
    · intro e he0 w1 hg1 hs1 hr1 hen
      have he : e ∈ (leftOf (L.map hE).toArray seen).toList := Array.mem_toList_iff.2 he0
      obtain ⟨x, hxr, rfl⟩ : ∃ x ∈ rest, hE x = e := by
        obtain ⟨h1, h2⟩ := left_mem.1 he
        simp only [List.mem_map] at h1
        obtain ⟨x, hxL, rfl⟩ := h1
        refine ⟨x, ?_, rfl⟩
        rcases List.mem_append.1 (hperm.mem_iff.2 hxL) with hd | hd
        · exfalso; apply h2
          rw [← Array.mem_toList_iff, hseen]
          exact List.mem_map.2 ⟨x, hd, rfl⟩
        · exact hd
      have hlt : Hid _ := left_lt he
      obtain ⟨s, t, rfl⟩ := List.append_of_mem hxr
      have hperm2 : Hid (((done ++ [x]) ++ (s ++ t)).Perm L) := by
        refine List.Perm.trans ?_ hperm
        rw [List.append_assoc]
        exact List.Perm.append_left _ (by simpa using (List.perm_middle (a := x) (l₁ := s) (l₂ := t)).symm)
      have hseen2 : Hid ((seen.push x.2.2).toList = (done ++ [x]).map (·.2.2)) := by
        show (seen.push x.2.2).toList = _
        rw [Array.toList_push, hseen]; simp
      have hsz1 : Hid ((hL done who).length + 1 ≤ 1000000) := by
        have h1 : (hL done who).length ≤ done.length := by unfold hL; rw [List.length_map]; exact List.length_filter_le _ _
        have := hperm.length_eq
        simp only [List.length_append, List.length_cons] at this
        show _ ≤ _
        omega
      have hrow1 : Hid (w1.ownsRow (w.heap.size + 1) 9 1 u5 (hL done who).length ((hL done who).map encStr)) := hrow.kept hg1 (Or.inr (row_ne_low hrow (Nat.lt_succ_self _)).symm)
      have hbel1 : Hid (Below w.heap.size w w1) := hbel.grown hg1 (by omega) (fun j hj => by cases hj; exact Nat.le_refl _)
      have hws1 : Hid (w.heap.size + 1 ≤ w1.heap.size) := by show _ ≤ _; omega
      have hR1 : Hid (w1.heap[w.heap.size]? = some (.mapIter (some bm) clock (seen.push x.2.2) clock)) := hr1
      have hMR : Hid (wr.heap[bm]? = some (.map (L.map hE).toArray clock)) := hmr
      have hRR : Hid (wr.heap[w.heap.size]? = some (.mapIter (some bm) clock seen c1)) := hr
      have hBM : Hid (bm < w.heap.size) := hbm
      simp only [hE] at hen ⊢
      clear hs1 hperm hseen he he0 hrow hg1 hr1 hxr hbel hws hmr hr
      go_wp2_with (first
        | (at_builtin; refine wpList_append_own _ rfl _ _ 107 rfl (w.heap.size + 1) 9 i0 (.string ⟨#[]⟩) 1 16 Try.underlying107 hi hz0 hz1 hz2 rfl (by decide) _ _ _ rfl ((hrow1.out.alloc (.cells #[.string ⟨x.1.toArray⟩] 153)).alloc (.cells #[.string ⟨x.1.toArray⟩] 9)) ⟨w1.heap.size + 1, 0, none⟩ 1 1 [.string ⟨x.1.toArray⟩] rfl rfl (by have := cell_one_new (w1.alloc (.cells #[.string ⟨x.1.toArray⟩] 153)) (.string ⟨x.1.toArray⟩) 9; simpa using this) (by simp [Value.oneCell']) (by have := hsz1.out; unfold maxLen; omega) (by have := hsz1.out; omega) (by have := hws1.out; simp; omega) ?_; intro v' w3 hown' hg3 hnil3; go_frame)
        | go_in)
      · have hne : some w.heap.size ≠ u5.ownBlock := row_ne_low hrow1.out (Nat.lt_succ_self _)
        have sz2 : ((w1.alloc (Obj.cells #[Value.string { data := x.1.toArray }] 153)).alloc (Obj.cells #[Value.string { data := x.1.toArray }] 9)).heap.size = w1.heap.size + 2 := by simp
        have hb2 := (hbel1.out.alloc (by have := hws1.out; omega) (Obj.cells #[Value.string { data := x.1.toArray }] 153)).alloc (by have := hws1.out; simp; omega) (Obj.cells #[Value.string { data := x.1.toArray }] 9)
        have hb3 := hb2.grown hg3 (by have := hws1.out; rw [sz2]; omega) (fun j hj => Nat.le_of_succ_le (hrow1.out.lt j hj).1)
        have s3 := hg3.size
        rw [sz2] at s3
        have m1 : w3.heap[w.heap.size]? = some (.mapIter (some bm) clock (seen.push x.2.2) clock) := by
          rw [hg3.block _ (by have := hws1.out; rw [sz2]; omega) hne, Below.heap_alloc _ _ _ (by have := hws1.out; simp; omega), Below.heap_alloc _ _ _ (by have := hws1.out; omega)]; exact hR1.out
        have m2 : w3.heap[bm]? = some (.map (L.map hE).toArray clock) := (hb3.block bm hBM.out).trans hm
        have e : hL (done ++ [x]) who = hL done who ++ [x.1] := by rw [hL_append]; simp [hL, *]
        have M1 : Hid _ := m1
        have M2 : Hid _ := m2
        have B3 : Hid (Below w.heap.size w w3) := hb3
        have S3 : Hid (w1.heap.size + 2 ≤ w3.heap.size) := s3
        have E : Hid _ := e
        have HO : Hid (w3.ownsRow (w.heap.size + 1) 9 1 v' ((hL done who).length + 1) ((hL done who).map encStr ++ [.string ⟨x.1.toArray⟩])) := hown'
        clear hne sz2 hb2 hb3 s3 m1 m2 e
        go_roundw
        case rel =>
          refine ⟨done ++ [x], s ++ t, seen.push x.2.2, clock, hperm2.out, hseen2.out, M1.out, Nat.le_refl _, ?_, B3.out, ?_⟩
          · rw [E.out]; simpa [encStr] using HO.out
          · have := hws1.out; have := S3.out; omega
        case measure =>
          simp only [hLeft, M1.out, M2.out, hMR.out, hRR.out]
          exact hlt.out
      · go_roundw
        case rel =>
          refine ⟨done ++ [x], s ++ t, seen.push x.2.2, clock, hperm2.out, hseen2.out, ?_, Nat.le_refl _, ?_, ?_, ?_⟩
          · rw [Below.heap_alloc _ _ _ (by have := hws1.out; omega)]; exact hR1.out
          · have e : hL (done ++ [x]) who = hL done who := by rw [hL_append]; simp [hL, *]
            rw [e]; exact hrow1.out.alloc _
          · exact hbel1.out.alloc (by have := hws1.out; omega) _
          · have := hws1.out; simp; omega
        case measure =>
          have m1 : (w1.alloc (Obj.cells #[Value.string { data := x.1.toArray }] 153)).heap[w.heap.size]? = some (.mapIter (some bm) clock (seen.push x.2.2) clock) := by
            rw [Below.heap_alloc _ _ _ (by have := hws1.out; omega)]; exact hR1.out
          have m2 : (w1.alloc (Obj.cells #[Value.string { data := x.1.toArray }] 153)).heap[bm]? = some (.map (L.map hE).toArray clock) :=
            ((hbel1.out.alloc (by have := hws1.out; omega) _).block bm hBM.out).trans hm
          simp only [hLeft, m1, m2, hMR.out, hRR.out]
          exact hlt.out
theorem held_none (who : Int) (w : World) : Calls Try.prog 68 #[.pointer none, .int .i64 who] w fun e w' => e = .returned (.slice none 0 0) ∧ w' = w := by
  go_enter Try.func68, Try.ntmps68
  go_wp2
  go_ret
  exact ⟨rfl, rfl⟩
end Go.Proofs.Ytdlcjibefbnckaa.Wa
end

section
/- What the evaluator is told ahead of each function (nothing of it is trusted). -/
namespace Go.Proofs.Ytdlcjibefbnckaa.Wa
open Go Go.Weave
set_option maxRecDepth 100000
set_option linter.unusedVariables false
def annw : FuncId → Ann := fun f => match f with
  | 134 => { keep := [(3, [.plain 5, .plain 8, .plain 9, .plain 10])] }
  | 105 => { keep := [(2, [.plain 1, .own 5 0])], rown := [0] }
  | 114 => { keep := [(4, [.plain 0, .plain 5, .plain 6, .plain 7])] }
  | 142 => { rown := [0] }
  | 113 => { rown := [0] }
  | 104 => { keep := [(3, [.plain 0, .own 3 0, .plain 4])], rown := [0] }
  | 135 => { loc := [(1, false)] }
  | 121 => { loc := [(1, false), (2, false)] }
  | 115 => { loc := [(1, false)] }
  | 95 => { keep := [(6, [.plain 0, .box 2 [], .box 4 []]), (9, [.plain 0, .box 2 [], .box 4 [], .plain 5, .own 6 0, .plain 7])], join := [6], loc := [(2, false), (4, false)] }
  | 120 => { keep := [(7, [.box 2 [], .plain 4, .box 5 []])], join := [7], loc := [(2, false), (5, false)] }
  | 93 => { keep := [(6, [.box 1 [], .plain 3, .box 4 []])], join := [6], loc := [(1, false)], xs := [4], rown := [0] }
  | 99 => { node := [(10, 5), (14, 5)] }
  | 118 => { node := [(6, 5)] }
  | 119 => { frz := [24], node := [(8, 5), (12, 5)] }
  | 101 => { node := [(15, 5), (20, 5), (27, 5), (32, 5), (39, 5), (44, 5), (48, 5), (51, 5), (57, 5), (60, 5), (74, 5), (79, 5), (88, 5), (93, 5), (98, 5), (104, 5), (107, 5), (113, 5), (116, 5), (120, 5)] }
  | 82 => { frz := [13, 69], node := [(17, 5), (23, 5), (30, 5), (37, 5), (43, 5), (47, 5), (57, 5), (61, 5), (65, 5)] }
  | 102 => { keep := [(1, [.plain 0])], node := [(4, 5), (9, 5)] }
  | 83 => { node := [(9, 5), (15, 5), (21, 5), (28, 5), (34, 5), (38, 5), (46, 5), (51, 5), (56, 5), (61, 5), (65, 5), (71, 5), (75, 5), (79, 5)] }
  | 100 => { node := [(9, 5), (17, 5), (21, 5), (28, 5)] }
  | 75 => { keep := [(4, [.plain 1, .plain 7, .plain 8])], node := [(18, 5), (24, 5), (29, 5)] }
  | 77 => { keep := [(4, [.plain 1, .plain 7, .plain 8])], node := [(18, 5), (24, 5), (29, 5)] }
  | 26 => { keep := [(2, [.plain 0, .plain 1, .plain 6])] }
  | 24 => { keep := [(3, [.plain 0, .plain 1, .own 5 3, .plain 6])], rown := [0] }
  | 22 => { keep := [(5, [.own 0 3, .plain 1, .plain 2, .own 7 3, .plain 8, .plain 9])], rown := [0] }
  | 80 => { keep := [(2, [.plain 0, .plain 1, .box 4 [], .plain 6])], loc := [(4, false)] }
  | 36 => { keep := [(4, [.plain 0, .plain 1, .plain 5])] }
  | 15 => { keep := [(6, [.plain 0, .plain 3])], join := [6] }
  | 25 => { loc := [(2, false)] }
  | 88 => { keep := [(4, [.plain 2, .plain 3, .own 9 3, .plain 10, .plain 11])], loc := [(12, false)], rown := [0] }
  | 39 => { keep := [(3, [.plain 0, .plain 1, .plain 2, .plain 3, .own 9 3, .plain 10])], rown := [0] }
  | 12 => { keep := [(7, [.plain 2, .box 3 [], .plain 4])], join := [7], loc := [(3, false)] }
  | 16 => { keep := [(2, [.plain 1, .box 2 [], .box 4 [], .plain 5])], loc := [(2, false), (4, false)] }
  | 18 => { keep := [(2, [.plain 1, .box 2 [], .box 4 [], .plain 5])], loc := [(2, false), (4, false)] }
  | 20 => { loc := [(3, false), (6, false), (7, false)] }
  | 3 => { keep := [(7, [.plain 0, .plain 3, .plain 4, .box 5 [], .own 6 3, .plain 7]), (27, [.plain 0, .plain 3, .plain 4, .box 5 [], .own 6 3, .plain 7, .plain 8, .plain 9])], join := [27], loc := [(5, false), (10, false)] }
  | 84 => { loc := [(1, false)] }
  | 30 => { keep := [(3, [.plain 0, .plain 5, .plain 10, .plain 11, .plain 12])], loc := [(7, false)] }
  | 38 => { rown := [0] }
  | 37 => { rown := [0] }
  | 44 => { keep := [(5, [.plain 5, .plain 6, .plain 7, .plain 8, .plain 9])] }
  | 40 => { loc := [(1, false)] }
  | 31 => { keep := [(3, [.plain 0, .plain 1, .plain 6, .plain 7])] }
  | 35 => { keep := [(3, [.plain 0, .plain 3, .plain 4])] }
  | 41 => { keep := [(3, [.plain 0, .own 3 4, .plain 4]), (8, [.plain 0, .own 3 4, .plain 4, .own 5 4, .plain 6, .plain 7]), (13, [.plain 0, .own 3 4, .plain 4, .own 5 4, .plain 6, .plain 7])], join := [13], rown := [0] }
  | 4 => { keep := [(12, [.plain 0, .plain 7, .own 15 4, .plain 16])], loc := [(4, false)] }
  | 50 => { keep := [(3, [.plain 0, .own 3 3, .plain 4])], rown := [0] }
  | 51 => { keep := [(3, [.plain 3, .plain 7, .plain 8, .plain 9])], loc := [(5, false)] }
  | 53 => { keep := [(4, [.plain 0, .plain 1, .own 5 3, .own 6 4, .plain 7])], rown := [0] }
  | 52 => { keep := [(4, [.plain 0, .plain 1, .plain 5])] }
  | 7 => { keep := [(9, [.own 5 3, .plain 7, .plain 8, .plain 9, .plain 10])] }
  | 62 => { keep := [(3, [.plain 0, .plain 5, .plain 11, .plain 12, .plain 13])] }
  | 61 => { keep := [(3, [.plain 0, .plain 1, .own 6 3, .plain 7])], rown := [0] }
  | 67 => { keep := [(2, [.plain 0, .plain 1, .plain 5])] }
  | 9 => { keep := [(6, [.plain 0, .plain 3, .plain 4, .plain 5]), (17, [.plain 0, .plain 3, .plain 4, .plain 5]), (20, [.plain 0, .plain 3, .plain 4, .plain 5, .plain 10]), (25, [.plain 0, .plain 3, .plain 4, .plain 5, .plain 11]), (32, [.plain 0, .plain 3, .plain 4, .plain 5, .plain 11, .plain 12, .plain 15])], join := [17] }
  | 45 => { keep := [(2, [.plain 0, .plain 3])] }
  | 98 => { keep := [(4, [.plain 0, .plain 1, .plain 12, .plain 13])] }
  | 48 => { keep := [(3, [.plain 0, .plain 1, .plain 5, .plain 6])] }
  | 6 => { keep := [(9, [.plain 0, .own 5 0, .plain 6])] }
  | 131 => { keep := [(4, [.plain 0, .plain 2])], join := [4] }
  | 132 => { keep := [(4, [.plain 0, .plain 2]), (7, [.plain 0, .plain 2])], join := [4, 7] }
  | 116 => { keep := [(2, [.plain 0, .plain 1, .plain 2, .plain 3, .plain 8, .plain 9]), (10, [.plain 0, .plain 1, .plain 2, .plain 3, .plain 8, .plain 9, .plain 10]), (15, [.plain 0, .plain 1, .plain 2, .plain 3, .plain 8, .plain 9, .plain 10, .plain 11, .plain 12]), (17, [.plain 0, .plain 1, .plain 2, .plain 3, .plain 8, .plain 9, .plain 10, .plain 11])], join := [10, 15, 17] }
  | 70 => { keep := [(4, [.plain 3, .own 4 0, .plain 10, .plain 11, .plain 12]), (7, [.plain 3, .own 4 0, .plain 10, .plain 11, .plain 12, .plain 16, .plain 17, .plain 18])], loc := [(8, false)], rown := [0] }
  | 71 => { keep := [(3, [.plain 0, .own 3 3, .plain 4]), (6, [.plain 0, .own 3 3, .plain 4, .plain 5])], rown := [0] }
  | 73 => { keep := [(3, [.plain 0, .plain 1, .plain 2]), (5, [.plain 0, .plain 1, .plain 2]), (6, [.plain 0, .plain 2, .plain 7])], join := [3, 5] }
  | 11 => { keep := [(7, [.plain 0, .own 7 0, .own 8 3, .plain 9]), (13, [.own 8 3, .own 10 3, .plain 11])] }
  | 54 => { keep := [(2, [.plain 0, .plain 3])] }
  | 56 => { keep := [(3, [.box 2 [], .plain 4, .plain 9, .plain 10, .plain 11])], loc := [(2, false), (6, false)] }
  | 58 => { keep := [(3, [.own 3 0, .plain 7, .plain 8])], loc := [(1, false)], rown := [0] }
  | 55 => { loc := [(1, false)] }
  | 96 => { loc := [(3, false)] }
  | 8 => { keep := [(8, [.box 3 [], .box 5 [], .plain 7]), (15, [.box 5 [], .own 8 0, .plain 9, .plain 10])], loc := [(3, false), (5, false)] }
  | _ => {}
noncomputable def Cw : Cfg := ⟨Try.prog, annw, fun f => match f with | 68 => some heldG | _ => none, fun _ => none⟩
@[simp] theorem plain43 (x0 : List UInt8) (x1 : List UInt8) : plainOk Cw.P 43 (AVal.agg [AVal.str x0, AVal.str x1]) = true := by kernel_rfl
@[simp] theorem plain63 (x0 : Int) (x1 : List UInt8) (x2 : List UInt8) : plainOk Cw.P 63 (AVal.agg [AVal.int .i64 x0, AVal.str x1, AVal.str x2]) = true := by kernel_rfl
@[simp] theorem arr4_3 (x0 : Int) (x1 : Int) (x2 : Int) (x3 : Int) : arrOk Cw.P 4 3 (AVal.agg [AVal.int .i64 x0, AVal.int .i64 x1, AVal.int .i64 x2, AVal.int .i64 x3]) = true := by kernel_rfl
end Go.Proofs.Ytdlcjibefbnckaa.Wa
end

section
/- Held, as a contract. -/
namespace Go.Proofs.Ytdlcjibefbnckaa.Wa
open Go Go.RowKit Go.Maps Go.Sort Go.Weave
set_option maxRecDepth 100000
set_option linter.unusedSimpArgs false
set_option linter.unusedVariables false
set_option linter.unusedSectionVars false

theorem decL_spec : ∀ {es : List (AVal × AVal × Nat)} {L : List HL}, decL es = some L → es = L.map (fun x => (AVal.agg [.str x.1], AVal.int .i64 x.2.1, x.2.2))
  | [], L, h => by simp only [decL, Option.some.injEq] at h; subst h; rfl
  | e :: r, L, h => by
    unfold decL at h
    split at h
    · rename_i h0; cases h0
    · rename_i s n b r' h0
      cases h0
      split at h
      · rename_i l hl
        simp only [Option.some.injEq] at h
        subst h
        rw [decL_spec hl]; rfl
      · cases h
    · cases h
theorem repMs_hE {c : Ctx} {ents : Array MapEntry} {L : List HL} (hs : ents.size = (L.map (fun x => (AVal.agg [.str x.1], AVal.int .i64 x.2.1, x.2.2))).length)
    (h : ∀ j, j < (L.map (fun x => (AVal.agg [.str x.1], AVal.int .i64 x.2.1, x.2.2))).length → RepM c (ents.getD j default) ((L.map (fun x => (AVal.agg [.str x.1], AVal.int .i64 x.2.1, x.2.2))).getD j (.undef, .undef, 0))) :
    ents = (L.map hE).toArray := by
  apply Array.ext
  · simpa using hs
  · intro j hj hj2
    have hjL : j < L.length := by simpa using hj2
    have h1 := h j (by simpa using hjL)
    have e1 : ents.getD j default = ents[j] := by simp [Array.getD, hj]
    have e2 : (L.map (fun x => (AVal.agg [.str x.1], AVal.int .i64 x.2.1, x.2.2))).getD j (AVal.undef, AVal.undef, 0) = (AVal.agg [.str L[j].1], AVal.int .i64 L[j].2.1, L[j].2.2) := by simp [hjL]
    rw [e1, e2] at h1
    obtain ⟨k1, k2, k3⟩ := h1
    have e3 : (L.map hE).toArray[j] = hE L[j] := by simp
    rw [e3]
    generalize ents[j] = e at k1 k2 k3
    obtain ⟨key, val, born⟩ := e
    simp only at k1 k2 k3
    cases k2
    subst k3
    cases k1 with
    | agg xs cs hx hn hr =>
      have h0 := hr 0 (by simp)
      simp only [List.getD_cons_zero] at h0
      have hx1 : xs.size = 1 := by simpa using hx
      obtain ⟨v, rfl⟩ : ∃ v, xs = #[v] := Array.size_eq_one_iff.1 hx1
      have e4 : (#[v] : Array Value).getD 0 undef = v := rfl
      rw [e4] at h0
      generalize hq : AVal.str L[j].1 = q at h0
      cases h0 with
      | str s =>
        simp only [AVal.str.injEq] at hq
        show (⟨.agg #[.string s], _, _⟩ : MapEntry) = hE L[j]
        unfold hE
        rw [hq]
      | _ => cases hq
theorem held_ext {c0 : Ctx} (hann : (Cw.ann 68).pown = [] ∧ (Cw.ann 68).rown = []) : CallAt Cw 68 heldG c0 := by
  intro args H Q hq c β vs hle hh hb hk hs hr
  have hokE : ∀ b, Mgd c β b → (callBs c β).ok b := fun b h => .inr (.inl h)
  have hokT : ∀ g b, β (.tok g) = some b → (callBs c β).ok b := fun g b h => .inr (.inr ⟨g, h⟩)
  unfold heldG at hq
  split at hq
  · -- nobody
    rename_i who
    have h0 := hr 0 (by simp)
    have h1 := hr 1 (by simp)
    simp only [hann.1, List.contains_nil, cvIn, cond_false, List.getD_cons_zero, List.getD_cons_succ] at h0 h1
    have hs2 : vs.size = 2 := by simpa using hs
    obtain ⟨a, b, rfl⟩ : ∃ a b, vs = #[a, b] := by
      refine ⟨vs[0], vs[1], ?_⟩
      apply Array.ext
      · simp [hs2]
      · intro i hi hi2
        match i, hi2 with
        | 0, _ => rfl
        | 1, _ => rfl
    have h0' : Rep c a .nilp := h0
    have h1' : Rep c b (.int .i64 who) := h1
    cases h0'
    cases h1'
    refine (held_none who c.w).mono ?_
    rintro e w' ⟨rfl, rfl⟩
    refine ⟨#[.slice none 0 0], c, β, _, rfl, rfl, ⟨hh, hb, hk, Pres.refl _ _ _ _, hokE, hokT, rfl, fun i hi => ?_⟩, hq⟩
    match i, hi with
    | 0, _ =>
      simp only [hann.2, List.contains_nil, cvIn, cond_false, List.getD_cons_zero]
      exact Rep.slnil _ _ _
  · rename_i id who
    split at hq
    · rename_i m hcell
      have h0 := hr 0 (by simp)
      have h1 := hr 1 (by simp)
      simp only [hann.1, List.contains_nil, cvIn, cond_false, List.getD_cons_zero, List.getD_cons_succ] at h0 h1
      have hs2 : vs.size = 2 := by simpa using hs
      obtain ⟨a, b, rfl⟩ : ∃ a b, vs = #[a, b] := by
        refine ⟨vs[0], vs[1], ?_⟩
        apply Array.ext
        · simp [hs2]
        · intro i hi hi2
          match i, hi2 with
          | 0, _ => rfl
          | 1, _ => rfl
      have h0' : Rep c a (.obj id 0) := h0
      have h1' : Rep c b (.int .i64 who) := h1
      cases h1'
      cases h0' with
      | obj _ _ hid =>
      -- the object's cell
      obtain ⟨cs, ho, hc0⟩ : ∃ cs, H.objs[id]? = some (.cells cs) ∧ cs[0]? = some (.val (.map m)) := by
        unfold Heap.cell? at hcell
        split at hcell
        · rename_i cs h; exact ⟨cs, h, hcell⟩
        · cases hcell
      obtain ⟨xs, el, k1, k2, k3⟩ := hh.obj id _ ho
      have hcs0 : 0 < cs.length := by cases cs with | nil => simp at hc0 | cons x r => simp
      have k4 := k3 0 hcs0
      have e0 : cs.getD 0 (.val .undef) = .val (.map m) := by simp [List.getD_eq_getElem?_getD, hc0]
      rw [e0] at k4
      have k5 : Rep c (xs.getD 0 undef) (.map m) := k4.1
      have hx0 : 0 < xs.size := by omega
      have e1 : xs.getD 0 undef = xs[0] := by simp [Array.getD, hx0]
      rw [e1] at k5
      have hwc : c.w.cell? ⟨c.ι id, 0, none⟩ = some xs[0] := by simp [World.cell?, k1, hx0]
      unfold heldM at hq
      split at hq
      · rename_i kt es ck hm
        split at hq
        · rename_i L hL0
          have hes := decL_spec hL0
          subst hes
          cases hok : okL L ck with
          | false => rw [hok] at hq; exact hq.elim
          | true =>
          rw [hok] at hq
          obtain ⟨ents, clock, q1, q2, q3⟩ : ∃ ents clock, c.w.heap[c.ι m]? = some (.map ents clock) ∧ clock = ck ∧ ents = (L.map hE).toArray := by
            obtain ⟨ents, p1, p2, p3⟩ := hh.obj m _ hm
            exact ⟨ents, ck, p1, rfl, repMs_hE p2 p3⟩
          subst q2 q3
          unfold okL at hok
          simp only [Bool.and_eq_true, decide_eq_true_eq, List.all_eq_true] at hok
          generalize hv0 : xs[0] = v0 at k5 hwc
          cases k5 with
          | map _ hmid =>
          refine (held_any c.w (c.ι id) (c.ι m) who hwc (hh.lt hid) L clock q1 hok.1 (fun x hx => hok.2.1 x hx) hok.2.2).mono ?_
          rintro e w' ⟨v, ss, rfl, hperm, hrow, hbel⟩
          have hsort : (ss.mergeSort fun x y => decide (x ≤ y)) = srtS (hLs L who) := mergeSort_of_perm hperm
          rw [hsort] at hrow
          have hlen : ss.length = (srtS (hLs L who)).length := by rw [← hsort]; simp
          have hblk : ∀ b, b < c.w.heap.size → w'.heap[b]? = c.w.heap[b]? := hbel.block
          have hlim : ∀ o b, β o = some b → b < c.w.heap.size := fun o b h => by
            obtain ⟨ys, el', h'⟩ := hb.blk o b h
            exact (Array.getElem?_eq_some_iff.1 h').1
          generalize hS : srtS (hLs L who) = S at *
          -- from a context that keeps what was there
          have fin : ∀ κ' : Nat → Option Nat, (∀ b, b < c.w.heap.size → κ' b = c.κ b) → (∀ b l, κ' b = some l → b < w'.heap.size) → Rep ⟨w', c.n, c.ι, κ'⟩ v (.sl false 0 (S.map AVal.str)) →
              ∃ xs c' β' r, Ending.returned v = .returned (resultOf xs) ∧ c'.w = w' ∧ Out Cw.P (Cw.ann 68) c β c' β' xs r ∧ Q r := fun κ' hκ hκl hrep => by
            have hle' : c.le ⟨w', c.n, c.ι, κ'⟩ := ⟨Nat.le_refl _, fun _ _ => rfl, fun b l h => ⟨l, by show κ' b = _; rw [hκ b (hb.lim b l h)]; exact h, Nat.le_refl _, fun o ho => by
              simp only [World.cell?]; rw [hblk b (hb.lim b l h)]⟩⟩
            refine ⟨#[v], ⟨w', c.n, c.ι, κ'⟩, β, ([.sl false 0 (S.map AVal.str)], H), rfl, rfl, ⟨?_, ?_, hk, ⟨hle', hbel.size, fun b hbn => ?_, hbel.os, hbel.output⟩, fun b h => hokE b h, hokT, rfl, fun i hi => ?_⟩, hq⟩
            · refine ⟨hh.n, fun id' o ho' => ?_, fun id' hid' => ?_, hh.inj⟩
              · have hid' : id' < c.n := by rw [hh.n]; exact (List.getElem?_eq_some_iff.1 ho').1
                exact (hh.obj id' o ho').move hle' (fun o' b h => ⟨hκ b (hlim o' b h), hblk b (hlim o' b h)⟩) hid' (hblk _ (hh.lt hid'))
              · show κ' (c.ι id') = none
                rw [hκ _ (hh.lt hid')]; exact hh.κ id' hid'
            · refine ⟨fun o b h => ?_, fun o b h => ?_, hb.inj, hκl, hb.cl⟩
              · obtain ⟨ys, el', h'⟩ := hb.blk o b h
                exact ⟨ys, el', by show w'.heap[b]? = _; rw [hblk b (hlim o b h)]; exact h'⟩
              · show κ' b ≠ none
                rw [hκ b (hlim o b h)]; exact hb.κ o b h
            · have : b < c.w.heap.size := Bs.lt hbn
              exact ⟨hblk b this, hκ b this⟩
            · match i, hi with
              | 0, _ =>
                simp only [hann.2, List.contains_nil, cvIn, cond_false, List.getD_cons_zero]
                exact hrep
          rcases hrow.2 with ⟨rfl, hn0⟩ | ⟨g, cap, cur, rfl, hbase, hg, g1, g2, g3, g4⟩
          · have hS0 : S = [] := List.length_eq_zero_iff.1 (by omega)
            refine fin c.κ (fun _ _ => rfl) (fun b l h => Nat.lt_of_lt_of_le (hb.lim b l h) hbel.size) ?_
            rw [hS0]
            exact Rep.slnil _ _ _
          · have hgl : g < w'.heap.size := (Array.getElem?_eq_some_iff.1 hg).1
            refine fin (fun b => if b = g then some ss.length else c.κ b) (fun b hbl => if_neg (by omega)) (fun b l h => ?_) ?_
            · have h : (if b = g then some ss.length else c.κ b) = some l := h
              split at h
              · rename_i e; rw [e]; exact hgl
              · exact Nat.lt_of_lt_of_le (hb.lim b l h) hbel.size
            · have hcell' : ∀ i (hi : i < S.length), w'.cell? ⟨g, i, none⟩ = some (.string ⟨S[i].toArray⟩) := fun i hi => by
                have h5 : (cur.toList.take (ss.length * 1))[i]? = (S.map encStr)[i]? := by rw [g4]
                rw [List.getElem?_take_of_lt (by omega)] at h5
                simp only [World.cell?, hg]
                simp only [Option.isSome_none, Bool.false_eq_true, if_false]
                rw [← Array.getElem?_toList, h5]
                simp [hi, encStr]
              have hls : (S.map AVal.str).length = ss.length := by rw [List.length_map, hlen]
              have := Rep.sl (c := ⟨w', c.n, c.ι, fun b => if b = g then some ss.length else c.κ b⟩) g 0 cap ss.length false 0 (S.map AVal.str) (fun i _ => .string ⟨(S.getD i []).toArray⟩) (by rw [hls]; exact g1) (by simp) (by simp)
                (by rw [hls]; show 0 + ss.length * 1 ≤ ss.length; omega) (fun e he => by
                  obtain ⟨x, _, rfl⟩ := List.mem_map.1 he
                  exact ⟨rfl, rfl, fun y hy => by simp [AVal.cells] at hy; subst hy; rfl⟩) (fun i j hi hj => by
                  have hj0 : j = 0 := by have : cnt 0 = 1 := rfl; omega
                  subst hj0
                  have hi' : i < S.length := by simpa using hi
                  have := hcell' i hi'
                  show w'.cell? ⟨g, 0 + i * 1 + 0, none⟩ = _
                  rw [show 0 + i * 1 + 0 = i by omega, this]
                  simp [hi']) (fun i j hi hj => by
                  have hj0 : j = 0 := by have : cnt 0 = 1 := rfl; omega
                  subst hj0
                  have hi' : i < S.length := by simpa using hi
                  have e5 : ((S.map AVal.str).getD i .undef).cells.getD 0 .undef = AVal.str S[i] := by simp [hi', AVal.cells]
                  rw [e5]
                  have e6 : (S.getD i []) = S[i] := by simp [hi']
                  rw [e6]
                  exact Rep.str ⟨S[i].toArray⟩)
              rw [hls] at this
              exact this
        · exact hq.elim
      · exact hq.elim
    · exact hq.elim
  · exact hq.elim
theorem ext_of43 {f : FuncId} {g : List AVal → Heap → Tr Res} (h : Cw.ext f = some g) : f = 68 ∧ g = heldG := by
  by_cases e : f = 68
  · subst e
    have e1 : Cw.ext 68 = some heldG := rfl
    rw [e1] at h
    exact ⟨rfl, (Option.some.inj h).symm⟩
  · have e1 : Cw.ext f = none := by
      show (match f with | 68 => some heldG | _ => none) = none
      split
      · exact absurd rfl e
      · rfl
    rw [e1] at h; cases h
end Go.Proofs.Ytdlcjibefbnckaa.Wa
end

section
/- The program's plain types, as Lean's. -/
namespace Go.Weave
structure Rec where
  kind : Int
  chain : Int
  lsn : Int
  prev : Int
  full : Bool
  data : List UInt8
def Rec.C (r : Rec) : List AVal := [.int .i64 r.kind, .int .i64 r.chain, .int .i64 r.lsn, .int .i64 r.prev, .sl r.full 0 (bys r.data)]
def Rec.A (r : Rec) : AVal := .agg r.C
def i64ok (n : Int) : Prop := -9223372036854775808 ≤ n ∧ n ≤ 9223372036854775807
def Rec.ok (r : Rec) : Prop := i64ok r.kind ∧ i64ok r.chain ∧ i64ok r.lsn ∧ i64ok r.prev ∧ r.data.length ≤ 140737488351232 ∧ r.full = false
structure Change where
  key : List UInt8
  was : Bool
  is : Bool
  old : List UInt8
  new : List UInt8
  next : Int
def Change.C (c : Change) : List AVal := [.str c.key, .bool c.was, .bool c.is, .str c.old, .str c.new, .int .i64 c.next]
def Change.A (c : Change) : AVal := .agg c.C
def Change.ok (c : Change) : Prop := c.key.length ≤ 140737488351232 ∧ True ∧ True ∧ c.old.length ≤ 140737488351232 ∧ c.new.length ≤ 140737488351232 ∧ i64ok c.next
structure KOp where
  kind : Int
  key : List UInt8
  val : List UInt8
def KOp.C (o : KOp) : List AVal := [.int .i64 o.kind, .str o.key, .str o.val]
def KOp.A (o : KOp) : AVal := .agg o.C
def KOp.ok (o : KOp) : Prop := i64ok o.kind ∧ o.key.length ≤ 140737488351232 ∧ o.val.length ≤ 140737488351232
structure KPair where
  key : List UInt8
  val : List UInt8
def KPair.C (o : KPair) : List AVal := [.str o.key, .str o.val]
def KPair.A (o : KPair) : AVal := .agg o.C
def KPair.ok (o : KPair) : Prop := o.key.length ≤ 140737488351232 ∧ o.val.length ≤ 140737488351232
structure IPlace where
  seq : Int
  at' : Int
  deriving DecidableEq
def IPlace.C (o : IPlace) : List AVal := [.int .i64 o.seq, .int .i64 o.at']
def IPlace.A (o : IPlace) : AVal := .agg o.C
def IPlace.ok (o : IPlace) : Prop := i64ok o.seq ∧ i64ok o.at'
structure Act26 where
  kind : Int
  chain : Int
  at' : IPlace
  n : Int
def Act26.C (a : Act26) : List AVal := [.int .u64 a.kind, .int .i64 a.chain, .int .i64 a.at'.seq, .int .i64 a.at'.at', .int .i64 a.n]
def Act26.A (a : Act26) : AVal := .agg a.C
def Act26.ok (a : Act26) : Prop := (0 ≤ a.kind ∧ a.kind ≤ 18446744073709551615) ∧ i64ok a.chain ∧ a.at'.ok ∧ i64ok a.n
structure Act32 where
  kind : Int
  key : List UInt8
def Act32.C (a : Act32) : List AVal := [.int .u64 a.kind, .str a.key]
def Act32.A (a : Act32) : AVal := .agg a.C
def Act32.ok (a : Act32) : Prop := (0 ≤ a.kind ∧ a.kind ≤ 18446744073709551615) ∧ a.key.length ≤ 140737488351232
structure Act43 where
  drop : Bool
  who : Int
  key : List UInt8
def Act43.C (a : Act43) : List AVal := [.bool a.drop, .int .i64 a.who, .str a.key]
def Act43.A (a : Act43) : AVal := .agg a.C
def Act43.ok (a : Act43) : Prop := True ∧ i64ok a.who ∧ a.key.length ≤ 140737488351232
structure RPoint where
  pieces : Int
  pairs : Int
  sum : Int
def RPoint.C (a : RPoint) : List AVal := [.int .i64 a.pieces, .int .i64 a.pairs, .int .u32 a.sum]
def RPoint.A (a : RPoint) : AVal := .agg a.C
def RPoint.ok (a : RPoint) : Prop := i64ok a.pieces ∧ i64ok a.pairs ∧ (0 ≤ a.sum ∧ a.sum ≤ 4294967295)
end Go.Weave
end

section
/- What the evaluator comes to in these functions. -/
namespace Go.Proofs.Ytdlcjibefbnckaa.Wa
open Go Go.Weave
set_option maxRecDepth 100000
set_option linter.unusedVariables false
/- f66 (*strandline/lock.Locks).Holder -/
theorem F66nil_eq (d : Nat) (s0 : List UInt8) (h : Heap) : evFn Cw (d + 1) 66 [AVal.nilp, (AVal.str s0)] h =
  (Tr.ret ([(AVal.int .i64 0)], h)) := by kernel_rfl
theorem F66_eq (d : Nat) (i0 : Nat) (s1 : List UInt8) (h : Heap) : evFn Cw (d + 1) 66 [(AVal.obj i0 0), (AVal.str s1)] h =
  (optK (Heap.cell? h i0 0) fun z1 =>
    (lookK 153 (AVal.int .i64 0) (HCell.toA z1) (AVal.agg [(AVal.str s1)]) h fun w2 bb3 =>
      (intK .i64 w2 fun y4 =>
        (Tr.ret ([(AVal.int .i64 y4)], h))))) := by kernel_rfl
/- f64 (*strandline/lock.Locks).Take -/
theorem F64nil_eq (d : Nat) (x0 : Int) (s1 : List UInt8) (h : Heap) : evFn Cw (d + 1) 64 [AVal.nilp, (AVal.int .i64 x0), (AVal.str s1)] h =
  (Tr.ret ([(AVal.bool false)], h)) := by kernel_rfl
theorem F64_eq (d : Nat) (i0 : Nat) (x1 : Int) (s2 : List UInt8) (h : Heap) : evFn Cw (d + 1) 64 [(AVal.obj i0 0), (AVal.int .i64 x1), (AVal.str s2)] h =
  (bif (decide ((x1 : Int) < 1)) then
    (Tr.ret ([(AVal.bool false)], h))
  else
    (bif (decide ((x1 : Int) > 3)) then
      (Tr.ret ([(AVal.bool false)], h))
    else
      (runK (evFn Cw d 66 [(AVal.obj i0 0), (AVal.str s2)] h) fun r1 h1 =>
        (consK r1 fun w2 ws3 =>
          (intK .i64 w2 fun y4 =>
            (nilK ws3
              (bif ((y4 : Int) != 0) then
                (bif ((y4 : Int) != x1) then
                  (Tr.ret ([(AVal.bool false)], h1))
                else
                  (optK (Heap.cell? h1 i0 0) fun z5 =>
                    (updK 153 (HCell.toA z5) (AVal.agg [(AVal.str s2)]) (AVal.int .i64 x1) h1 fun h6 =>
                      (Tr.ret ([(AVal.bool true)], h6)))))
              else
                (optK (Heap.cell? h1 i0 0) fun z7 =>
                  (updK 153 (HCell.toA z7) (AVal.agg [(AVal.str s2)]) (AVal.int .i64 x1) h1 fun h8 =>
                    (Tr.ret ([(AVal.bool true)], h8))))))))))) := by kernel_rfl
/- f62 (*strandline/lock.Locks).Drop -/
noncomputable def P62nil_0 (d k : Nat) (f0 : Bool) (l1 : List AVal) (f2 : Bool) (l3 : List AVal) (x4 : Int) (x5 : Int) (h : Heap) : Tr Res :=
  loopPt Cw d 62 [true, true, false, true, true] [] k ⟨[(0, (EV.one (SV.val AVal.nilp))), (5, (EV.one (SV.val (AVal.sl f0 0 l1)))), (11, (EV.one (SV.val (AVal.sl f2 0 l3)))), (12, (EV.one (SV.val (AVal.int .i64 x4)))), (13, (EV.one (SV.val (AVal.int .i64 x5))))], []⟩ h
theorem P62nil_0_eq (d k : Nat) (f0 : Bool) (l1 : List AVal) (f2 : Bool) (l3 : List AVal) (x4 : Int) (x5 : Int) (h : Heap) : P62nil_0 d (k + 1) f0 l1 f2 l3 x4 x5 h =
  (bif (decide ((x5 : Int) < x4)) then
    (bif (decide ((0 : Int) ≤ x5) && decide ((x5 : Int) < (l3.length : Int))) then
      (strK (l3.getD (Int.toNat x5) AVal.undef) fun ss1 =>
        Tr.fail)
    else
      Tr.fail)
  else
    (Tr.ret ([(AVal.int .i64 (l1.length : Int))], h))) := by kernel_rfl
theorem F62nil_eq (d : Nat) (x0 : Int) (h : Heap) : evFn Cw (d + 1) 62 [AVal.nilp, (AVal.int .i64 x0)] h =
  (runK (evFn Cw d 68 [AVal.nilp, (AVal.int .i64 x0)] h) fun r1 h1 =>
    (consK r1 fun w2 ws3 =>
      (slK 0 w2 fun fl4 es5 =>
        (nilK ws3
          (P62nil_0 d rounds fl4 es5 fl4 es5 (es5.length : Int) 0 h1))))) := by kernel_rfl
noncomputable def P62_0 (d k : Nat) (i0 : Nat) (f1 : Bool) (l2 : List AVal) (f3 : Bool) (l4 : List AVal) (x5 : Int) (x6 : Int) (h : Heap) : Tr Res :=
  loopPt Cw d 62 [true, true, false, true, true] [] k ⟨[(0, (EV.one (SV.val (AVal.obj i0 0)))), (5, (EV.one (SV.val (AVal.sl f1 0 l2)))), (11, (EV.one (SV.val (AVal.sl f3 0 l4)))), (12, (EV.one (SV.val (AVal.int .i64 x5)))), (13, (EV.one (SV.val (AVal.int .i64 x6))))], []⟩ h
theorem P62_0_eq (d k : Nat) (i0 : Nat) (f1 : Bool) (l2 : List AVal) (f3 : Bool) (l4 : List AVal) (x5 : Int) (x6 : Int) (h : Heap) : P62_0 d (k + 1) i0 f1 l2 f3 l4 x5 x6 h =
  (bif (decide ((x6 : Int) < x5)) then
    (bif (decide ((0 : Int) ≤ x6) && decide ((x6 : Int) < (l4.length : Int))) then
      (strK (l4.getD (Int.toNat x6) AVal.undef) fun ss1 =>
        (optK (Heap.cell? h i0 0) fun z2 =>
          (delW 153 (HCell.toA z2) (AVal.agg [(AVal.str ss1)]) h fun h3 =>
            (P62_0 d k i0 f1 l2 f3 l4 x5 (IntKind.i64.wrap (x6 + 1)) h3))))
    else
      Tr.fail)
  else
    (Tr.ret ([(AVal.int .i64 (l2.length : Int))], h))) := by kernel_rfl
theorem F62_eq (d : Nat) (i0 : Nat) (x1 : Int) (h : Heap) : evFn Cw (d + 1) 62 [(AVal.obj i0 0), (AVal.int .i64 x1)] h =
  (runK (evFn Cw d 68 [(AVal.obj i0 0), (AVal.int .i64 x1)] h) fun r1 h1 =>
    (consK r1 fun w2 ws3 =>
      (slK 0 w2 fun fl4 es5 =>
        (nilK ws3
          (P62_0 d rounds i0 fl4 es5 fl4 es5 (es5.length : Int) 0 h1))))) := by kernel_rfl
/- f65 (*strandline/lock.Locks).Len -/
theorem F65nil_eq (d : Nat) (h : Heap) : evFn Cw (d + 1) 65 [AVal.nilp] h =
  (Tr.ret ([(AVal.int .i64 0)], h)) := by kernel_rfl
theorem F65_eq (d : Nat) (i0 : Nat) (h : Heap) : evFn Cw (d + 1) 65 [(AVal.obj i0 0)] h =
  (optK (Heap.cell? h i0 0) fun z1 =>
    (mapLenK (HCell.toA z1) h fun cc2 =>
      (Tr.ret ([(AVal.int .i64 (cc2 : Int))], h)))) := by kernel_rfl
/- f60 strandline/lock.New -/
theorem F60_eq (d : Nat) (h : Heap) : evFn Cw (d + 1) 60 [] h =
  (Tr.ret ([(AVal.obj (Heap.push h (Go.Weave.Obj.map 153 [] 0)).objs.length 0)], (Heap.push (Heap.push h (Go.Weave.Obj.map 153 [] 0)) (Go.Weave.Obj.cells ([(AVal.map h.objs.length)].map HCell.val))))) := by kernel_rfl
/- f59 strandline/strandlinelaw43.awake -/
theorem F59_eq (d : Nat) (h : Heap) : evFn Cw (d + 1) 59 [] h =
  (runK (evFn Cw d 60 [] h) fun r1 h1 =>
    (consK r1 fun w2 ws3 =>
      (nilK ws3
        (runK (evFn Cw d 64 [w2, (AVal.int .i64 1), (AVal.str [97])] h1) fun r4 h4 =>
          (consK r4 fun w5 ws6 =>
            (boolK w5 fun bb7 =>
              (nilK ws6
                (bif bb7 then
                  (runK (evFn Cw d 64 [w2, (AVal.int .i64 2), (AVal.str [97])] h4) fun r8 h8 =>
                    (consK r8 fun w9 ws10 =>
                      (boolK w9 fun bb11 =>
                        (nilK ws10
                          (bif (!bb11) then
                            (runK (evFn Cw d 66 [w2, (AVal.str [97])] h8) fun r12 h12 =>
                              (consK r12 fun w13 ws14 =>
                                (intK .i64 w13 fun y15 =>
                                  (nilK ws14
                                    (bif ((y15 : Int) == 1) then
                                      (runK (evFn Cw d 62 [w2, (AVal.int .i64 1)] h12) fun r16 h16 =>
                                        (consK r16 fun w17 ws18 =>
                                          (intK .i64 w17 fun y19 =>
                                            (nilK ws18
                                              (bif ((y19 : Int) == 1) then
                                                (runK (evFn Cw d 65 [w2] h16) fun r20 h20 =>
                                                  (consK r20 fun w21 ws22 =>
                                                    (intK .i64 w21 fun y23 =>
                                                      (nilK ws22
                                                        (Tr.ret ([(AVal.bool ((y23 : Int) == 0))], h20))))))
                                              else
                                                (Tr.ret ([(AVal.bool false)], h16)))))))
                                    else
                                      (Tr.ret ([(AVal.bool false)], h12)))))))
                          else
                            (Tr.ret ([(AVal.bool false)], h8)))))))
                else
                  (Tr.ret ([(AVal.bool false)], h4)))))))))) := by kernel_rfl
/- f10 strandline/strandlinelaw43.LockNobody -/
theorem F10_eq (d : Nat) (x0 : Int) (s1 : List UInt8) (h : Heap) : evFn Cw (d + 1) 10 [(AVal.int .i64 x0), (AVal.str s1)] h =
  (runK (evFn Cw d 64 [AVal.nilp, (AVal.int .i64 x0), (AVal.str s1)] h) fun r1 h1 =>
    (consK r1 fun w2 ws3 =>
      (boolK w2 fun bb4 =>
        (nilK ws3
          (bif (!bb4) then
            (runK (evFn Cw d 66 [AVal.nilp, (AVal.str s1)] h1) fun r5 h5 =>
              (consK r5 fun w6 ws7 =>
                (intK .i64 w6 fun y8 =>
                  (nilK ws7
                    (bif ((y8 : Int) == 0) then
                      (runK (evFn Cw d 62 [AVal.nilp, (AVal.int .i64 x0)] h5) fun r9 h9 =>
                        (consK r9 fun w10 ws11 =>
                          (intK .i64 w10 fun y12 =>
                            (nilK ws11
                              (bif ((y12 : Int) == 0) then
                                (runK (evFn Cw d 68 [AVal.nilp, (AVal.int .i64 x0)] h9) fun r13 h13 =>
                                  (consK r13 fun w14 ws15 =>
                                    (slK 0 w14 fun fl16 es17 =>
                                      (nilK ws15
                                        (bif (((es17.length : Int) : Int) == 0) then
                                          (runK (evFn Cw d 65 [AVal.nilp] h13) fun r18 h18 =>
                                            (consK r18 fun w19 ws20 =>
                                              (intK .i64 w19 fun y21 =>
                                                (nilK ws20
                                                  (bif ((y21 : Int) == 0) then
                                                    (runK (evFn Cw d 59 [] h18) fun r22 h22 =>
                                                      (consK r22 fun w23 ws24 =>
                                                        (boolK w23 fun bb25 =>
                                                          (nilK ws24
                                                            (Tr.ret ([(AVal.bool bb25)], h22))))))
                                                  else
                                                    (Tr.ret ([(AVal.bool false)], h18)))))))
                                        else
                                          (Tr.ret ([(AVal.bool false)], h13)))))))
                              else
                                (Tr.ret ([(AVal.bool false)], h9)))))))
                    else
                      (Tr.ret ([(AVal.bool false)], h5)))))))
          else
            (Tr.ret ([(AVal.bool false)], h1))))))) := by kernel_rfl
/- f61 strandline/strandlineref43.Drop -/
end Go.Proofs.Ytdlcjibefbnckaa.Wa
end

section
/- Locks: in plain words, and run. -/
namespace Go.Proofs.Ytdlcjibefbnckaa.Wa
open Go Go.Weave
set_option maxRecDepth 100000
set_option linter.unusedSimpArgs false
set_option linter.unusedVariables false
set_option linter.unusedSectionVars false

/-! ### In plain words -/
abbrev LK := List UInt8 × Int
def rfind : List LK → List UInt8 → Option Int
  | [], _ => none
  | (a, n) :: r, k => if a = k then some n else rfind r k
def rhold (l : List LK) (k : List UInt8) : Int := (rfind l k).getD 0
structure LkOk (l : List LK) : Prop where
  nd : (l.map (·.1)).Nodup
  rg : ∀ x ∈ l, 1 ≤ x.2 ∧ x.2 ≤ 3
def rdrop (l : List LK) (who : Int) : List LK := l.filter (fun x => x.2 != who)
def rtake (l : List LK) (who : Int) (k : List UInt8) : List LK × Bool :=
  if who < 1 ∨ 3 < who then (l, false) else if rhold l k ≠ 0 ∧ rhold l k ≠ who then (l, false) else if rhold l k = who then (l, true) else (l ++ [(k, who)], true)
theorem rfind_mem {k : List UInt8} {n : Int} : ∀ {l : List LK}, rfind l k = some n → (k, n) ∈ l
  | [], h => by simp [rfind] at h
  | (a, m) :: r, h => by
    unfold rfind at h
    split at h
    · rename_i e; simp only [Option.some.injEq] at h; subst e; subst h; simp
    · exact List.mem_cons_of_mem _ (rfind_mem h)
theorem rfind_of_mem {k : List UInt8} {n : Int} : ∀ {l : List LK}, (l.map (·.1)).Nodup → (k, n) ∈ l → rfind l k = some n
  | [], _, h => by simp at h
  | (a, m) :: r, hn, h => by
    simp only [List.map_cons, List.nodup_cons] at hn
    unfold rfind
    rcases List.mem_cons.1 h with e | h
    · cases e; simp
    · rw [if_neg (fun e => hn.1 (by rw [e]; exact List.mem_map.2 ⟨(k, n), h, rfl⟩))]
      exact rfind_of_mem hn.2 h
theorem rfind_none {k : List UInt8} : ∀ {l : List LK}, rfind l k = none ↔ k ∉ l.map (·.1)
  | [] => by simp [rfind]
  | (a, m) :: r => by
    unfold rfind
    by_cases e : a = k
    · simp [e]
    · rw [if_neg e, rfind_none (l := r)]
      simp [Ne.symm e]
theorem rfind_append {k : List UInt8} : ∀ {a b : List LK}, rfind (a ++ b) k = (rfind a k).or (rfind b k)
  | [], b => by simp [rfind]
  | (x, m) :: r, b => by
    simp only [List.cons_append, rfind]
    split
    · rfl
    · exact rfind_append
theorem LkOk.drop {l : List LK} (h : LkOk l) (who : Int) : LkOk (rdrop l who) :=
  ⟨h.nd.sublist ((List.filter_sublist).map _), fun x hx => h.rg x (List.mem_filter.1 hx).1⟩
theorem rfind_drop {l : List LK} (h : LkOk l) (who : Int) (k : List UInt8) : rfind (rdrop l who) k = if rfind l k = some who then none else rfind l k := by
  have hd := h.drop who
  cases hk : rfind l k with
  | none =>
    simp only [reduceCtorEq, if_false]
    rw [rfind_none] at hk ⊢
    intro hm
    obtain ⟨x, hx, e⟩ := List.mem_map.1 hm
    exact hk (List.mem_map.2 ⟨x, (List.mem_filter.1 hx).1, e⟩)
  | some n =>
    have hm := rfind_mem hk
    by_cases e : n = who
    · rw [if_pos (by rw [e]), rfind_none]
      intro hm2
      obtain ⟨x, hx, e2⟩ := List.mem_map.1 hm2
      obtain ⟨hx1, hx2⟩ := List.mem_filter.1 hx
      have : rfind l x.1 = some x.2 := rfind_of_mem h.nd hx1
      rw [e2, hk] at this
      simp only [Option.some.injEq] at this
      simp at hx2
      exact hx2 (by omega)
    · rw [if_neg (by simp [e])]
      exact rfind_of_mem hd.nd (List.mem_filter.2 ⟨hm, by simp [e]⟩)
theorem LkOk.take {l : List LK} (h : LkOk l) (who : Int) (k : List UInt8) : LkOk (rtake l who k).1 := by
  unfold rtake
  split
  · exact h
  · rename_i h1
    split
    · exact h
    · rename_i h2
      split
      · exact h
      · rename_i h3
        have h0 : rhold l k = 0 := by
          rcases Decidable.em (rhold l k = 0) with e | e
          · exact e
          · exact absurd ⟨e, h3⟩ h2
        have hn : rfind l k = none := by
          cases hk : rfind l k with
          | none => rfl
          | some n =>
            have := h.rg _ (rfind_mem hk)
            unfold rhold at h0
            rw [hk] at h0
            simp at h0
            simp at this
            omega
        refine ⟨?_, fun x hx => ?_⟩
        · rw [List.map_append, List.nodup_append]
          refine ⟨h.nd, by simp, fun a ha b hb => ?_⟩
          simp at hb
          rw [hb]
          intro e
          rw [e] at ha
          exact rfind_none.1 hn ha
        · rcases List.mem_append.1 hx with hx | hx
          · exact h.rg x hx
          · simp at hx; subst hx; simp; omega
theorem rfind_take {l : List LK} (h : LkOk l) {who : Int} {k : List UInt8} (ht : (rtake l who k).2 = true) (q : List UInt8) : rfind (rtake l who k).1 q = if q = k then some who else rfind l q := by
  unfold rtake at ht ⊢
  split
  · rename_i h1; rw [if_pos h1] at ht; simp at ht
  · rename_i h1
    rw [if_neg h1] at ht
    split
    · rename_i h2; rw [if_pos h2] at ht; simp at ht
    · rename_i h2
      rw [if_neg h2] at ht
      split
      · rename_i h3
        by_cases e : q = k
        · rw [if_pos e, e]
          unfold rhold at h3
          cases hk : rfind l k with
          | none => rw [hk] at h3; simp at h3; omega
          | some n => rw [hk] at h3; simp at h3; rw [h3]
        · rw [if_neg e]
      · rename_i h3
        rw [rfind_append]
        by_cases e : q = k
        · subst e
          rw [if_pos rfl]
          cases hk : rfind l q with
          | none => simp [rfind]
          | some n =>
            exfalso
            have := h.rg _ (rfind_mem hk)
            unfold rhold at h2 h3
            rw [hk] at h2 h3
            simp at h2 h3 this
            exact h3 (h2 (by omega))
        · rw [if_neg e]
          cases hk : rfind l q <;> simp [rfind, Ne.symm e]
def HK (l : List LK) (who : Int) : List (List UInt8) := srtS ((l.filter (fun x => x.2 == who)).map (·.1))
theorem HK_mem {l : List LK} (h : LkOk l) {who : Int} {k : List UInt8} : k ∈ HK l who ↔ rfind l k = some who := by
  unfold HK srtS
  rw [List.mem_mergeSort]
  constructor
  · intro hk
    obtain ⟨x, hx, rfl⟩ := List.mem_map.1 hk
    obtain ⟨h1, h2⟩ := List.mem_filter.1 hx
    have := rfind_of_mem h.nd h1
    simp at h2
    rw [this, h2]
  · intro hk
    exact List.mem_map.2 ⟨(k, who), List.mem_filter.2 ⟨rfind_mem hk, by simp⟩, rfl⟩
theorem HK_len {l : List LK} {who : Int} : (HK l who).length + (rdrop l who).length = l.length := by
  unfold HK srtS rdrop
  rw [List.length_mergeSort, List.length_map]
  induction l with
  | nil => rfl
  | cons x r ih =>
    by_cases e : x.2 = who
    · simp [e] at ih ⊢; omega
    · simp [e] at ih ⊢; omega
/-! ### On the machine -/
abbrev eS : List UInt8 → AVal := fun s => AVal.agg [AVal.str s]
def lkO (m : Nat) : Weave.Obj := .cells [HCell.val (.map m)]
def lkM (tb : List (List UInt8 × AVal × Nat)) (c : Nat) : Weave.Obj := .map 153 (encM eS tb) c
structure IsLk (h : Heap) (i m : Nat) (tb : List (List UInt8 × AVal × Nat)) (c : Nat) (l : List LK) : Prop where
  o : h.objs[i]? = some (lkO m)
  mp : h.objs[m]? = some (lkM tb c)
  ne : i ≠ m
  ok : TOk tb c
  sy : ∀ k, tget k tb = (rfind l k).map (AVal.int .i64)
  lk : LkOk l
theorem IsLk.cell {h : Heap} {i m : Nat} {tb : List (List UInt8 × AVal × Nat)} {c : Nat} {l : List LK} (T : IsLk h i m tb c l) : h.cell? i 0 = some (HCell.val (.map m)) := by rw [Heap.cell_at T.o]; rfl
theorem tget_of_mem {a : List UInt8} {v : AVal} {b : Nat} : ∀ {l : List (List UInt8 × AVal × Nat)}, (tkeys l).Nodup → (a, v, b) ∈ l → tget a l = some v
  | [], _, h => by simp at h
  | (x, w, m) :: r, hn, h => by
    rw [tkeys_cons, List.nodup_cons] at hn
    unfold tget
    rcases List.mem_cons.1 h with e | h
    · cases e; simp
    · rw [if_neg (fun e => hn.1 (by rw [← e]; exact List.mem_map.2 ⟨(a, v, b), h, rfl⟩))]
      exact tget_of_mem hn.2 h
theorem tget_in {a : List UInt8} : ∀ {l : List (List UInt8 × AVal × Nat)}, a ∈ tkeys l → ∃ v b, tget a l = some v ∧ (a, v, b) ∈ l
  | (x, w, m) :: r, h => by
    rw [tkeys_cons] at h
    unfold tget
    by_cases e : a = x
    · exact ⟨w, m, if_pos e, by rw [e]; simp⟩
    · rw [if_neg e]
      obtain ⟨v, b, h1, h2⟩ := tget_in (List.mem_of_ne_of_mem e h)
      exact ⟨v, b, h1, List.mem_cons_of_mem _ h2⟩
def decT (tb : List (List UInt8 × AVal × Nat)) : List HL := tb.map fun x => (x.1, x.2.1.toInt, x.2.2)
theorem IsLk.int {h : Heap} {i m : Nat} {tb : List (List UInt8 × AVal × Nat)} {c : Nat} {l : List LK} (T : IsLk h i m tb c l) : ∀ x ∈ tb, ∃ n, x.2.1 = .int .i64 n ∧ rfind l x.1 = some n := fun x hx => by
  have h1 := tget_of_mem T.ok.keys (show (x.1, x.2.1, x.2.2) ∈ tb from hx)
  rw [T.sy] at h1
  cases hr : rfind l x.1 with
  | none => rw [hr] at h1; simp at h1
  | some n => rw [hr] at h1; simp at h1; exact ⟨n, h1.symm, rfl⟩
theorem decL_enc : ∀ {tb : List (List UInt8 × AVal × Nat)}, (∀ x ∈ tb, ∃ n, x.2.1 = .int .i64 n) → decL (encM eS tb) = some (decT tb)
  | [], _ => rfl
  | (s, v, b) :: r, h => by
    obtain ⟨n, hn⟩ := h _ (List.mem_cons_self)
    simp only at hn
    subst hn
    have ih := decL_enc (tb := r) (fun x hx => h x (List.mem_cons_of_mem _ hx))
    show (match decL (encM eS r) with | some l => some ((s, n, b) :: l) | none => none) = _
    rw [ih]; rfl
theorem IsLk.perm {h : Heap} {i m : Nat} {tb : List (List UInt8 × AVal × Nat)} {c : Nat} {l : List LK} (T : IsLk h i m tb c l) : (tkeys tb).Perm (l.map (·.1)) := by
  refine (List.perm_ext_iff_of_nodup T.ok.keys T.lk.nd).2 fun a => ⟨fun ha => ?_, fun ha => ?_⟩
  · obtain ⟨v, b, h1, _⟩ := tget_in ha
    rw [T.sy] at h1
    cases hr : rfind l a with
    | none => rw [hr] at h1; simp at h1
    | some n => exact List.mem_map.2 ⟨(a, n), rfind_mem hr, rfl⟩
  · obtain ⟨x, hx, rfl⟩ := List.mem_map.1 ha
    have h1 := rfind_of_mem T.lk.nd hx
    refine tget_mem (v := .int .i64 x.2) ?_
    rw [T.sy, h1]; rfl
theorem IsLk.len {h : Heap} {i m : Nat} {tb : List (List UInt8 × AVal × Nat)} {c : Nat} {l : List LK} (T : IsLk h i m tb c l) : tb.length = l.length := by
  have := T.perm.length_eq
  simpa [tkeys] using this
theorem IsLk.held {h : Heap} {i m : Nat} {tb : List (List UInt8 × AVal × Nat)} {c : Nat} {l : List LK} (T : IsLk h i m tb c l) (who : Int) : srtS (hLs (decT tb) who) = HK l who := by
  refine Go.mergeSort_of_perm ?_
  have hsub : (hLs (decT tb) who).Nodup := by
    have e : (decT tb).map (·.1) = tkeys tb := by simp [decT, tkeys, Function.comp_def]
    have h1 : ((decT tb).map (·.1)).Nodup := by rw [e]; exact T.ok.keys
    exact h1.sublist ((List.filter_sublist).map _)
  refine (List.perm_ext_iff_of_nodup hsub (T.lk.nd.sublist ((List.filter_sublist).map _))).2 fun a => ⟨fun ha => ?_, fun ha => ?_⟩
  · obtain ⟨x, hx, rfl⟩ := List.mem_map.1 ha
    obtain ⟨h1, h2⟩ := List.mem_filter.1 hx
    obtain ⟨y, hy, rfl⟩ := List.mem_map.1 h1
    obtain ⟨n, e1, e2⟩ := T.int y hy
    simp only [e1, AVal.toInt, beq_iff_eq] at h2
    exact List.mem_map.2 ⟨(y.1, who), List.mem_filter.2 ⟨by rw [← h2]; exact rfind_mem e2, by simp⟩, rfl⟩
  · obtain ⟨x, hx, rfl⟩ := List.mem_map.1 ha
    obtain ⟨h1, h2⟩ := List.mem_filter.1 hx
    have h3 := rfind_of_mem T.lk.nd h1
    have hk : x.1 ∈ tkeys tb := tget_mem (v := .int .i64 x.2) (by rw [T.sy, h3]; rfl)
    obtain ⟨v, b, g1, g2⟩ := tget_in hk
    rw [T.sy, h3] at g1
    simp at g1
    refine List.mem_map.2 ⟨(x.1, x.2, b), List.mem_filter.2 ⟨List.mem_map.2 ⟨(x.1, v, b), g2, by rw [← g1]; rfl⟩, h2⟩, rfl⟩
theorem held_run {d : Nat} {h : Heap} {i m : Nat} {tb : List (List UInt8 × AVal × Nat)} {c : Nat} {l : List LK} (T : IsLk h i m tb c l) (hl : l.length ≤ 1000000) {who : Int} {Q : Res → Prop} {tg : Hid Q} :
    Run (evFn Cw (d + 1) 68 [.obj i 0, .int .i64 who] h) Q tg = Q ([.sl false 0 ((HK l who).map AVal.str)], h) := by
  have e : evFn Cw (d + 1) 68 [.obj i 0, .int .i64 who] h = .ret ([.sl false 0 ((HK l who).map AVal.str)], h) := by
    have e1 : evFn Cw (d + 1) 68 [.obj i 0, .int .i64 who] h = heldG [.obj i 0, .int .i64 who] h := by kernel_rfl
    have e2 : heldG [.obj i 0, .int .i64 who] h = heldM who h m := by
      show (match h.cell? i 0 with | some (.val (.map m)) => heldM who h m | _ => Tr.fail) = _
      rw [T.cell]
    have hm : h.objs[m]? = some (.map 153 (encM eS tb) c) := T.mp
    have hok : okL (decT tb) c = true := by
      unfold okL
      simp only [Bool.and_eq_true, decide_eq_true_eq, List.all_eq_true]
      have e3 : (decT tb).map (·.2.2) = tb.map (·.2.2) := by simp [decT, Function.comp_def]
      refine ⟨by rw [e3]; exact T.ok.born, fun x hx => ?_, by have := T.len; simp [decT]; omega⟩
      obtain ⟨y, hy, rfl⟩ := List.mem_map.1 hx
      exact T.ok.lt y hy
    rw [e1, e2]
    unfold heldM
    rw [hm]
    simp only
    rw [decL_enc (fun x hx => by obtain ⟨n, h1, _⟩ := T.int x hx; exact ⟨n, h1⟩)]
    simp only [hok, cond_true, T.held]
  rw [e]; exact at_ret
end Go.Proofs.Ytdlcjibefbnckaa.Wa
end

section
/- Locks, run; LockNobody; LockPlays. -/
namespace Go.Proofs.Ytdlcjibefbnckaa.Wa
open Go Go.Weave
set_option maxRecDepth 100000
set_option linter.unusedSimpArgs false
set_option linter.unusedVariables false
set_option linter.unusedSectionVars false

theorem strs_length (l : List (List UInt8)) : (l.map AVal.str).length = l.length := by simp
theorem strs_getD {l : List (List UInt8)} {i : Nat} (h : i < l.length) : (l.map AVal.str).getD i AVal.undef = .str l[i] := by simp [h]
theorem hold_get {h : Heap} {i m : Nat} {tb : List (List UInt8 × AVal × Nat)} {c : Nat} {l : List LK} (T : IsLk h i m tb c l) (k : List UInt8) : (tget k tb).getD (.int .i64 0) = .int .i64 (rhold l k) := by
  rw [T.sy]; unfold rhold; cases rfind l k <;> rfl
theorem holder_run {d : Nat} {h : Heap} {i m : Nat} {tb : List (List UInt8 × AVal × Nat)} {c : Nat} {l : List LK} (T : IsLk h i m tb c l) {k : List UInt8} {Q : Res → Prop} {tg : Hid Q} :
    Run (evFn Cw (d + 1) 66 [.obj i 0, .str k] h) Q tg = Q ([.int .i64 (rhold l k)], h) := by
  have hm : h.objs[m]? = some (.map 153 (encM eS tb) c) := T.mp
  rw [F66_eq]
  simp (disch := (first | assumption | (simp only [Bool.and_eq_true, Bool.and_eq_false_iff, decide_eq_true_eq, decide_eq_false_iff_not, bne_iff_ne, beq_iff_eq, beq_eq_false_iff_ne, bne_eq_false_iff_eq, Bool.not_eq_true', Bool.not_eq_false', bys_length, List.length_append, List.length_cons, List.length_nil, List.length_map, List.length_drop, List.length_take, Int.natCast_add, wrap_i64_eq, wrap_u64, wrap_u8, ne_eq, not_true_eq_false, not_false_eq_true, Nat.zero_add, Nat.mul_one] <;> omega) | omega | (simp; done) | (simp; omega))) only [↓CR, MC, ↓PR, MR, T.cell, at_lookK encStr1 hm, hold_get T]
theorem lklen_run {d : Nat} {h : Heap} {i m : Nat} {tb : List (List UInt8 × AVal × Nat)} {c : Nat} {l : List LK} (T : IsLk h i m tb c l) {Q : Res → Prop} {tg : Hid Q} :
    Run (evFn Cw (d + 1) 65 [.obj i 0] h) Q tg = Q ([.int .i64 l.length], h) := by
  have hm : h.objs[m]? = some (.map 153 (encM eS tb) c) := T.mp
  rw [F65_eq]
  simp (disch := (first | assumption | (simp only [Bool.and_eq_true, Bool.and_eq_false_iff, decide_eq_true_eq, decide_eq_false_iff_not, bne_iff_ne, beq_iff_eq, beq_eq_false_iff_ne, bne_eq_false_iff_eq, Bool.not_eq_true', Bool.not_eq_false', bys_length, List.length_append, List.length_cons, List.length_nil, List.length_map, List.length_drop, List.length_take, Int.natCast_add, wrap_i64_eq, wrap_u64, wrap_u8, ne_eq, not_true_eq_false, not_false_eq_true, Nat.zero_add, Nat.mul_one] <;> omega) | omega | (simp; done) | (simp; omega))) only [↓CR, MC, ↓PR, MR, T.cell, at_mapLenK hm, T.len]
theorem IsLk.turn {h : Heap} {i m : Nat} {tb tb' : List (List UInt8 × AVal × Nat)} {c c' : Nat} {l l' : List LK} (T : IsLk h i m tb c l) (ok : TOk tb' c') (sy : ∀ k, tget k tb' = (rfind l' k).map (AVal.int .i64)) (lk : LkOk l') :
    IsLk (h.put m (lkM tb' c')) i m tb' c' l' :=
  ⟨by rw [Heap.put_ne (Ne.symm T.ne)]; exact T.o, Heap.put_get T.mp, T.ne, ok, sy, lk⟩
/-- What was there before is as it was. -/
def OldL (m : Nat) (h h' : Heap) : Prop := ∀ h0 : Heap, h0.objs.length ≤ m → h0.ext h → h0.ext h'
theorem take_run (d : Nat) {h : Heap} {i m : Nat} {tb : List (List UInt8 × AVal × Nat)} {c : Nat} {l : List LK} (T : IsLk h i m tb c l) (who : Int) (k : List UInt8) :
    ∃ h' tb' c', IsLk h' i m tb' c' (rtake l who k).1 ∧ OldL m h h' ∧ ∀ (Q : Res → Prop) (tg : Hid Q), Run (evFn Cw (d + 2) 64 [.obj i 0, .int .i64 who, .str k] h) Q tg = Q ([.bool (rtake l who k).2], h') := by
  have hm : h.objs[m]? = some (.map 153 (encM eS tb) c) := T.mp
  have rh := fun (Q : Res → Prop) (tg : Hid Q) => holder_run (d := d) (k := k) (Q := Q) (tg := tg) T
  cases ht : (rtake l who k).2 with
  | false =>
    have hl : (rtake l who k).1 = l := by
      unfold rtake at ht ⊢
      split
      · rfl
      · rename_i h1
        rw [if_neg h1] at ht
        split
        · rfl
        · rename_i h2
          rw [if_neg h2] at ht
          split at ht <;> simp at ht
    refine ⟨h, tb, c, by rw [hl]; exact T, fun _ _ h => h, fun Q tg => ?_⟩
    unfold rtake at ht
    rw [F64_eq]
    by_cases c1 : who < 1
    · simp (disch := (first | assumption | (simp only [Bool.and_eq_true, Bool.and_eq_false_iff, decide_eq_true_eq, decide_eq_false_iff_not, bne_iff_ne, beq_iff_eq, beq_eq_false_iff_ne, bne_eq_false_iff_eq, Bool.not_eq_true', Bool.not_eq_false', bys_length, List.length_append, List.length_cons, List.length_nil, List.length_map, List.length_drop, List.length_take, Int.natCast_add, wrap_i64_eq, wrap_u64, wrap_u8, ne_eq, not_true_eq_false, not_false_eq_true, Nat.zero_add, Nat.mul_one] <;> omega) | omega | (simp; done) | (simp; omega))) only [↓CR, MC, ↓PR, MR, decide_eq_true c1]
    · by_cases c2 : who > 3
      · simp (disch := (first | assumption | (simp only [Bool.and_eq_true, Bool.and_eq_false_iff, decide_eq_true_eq, decide_eq_false_iff_not, bne_iff_ne, beq_iff_eq, beq_eq_false_iff_ne, bne_eq_false_iff_eq, Bool.not_eq_true', Bool.not_eq_false', bys_length, List.length_append, List.length_cons, List.length_nil, List.length_map, List.length_drop, List.length_take, Int.natCast_add, wrap_i64_eq, wrap_u64, wrap_u8, ne_eq, not_true_eq_false, not_false_eq_true, Nat.zero_add, Nat.mul_one] <;> omega) | omega | (simp; done) | (simp; omega))) only [↓CR, MC, ↓PR, MR, decide_eq_false c1, decide_eq_true c2]
      · rw [if_neg (by omega)] at ht
        by_cases c3 : rhold l k ≠ 0 ∧ rhold l k ≠ who
        · have b1 : (rhold l k != 0) = true := by simp [c3.1]
          have b2 : (rhold l k != who) = true := by simp [c3.2]
          simp (disch := (first | assumption | (simp only [Bool.and_eq_true, Bool.and_eq_false_iff, decide_eq_true_eq, decide_eq_false_iff_not, bne_iff_ne, beq_iff_eq, beq_eq_false_iff_ne, bne_eq_false_iff_eq, Bool.not_eq_true', Bool.not_eq_false', bys_length, List.length_append, List.length_cons, List.length_nil, List.length_map, List.length_drop, List.length_take, Int.natCast_add, wrap_i64_eq, wrap_u64, wrap_u8, ne_eq, not_true_eq_false, not_false_eq_true, Nat.zero_add, Nat.mul_one] <;> omega) | omega | (simp; done) | (simp; omega))) only [↓CR, MC, ↓PR, MR, decide_eq_false c1, decide_eq_false c2, rh, b1, b2]
        · rw [if_neg c3] at ht
          split at ht <;> simp at ht
  | true =>
    have hk2 : ¬ (who < 1 ∨ 3 < who) ∧ ¬ (rhold l k ≠ 0 ∧ rhold l k ≠ who) := by
      unfold rtake at ht
      by_cases c1 : who < 1 ∨ 3 < who
      · rw [if_pos c1] at ht; simp at ht
      · rw [if_neg c1] at ht
        by_cases c2 : rhold l k ≠ 0 ∧ rhold l k ≠ who
        · rw [if_pos c2] at ht; simp at ht
        · exact ⟨c1, c2⟩
    obtain ⟨k1, k2⟩ := hk2
    have T' := T.turn (T.ok.put k (.int .i64 who)) (l' := (rtake l who k).1) (fun q => by
      rw [tget_tput, rfind_take T.lk ht, T.sy]
      by_cases e : q = k
      · rw [if_pos e, if_pos e]; rfl
      · rw [if_neg e, if_neg e]) (T.lk.take who k)
    refine ⟨_, _, _, T', fun h0 hl E => E.put hl, fun Q tg => ?_⟩
    have c1 : ¬ who < 1 := by omega
    have c2 : ¬ who > 3 := by omega
    rw [F64_eq]
    by_cases c3 : rhold l k = 0
    · have b1 : (rhold l k != 0) = false := by simp [c3]
      simp (disch := (first | assumption | (simp only [Bool.and_eq_true, Bool.and_eq_false_iff, decide_eq_true_eq, decide_eq_false_iff_not, bne_iff_ne, beq_iff_eq, beq_eq_false_iff_ne, bne_eq_false_iff_eq, Bool.not_eq_true', Bool.not_eq_false', bys_length, List.length_append, List.length_cons, List.length_nil, List.length_map, List.length_drop, List.length_take, Int.natCast_add, wrap_i64_eq, wrap_u64, wrap_u8, ne_eq, not_true_eq_false, not_false_eq_true, Nat.zero_add, Nat.mul_one] <;> omega) | omega | (simp; done) | (simp; omega))) only [↓CR, MC, ↓PR, MR, decide_eq_false c1, decide_eq_false c2, rh, b1, T.cell, at_updK encStr1 hm]
      rfl
    · have b1 : (rhold l k != 0) = true := by simp [c3]
      have b2 : (rhold l k != who) = false := by
        have : rhold l k = who := by
          rcases Decidable.em (rhold l k = who) with e | e
          · exact e
          · exact absurd ⟨c3, e⟩ k2
        simp [this]
      simp (disch := (first | assumption | (simp only [Bool.and_eq_true, Bool.and_eq_false_iff, decide_eq_true_eq, decide_eq_false_iff_not, bne_iff_ne, beq_iff_eq, beq_eq_false_iff_ne, bne_eq_false_iff_eq, Bool.not_eq_true', Bool.not_eq_false', bys_length, List.length_append, List.length_cons, List.length_nil, List.length_map, List.length_drop, List.length_take, Int.natCast_add, wrap_i64_eq, wrap_u64, wrap_u8, ne_eq, not_true_eq_false, not_false_eq_true, Nat.zero_add, Nat.mul_one] <;> omega) | omega | (simp; done) | (simp; omega))) only [↓CR, MC, ↓PR, MR, decide_eq_false c1, decide_eq_false c2, rh, b1, b2, T.cell, at_updK encStr1 hm]
      rfl
theorem drop_loop43 (d i m n0 : Nat) (f f2 : Bool) (ks : List (List UInt8)) (hks : ks.length ≤ 1000000) (l2 : List AVal) (c : Nat) : ∀ (n j k : Nat) (tb : List (List UInt8 × AVal × Nat)) (h : Heap), h.objs[i]? = some (lkO m) → h.objs[m]? = some (lkM tb c) → i ≠ m → TOk tb c → ks.length = j + n → n < k →
    ∃ tb', TOk tb' c ∧ (∀ q, tget q tb' = if q ∈ ks.drop j then none else tget q tb) ∧ ∀ (Q : Res → Prop) (tg : Hid Q), Run (P62_0 d k i f l2 f2 (ks.map AVal.str) (ks.length : Nat) j h) Q tg = Q ([.int .i64 l2.length], h.put m (lkM tb' c)) := by
  intro n
  induction n with
  | zero =>
    intro j k tb h ho hm hne ok hj hk
    obtain ⟨k, rfl⟩ : ∃ m, k = m + 1 := ⟨k - 1, by omega⟩
    have hd : ks.drop j = [] := List.drop_eq_nil_of_le (by omega)
    refine ⟨tb, ok, fun q => by rw [hd]; simp, fun Q tg => ?_⟩
    rw [P62_0_eq]
    have hs : h.put m (lkM tb c) = h := by
      unfold Heap.put
      have := List.getElem?_eq_some_iff.1 hm
      obtain ⟨h1, h2⟩ := this
      congr 1
      rw [← h2]; exact List.set_getElem_self h1
    rw [hs]
    simp (disch := (first | assumption | (simp only [Bool.and_eq_true, Bool.and_eq_false_iff, decide_eq_true_eq, decide_eq_false_iff_not, bne_iff_ne, beq_iff_eq, beq_eq_false_iff_ne, bne_eq_false_iff_eq, Bool.not_eq_true', Bool.not_eq_false', bys_length, List.length_append, List.length_cons, List.length_nil, List.length_map, List.length_drop, List.length_take, Int.natCast_add, wrap_i64_eq, wrap_u64, wrap_u8, ne_eq, not_true_eq_false, not_false_eq_true, Nat.zero_add, Nat.mul_one] <;> omega) | omega | (simp; done) | (simp; omega))) only [↓CR, MC, ↓PR, MR]
  | succ n ih =>
    intro j k tb h ho hm hne ok hj hk
    obtain ⟨k, rfl⟩ : ∃ m, k = m + 1 := ⟨k - 1, by omega⟩
    have h1 : j < ks.length := by omega
    have e1 := succ_wrap (i := j) (by omega)
    have hm' : h.objs[m]? = some (.map 153 (encM eS tb) c) := hm
    have hc : h.cell? i 0 = some (HCell.val (.map m)) := by rw [Heap.cell_at ho]; rfl
    obtain ⟨tb', ok', sy', r⟩ := ih (j + 1) k (tdel ks[j] tb) (h.put m (lkM (tdel ks[j] tb) c)) (by rw [Heap.put_ne (Ne.symm hne)]; exact ho) (Heap.put_get hm) hne (ok.del _) (by omega) (by omega)
    refine ⟨tb', ok', fun q => ?_, fun Q tg => ?_⟩
    · rw [sy', tget_tdel _ _ _ ok.keys, List.drop_eq_getElem_cons h1]
      by_cases e : q ∈ ks.drop (j + 1)
      · rw [if_pos e, if_pos (List.mem_cons_of_mem _ e)]
      · rw [if_neg e]
        by_cases e2 : q = ks[j]
        · rw [if_pos e2, if_pos (by rw [e2]; exact List.mem_cons_self)]
        · rw [if_neg e2, if_neg (fun hq => by
            rcases List.mem_cons.1 hq with hq | hq
            · exact e2 hq
            · exact e hq)]
    · have r' := r Q ⟨⟩
      rw [Heap.put_put] at r'
      rw [P62_0_eq]
      have q1 : decide ((j : Int) < ((ks.map AVal.str).length : Int)) = true := by rw [strs_length]; simp only [decide_eq_true_eq]; omega
      simp (disch := (first | assumption | (simp only [Bool.and_eq_true, Bool.and_eq_false_iff, decide_eq_true_eq, decide_eq_false_iff_not, bne_iff_ne, beq_iff_eq, beq_eq_false_iff_ne, bne_eq_false_iff_eq, Bool.not_eq_true', Bool.not_eq_false', bys_length, List.length_append, List.length_cons, List.length_nil, List.length_map, List.length_drop, List.length_take, Int.natCast_add, wrap_i64_eq, wrap_u64, wrap_u8, ne_eq, not_true_eq_false, not_false_eq_true, Nat.zero_add, Nat.mul_one] <;> omega) | omega | (simp; done) | (simp; omega))) only [↓CR, MC, ↓PR, MR, strs_length, strs_getD h1, hc, at_delW encStr1 hm', e1]
      exact r'
theorem drop_run (d : Nat) {h : Heap} {i m : Nat} {tb : List (List UInt8 × AVal × Nat)} {c : Nat} {l : List LK} (T : IsLk h i m tb c l) (hl : l.length ≤ 1000000) (who : Int) :
    ∃ h' tb' c', IsLk h' i m tb' c' (rdrop l who) ∧ OldL m h h' ∧ ∀ (Q : Res → Prop) (tg : Hid Q), Run (evFn Cw (d + 2) 62 [.obj i 0, .int .i64 who] h) Q tg = Q ([.int .i64 (HK l who).length], h') := by
  have rh := fun (Q : Res → Prop) (tg : Hid Q) => held_run (d := d) (who := who) (Q := Q) (tg := tg) T hl
  have hkl : (HK l who).length ≤ 1000000 := by have := HK_len (l := l) (who := who); omega
  obtain ⟨tb', ok', sy', r⟩ := drop_loop43 (d + 1) i m 0 false false (HK l who) hkl ((HK l who).map AVal.str) c (HK l who).length 0 rounds tb h T.o T.mp T.ne T.ok (by omega) (Nat.lt_of_lt_of_le (by omega) rounds_ge)
  rw [List.drop_zero] at sy'
  rw [e0] at r
  refine ⟨_, tb', c, T.turn ok' (fun q => ?_) (T.lk.drop who), fun h0 hl E => E.put hl, fun Q tg => ?_⟩
  · rw [sy', T.sy, rfind_drop T.lk]
    by_cases e : rfind l q = some who
    · rw [if_pos ((HK_mem T.lk).2 e), if_pos e]; rfl
    · rw [if_neg (fun h => e ((HK_mem T.lk).1 h)), if_neg e]
  · rw [F62_eq]
    simp (disch := (first | assumption | (simp only [Bool.and_eq_true, Bool.and_eq_false_iff, decide_eq_true_eq, decide_eq_false_iff_not, bne_iff_ne, beq_iff_eq, beq_eq_false_iff_ne, bne_eq_false_iff_eq, Bool.not_eq_true', Bool.not_eq_false', bys_length, List.length_append, List.length_cons, List.length_nil, List.length_map, List.length_drop, List.length_take, Int.natCast_add, wrap_i64_eq, wrap_u64, wrap_u8, ne_eq, not_true_eq_false, not_false_eq_true, Nat.zero_add, Nat.mul_one] <;> omega) | omega | (simp; done) | (simp; omega))) only [↓CR, MC, ↓PR, MR, rh, strs_length, r]

/-! ### The reference -/
end Go.Proofs.Ytdlcjibefbnckaa.Wa
end

section
/- LockNobody; LockPlays. -/
namespace Go.Proofs.Ytdlcjibefbnckaa.Wa
open Go Go.Weave
set_option maxRecDepth 100000
set_option linter.unusedSimpArgs false
set_option linter.unusedVariables false
set_option linter.unusedSectionVars false

theorem lknew_run {d : Nat} {h : Heap} {Q : Res → Prop} {tg : Hid Q} : Run (evFn Cw (d + 1) 60 [] h) Q tg = Q ([.obj (h.objs.length + 1) 0], (h.push (lkM [] 0)).push (lkO h.objs.length)) := by
  have e1 : (h.push (lkM [] 0)).objs.length = h.objs.length + 1 := Heap.push_len _ _
  have e2 : Weave.Obj.map 153 [] 0 = lkM [] 0 := rfl
  have e3 : Weave.Obj.cells ([AVal.map h.objs.length].map HCell.val) = lkO h.objs.length := rfl
  rw [F60_eq, e2, e1, e3]
  exact at_ret
theorem lknew_is (h : Heap) : IsLk ((h.push (lkM [] 0)).push (lkO h.objs.length)) (h.objs.length + 1) h.objs.length [] 0 [] := by
  have e1 : (h.push (lkM [] 0)).objs.length = h.objs.length + 1 := Heap.push_len _ _
  have m := Heap.push_new (h.push (lkM [] 0)) (lkO h.objs.length)
  rw [e1] at m
  exact ⟨m, (Heap.ext.push (h.push (lkM [] 0)) (lkO h.objs.length)).get (Heap.push_new _ _), by omega, TOk.nil 0, fun k => rfl, ⟨List.nodup_nil, by simp⟩⟩
theorem awake43_run (d : Nat) (h : Heap) : ∃ h', ∀ (Q : Res → Prop) (tg : Hid Q), Run (evFn Cw (d + 3) 59 [] h) Q tg = Q ([.bool true], h') := by
  have T0 := lknew_is h
  obtain ⟨h1, tb1, c1, T1, _, r1⟩ := take_run d T0 1 [97]
  have e1 : rtake [] 1 [97] = ([([97], 1)], true) := by decide
  rw [e1] at T1 r1
  obtain ⟨h2, tb2, c2, T2, _, r2⟩ := take_run d T1 2 [97]
  have e2 : rtake [([97], 1)] 2 [97] = ([([97], 1)], false) := by decide
  rw [e2] at T2 r2
  have r3 := fun (Q : Res → Prop) (tg : Hid Q) => holder_run (d := d + 1) (k := [97]) (Q := Q) (tg := tg) T2
  have e3 : rhold [([97], 1)] [97] = 1 := by decide
  rw [e3] at r3
  obtain ⟨h3, tb3, c3, T3, _, r4⟩ := drop_run d T2 (by simp) 1
  have e4 : rdrop [(([97] : List UInt8), (1 : Int))] 1 = [] := by decide
  have e5 : (HK [(([97] : List UInt8), (1 : Int))] 1).length = 1 := by have := HK_len (l := [(([97] : List UInt8), (1 : Int))]) (who := 1); rw [e4] at this; simpa using this
  rw [e4] at T3
  rw [e5] at r4
  have r5 := fun (Q : Res → Prop) (tg : Hid Q) => lklen_run (d := d + 1) (Q := Q) (tg := tg) T3
  have r0 := fun (Q : Res → Prop) (tg : Hid Q) => lknew_run (d := d + 1) (h := h) (Q := Q) (tg := tg)
  have z1 : ((1 : Int) == 1) = true := rfl
  have z2 : (((1 : Nat) : Int) == 1) = true := rfl
  have z3 : (((0 : Nat) : Int) == 0) = true := rfl
  refine ⟨h3, fun Q tg => ?_⟩
  rw [F59_eq]
  simp (disch := (first | assumption | (simp only [Bool.and_eq_true, Bool.and_eq_false_iff, decide_eq_true_eq, decide_eq_false_iff_not, bne_iff_ne, beq_iff_eq, beq_eq_false_iff_ne, bne_eq_false_iff_eq, Bool.not_eq_true', Bool.not_eq_false', bys_length, List.length_append, List.length_cons, List.length_nil, List.length_map, List.length_drop, List.length_take, Int.natCast_add, wrap_i64_eq, wrap_u64, wrap_u8, ne_eq, not_true_eq_false, not_false_eq_true, Nat.zero_add, Nat.mul_one] <;> omega) | omega | (simp; done) | (simp; omega))) only [↓CR, MC, ↓PR, MR, r0, r1, r2, r3, z1, r4, z2, r5, List.length_nil, z3, Bool.not_false]
/-- LockNobody. -/
theorem lnobody_true (who : Int) (k : List UInt8) (h : Heap) : ∃ d h', Ans (evFn Cw d 10 [.int .i64 who, .str k] h) ([.bool true], h') := by
  obtain ⟨h1, ra⟩ := awake43_run 0 h
  have rt : ∀ (Q : Res → Prop) (tg : Hid Q), Run (evFn Cw 3 64 [.nilp, .int .i64 who, .str k] h) Q tg = Q ([.bool false], h) := fun Q tg => (at_eq (F64nil_eq _ _ _ _)).trans at_ret
  have rh : ∀ (Q : Res → Prop) (tg : Hid Q), Run (evFn Cw 3 66 [.nilp, .str k] h) Q tg = Q ([.int .i64 0], h) := fun Q tg => (at_eq (F66nil_eq _ _ _)).trans at_ret
  have rl : ∀ (Q : Res → Prop) (tg : Hid Q), Run (evFn Cw 3 65 [.nilp] h) Q tg = Q ([.int .i64 0], h) := fun Q tg => (at_eq (F65nil_eq _ _)).trans at_ret
  have he : ∀ d : Nat, evFn Cw (d + 1) 68 [.nilp, .int .i64 who] h = .ret ([.sl true 0 []], h) := fun d => by
    have e1 : evFn Cw (d + 1) 68 [.nilp, .int .i64 who] h = heldG [.nilp, .int .i64 who] h := by kernel_rfl
    rw [e1]; rfl
  have rq : ∀ (d : Nat) (Q : Res → Prop) (tg : Hid Q), Run (evFn Cw (d + 1) 68 [.nilp, .int .i64 who] h) Q tg = Q ([.sl true 0 []], h) := fun d Q tg => by rw [he]; exact at_ret
  have rd : ∀ (Q : Res → Prop) (tg : Hid Q), Run (evFn Cw 3 62 [.nilp, .int .i64 who] h) Q tg = Q ([.int .i64 0], h) := fun Q tg => by
    obtain ⟨n, hn⟩ : ∃ n, rounds = n + 1 := ⟨rounds - 1, by have := rounds_ge; omega⟩
    rw [F62nil_eq]
    simp (disch := (first | assumption | (simp only [Bool.and_eq_true, Bool.and_eq_false_iff, decide_eq_true_eq, decide_eq_false_iff_not, bne_iff_ne, beq_iff_eq, beq_eq_false_iff_ne, bne_eq_false_iff_eq, Bool.not_eq_true', Bool.not_eq_false', bys_length, List.length_append, List.length_cons, List.length_nil, List.length_map, List.length_drop, List.length_take, Int.natCast_add, wrap_i64_eq, wrap_u64, wrap_u8, ne_eq, not_true_eq_false, not_false_eq_true, Nat.zero_add, Nat.mul_one] <;> omega) | omega | (simp; done) | (simp; omega))) only [↓CR, MC, ↓PR, MR, rq, List.length_nil, hn, P62nil_0_eq]
    rfl
  have z0 : ((0 : Int) == 0) = true := rfl
  have z1 : (((0 : Nat) : Int) == 0) = true := rfl
  refine ⟨4, h1, Run.ans ?_⟩
  rw [F10_eq]
  simp (disch := (first | assumption | (simp only [Bool.and_eq_true, Bool.and_eq_false_iff, decide_eq_true_eq, decide_eq_false_iff_not, bne_iff_ne, beq_iff_eq, beq_eq_false_iff_ne, bne_eq_false_iff_eq, Bool.not_eq_true', Bool.not_eq_false', bys_length, List.length_append, List.length_cons, List.length_nil, List.length_map, List.length_drop, List.length_take, Int.natCast_add, wrap_i64_eq, wrap_u64, wrap_u8, ne_eq, not_true_eq_false, not_false_eq_true, Nat.zero_add, Nat.mul_one] <;> omega) | omega | (simp; done) | (simp; omega))) only [↓CR, MC, ↓PR, MR, rt, Bool.not_false, rh, z0, rd, rq, List.length_nil, z1, rl, ra]
end Go.Proofs.Ytdlcjibefbnckaa.Wa
end
