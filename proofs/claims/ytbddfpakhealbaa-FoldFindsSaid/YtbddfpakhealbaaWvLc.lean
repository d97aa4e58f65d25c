/- Words for the plain laws: cells, maps, managed objects. -/
import Derived.Test.YtbddfpakhealbaaWvLb
namespace Go.Weave
set_option linter.unusedSectionVars false

/-! ### Numbers as cells -/
theorem e0 : ((0 : Nat) : Int) = 0 := by omega
theorem succ_wrap {i : Nat} (h : i < 4611686018427387904) : IntKind.i64.wrap ((i : Int) + 1) = ((i + 1 : Nat) : Int) := by rw [wrap_i64_id (by omega) (by omega)]; omega
/-! ### Maps whose keys are data of one kind -/
section
variable {α : Type} [DecidableEq α]
def tget (a : α) : List (α × AVal × Nat) → Option AVal
  | [] => none
  | (b, v, _) :: r => if a = b then some v else tget a r
def tput (a : α) (v : AVal) : List (α × AVal × Nat) → Nat → List (α × AVal × Nat)
  | [], n => [(a, v, n)]
  | (b, w, m) :: r, n => if a = b then (a, v, m) :: r else (b, w, m) :: tput a v r n
def tdel (a : α) : List (α × AVal × Nat) → List (α × AVal × Nat)
  | [] => []
  | (b, w, m) :: r => if a = b then r else (b, w, m) :: tdel a r
structure KeyEnc (e : α → AVal) : Prop where
  eq : ∀ a b, keyEq (e a) (e b) = decide (a = b)

def tkeys (l : List (α × AVal × Nat)) : List α := l.map (·.1)
theorem tkeys_cons (x : α × AVal × Nat) (r : List (α × AVal × Nat)) : tkeys (x :: r) = x.1 :: tkeys r := rfl
theorem tkeys_tput (a : α) (v : AVal) : ∀ (l : List (α × AVal × Nat)) (n : Nat), tkeys (tput a v l n) = if a ∈ tkeys l then tkeys l else tkeys l ++ [a]
  | [], n => by simp [tput, tkeys]
  | (c, w, m) :: r, n => by
    have ih := tkeys_tput a v r n
    unfold tput
    by_cases h : a = c
    · subst h; rw [if_pos rfl, tkeys_cons, tkeys_cons, if_pos (by simp)]
    · rw [if_neg h, tkeys_cons, tkeys_cons, ih]
      by_cases h3 : a ∈ tkeys r
      · rw [if_pos h3, if_pos (by simp [h3])]
      · rw [if_neg h3, if_neg (by simp [h3, h])]; rfl
theorem nodup_tput {a : α} {v : AVal} {l : List (α × AVal × Nat)} {n : Nat} (h : (tkeys l).Nodup) : (tkeys (tput a v l n)).Nodup := by
  rw [tkeys_tput]
  split
  · exact h
  · rename_i hn
    rw [List.nodup_append]
    exact ⟨h, by simp, fun x hx y hy => by simp at hy; subst hy; intro h2; subst h2; exact hn hx⟩
theorem tdel_sub (a : α) : ∀ (l : List (α × AVal × Nat)), (tdel a l).Sublist l
  | [] => List.Sublist.refl _
  | (c, w, m) :: r => by
    unfold tdel
    split
    · exact List.sublist_cons_self _ _
    · exact (tdel_sub a r).cons_cons _
theorem nodup_tdel {a : α} {l : List (α × AVal × Nat)} (h : (tkeys l).Nodup) : (tkeys (tdel a l)).Nodup := h.sublist ((tdel_sub a l).map _)
end

theorem encStr : KeyEnc AVal.str := ⟨fun a b => by
  show (a == b && true) = decide (a = b)
  rw [Bool.and_true]
  by_cases h : a = b
  · simp [h]
  · simp [h]⟩
/-! ### Managed objects -/
def Heap.put (h : Heap) (id : Nat) (o : Obj) : Heap := ⟨h.objs.set id o⟩
theorem Heap.put_len (h : Heap) (id : Nat) (o : Obj) : (h.put id o).objs.length = h.objs.length := by simp [Heap.put]
theorem Heap.lt_of {h : Heap} {id : Nat} {o : Obj} (hm : h.objs[id]? = some o) : id < h.objs.length := (List.getElem?_eq_some_iff.1 hm).1
theorem Heap.put_get {h : Heap} {id : Nat} {o o' : Obj} (hm : h.objs[id]? = some o') : (h.put id o).objs[id]? = some o := by
  simp [Heap.put, Heap.lt_of hm]
theorem Heap.put_ne {h : Heap} {id j : Nat} {o : Obj} (hj : id ≠ j) : (h.put id o).objs[j]? = h.objs[j]? := by
  simp [Heap.put, List.getElem?_set_ne hj]
theorem Heap.put_put (h : Heap) (id : Nat) (o o' : Obj) : (h.put id o).put id o' = h.put id o' := by simp [Heap.put]
theorem Heap.put_comm (h : Heap) {id j : Nat} (o o' : Obj) (hj : id ≠ j) : (h.put id o).put j o' = (h.put j o').put id o := by simp only [Heap.put]; rw [List.set_comm _ _ hj]
theorem Heap.push_old {h : Heap} {o : Obj} {i : Nat} (hi : i < h.objs.length) : (h.push o).objs[i]? = h.objs[i]? := by simp only [Heap.push]; rw [List.getElem?_append_left hi]
theorem Heap.push_new (h : Heap) (o : Obj) : (h.push o).objs[h.objs.length]? = some o := by simp [Heap.push]
theorem Heap.push_len (h : Heap) (o : Obj) : (h.push o).objs.length = h.objs.length + 1 := by simp [Heap.push]
theorem Heap.cell_at {h : Heap} {id off : Nat} {cs : List HCell} (hm : h.objs[id]? = some (.cells cs)) : h.cell? id off = cs[off]? := by simp [Heap.cell?, hm]
theorem Heap.cells_at {h : Heap} {id off n : Nat} {cs : List HCell} (hm : h.objs[id]? = some (.cells cs)) (hn : off + n ≤ cs.length) : h.cells? id off n = some (((cs.drop off).take n).map HCell.toA) := by simp [Heap.cells?, hm, hn]
theorem Heap.set_at {h : Heap} {id off : Nat} {c : HCell} {cs : List HCell} (hm : h.objs[id]? = some (.cells cs)) : h.setCell id off c = h.put id (.cells (cs.set off c)) := by simp [Heap.setCell, Heap.put, hm]
/-- What was there is there. -/
structure Heap.ext (h h' : Heap) : Prop where
  len : h.objs.length ≤ h'.objs.length
  old : ∀ i, i < h.objs.length → h'.objs[i]? = h.objs[i]?
theorem Heap.ext.refl (h : Heap) : h.ext h := ⟨Nat.le_refl _, fun _ _ => rfl⟩
theorem Heap.ext.trans {h h1 h2 : Heap} (a : h.ext h1) (b : h1.ext h2) : h.ext h2 := ⟨Nat.le_trans a.len b.len, fun i hi => by rw [b.old i (Nat.lt_of_lt_of_le hi a.len), a.old i hi]⟩
theorem Heap.ext.push (h : Heap) (o : Obj) : h.ext (h.push o) := ⟨by simp [Heap.push], fun i hi => Heap.push_old hi⟩
theorem Heap.ext.put {h h' : Heap} {id : Nat} {o : Obj} (e : h.ext h') (hid : h.objs.length ≤ id) : h.ext (h'.put id o) := ⟨by rw [Heap.put_len]; exact e.len, fun i hi => by rw [Heap.put_ne (by omega)]; exact e.old i hi⟩
theorem Heap.ext.get {h h' : Heap} (e : h.ext h') {i : Nat} {o : Obj} (hm : h.objs[i]? = some o) : h'.objs[i]? = some o := by rw [e.old i (Heap.lt_of hm)]; exact hm

section
variable {R : Type} {Q : R → Prop} {tg : Hid Q}
theorem at_ptr_whole {ag : Bool} {n : Nat} {e : AVal} {h : Heap} {K : AVal → Tr R} : Run (ptrLdK ag n (.elt e ag n 0) h K) Q tg = Run (K e) Q ⟨⟩ := at_eq (by simp [ptrLdK])
theorem at_ptr_cell {n sz off : Nat} {cs : List AVal} {h : Heap} {K : AVal → Tr R} : Run (ptrLdK false n (.elt (.agg cs) true sz off) h K) Q tg = Run (optK (cs[off]?) K) Q ⟨⟩ := at_eq (by simp [ptrLdK, AVal.cells])
theorem at_nodeW {n : Nat} {cs : List AVal} {K : List AVal → Tr R} : Run (nodeW n (.elt (.agg cs) true n 0) K) Q tg = Run (K cs) Q ⟨⟩ := at_eq (by simp [nodeW])
theorem at_ptr_obj {n id off : Nat} {h : Heap} {K : AVal → Tr R} : Run (ptrLdK false n (.obj id off) h K) Q tg = Run (optK (h.cell? id off) fun c => K c.toA) Q ⟨⟩ := at_eq (by simp [ptrLdK])
theorem at_ptr_objs {n id off : Nat} {h : Heap} {K : AVal → Tr R} : Run (ptrLdK true n (.obj id off) h K) Q tg = Run (optK (h.cells? id off n) fun cs => K (.agg cs)) Q ⟨⟩ := at_eq (by simp [ptrLdK])
end
/-! ### Entries told by when they were born -/
section
variable {α : Type} [DecidableEq α]
structure TOk (l : List (α × AVal × Nat)) (c : Nat) : Prop where
  keys : (tkeys l).Nodup
  born : (l.map (·.2.2)).Nodup
  lt : ∀ x ∈ l, x.2.2 < c
theorem TOk.nil (c : Nat) : TOk ([] : List (α × AVal × Nat)) c := ⟨by simp [tkeys], by simp, by simp⟩
theorem tput_new {a : α} {v : AVal} : ∀ {l : List (α × AVal × Nat)} {n : Nat}, tget a l = none → tput a v l n = l ++ [(a, v, n)]
  | [], n, _ => rfl
  | (b, w, m) :: r, n, h => by
    unfold tget at h
    unfold tput
    by_cases e : a = b
    · rw [if_pos e] at h; cases h
    · rw [if_neg e] at h
      rw [if_neg e, tput_new h]; rfl
theorem tput_born {a : α} {v : AVal} : ∀ {l : List (α × AVal × Nat)} {n : Nat} {w : AVal}, tget a l = some w → (tput a v l n).map (·.2.2) = l.map (·.2.2)
  | (b, u, m) :: r, n, w, h => by
    unfold tget at h
    unfold tput
    by_cases e : a = b
    · rw [if_pos e]; rfl
    · rw [if_neg e] at h
      rw [if_neg e]
      simp only [List.map_cons]
      rw [tput_born h]
theorem TOk.put {l : List (α × AVal × Nat)} {c : Nat} (h : TOk l c) (a : α) (v : AVal) : TOk (tput a v l c) (if (tget a l).isSome then c else c + 1) := by
  cases hg : tget a l with
  | none =>
    refine ⟨nodup_tput h.keys, ?_, ?_⟩
    · rw [tput_new hg, List.map_append, List.nodup_append]
      refine ⟨h.born, by simp, fun x hx y hy => ?_⟩
      simp at hy
      obtain ⟨z, hz, rfl⟩ := List.mem_map.1 hx
      have := h.lt z hz
      omega
    · rw [tput_new hg]
      intro x hx
      rcases List.mem_append.1 hx with hx | hx
      · have := h.lt x hx; simp; omega
      · simp at hx; subst hx; simp
  | some w =>
    have hb := tput_born (v := v) (n := c) hg
    refine ⟨nodup_tput h.keys, by rw [hb]; exact h.born, fun x hx => ?_⟩
    have hx' : x.2.2 ∈ (tput a v l c).map (·.2.2) := List.mem_map_of_mem hx
    rw [hb] at hx'
    obtain ⟨z, hz, e⟩ := List.mem_map.1 hx'
    have := h.lt z hz
    simp; omega
theorem TOk.del {l : List (α × AVal × Nat)} {c : Nat} (h : TOk l c) (a : α) : TOk (tdel a l) c :=
  ⟨nodup_tdel h.keys, h.born.sublist ((tdel_sub a l).map _), fun x hx => h.lt x ((tdel_sub a l).subset hx)⟩
variable {R : Type} {Q : R → Prop} {tg : Hid Q}
end
@[simp] theorem shift_obj (k id off : Nat) : AVal.shift k (.obj id off) = .obj id (off + k) := of_eq_true (eq_self _)
@[simp] theorem shift_elt (k : Nat) (e : AVal) (ag : Bool) (sz off : Nat) : AVal.shift k (.elt e ag sz off) = .elt e ag sz (off + k) := of_eq_true (eq_self _)
@[simp] theorem isAddr_obj (id off : Nat) : AVal.isAddr (.obj id off) = true := of_eq_true (eq_self _)
@[simp] theorem isAddr_elt (e : AVal) (ag : Bool) (sz off : Nat) : AVal.isAddr (.elt e ag sz off) = true := of_eq_true (eq_self _)
@[simp] theorem isPtr_obj (id off : Nat) : AVal.isPtr (.obj id off) = true := of_eq_true (eq_self _)
@[simp] theorem isPtr_elt (e : AVal) (ag : Bool) (sz off : Nat) : AVal.isPtr (.elt e ag sz off) = true := of_eq_true (eq_self _)
@[simp] theorem isPtr_nilp : AVal.isPtr .nilp = true := of_eq_true (eq_self _)
@[simp] theorem isNilp_obj (id off : Nat) : AVal.isNilp (.obj id off) = false := of_eq_true (eq_self _)
@[simp] theorem isNilp_elt (e : AVal) (ag : Bool) (sz off : Nat) : AVal.isNilp (.elt e ag sz off) = false := of_eq_true (eq_self _)
@[simp] theorem isNilp_nilp : AVal.isNilp .nilp = true := of_eq_true (eq_self _)
@[simp] theorem isAgg_int (k : IntKind) (n : Int) : AVal.isAgg (.int k n) = false := of_eq_true (eq_self _)
@[simp] theorem isAgg_str (s : List UInt8) : AVal.isAgg (.str s) = false := of_eq_true (eq_self _)
@[simp] theorem isAgg_nilp : AVal.isAgg .nilp = false := of_eq_true (eq_self _)
@[simp] theorem isAgg_obj (id off : Nat) : AVal.isAgg (.obj id off) = false := of_eq_true (eq_self _)
@[simp] theorem isAgg_elt (e : AVal) (ag : Bool) (sz off : Nat) : AVal.isAgg (.elt e ag sz off) = false := of_eq_true (eq_self _)
@[simp] theorem cells_agg (cs : List AVal) : AVal.cells (.agg cs) = cs := of_eq_true (eq_self _)
@[simp] theorem toA_val (v : AVal) : HCell.toA (.val v) = v := of_eq_true (eq_self _)
@[simp] theorem toA_own (z : Nat) (es : List AVal) : HCell.toA (.own z es) = .sl false z es := of_eq_true (eq_self _)
theorem eqCells_cons (a b : AVal) (x y : List AVal) : eqCells (a :: x) (b :: y) = (a.eq1 b && eqCells x y) := of_eq_true (eq_self _)
theorem eqCells_nil : eqCells [] [] = true := of_eq_true (eq_self _)
theorem eq1_int (k k' : IntKind) (a b : Int) : AVal.eq1 (.int k a) (.int k' b) = (a == b) := of_eq_true (eq_self _)
theorem eq1_bool (a b : Bool) : AVal.eq1 (.bool a) (.bool b) = (a == b) := of_eq_true (eq_self _)
theorem eq1_str (a b : List UInt8) : AVal.eq1 (.str a) (.str b) = (a == b) := of_eq_true (eq_self _)
/-! ### More steps, in one -/
theorem PR : type_of% (And.intro @at_nodeW <| And.intro @at_ptr_whole <| And.intro @at_ptr_cell <| And.intro @at_ptr_obj @at_ptr_objs) := And.intro @at_nodeW <| And.intro @at_ptr_whole <| And.intro @at_ptr_cell <| And.intro @at_ptr_obj @at_ptr_objs
theorem MR : type_of% (And.intro @List.drop_zero.{0} <| And.intro @List.take_succ_cons.{0} <| And.intro @List.take_zero.{0} <| And.intro @List.getElem?_cons_succ.{0} <| And.intro @List.getElem?_cons_zero.{0} <| And.intro @cells_agg <| And.intro @eqCells_cons <| And.intro @eqCells_nil <| And.intro @eq1_int <| And.intro @eq1_bool <| And.intro @eq1_str <| And.intro @shift_obj <| And.intro @shift_elt <| And.intro @toA_val <| And.intro @toA_own <| And.intro @Int.toNat_natCast @List.cons_append.{0}) := And.intro @List.drop_zero.{0} <| And.intro @List.take_succ_cons.{0} <| And.intro @List.take_zero.{0} <| And.intro @List.getElem?_cons_succ.{0} <| And.intro @List.getElem?_cons_zero.{0} <| And.intro @cells_agg <| And.intro @eqCells_cons <| And.intro @eqCells_nil <| And.intro @eq1_int <| And.intro @eq1_bool <| And.intro @eq1_str <| And.intro @shift_obj <| And.intro @shift_elt <| And.intro @toA_val <| And.intro @toA_own <| And.intro @Int.toNat_natCast @List.cons_append.{0}
end Go.Weave
