/- Balanced trees: what the program's nodes do. -/
import Derived.Test.YtnhhmgcjbnocfaaDoorWi
import Derived.Test.YtnhhmgcjbnocfaaDoorVta
namespace Go.Proofs.YtnhhmgcjbnocfaaDoor.Wa
open Go Go.Weave
set_option maxRecDepth 100000
set_option linter.unusedSimpArgs false
set_option linter.unusedVariables false
set_option linter.unusedSectionVars false

theorem Heap.put_self' {h : Heap} {i : Nat} {o : Weave.Obj} (hm : h.objs[i]? = some o) : h.put i o = h := by
  obtain ⟨l⟩ := h
  simp only [Heap.put]
  congr 1
  apply List.ext_getElem?
  intro j
  rw [List.getElem?_set]
  split
  · rename_i e
    subst e
    split
    · exact hm.symm
    · rename_i hl
      rw [List.getElem?_eq_none (by omega)]
  · rfl
theorem A_node (k v : List UInt8) (l r : Nd) (h : Int) : (Nd.node k v l r h).A = .elt (.agg [.str k, .str v, l.A, r.A, .int .i64 h]) true 5 0 := of_eq_true (eq_self _)
theorem A_nil : Nd.nil.A = .nilp := of_eq_true (eq_self _)
theorem isPtr_A (t : Nd) : AVal.isPtr t.A = true := by cases t <;> exact of_eq_true (eq_self _)
theorem isAgg_A (t : Nd) : AVal.isAgg t.A = false := by cases t <;> exact of_eq_true (eq_self _)
theorem isNilp_node (k v : List UInt8) (l r : Nd) (h : Int) : AVal.isNilp (Nd.node k v l r h).A = false := of_eq_true (eq_self _)
theorem at_nodeN {k v : List UInt8} {l r : Nd} {x : Int} {K : List AVal → Tr Res} {Q : Res → Prop} {tg : Hid Q} : Run (nodeW 5 (Nd.node k v l r x).A K) Q tg = Run (K [.str k, .str v, l.A, r.A, .int .i64 x]) Q ⟨⟩ := at_nodeW
/-! ### Looks -/
def tellK : Option KPair → List AVal
  | none => [.str [], .str [], .bool false]
  | some p => [.str p.key, .str p.val, .bool true]
theorem seek_find {s : List UInt8} {a b : List KPair} {p : KPair} (hs : Srt (a ++ p :: b)) : lseek s (a ++ p :: b) = if blt p.key s then lseek s b else (lseek s a).or (some p) := by
  obtain ⟨_, _, h3, _⟩ := hs.mid
  unfold lseek
  rw [List.find?_append, List.find?_cons]
  by_cases c : blt p.key s = true
  · rw [if_pos c]
    have : List.find? (fun q => !blt q.key s) a = none := by
      rw [List.find?_eq_none]
      intro x hx
      simp [blt_trans (h3 x hx) c]
    rw [this, c]; rfl
  · have c' : blt p.key s = false := by simpa using c
    rw [if_neg c, c']; rfl
theorem below_last {s : List UInt8} {a b : List KPair} {p : KPair} (hs : Srt (a ++ p :: b)) : lbelow s (a ++ p :: b) = if blt p.key s then (lbelow s b).or (some p) else lbelow s a := by
  obtain ⟨_, _, h3, h4⟩ := hs.mid
  unfold lbelow
  rw [List.filter_append, List.filter_cons]
  split
  · rename_i c
    rw [List.getLast?_append, List.getLast?_cons]
    cases (List.filter (fun q => blt q.key s) b).getLast? <;> simp
  · rename_i c
    have : List.filter (fun q => blt q.key s) b = [] := filter_none fun x hx => by
      cases hx' : blt x.key s
      · rfl
      · exact absurd (blt_trans (h4 x hx) hx') c
    rw [this]; simp
end Go.Proofs.YtnhhmgcjbnocfaaDoor.Wa
