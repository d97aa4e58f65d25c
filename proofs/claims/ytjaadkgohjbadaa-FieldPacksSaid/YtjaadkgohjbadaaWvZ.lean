/- Places in a function's code: loops, and where branches meet. -/
import Derived.Test.YtjaadkgohjbadaaWvB
namespace Go.Weave

/-- To a place in code, with what follows there. 'ns': the counters of the loops around it. -/
noncomputable def subK (C : Cfg) (A : Ann) (call : FuncId → List AVal → Heap → Tr Res) (again : Code → Code → Fr → Heap → (Ex → Fr → Heap → Tr Res) → Tr Res)
    (F : Code → (Ex → Fr → Heap → Tr Res) → Tr Res) : List Bool → List Nat → Code → (Ex → Fr → Heap → Tr Res) → Tr Res
  | [], _, c, K => F c K
  | b :: p, ns, .seq x y, K => bif b then subK C A call again F p ns y K else subK C A call again F p ns x (seqK (fun fr h => joinK A y (codeK C A call again y (keepAt A y fr) h K)) K)
  | b :: p, ns, .cond _ x y, K => subK C A call again F p ns (bif b then x else y) K
  | _ :: p, ns, .block id c, K => subK C A call again F p ns c (blockK id K)
  | _ :: p, n :: ns, .loop c, K => subK C A call again F p ns c (seqK (fun fr h => loopK (keepAt A c) (codeK C A call again c) n (keepAt A c fr) h K) K)
  | _ :: p, ns, .scope c, K => subK C A call again F p ns c (scopeK A again c K)
  | _, _, _, _ => .fail

noncomputable def loopPt (C : Cfg) (d f : Nat) (p : List Bool) (ns : List Nat) (k : Nat) (fr : Fr) (h : Heap) : Tr Res :=
  match C.P.funcs[f]? with
  | some fn =>
    (match fn.body with
    | some c => subK C (C.ann f) (evFn C d) (againK C (C.ann f) (evFn C d) rounds) (fun c K => match c with
        | .loop c => loopK (keepAt (C.ann f) c) (codeK C (C.ann f) (evFn C d) (againK C (C.ann f) (evFn C d) rounds) c) k fr h K
        | _ => .fail) p ns c (retK C.P (C.ann f) fn)
    | none => .fail)
  | none => .fail
/-- In each order the same. -/
def sameL {α : Type} (n : Nat) (t : Tr α) : Tr α := Tr.anyL (List.replicate n t)
theorem sameL_all {α : Type} {Q : α → Prop} {n : Nat} {t : Tr α} (h : t.All Q) : (sameL (n + 1) t).All Q := by
  refine ⟨by simp, fun i hi => ?_⟩
  have hi' : i < n + 1 := by simpa using hi
  simp [hi', h]

/-- What a run comes to. (A structure: so that nothing looks into a run by unfolding it.) -/
structure Ans {α : Type} (t : Tr α) (a : α) : Prop where
  run : t.All fun r => r = a

theorem all_bind {α β : Type} {Q : β → Prop} : ∀ {t : Tr α} {f : α → Tr β}, t.All (fun a => (f a).All Q) → (t.bind f).All Q
  | .ret _, _, h => h
  | .fail, _, h => h.elim
  | .any _ _, _, h => ⟨h.1, fun i hi => all_bind (h.2 i hi)⟩
theorem Ans.ret {α : Type} (a : α) : Ans (Tr.ret a) a := ⟨rfl⟩
theorem all_mono {α : Type} {Q Q' : α → Prop} (h : ∀ a, Q a → Q' a) : ∀ {t : Tr α}, t.All Q → t.All Q'
  | .ret _, hq => h _ hq
  | .fail, hq => hq
  | .any _ _, hq => ⟨hq.1, fun i hi => all_mono h (hq.2 i hi)⟩
theorem Ans.all {α β : Type} {Q : β → Prop} {t : Tr α} {a : α} {f : α → Tr β} (h : Ans t a) (hf : (f a).All Q) : (t.bind f).All Q :=
  all_bind (all_mono (fun r hr => by subst hr; exact hf) h.run)
theorem Ans.bind {α β : Type} {t : Tr α} {a : α} {b : β} {f : α → Tr β} (h : Ans t a) (hf : Ans (f a) b) : Ans (t.bind f) b := ⟨h.all hf.run⟩
theorem Ans.same {α : Type} {n : Nat} {t : Tr α} {a : α} (h : Ans t a) : Ans (sameL (n + 1) t) a := ⟨sameL_all h.run⟩
end Go.Weave
