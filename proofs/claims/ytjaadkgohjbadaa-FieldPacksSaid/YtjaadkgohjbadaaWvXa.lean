/- Regions of which the order is free, with what stays true in the meantime: a look into memory that nothing turns may stand ahead of what it is not bound to. -/
import Derived.Orders
namespace Go.Weave
section
variable {P : Program} {ops : Array Oper} {Q : Exit → Act → World → Prop}

def wpAnyJ (P : Program) (ops : Array Oper) (Q : Exit → Act → World → Prop) (J : Array Bool → World → Prop) : Nat → Array Bool → Act → World → Prop
  | 0, l, a, w => J l w ∧ Region.ready .any ops l = [] ∧ Q .normal a w
  | n + 1, l, a, w => J l w ∧ (Region.ready .any ops l = [] → Q .normal a w) ∧ ∀ i ∈ Region.ready .any ops l, wpOp P ops Q i (wpAnyJ P ops Q J n (l.setIfInBounds i true)) a w

theorem wpAnyJ.any {J : Array Bool → World → Prop} : ∀ {n : Nat} {l : Array Bool} {a : Act} {w : World}, wpAnyJ P ops Q J n l a w → wpAny P .any ops Q n l a w
  | 0, _, _, _, h => h.2
  | _ + 1, _, _, _, h => ⟨h.2.1, fun i hi => wpOp_mono (fun _ _ h' => h'.any) (h.2.2 i hi)⟩
theorem wpAnyJ.mono {J J' : Array Bool → World → Prop} (hJ : ∀ l w, J l w → J' l w) : ∀ {n : Nat} {l : Array Bool} {a : Act} {w : World}, wpAnyJ P ops Q J n l a w → wpAnyJ P ops Q J' n l a w
  | 0, _, _, _, h => ⟨hJ _ _ h.1, h.2⟩
  | _ + 1, _, _, _, h => ⟨hJ _ _ h.1, h.2.1, fun i hi => wpOp_mono (fun _ _ h' => h'.mono hJ) (h.2.2 i hi)⟩
theorem wpAnyJ.now {J : Array Bool → World → Prop} : ∀ {n : Nat} {l : Array Bool} {a : Act} {w : World}, wpAnyJ P ops Q J n l a w → J l w
  | 0, _, _, _, h => h.1
  | _ + 1, _, _, _, h => h.1

/-- What an operation yields as long as something holds of the world. -/
def YieldsF (P : Program) (ops : Array Oper) (o : Oper) (v : Value) (a : Act) (F : World → Prop) : Prop :=
  (Region.wanted o (yielded ops a.tmps) = true ∧ ∀ w, F w → (execOp a.eval o).run P w = .ok (.value v) w) ∨
  (Region.wanted o (yielded ops a.tmps) = false ∧ v = undef)

theorem YieldsF.step {i : Nat} {o : Oper} {v : Value} {a : Act} {F : World → Prop} (hi : ops[i]? = some o) (hy : YieldsF P ops o v a F)
    {K : Act → World → Prop} {w : World} (hF : F w) (h : K (a.put o.dst v) w) : wpOp P ops Q i K a w := by
  unfold wpOp
  simp only [hi]
  rcases hy with ⟨hw, hv⟩ | ⟨hw, rfl⟩
  · simp only [hw, if_true, Oper.wp, hv w hF, Oper.upon]; exact .inl h
  · simp only [hw, Bool.false_eq_true, if_false]; exact h

theorem YieldsF.as {o : Oper} {v : Value} {a a' : Act} {F : World → Prop} (hy : YieldsF P ops o v a F) (he : execOp a'.eval o = execOp a.eval o)
    (hw : Region.wanted o (yielded ops a'.tmps) = Region.wanted o (yielded ops a.tmps)) : YieldsF P ops o v a' F := by
  unfold YieldsF at *
  rw [he, hw]
  exact hy

theorem wpOp_past {j : Nat} {oi oj : Oper} {v : Value} {F : World → Prop} (hj : ops[j]? = some oj) (hap : oi.apart ops oj = true)
    (hsi : ∀ cs b, oi.op ≠ .select cs b) (hsj : ∀ cs b, oj.op ≠ .select cs b)
    (hQ : ∀ c a w, ¬ Q (.panic c) a w) {K : Act → World → Prop} {a : Act} {w : World}
    (hy : YieldsF P ops oi v a F) (h : wpOp P ops Q j K (a.put oi.dst v) w) :
    wpOp P ops Q j (fun a' w' => YieldsF P ops oi v a' F ∧ K (a'.put oi.dst v) w') a w := by
  obtain ⟨h1, h2, h3⟩ := Oper.apart_spec hap
  have keep : ∀ (a : Act), YieldsF P ops oi v a F → ∀ u, YieldsF P ops oi v (a.put oj.dst u) F := fun a hy u =>
    hy.as (execOp_put oi hsi a oj.dst u h3) (wanted_put oi a oj.dst u h3)
  unfold wpOp at *
  simp only [hj] at *
  rw [wanted_put oj a oi.dst v h1] at h
  cases hw : Region.wanted oj (yielded ops a.tmps)
  · rw [hw] at h
    simp only [Bool.false_eq_true, if_false] at h ⊢
    exact ⟨keep a hy _, by rw [← Act.put_comm a v undef h2]; exact h⟩
  · rw [hw] at h
    simp only [if_true] at h ⊢
    rcases h with h | ⟨hasks, hlets⟩
    · left
      unfold Oper.wp at *
      rw [execOp_put oj hsj a oi.dst v h1] at h
      generalize (execOp a.eval oj).run P w = r at *
      cases r with
      | halt x w' => cases x <;> simp only [Oper.upon] at h ⊢; exact absurd h (hQ _ _ _)
      | ok n w' =>
        cases n <;> simp only [Oper.upon] at h ⊢
        case value u => exact ⟨keep a hy u, by rw [← Act.put_comm a v u h2]; exact h⟩
        case skip => exact ⟨keep a hy _, by rw [← Act.put_comm a v undef h2]; exact h⟩
        case defer d =>
          refine ⟨keep ({ a with defers := d :: a.defers } : Act) (hy.as rfl rfl) _, ?_⟩
          rw [← Act.put_comm _ v undef h2, ← Act.put_defers]
          exact h
        case enter f args =>
          refine Calls.mono h fun e w'' he => ?_
          cases e with
          | returned u => exact ⟨keep a hy u, by rw [← Act.put_comm a v u h2]; exact he⟩
          | panicked c => exact absurd he (hQ _ _ _)
          | outgrown => exact he
        case row row args => exact Rows.mono h fun u w'' he => ⟨keep a hy u, by rw [← Act.put_comm a v u h2]; exact he⟩
    · right
      exact ⟨by unfold Oper.asks at *; rw [execOp_put oj hsj a oi.dst v h1] at hasks; exact hasks, hlets⟩

theorem firstJ {i : Nat} {oi : Oper} {v : Value} {F : World → Prop} {al : Nat → Prop} {L : Array Bool} {J0 J1 : Array Bool → World → Prop} (hi : ops[i]? = some oi)
    (hsel : ∀ (j : Nat) (o : Oper) cs b, ops[j]? = some o → o.op ≠ .select cs b) (hQ : ∀ c a w, ¬ Q (.panic c) a w)
    (h10 : ∀ l w, l.getD i true = false → J1 (l.setIfInBounds i true) w → J0 l w) (h11 : ∀ l w, J1 l w → J0 l w)
    (hF : ∀ l w, (∀ j, l.getD j false = true → L.getD j false = true ∨ j = i ∨ al j) → J1 l w → F w) :
    ∀ (n : Nat) (l : Array Bool) (a : Act) (w : World),
      (∀ j oj, ops[j]? = some oj → j ≠ i → l.getD j true = false → (∀ e ∈ oj.after, Region.binds .any e = true → e.on ≠ i) → oi.apart ops oj = true ∧ al j) →
      (∀ j, l.getD j false = true → L.getD j false = true ∨ al j) → i ∈ Region.ready .any ops l → YieldsF P ops oi v a F →
      wpAnyJ P ops Q J1 n (l.setIfInBounds i true) (a.put oi.dst v) w → wpAnyJ P ops Q J0 (n + 1) l a w := by
  have hset : ∀ (l : Array Bool), (∀ j, l.getD j false = true → L.getD j false = true ∨ al j) → ∀ j, (l.setIfInBounds i true).getD j false = true → L.getD j false = true ∨ j = i ∨ al j := fun l hl j hj => by
    by_cases hji : j = i
    · exact .inr (.inl hji)
    · rw [getD_set_ne false (Ne.symm hji)] at hj
      rcases hl j hj with h | h
      · exact .inl h
      · exact .inr (.inr h)
  intro n
  induction n with
  | zero =>
    intro l a w _ hl hr hy H
    refine ⟨h10 _ _ (mem_ready.1 hr).1 H.now, fun h => (by rw [h] at hr; cases hr), fun j hj => ?_⟩
    by_cases hji : j = i
    · subst hji; exact hy.step hi (hF _ _ (hset l hl) H.now) ⟨h11 _ _ H.1, H.2⟩
    · have := ready_mono hj hji
      rw [H.2.1] at this
      cases this
  | succ n ih =>
    intro l a w hfree hl hr hy H
    refine ⟨h10 _ _ (mem_ready.1 hr).1 H.now, fun h => (by rw [h] at hr; cases hr), fun j hj => ?_⟩
    by_cases hji : j = i
    · subst hji; exact hy.step hi (hF _ _ (hset l hl) H.now) (H.mono h11)
    · have h1 := H.2.2 j (ready_mono hj hji)
      obtain ⟨hjun, oj, hoj, hall⟩ := mem_ready.1 hj
      have hnot : ∀ e ∈ oj.after, Region.binds .any e = true → e.on ≠ i := fun e he hb heq => by
        have h1 := hall e he hb
        have h0 := (mem_ready.1 hr).1
        rw [heq] at h1
        rcases Nat.lt_or_ge i l.size with h' | h'
        · simp [h'] at h0 h1; rw [h0] at h1; cases h1
        · simp [Array.getElem?_eq_none h'] at h1
      obtain ⟨hap, hal⟩ := hfree j oj hoj hji hjun hnot
      have h2 := wpOp_past hoj hap (fun cs b => hsel i oi cs b hi) (fun cs b => hsel j oj cs b hoj) hQ hy h1
      have hfree' : ∀ k ok, ops[k]? = some ok → k ≠ i → (l.setIfInBounds j true).getD k true = false →
          (∀ e ∈ ok.after, Region.binds .any e = true → e.on ≠ i) → oi.apart ops ok = true ∧ al k := fun k ok hk hki hun hno => by
        refine hfree k ok hk hki ?_ hno
        by_cases hjk : j = k
        · subst hjk; exact hjun
        · rw [getD_set_ne true hjk] at hun; exact hun
      have hl' : ∀ k, (l.setIfInBounds j true).getD k false = true → L.getD k false = true ∨ al k := fun k hk => by
        by_cases hjk : j = k
        · subst hjk; exact .inr hal
        · rw [getD_set_ne false hjk] at hk; exact hl k hk
      refine wpOp_mono (fun a' w' h3 => ih (l.setIfInBounds j true) a' w' hfree' hl' (ready_mono hr (Ne.symm hji)) h3.1 ?_) h2
      rw [Array.setIfInBounds_comm _ _ hji]
      exact h3.2
end
end Go.Weave
