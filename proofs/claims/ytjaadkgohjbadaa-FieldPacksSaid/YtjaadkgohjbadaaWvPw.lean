/- The words of residual texts: what they come to, the operations behind them come to. -/
import Derived.Test.YtjaadkgohjbadaaWvP
namespace Go.Weave
section
variable {P : Program} {R : Type} {Q : R → Prop}

theorem coerce_self {t : TypeId} {v : AVal} {K : AVal → Tr R} (hs : notSlice P t = true) (h : (coerce P t v K).All Q) : (K v).All Q := by
  unfold coerce at h
  unfold notSlice at hs
  split at h
  · obtain ⟨hb, h⟩ := all_bif h
    cases v <;> simp [AVal.isInt] at hb
    subst hb; exact h
  · obtain ⟨hb, h⟩ := all_bif h
    cases v <;> simp [AVal.isBool] at hb
    exact h
  · obtain ⟨hb, h⟩ := all_bif h
    cases v <;> simp [AVal.isStr] at hb
    exact h
  · rename_i e hu
    rw [hu] at hs
    simp at hs
  · obtain ⟨hb, h⟩ := all_bif h
    cases v <;> simp [AVal.isAggOf] at hb
    exact h
  · obtain ⟨hb, h⟩ := all_bif h
    cases v <;> simp [AVal.isAggOf] at hb
    exact h
  · exact h
  · exact h.elim

theorem coerce_fix {t : TypeId} {v : AVal} {K : AVal → Tr R} {R' : Type} (hs : notSlice P t = true) (h : (coerce P t v K).All Q) (K' : AVal → Tr R') : coerce P t v K' = K' v := by
  unfold coerce at h ⊢
  unfold notSlice at hs
  split at h
  · obtain ⟨hb, h⟩ := all_bif h
    cases v <;> simp [AVal.isInt] at hb
    subst hb; simp [AVal.isInt, AVal.toInt]
  · obtain ⟨hb, h⟩ := all_bif h
    cases v <;> simp [AVal.isBool] at hb
    simp [AVal.isBool, AVal.toBool]
  · obtain ⟨hb, h⟩ := all_bif h
    cases v <;> simp [AVal.isStr] at hb
    simp [AVal.isStr, AVal.toStr]
  · rename_i e hu
    rw [hu] at hs
    simp at hs
  · obtain ⟨hb, h⟩ := all_bif h
    cases v <;> simp [AVal.isAggOf] at hb
    simp [AVal.isAggOf, AVal.cells, hb]
  · obtain ⟨hb, h⟩ := all_bif h
    cases v <;> simp [AVal.isAggOf] at hb
    simp [AVal.isAggOf, AVal.cells, hb]
  · rfl
  · exact h.elim

theorem loadK'_all {t : TypeId} {a : EV} {fr : Fr} {h : Heap} {K : EV → Tr R} (hq : (loadK' P t a fr h K).All Q) : (loadK P t a fr h K).All Q := by
  unfold loadK' at hq
  split at hq
  · rename_i v
    split at hq
    · exact hq
    · rename_i hns
      unfold ptrLoadK ptrLdK at hq
      split at hq
      · rename_i id off
        unfold loadK
        simp only
        cases ha : aggT P t <;> simp only [ha, cond_true, cond_false] at hq ⊢
        · obtain ⟨c, hc, hq⟩ := all_optK hq
          simp only [hc, optK]
          exact hq
        · obtain ⟨cs, hc, hq⟩ := all_optK hq
          simp only [hc, optK]
          have hs : notSlice P t = true := by
            unfold notSlice
            split
            · rename_i e hu; exact absurd hu (hns e)
            · rfl
          exact coerce_self hs hq
      · unfold loadK eltLoad
        exact hq
      · exact hq.elim
  · exact hq

theorem hcellK_eq {s : SV} {K : HCell → Option Nat → Tr R} : hcellK s K = optK (hcellOf s) fun p => K p.1 p.2 := by
  cases s with
  | val v =>
    simp only [hcellK, hcellOf]
    cases v.isAgg <;> rfl
  | own g sz es => rfl
  | bor id off sz es => rfl
  | loc d off => rfl
  | lsl d => rfl
  | unk => rfl
theorem storeK'_eq {t : TypeId} {a x : EV} {fr : Fr} {h : Heap} {K : Fr → Heap → Tr R} : storeK' P t a x fr h K = storeK P t a x fr h K := by
  unfold storeK'
  split
  · unfold storeK putCellsK
    simp only [hcellK_eq]
    rfl
  · rfl

theorem fieldAddrK'_all {s : TypeId} {x : EV} {f : Nat} {K : EV → Tr R} (hq : (fieldAddrK' P s x f K).All Q) : (fieldAddrK P s x f K).All Q := by
  unfold fieldAddrK' at hq
  split at hq
  · rename_i v
    unfold fieldAddrK
    split at hq
    · rename_i fs hu
      try simp only [hu]
      split at hq
      · rename_i fd hf
        try simp only [hf]
        cases hz : szOf P fd.type == 0 <;> simp only [hz, cond_true, cond_false] at hq ⊢
        · obtain ⟨hb, hq⟩ := all_bif hq
          cases v <;> simp [AVal.isAddr] at hb <;> exact hq
        · exact hq
      · exact hq.elim
    · exact hq.elim
  · exact hq

theorem lookupK'_all {t : TypeId} {x k : EV} {ok : Bool} {h : Heap} {K : EV → Tr R} (hq : (lookupK' P t x k ok h K).All Q) : (lookupK P t x k ok h K).All Q := by
  unfold lookupK' at hq
  unfold lookupK
  split at hq
  · rename_i kt et hu
    try simp only [hu]
    obtain ⟨m, hm, hq⟩ := all_optK hq
    obtain ⟨k', hk, hq⟩ := all_optK hq
    obtain ⟨z, hz, hq⟩ := all_optK hq
    obtain ⟨hb, hq⟩ := all_bif hq
    simp only [Bool.and_eq_true] at hb
    simp only [hm, hk, hz, optK, hb.1, cond_true]
    unfold lookK at hq
    split at hq
    · exact coerce_self hb.2 hq
    · rename_i id
      simp only [AVal.isMap, AVal.toId, cond_true]
      split at hq
      · rename_i kt' es c ho
        try simp only [ho]
        obtain ⟨hkt, hq⟩ := all_bif hq
        simp only [hkt, cond_true]
        split at hq
        · rename_i hf
          (try simp only [hf]); exact hq
        · rename_i hf
          (try simp only [hf]); exact coerce_self hb.2 hq
      · exact hq.elim
    · exact hq.elim
  · exact hq.elim

theorem mapEntryK'_all {t : TypeId} {m k : EV} {h : Heap} {K : EV → Heap → Tr R} (hq : (mapEntryK' P t m k h K).All Q) : (mapEntryK P t m k h K).All Q := by
  unfold mapEntryK' at hq
  unfold mapEntryK
  split at hq
  · rename_i kt et hu
    try simp only [hu]
    obtain ⟨m, hm, hq⟩ := all_optK hq
    obtain ⟨k', hk, hq⟩ := all_optK hq
    obtain ⟨z, hz, hq⟩ := all_optK hq
    obtain ⟨hb, hq⟩ := all_bif hq
    simp only [Bool.and_eq_true] at hb
    simp only [hm, hk, hz, optK, hb.1, cond_true]
    unfold entryK mapK at hq
    unfold mapK
    obtain ⟨hmm, hq⟩ := all_bif hq
    simp only [hmm, cond_true]
    split at hq
    · rename_i kt' es c ho
      try simp only [ho]
      obtain ⟨hkt, hq⟩ := all_bif hq
      simp only [hkt, cond_true]
      split at hq
      · rename_i hf
        (try simp only [hf])
        refine Eq.mpr (congrArg (Tr.All Q) (coerce_fix hb.2 hq _)) ?_
        exact coerce_self hb.2 hq
      · rename_i hf
        (try simp only [hf]); exact coerce_self hb.2 hq
    · exact hq.elim
  · exact hq.elim

theorem lenK'_all {t : TypeId} {x : EV} {h : Heap} {K : EV → Tr R} (hq : (lenK' P t x h K).All Q) : (lenK P t x h K).All Q := by
  unfold lenK' at hq
  split at hq
  · rename_i kt et hu
    unfold lenK
    try simp only [hu]
    obtain ⟨m, hm, hq⟩ := all_optK hq
    simp only [hm, optK]
    unfold mapLenK at hq
    split at hq
    · exact hq
    · rename_i id
      split at hq
      · rename_i kt' es c ho
        simp only [mapK, AVal.isMap, AVal.toId, cond_true, ho]
        exact hq
      · exact hq.elim
    · exact hq.elim
  · exact hq

theorem elemsK_eq {ag : Bool} {sz : Nat} {K : List AVal → Tr R} : ∀ (ps : List (Nat × AVal)) (es : List AVal), elemsK ag sz es ps K = optK (elemsOf ag sz es ps) K
  | [], es => rfl
  | (i, v) :: r, es => by
    simp only [elemsK, elemsOf]
    cases (bif ag then v.isAggOf sz else !v.isAgg) && decide (i < es.length)
    · rfl
    · exact elemsK_eq r _
theorem buildSliceK'_eq {t : TypeId} {len : Nat} {parts : List (Nat × EV)} {K : EV → Tr R} : buildSliceK' P t len parts K = buildSliceK P t len parts K := by
  unfold buildSliceK' buildSliceK
  simp only [elemsK_eq]

theorem cells_flat {v : AVal} (h : v.isAgg = false) : v.cells = [v] := by cases v <;> first | rfl | simp [AVal.isAgg] at h
theorem fillAK_all {place : Nat → Option (Nat × Nat)} {ag : Nat → Bool} {K : List AVal → Tr R} : ∀ (ps : List (Nat × AVal)) (cs : List AVal), (fillAK place ag cs ps K).All Q → (optK (fillA place cs ps) K).All Q
  | [], cs, h => h
  | (i, v) :: r, cs, h => by
    simp only [fillAK] at h
    simp only [fillA]
    split at h
    · rename_i off sz hp
      obtain ⟨hb, h⟩ := all_bif h
      simp only [Bool.and_eq_true, decide_eq_true_eq] at hb
      have hc : v.cells.length = sz ∧ (bif ag i then v.cells else [v]) = v.cells := by
        cases ha : ag i <;> simp only [ha, cond_true, cond_false] at hb ⊢
        · simp at hb
          rw [cells_flat hb.2.1.1]
          exact ⟨by simp [hb.2.1.2], rfl⟩
        · refine ⟨?_, by trivial⟩
          cases v <;> simp [AVal.isAggOf] at hb
          simpa [AVal.cells] using hb.2.1
      have hsp : spliceN off sz (bif ag i then v.cells else [v]) cs = spliceAt off v.cells cs := by
        unfold spliceN spliceAt
        rw [hc.2, hc.1]
      rw [hsp] at h
      have hcond : (decide (0 < sz) && (v.cells.length == sz) && decide (off + sz ≤ cs.length)) = true := by simp [hb.1, hc.1, hb.2.2]
      simp only [hcond, cond_true]
      exact fillAK_all r _ h
    · exact h.elim
theorem buildK'_all {rich : Bool} {t : TypeId} {parts : List (Nat × EV)} {K : EV → Tr R} (hq : (buildK' P rich t parts K).All Q) : (buildK P rich t parts K).All Q := by
  unfold buildK' at hq
  cases rich <;> simp only [cond_true, cond_false] at hq
  · obtain ⟨z, hz, hq⟩ := all_optK hq
    obtain ⟨place, hpl, hq⟩ := all_optK hq
    obtain ⟨ps, hps, hq⟩ := all_optK hq
    unfold buildK
    simp only [hz, hpl, hps, optK, cond_false]
    exact fillAK_all ps _ hq
  · exact hq
end
theorem nodeK_all {R : Type} {Q : R → Prop} {n : Option Nat} {x : EV} {K : EV → Tr R} (h : (nodeK n x K).All Q) : (K x).All Q := by
  unfold nodeK at h
  split at h
  · exact h
  · split at h
    · unfold nodeW at h
      split at h
      · rename_i cs sz
        obtain ⟨h1, h⟩ := all_bif h
        simp at h1
        subst h1
        exact h
      · exact h.elim
    · exact h.elim
theorem binK'_all {R : Type} {Q : R → Prop} {P : Program} {op : BinOp} {t : TypeId} {x y : AVal} {K : AVal → Tr R} (h : (binK' P op t x y K).All Q) : (binK P op t x y K).All Q := by
  unfold binK' at h
  split at h
  · cases x <;> exact h
  · exact h
end Go.Weave
