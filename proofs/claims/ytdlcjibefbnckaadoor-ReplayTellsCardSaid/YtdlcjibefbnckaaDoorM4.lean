/- Texts of this proof, laid together: the evaluator, what it comes to, and the laws. No condition. -/
import Derived.Test.YtdlcjibefbnckaaDoorM3
import Derived.ChangeArms
import Derived.OpenShut
import Derived.ChangeOld
import Derived.SizedLaws
import Derived.Carry
import Derived.JoinedOf
import Derived.WalkKit
import Derived.ProofKit
import Derived.Test.YtdlcjibefbnckaaDoorM1
section
/- From a statement's reading of its arguments to the evaluator's values, and back from the evaluator's answer to the statement. -/
namespace Go.Weave
variable {P : Program} {W : World} {H : Type} {enc : TypeId × Value → H}

/-- At a call from outside all of memory is there to be read. -/
def wholeCtx (W : World) : Ctx := ⟨W, 0, fun _ => 0, fun b => match W.heap[b]? with | some (.cells xs _ _) => some xs.size | _ => none⟩

theorem whole_cell {b o : Nat} {v : Value} (h : W.cell? ⟨b, o, none⟩ = some v) : ∃ lim, (wholeCtx W).κ b = some lim ∧ o < lim := by
  unfold World.cell? at h
  simp only at h
  split at h
  · rename_i c t fr hc
    simp only [Option.isSome_none, Bool.false_eq_true, if_false] at h
    exact ⟨c.size, by simp [wholeCtx, hc], (Array.getElem?_eq_some_iff.1 h).1⟩
  · cases h

theorem cell_spot {a : Addr} {v : Value} (h : W.cell? a = some v) : a = ⟨a.block, a.off, none⟩ := by
  unfold World.cell? at h
  split at h
  · split at h
    · cases h
    · rename_i hs
      obtain ⟨b, o, s⟩ := a
      cases s
      · rfl
      · simp at hs
  · cases h

theorem cells_at {a : Addr} {n : Nat} {cs : List Value} (h : W.cells? 0 a n = some cs) : cs.length = n ∧ ∀ j, j < n → W.cell? (a.add j) = some (cs.getD j undef) := by
  unfold World.cells? at h
  rw [if_pos (Nat.zero_le _)] at h
  have hl := mapM_some_length h
  simp at hl
  refine ⟨hl, fun j hj => ?_⟩
  have := mapM_some_get h j j (by simp [hj])
  rw [this]
  have hj' : j < cs.length := by omega
  simp [hj']

def RepLs (c : Ctx) (cs : List Value) (as : List AVal) : Prop := cs.length = as.length ∧ ∀ j, j < as.length → Rep c (cs.getD j undef) (as.getD j .undef) ∧ (as.getD j .undef).isAgg = false

theorem RepLs.nil (c : Ctx) : RepLs c [] [] := ⟨rfl, fun j hj => by simp at hj⟩
theorem RepLs.one {c : Ctx} {v : Value} {a : AVal} (h : Rep c v a) (hn : a.isAgg = false) : RepLs c [v] [a] := ⟨rfl, fun j hj => by
  have : j = 0 := by simpa using hj
  subst this; exact ⟨h, hn⟩⟩
theorem RepLs.append {c : Ctx} {cs ds : List Value} {as bs : List AVal} (h : RepLs c cs as) (k : RepLs c ds bs) : RepLs c (cs ++ ds) (as ++ bs) := by
  refine ⟨by simp [h.1, k.1], fun j hj => ?_⟩
  simp only [List.length_append] at hj
  simp only [List.getD_eq_getElem?_getD]
  by_cases hlt : j < as.length
  · rw [List.getElem?_append_left (by rw [h.1]; exact hlt), List.getElem?_append_left hlt]
    simpa only [List.getD_eq_getElem?_getD] using h.2 j hlt
  · rw [List.getElem?_append_right (by rw [h.1]; omega), List.getElem?_append_right (by omega), h.1]
    simpa only [List.getD_eq_getElem?_getD] using k.2 (j - as.length) (by omega)

/-! ### Bulk -/
mutual
def AVal.bulk : AVal → Nat
  | .str s => s.length + 1
  | .sl _ _ es => bulkL es + 1
  | .agg cs => bulkL cs
  | _ => 1
def bulkL : List AVal → Nat
  | [] => 0
  | a :: r => a.bulk + bulkL r
end
theorem bulkL_append : ∀ (a b : List AVal), bulkL (a ++ b) = bulkL a + bulkL b
  | [], b => by simp [bulkL]
  | x :: a, b => by simp only [List.cons_append, bulkL, bulkL_append a b]; omega
/-- A measure of data that counts at least all their parts. -/
structure BulkOk (B : DataW H → Nat) : Prop where
  pos : ∀ d, 1 ≤ B d
  str : ∀ b, b.length + 1 ≤ B (.lit (.string b))
  sl : ∀ es sp, (es.map B).sum + 1 ≤ B (.slice es sp)
  agg : ∀ ps, (ps.map B).sum ≤ B (.agg ps)
theorem bulk_sum {B : DataW H → Nat} : ∀ (xs : List AVal) (ds : List (DataW H)), xs.length ≤ ds.length → (∀ (i : Nat) d, i < xs.length → ds[i]? = some d → (xs.getD i .undef).bulk ≤ B d) → bulkL xs ≤ (ds.map B).sum
  | [], _, _, _ => by simp [bulkL]
  | _ :: _, [], h, _ => by simp at h
  | x :: xs, d :: ds, h, hx => by
    have h1 := hx 0 d (by simp) rfl
    have h2 := bulk_sum xs ds (by simpa using h) (fun i e hi he => by simpa using hx (i + 1) e (by simpa using hi) (by simpa using he))
    simp only [bulkL, List.map_cons, List.sum_cons]
    simp only [List.getD_cons_zero] at h1
    omega

/-! ### What a reading of plain data promises of the values -/
def OkF (ok : TypeId → List AVal → Prop) : List Field → List AVal → Prop
  | [], cs => cs = []
  | f :: r, cs => ∃ a b, cs = a ++ b ∧ ok f.type a ∧ OkF ok r b
def OkN (ok : List AVal → Prop) : Nat → List AVal → Prop
  | 0, cs => cs = []
  | n + 1, cs => ∃ a b, cs = a ++ b ∧ ok a ∧ OkN ok n b
def OkC (P : Program) : Nat → TypeId → List AVal → Prop
  | 0, _, _ => False
  | n + 1, t, cs =>
    match P.underlying t with
    | some (.int k) => ∃ x, cs = [.int k x] ∧ k.min ≤ x ∧ x ≤ k.max
    | some .bool => ∃ b, cs = [.bool b]
    | some .string => ∃ s, cs = [.str s] ∧ s.length ≤ 140737488351232
    | some (.slice e) => ∃ es, cs = [.sl false (shp P e) es] ∧ es.length * bytesOf P e ≤ 140737488351232 ∧ ∀ x ∈ es, okEl (shp P e) x ∧ OkC P n e x.cells
    | some (.struct fs) => OkF (OkC P n) fs.toList cs
    | some (.array len e) => OkN (OkC P n e) len cs
    | _ => False
def contig (P : Program) : Nat → List Field → Option Nat
  | off, [] => some off
  | off, f :: r => bif f.offset == off then contig P (off + szOf P f.type) r else none
def plainT (P : Program) : Nat → TypeId → Bool
  | 0, _ => false
  | n + 1, t =>
    match P.underlying t with
    | some (.int _) | some .bool | some .string => szOf P t == 1
    | some (.slice e) => (szOf P t == 1) && decide (0 < szOf P e) && (aggT P e || szOf P e == 1) && plainT P n e
    | some (.struct fs) => (contig P 0 fs.toList == some (szOf P t)) && fs.toList.all fun f => plainT P n f.type
    | some (.array len e) => (szOf P t == len * szOf P e) && plainT P n e
    | _ => false

theorem each_all {p : Nat → Bool} : ∀ (ts : List TypeId) (ds : List (DataW H)), (DataW.weightsEach P ts ds).all p = true → ∀ (i : Nat) (t : TypeId) (d : DataW H), ts[i]? = some t → ds[i]? = some d → (d.weights P t).all p = true
  | [], _, _, i, t, d, h, _ => by simp at h
  | _ :: _, [], _, i, t, d, _, h => by simp at h
  | t' :: ts, d' :: ds, h, i, t, d, h1, h2 => by
    simp only [DataW.weightsEach, List.all_append, Bool.and_eq_true] at h
    cases i with
    | zero => simp at h1 h2; subst h1; subst h2; exact h.1
    | succ i => exact each_all ts ds h.2 i t d (by simpa using h1) (by simpa using h2)
theorem all_all {p : Nat → Bool} {e : TypeId} : ∀ (ds : List (DataW H)), (DataW.weightsAll P e ds).all p = true → ∀ (i : Nat) (d : DataW H), ds[i]? = some d → (d.weights P e).all p = true
  | [], _, i, d, h => by simp at h
  | d' :: ds, h, i, d, h2 => by
    simp only [DataW.weightsAll, List.all_append, Bool.and_eq_true] at h
    cases i with
    | zero => simp at h2; subst h2; exact h.1
    | succ i => exact all_all ds h.2 i d (by simpa using h2)

theorem contig_ok {W : World} {ok : TypeId → List AVal → Prop} {tot : Nat} : ∀ (fs : List Field) (xs : List (DataW H)) (off : Nat) (cs : List Value), contig P off fs = some tot → cs.length = tot → xs.length = fs.length →
    (∀ (i : Nat) f d, fs[i]? = some f → xs[i]? = some d → ((cs.drop f.offset).take (szOf P f.type)).length = szOf P f.type ∧ ∃ as, RepLs (wholeCtx W) ((cs.drop f.offset).take (szOf P f.type)) as ∧ ok f.type as ∧ ∀ B, BulkOk B → bulkL as ≤ B d) →
    ∃ as, RepLs (wholeCtx W) (cs.drop off) as ∧ OkF ok fs as ∧ ∀ B, BulkOk B → bulkL as ≤ (xs.map B).sum
  | [], xs, off, cs, h, hl, _, _ => by
    simp only [contig, Option.some.injEq] at h
    have : cs.drop off = [] := List.drop_eq_nil_iff.2 (by omega)
    exact ⟨[], by rw [this]; exact RepLs.nil _, rfl, fun B _ => by simp [bulkL]⟩
  | f :: fs, [], off, cs, h, hl, hx, _ => by simp at hx
  | f :: fs, d :: xs, off, cs, h, hl, hx, hf => by
    simp only [contig] at h
    cases ho : f.offset == off <;> simp only [ho, cond_true, cond_false, reduceCtorEq] at h
    have ho' : f.offset = off := by simpa using ho
    obtain ⟨as, hr, hok, hbk⟩ := contig_ok fs xs (off + szOf P f.type) cs h hl (by simpa using hx) (fun i g e hg he => hf (i + 1) g e (by simpa using hg) (by simpa using he))
    obtain ⟨hlen, bs, hr1, hok1, hbk1⟩ := hf 0 f d rfl rfl
    rw [ho'] at hlen hr1
    refine ⟨bs ++ as, ?_, ⟨bs, as, rfl, hok1, hok⟩, fun B hB => ?_⟩
    · have : cs.drop off = (cs.drop off).take (szOf P f.type) ++ cs.drop (off + szOf P f.type) := by
        rw [← List.drop_drop, List.take_append_drop]
      rw [this]
      exact hr1.append hr
    · have h1 := hbk B hB
      have h2 := hbk1 B hB
      rw [bulkL_append]
      simp only [List.map_cons, List.sum_cons]
      omega

theorem repeat_ok {W : World} {ok : List AVal → Prop} {k : Nat} : ∀ (n : Nat) (xs : List (DataW H)) (cs : List Value), cs.length = n * k → xs.length = n →
    (∀ (i : Nat) d, i < n → xs[i]? = some d → ∃ as, RepLs (wholeCtx W) ((cs.drop (i * k)).take k) as ∧ ok as ∧ ∀ B, BulkOk B → bulkL as ≤ B d) → ∃ as, RepLs (wholeCtx W) cs as ∧ OkN ok n as ∧ ∀ B, BulkOk B → bulkL as ≤ (xs.map B).sum
  | 0, xs, cs, hl, _, _ => by
    have : cs = [] := by rw [← List.length_eq_zero_iff, hl]; simp
    subst this
    exact ⟨[], RepLs.nil _, rfl, fun B _ => by simp [bulkL]⟩
  | n + 1, [], cs, hl, hx, h => by simp at hx
  | n + 1, d :: xs, cs, hl, hx, h => by
    obtain ⟨bs, hr1, hok1, hbk1⟩ := h 0 d (by omega) rfl
    obtain ⟨as, hr, hok, hbk⟩ := repeat_ok (W := W) (ok := ok) (k := k) n xs (cs.drop k) (by rw [List.length_drop, hl, Nat.succ_mul]; omega) (by simpa using hx) (fun i e hi he => by
      obtain ⟨as, h1, h2⟩ := h (i + 1) e (by omega) (by simpa using he)
      refine ⟨as, ?_, h2⟩
      rw [List.drop_drop]
      rw [Nat.succ_mul] at h1
      rwa [Nat.add_comm] at h1)
    simp only [Nat.zero_mul, List.drop_zero] at hr1
    refine ⟨bs ++ as, ?_, ⟨bs, as, rfl, hok1, hok⟩, fun B hB => ?_⟩
    · have := hr1.append hr
      rwa [List.take_append_drop] at this
    · have h1 := hbk B hB
      have h2 := hbk1 B hB
      rw [bulkL_append]
      simp only [List.map_cons, List.sum_cons]
      omega

theorem reads_ok : ∀ (n : Nat) (t : TypeId) (cs : List Value) (x : DataW H × List MemPlace) (m : Nat), plainT P n t = true → DataW.trod enc P W 0 (fun _ => true) true m t cs = some x →
    (x.1.weights P t).all (fun k => decide (k ≤ reachBytes)) = true → cs.length = szOf P t ∧ ∃ as, RepLs (wholeCtx W) cs as ∧ OkC P n t as ∧ ∀ B, BulkOk B → bulkL as ≤ B x.1
  | 0, t, cs, x, m, h, _, _ => by simp [plainT] at h
  | n + 1, t, cs, x, m, hp, h, hw => by
    unfold plainT at hp
    unfold OkC
    split at hp
    · rename_i k hu
      obtain ⟨z, rfl, _, hwf⟩ := DataW.trod_int hu h


      simp [Lit.wf] at hwf
      exact ⟨by simpa using (eq_of_beq hp).symm, _, RepLs.one (.int k z) rfl, ⟨z, rfl, hwf.1, hwf.2⟩, fun B hB => by simpa [bulkL, AVal.bulk] using hB.pos _⟩
    · rename_i hu
      obtain ⟨b, rfl, _⟩ := DataW.trod_bool hu h

      exact ⟨by simpa using (eq_of_beq hp).symm, _, RepLs.one (.bool b) rfl, ⟨b, rfl⟩, fun B hB => by simpa [bulkL, AVal.bulk] using hB.pos _⟩
    · rename_i hu
      obtain ⟨s, rfl, rfl, _⟩ := DataW.trod_string hu h

      simp only [DataW.weights, List.all_cons, List.all_nil, Bool.and_true, decide_eq_true_eq] at hw
      exact ⟨by simpa using (eq_of_beq hp).symm, _, RepLs.one (.str s) rfl, ⟨_, rfl, hw⟩, fun B hB => by have := hB.str s.data.toList; simp only [bulkL, AVal.bulk, Nat.add_zero]; exact this⟩
    · rename_i e hu
      simp only [Bool.and_eq_true, beq_iff_eq, decide_eq_true_eq] at hp
      obtain ⟨⟨⟨h1, hpos⟩, hag⟩, hpe⟩ := hp

      refine ⟨by rcases DataW.trod_slice hu h with ⟨rfl, _⟩ | ⟨_, _, _, _, _, _, _, rfl, _⟩ <;> simp [h1], ?_⟩
      rcases DataW.trod_slice hu h with ⟨rfl, rfl⟩ | ⟨a, len, cap, elems, rest, k, _, rfl, rfl, _, hl, hm, hlen, hel, hsp, _⟩
      · exact ⟨_, RepLs.one (.slnil none false (shp P e)) rfl, ⟨[], rfl, by simp, by simp⟩, fun B hB => by simpa [bulkL, AVal.bulk] using hB.pos _⟩
      · simp only [DataW.weights, hu, List.all_cons, List.all_append, Bool.and_eq_true, decide_eq_true_eq, List.length_map] at hw
        obtain ⟨hbytes, hwe, _⟩ := hw
        have hcells : P.cellsOf e = szOf P e := rfl
        have hcnt : cnt (shp P e) = szOf P e := by
          unfold shp cnt
          cases ha : aggT P e
          · simp [ha] at hag ⊢; exact hag.symm
          · simp
        have each : ∀ i, ∃ p : List Value × List AVal, i < len → W.cells? 0 (a.add (i * szOf P e)) (szOf P e) = some p.1 ∧ p.1.length = szOf P e ∧ RepLs (wholeCtx W) p.1 p.2 ∧ OkC P n e p.2 ∧ ∀ B, BulkOk B → ∀ d, (elems.map (·.1))[i]? = some d → bulkL p.2 ≤ B d := fun i => by
          by_cases hi : i < len
          · have hi' : i < elems.length := by omega
            have h2 := hel i hi
            rw [List.getElem?_eq_getElem hi'] at h2
            obtain ⟨ci, hc1, hc2⟩ := Option.bind_eq_some_iff.1 h2
            obtain ⟨hl3, as, hr3, hok3, hbk3⟩ := reads_ok n e ci _ k hpe hc2 (all_all _ hwe i _ (by simp [hi']))
            exact ⟨(ci, as), fun _ => ⟨hc1, hl3, hr3, hok3, fun B hB d hd => by
              simp [hi'] at hd
              rw [← hd]; exact hbk3 B hB⟩⟩
          · exact ⟨([], []), fun h => absurd h hi⟩
        obtain ⟨f, hf⟩ := Classical.axiomOfChoice each
        have hwrap : ∀ i, i < len → okEl (shp P e) (bif aggT P e then .agg (f i).2 else (f i).2.getD 0 .undef) ∧ (bif aggT P e then AVal.agg (f i).2 else (f i).2.getD 0 .undef).cells = (f i).2 := fun i hi => by
          obtain ⟨_, h4, h5, _⟩ := hf i hi
          have h6 : (f i).2.length = szOf P e := by rw [← h5.1]; exact h4
          cases ha : aggT P e
          · simp only [cond_false]
            have hs1 : szOf P e = 1 := by simpa [ha] using hag
            have h7 := (h5.2 0 (by omega)).2
            have h8 : (f i).2 = [(f i).2.getD 0 .undef] := by
              apply List.ext_getElem?
              intro j
              rcases j with _ | j
              · have : 0 < (f i).2.length := by omega
                simp [this]
              · rw [List.getElem?_eq_none (by omega)]; simp
            have h9 : ((f i).2.getD 0 AVal.undef).cells = [(f i).2.getD 0 .undef] := by
              generalize (f i).2.getD 0 AVal.undef = q at h7
              cases q <;> first | rfl | simp [AVal.isAgg] at h7
            refine ⟨⟨by rw [h7]; simp [shp, ha], by rw [h9]; simp [shp, ha, cnt], fun y hy => ?_⟩, by rw [h9]; exact h8.symm⟩
            rw [h9] at hy
            simp only [List.mem_singleton] at hy
            rw [hy]; exact h7
          · simp only [cond_true]
            refine ⟨⟨by simp [AVal.isAgg, shp, ha], by rw [hcnt]; exact h6, fun y hy => ?_⟩, rfl⟩
            obtain ⟨j, hj, rfl⟩ := List.getElem_of_mem hy
            have := (h5.2 j hj).2
            simp only [AVal.cells] at hj
            simpa [hj, AVal.cells] using this
        refine ⟨[.sl false (shp P e) ((List.range len).map fun i => bif aggT P e then .agg (f i).2 else (f i).2.getD 0 .undef)], RepLs.one ?_ rfl, ⟨_, rfl, ?_, ?_⟩, fun B hB => ?_⟩
        · by_cases hc0 : cap = 0
          · have hl0 : len = 0 := by omega
            subst hc0; subst hl0
            exact .slnil _ _ _
          · have hcell0 : ∃ v, W.cell? a = some v := by
              by_cases hl0 : len = 0
              · subst hl0
                obtain ⟨hrl, hr⟩ := hsp rfl
                have h2 := hr 0 (by omega)
                have hr0 : 0 < rest.length := by omega
                rw [List.getElem?_eq_getElem hr0] at h2
                obtain ⟨ci, hc1, _⟩ := Option.bind_eq_some_iff.1 h2
                rw [hcells] at hc1
                have := (cells_at hc1).2 0 hpos
                simp only [Nat.add_zero, Nat.zero_mul, Addr.add, if_true] at this
                exact ⟨_, this⟩
              · have := (cells_at (hf 0 (by omega)).1).2 0 hpos
                simp only [Nat.zero_mul, Addr.add, if_true] at this
                exact ⟨_, this⟩
            obtain ⟨v0, hv0⟩ := hcell0
            have ha0 := cell_spot hv0
            generalize a.block = b at ha0
            generalize a.off = off at ha0
            subst ha0
            obtain ⟨lim, hκ, hlim⟩ := whole_cell hv0
            have hat : ∀ i j, i < len → j < szOf P e → W.cell? ⟨b, off + i * szOf P e + j, none⟩ = some ((f i).1.getD j undef) := fun i j hi hj => by
              have := (cells_at (hf i hi).1).2 j hj
              rw [add_at, add_at] at this
              exact this
            have hlen2 : ((List.range len).map fun i => bif aggT P e then AVal.agg (f i).2 else (f i).2.getD 0 .undef).length = len := by simp
            have := Rep.sl (c := wholeCtx W) b off cap lim false (shp P e) ((List.range len).map fun i => bif aggT P e then .agg (f i).2 else (f i).2.getD 0 .undef) (fun i j => (f i).1.getD j undef)
              (by rw [hlen2]; exact hl) (by simp) hκ (by
                rw [hlen2, hcnt]
                by_cases hl0 : len = 0
                · subst hl0; simp; omega
                · obtain ⟨l', rfl⟩ : ∃ l', len = l' + 1 := ⟨len - 1, by omega⟩
                  obtain ⟨lim', hκ', hlt⟩ := whole_cell (hat l' (szOf P e - 1) (by omega) (by omega))
                  rw [hκ] at hκ'
                  simp only [Option.some.injEq] at hκ'
                  rw [Nat.succ_mul]
                  omega) (fun y hy => by
                obtain ⟨i, hi, rfl⟩ := List.mem_map.1 hy
                exact (hwrap i (by simpa using hi)).1) (fun i j hi hj => by
                rw [hlen2] at hi
                rw [hcnt] at hj ⊢
                exact hat i j hi hj) (fun i j hi hj => by
                rw [hlen2] at hi
                rw [hcnt] at hj
                have e1 : ((List.range len).map fun i => bif aggT P e then AVal.agg (f i).2 else (f i).2.getD 0 .undef).getD i .undef = (bif aggT P e then AVal.agg (f i).2 else (f i).2.getD 0 .undef) := by simp [hi]
                rw [e1, (hwrap i hi).2]
                obtain ⟨_, h4, h5, _⟩ := hf i hi
                exact (h5.2 j (by rw [← h5.1, h4]; exact hj)).1)
            rw [hlen2] at this
            exact this
        · simp only [List.length_map, List.length_range]
          have : (elems.length + rest.length) * P.bytesOf e ≤ 140737488351232 := hbytes
          rw [Nat.add_mul, hlen] at this
          have e : P.bytesOf e = bytesOf P e := rfl
          rw [e] at this
          omega
        · intro y hy
          obtain ⟨i, hi, rfl⟩ := List.mem_map.1 hy
          have hi' : i < len := by simpa using hi
          obtain ⟨h7, h8⟩ := hwrap i hi'
          exact ⟨h7, by rw [h8]; exact (hf i hi').2.2.2.1⟩
        · have h1 := bulk_sum (B := B) ((List.range len).map fun i => bif aggT P e then AVal.agg (f i).2 else (f i).2.getD 0 .undef) (elems.map (·.1)) (by simp [hlen]) (fun i d hi hd => by
            have hi' : i < len := by simpa using hi
            have h9 := (hf i hi').2.2.2.2 B hB d hd
            have h10 : bulkL (bif aggT P e then AVal.agg (f i).2 else (f i).2.getD 0 .undef).cells = bulkL (f i).2 := by rw [(hwrap i hi').2]
            have h11 : ((List.range len).map fun i => bif aggT P e then AVal.agg (f i).2 else (f i).2.getD 0 .undef).getD i .undef = (bif aggT P e then AVal.agg (f i).2 else (f i).2.getD 0 .undef) := by simp [hi']
            rw [h11]
            refine Nat.le_trans (Nat.le_of_eq ?_) h9
            rw [← h10]
            generalize (bif aggT P e then AVal.agg (f i).2 else (f i).2.getD 0 .undef) = q
            cases q <;> simp [AVal.cells, bulkL, AVal.bulk])
          have h2 := hB.sl (elems.map (·.1)) (rest.map (·.1))
          simp only [bulkL, AVal.bulk]
          omega
    · rename_i fs hu
      simp only [Bool.and_eq_true, beq_iff_eq, List.all_eq_true] at hp
      obtain ⟨hc, hall⟩ := hp

      obtain ⟨xs, k, _, rfl, hl, hxl, hx⟩ := DataW.trod_struct hu h
      simp only [DataW.weights, hu] at hw
      refine ⟨hl, ?_⟩
      obtain ⟨as, h3, h4, h5⟩ := contig_ok (W := W) (ok := OkC P n) fs.toList (xs.map (·.1)) 0 cs hc hl (by simpa using hxl) (fun i f d hf hd => by
        obtain ⟨hi, rfl⟩ := List.getElem?_eq_some_iff.1 hf
        have hi' : i < fs.size := by simpa using hi
        have h2 := hx i fs.toList[i] (by simp [hi'])
        have hi2 : i < xs.length := by omega
        rw [List.getElem?_eq_getElem hi2] at h2
        simp [hi2] at hd
        subst hd
        exact reads_ok n _ _ _ k (hall _ (List.mem_of_getElem? hf)) h2 (each_all _ _ hw i _ _ (by simp [hi']) (by simp [hi2])))
      exact ⟨as, by simpa using h3, h4, fun B hB => Nat.le_trans (h5 B hB) (hB.agg _)⟩
    · rename_i len e hu
      simp only [Bool.and_eq_true, beq_iff_eq] at hp
      obtain ⟨hs, hpe⟩ := hp

      obtain ⟨xs, k, _, rfl, hl, hxl, hx⟩ := DataW.trod_array hu h
      simp only [DataW.weights, hu] at hw
      have hl' : cs.length = len * szOf P e := hl.trans hs
      obtain ⟨as, h3, h4, h5⟩ := repeat_ok (W := W) (ok := OkC P n e) (k := szOf P e) len (xs.map (·.1)) cs hl' (by simpa using hxl) (fun i d hi hd => by
        have h2 := hx i hi
        have hi2 : i < xs.length := by omega
        rw [List.getElem?_eq_getElem hi2] at h2
        simp [hi2] at hd
        subst hd
        exact (reads_ok n _ _ _ k hpe h2 (all_all _ hw i _ (by simp [hi2]))).2)
      exact ⟨hl, as, h3, h4, fun B hB => Nat.le_trans (h5 B hB) (hB.agg _)⟩
    · simp at hp

/-- A value of a type, as one. -/
def OkV (P : Program) (n : Nat) (t : TypeId) (a : AVal) : Prop := a.isAgg = aggT P t ∧ OkC P n t a.cells

theorem okWide_shape {r : Reach} {b0 n : Nat} {t : TypeId} {v : Value} (hp : plainT P n t = true) (h : Value.okWide P W r b0 t v) : (aggT P t = true ∧ ∃ xs, v = .agg xs) ∨ (aggT P t = false ∧ v.cells = #[v]) := by
  cases n with
  | zero => simp [plainT] at hp
  | succ n =>
    unfold plainT at hp
    unfold Value.okWide at h
    unfold aggT
    split at hp <;> rename_i hu <;> simp only [hu] at h ⊢
    · right; refine ⟨trivial, ?_⟩; simp only [Cell.okWide, hu, Cell.ok] at h; cases v <;> first | rfl | exact h.elim
    · right; refine ⟨trivial, ?_⟩; simp only [Cell.okWide, hu, Cell.ok] at h; cases v <;> first | rfl | exact h.elim
    · right; refine ⟨trivial, ?_⟩; simp only [Cell.okWide, hu, Cell.ok] at h; cases v <;> first | rfl | exact h.elim
    · right; refine ⟨trivial, ?_⟩; simp only [Cell.okWide, hu, Cell.ok] at h; cases v <;> first | rfl | exact h.elim
    · left; obtain ⟨cs, rfl, _⟩ := h; exact ⟨trivial, cs, rfl⟩
    · left; obtain ⟨cs, rfl, _⟩ := h; exact ⟨trivial, cs, rfl⟩
    · simp at hp

theorem value_reads {r : Reach} {b0 n : Nat} {t : TypeId} {v : Value} {d : DataW H} {ps : List MemPlace} (hp : plainT P n t = true) (hok : Value.okWide P W r b0 t v) (h : DataW.Trod enc P W 0 (fun _ => true) true t v d ps)
    (hw : (d.weights P t).all (fun k => decide (k ≤ reachBytes)) = true) : ∃ a, Rep (wholeCtx W) v a ∧ OkV P n t a ∧ ∀ B, BulkOk B → a.bulk ≤ B d := by
  obtain ⟨m, h⟩ := h
  obtain ⟨hl, as, hr, hc, hbk⟩ := reads_ok n t _ _ m hp h hw
  rcases okWide_shape hp hok with ⟨ha, xs, rfl⟩ | ⟨ha, hv⟩
  · refine ⟨.agg as, .agg xs as (by simpa [Value.cells] using hr.1) (fun y hy => ?_) (fun j hj => ?_), ⟨by simp [AVal.isAgg, ha], hc⟩, fun B hB => by simpa [AVal.bulk] using hbk B hB⟩
    · obtain ⟨j, hj, rfl⟩ := List.getElem_of_mem hy
      have := (hr.2 j hj).2
      simpa [hj] using this
    · have := (hr.2 j hj).1
      simpa [Value.cells, Array.getD_eq_getD_getElem?, List.getD_eq_getElem?_getD] using this
  · rw [hv] at hr
    have h1 : as.length = 1 := by have := hr.1; simp at this; exact this.symm
    match as, h1 with
    | [a], _ =>
      have := hr.2 0 (by simp)
      simp only [List.getD_cons_zero] at this
      have e : a.cells = [a] := by
        have h2 := this.2
        cases a <;> first | rfl | simp [AVal.isAgg] at h2
      exact ⟨a, this.1, ⟨by rw [this.2, ha], by rw [e]; exact hc⟩, fun B hB => by simpa [bulkL] using hbk B hB⟩

def ArgsOk (P : Program) (n : Nat) : List TypeId → List AVal → Prop
  | [], as => as = []
  | t :: ts, as => ∃ a r, as = a :: r ∧ OkV P n t a ∧ ArgsOk P n ts r

theorem args_reads {r : Reach} {b0 n : Nat} : ∀ (ts : List TypeId) (vs : List Value) (ds : List (DataW H)) (ps : List MemPlace), ts.all (plainT P n) = true →
    (∀ (j : Nat) t v, ts[j]? = some t → vs[j]? = some v → Value.okWide P W r b0 t v) → DataW.TrodAll enc P W 0 (fun _ => true) true ts vs ds ps →
    (DataW.weightsEach P ts ds).all (fun k => decide (k ≤ reachBytes)) = true → ∃ as, vs.length = as.length ∧ (∀ j, j < as.length → Rep (wholeCtx W) (vs.getD j undef) (as.getD j .undef)) ∧ ArgsOk P n ts as ∧ ∀ B, BulkOk B → bulkL as ≤ (ds.map B).sum
  | [], [], ds, ps, _, _, _, _ => ⟨[], rfl, fun j hj => by simp at hj, rfl, fun B _ => by simp [bulkL]⟩
  | [], _ :: _, [], _, _, _, h, _ => h.elim
  | [], _ :: _, _ :: _, _, _, _, h, _ => h.elim
  | _ :: _, [], [], _, _, _, h, _ => h.elim
  | _ :: _, [], _ :: _, _, _, _, h, _ => h.elim
  | _ :: _, _ :: _, [], _, _, _, h, _ => h.elim
  | t :: ts, v :: vs, d :: ds, ps, hp, hok, ⟨p, q, h1, h2, _⟩, hw => by
    simp only [List.all_cons, Bool.and_eq_true] at hp
    simp only [DataW.weightsEach, List.all_append, Bool.and_eq_true] at hw
    obtain ⟨a, hr, ha, hba⟩ := value_reads hp.1 (hok 0 t v rfl rfl) h1 hw.1
    obtain ⟨as, hl, hrs, has, hbs⟩ := args_reads ts vs ds q hp.2 (fun j t v h3 h4 => hok (j + 1) t v (by simpa using h3) (by simpa using h4)) h2 hw.2
    refine ⟨a :: as, by simp [hl], fun j hj => ?_, ⟨a, as, rfl, ha, has⟩, fun B hB => by
      have h1 := hba B hB
      have h2 := hbs B hB
      simp only [bulkL, List.map_cons, List.sum_cons]
      omega⟩
    cases j with
    | zero => exact hr
    | succ j => simpa using hrs j (by simpa using hj)

theorem trodAll_stays (hl : laidOutB P = true) {W' : World} (hb : ∀ k, k < W.heap.size → W'.heap[k]? = W.heap[k]?) : ∀ (ts : List TypeId) (vs : List Value) (ds : List (DataW H)) (ps : List MemPlace),
    ts.all (fun t => P.readableRec t && decide (t < P.types.size)) = true → DataW.TrodAll enc P W 0 (fun _ => true) true ts vs ds ps → DataW.TrodAll enc P W' 0 (fun b => decide (b < W.heap.size)) true ts vs ds ps
  | [], [], [], ps, _, h => h
  | [], [], _ :: _, _, _, h => h.elim
  | [], _ :: _, [], _, _, h => h.elim
  | [], _ :: _, _ :: _, _, _, h => h.elim
  | _ :: _, [], [], _, _, h => h.elim
  | _ :: _, [], _ :: _, _, _, h => h.elim
  | _ :: _, _ :: _, [], _, _, h => h.elim
  | t :: ts, v :: vs, d :: ds, ps, hp, ⟨p, q, h1, h2, e⟩ => by
    simp only [List.all_cons, Bool.and_eq_true, decide_eq_true_eq] at hp
    have hlt : ∀ x ∈ p, x.block < W.heap.size := by obtain ⟨m, hm⟩ := h1; exact DataW.trod_lt m _ _ _ hm
    refine ⟨p, q, WideElems.Trod_stays hl hp.1.1 hp.1.2 h1 (fun x hx => ?_) (fun x hx => by simpa using hlt x hx), trodAll_stays hl hb ts vs ds q (by simpa using hp.2) h2, e⟩
    cases x with
    | cell b o => exact World.cell?_of_block (w := W) (hb b (hlt _ hx))
    | map b => exact hb b (hlt _ hx)

/-- The scene of a call from outside. -/
theorem whole_rel (W : World) : HRel (wholeCtx W) (fun _ => none) ⟨[]⟩ ∧ BRel (wholeCtx W) (fun _ => none) :=
  ⟨{ n := rfl, obj := fun id o h => by simp at h, κ := fun id h => by simp [wholeCtx] at h, inj := fun id id' h => by simp [wholeCtx] at h },
   { blk := fun o b h => by simp at h, κ := fun o b h => by simp at h, inj := fun o o' b h => by simp at h, lim := fun b l h => by
      simp only [wholeCtx] at h ⊢
      split at h
      · rename_i hc; exact (Array.getElem?_eq_some_iff.1 hc).1
      · simp at h
     cl := fun id o b h => by simp at h }⟩

/-- A LAW: what the evaluator answers to every typed argument, the statement's contract. -/
theorem law_core {C : Cfg} {f : FuncId} {fn : Func} {s : ChangeSpec} {n : Nat} {tb : TypeId} (W : World) (hm : C.P.follows .mixedOrders = true) (hdst : DstOK C.P) (hext : ExtOK C (wholeCtx W)) (hann : (C.ann f).pown = [] ∧ (C.ann f).rown = [])
    (hlaid : laidOutB C.P = true) (hpl : fn.params.toList.all (plainT C.P n) = true) (hread : fn.params.toList.all (fun t => C.P.readableRec t && decide (t < C.P.types.size)) = true)
    (hres : fn.resultTypes = #[tb]) (htb : C.P.underlying tb = some .bool) (hvars : s.vars = [])
    (hs : ∀ (ds : List (DataW H)), ds.length = fn.params.toList.length → (s.fn H ds).results = [.lit (.bool true)] ∧ (s.fn H ds).args = ds ∧ (s.fn H ds).vars = [])
    (base : Nat) (args : Array Value) (ds gs : List (DataW H)) (before : List MemPlace)
    (hlaw : ∀ as, ArgsOk C.P n fn.params.toList as → (∀ B, BulkOk B → bulkL as ≤ (ds.map B).sum) → ∃ d, (evFn C d f as ⟨[]⟩).All fun r => r.1 = [.bool true])
    (hval : ∀ (j : Nat) t v, fn.params[j]? = some t → args[j]? = some v → Value.okWide C.P W .any base t v)
    (hW : DataW.Whole enc C.P fn.params.toList s.vars false W args.toList ds gs before)
    (hsz : (DataW.weightsEach C.P (fn.params.toList ++ s.plain.varTypes C.P) (ds ++ gs)).all (· ≤ reachBytes) = true) :
    Calls C.P f args W fun e W' => ∃ v, e = .returned v ∧ s.post enc C.P fn false true false false W args v W' := by
  have hW0 := hW
  obtain ⟨p, q, hA, hV, rfl, hfz, hnd⟩ := hW
  rw [hvars] at hV
  have hgs : gs = [] ∧ q = [] := by
    cases gs with
    | nil => exact ⟨rfl, hV⟩
    | cons g gs => exact hV.elim
  obtain ⟨rfl, rfl⟩ := hgs
  have hlen : ∀ (ts : List TypeId) (vs : List Value) (ds : List (DataW H)) (ps : List MemPlace), DataW.TrodAll enc C.P W 0 (fun _ => true) true ts vs ds ps → ds.length = ts.length := by
    intro ts
    induction ts with
    | nil => intro vs ds ps h; cases vs <;> cases ds <;> first | rfl | exact h.elim
    | cons t ts ih =>
      intro vs ds ps h
      cases vs <;> cases ds <;> first | exact h.elim | skip
      obtain ⟨_, _, _, h2, _⟩ := h
      simpa using ih _ _ _ h2
  have hdl := hlen _ _ _ _ hA
  have hsz' : (DataW.weightsEach C.P fn.params.toList ds).all (fun k => decide (k ≤ reachBytes)) = true := by
    have key : ∀ (ts us : List TypeId) (ds : List (DataW H)), ds.length = ts.length → DataW.weightsEach C.P (ts ++ us) (ds ++ []) = DataW.weightsEach C.P ts ds := by
      intro ts us
      induction ts with
      | nil =>
        intro ds h
        have : ds = [] := List.length_eq_zero_iff.1 (by simpa using h)
        subst this
        cases us <;> simp [DataW.weightsEach]
      | cons t ts ih =>
        intro ds h
        cases ds with
        | nil => simp at h
        | cons d ds => simp only [List.cons_append, DataW.weightsEach]; rw [ih ds (by simpa using h)]
    rwa [key _ _ _ hdl] at hsz
  obtain ⟨as, hl, hrep, hok, hbk⟩ := args_reads (r := .any) (b0 := base) fn.params.toList args.toList ds p hpl (fun j t v h1 h2 => hval j t v (by simpa using h1) (by simpa using h2)) hA hsz'
  obtain ⟨d, hd⟩ := hlaw as hok hbk
  obtain ⟨hh, hb⟩ := whole_rel W
  have hcall := (evFn_ok hm hdst hext d).2 f as ⟨[]⟩ _ hd (wholeCtx W) (fun _ => none) args (Ctx.le_refl _) hh hb (fun id kt es c h => by simp at h) (by simpa using hl) (fun j hj => by
    rw [hann.1]
    have := hrep j hj
    simp only [Array.getD_eq_getD_getElem?, List.getD_eq_getElem?_getD] at this ⊢
    simpa [cvIn, RepC, RepS] using this)
  refine hcall.mono ?_
  rintro e W' ⟨xs, c', β', r, rfl, hw', o, hr⟩
  have hx1 : xs.size = 1 := by rw [o.len, hr]; rfl
  have hxv : xs.getD 0 undef = .bool true := by
    have := o.res 0 (by rw [hr]; simp)
    rw [hr, hann.2] at this
    have this : Rep c' (xs.getD 0 undef) (.bool true) := this
    generalize xs.getD 0 undef = v at this
    cases this; rfl
  have hv : resultOf xs = .bool true := by
    unfold resultOf
    rw [dif_pos hx1]
    have : xs.getD 0 undef = xs[0] := by simp [hx1]
    rw [← this]; exact hxv
  have hblk : ∀ k, k < W.heap.size → W'.heap[k]? = W.heap[k]? := fun k hk => by
    rw [← hw']
    refine (o.pres.same k ?_).1
    rintro (h1 | (⟨id, h1, _⟩ | ⟨id, j, h1⟩) | ⟨g, h1⟩)
    · simp only [callBs, wholeCtx] at h1; omega
    · simp [wholeCtx] at h1
    · simp at h1
    · simp at h1
  obtain ⟨hs1, hs2, hs3⟩ := hs (ds ++ []) (by simpa using hdl)
  refine ⟨_, rfl, ds, [], p ++ [], [], p, [], hW0, ?_, ?_, ?_, ?_, fun h => by cases h⟩
  · rw [hv, hs1, hres]
    exact Go.ChangeShapes.trodAll_mk1 ⟨1, by simp [DataW.trod, Value.cells, htb]⟩
  · rw [hs2, List.append_nil]
    exact trodAll_stays hlaid hblk _ _ _ _ hread hA
  · rw [hs3, hvars]; rfl
  · have hio := o.pres.io
    rw [hw'] at hio
    refine ⟨hio.1, hio.2, fun i hi => ?_⟩
    rw [hblk i hi]
    split <;> simp_all

theorem law_contract {C : Cfg} {f : FuncId} {fn : Func} {s : ChangeSpec} {n : Nat} {tb : TypeId} (hm : C.P.follows .mixedOrders = true) (hdst : DstOK C.P) (hext : ∀ W, ExtOK C (wholeCtx W)) (hann : (C.ann f).pown = [] ∧ (C.ann f).rown = [])
    (hlaid : laidOutB C.P = true) (hpl : fn.params.toList.all (plainT C.P n) = true) (hread : fn.params.toList.all (fun t => C.P.readableRec t && decide (t < C.P.types.size)) = true)
    (hres : fn.resultTypes = #[tb]) (htb : C.P.underlying tb = some .bool) (hvars : s.vars = [])
    (hs : ∀ (ds : List (DataW H)), ds.length = fn.params.toList.length → (s.fn H ds).results = [.lit (.bool true)] ∧ (s.fn H ds).args = ds ∧ (s.fn H ds).vars = [])
    (hlaw : ∀ as, ArgsOk C.P n fn.params.toList as → ∃ d, (evFn C d f as ⟨[]⟩).All fun r => r.1 = [.bool true])
    (W : World) (base : Nat) (args : Array Value) (ds gs : List (DataW H)) (before : List MemPlace)
    (hval : ∀ (j : Nat) t v, fn.params[j]? = some t → args[j]? = some v → Value.okWide C.P W .any base t v)
    (hW : DataW.Whole enc C.P fn.params.toList s.vars false W args.toList ds gs before)
    (hsz : (DataW.weightsEach C.P (fn.params.toList ++ s.plain.varTypes C.P) (ds ++ gs)).all (· ≤ reachBytes) = true) :
    Calls C.P f args W fun e W' => ∃ v, e = .returned v ∧ s.post enc C.P fn false true false false W args v W' :=
  law_core W hm hdst (hext W) hann hlaid hpl hread hres htb hvars hs base args ds gs before (fun as h _ => hlaw as h) hval hW hsz
/-- As above; functions with contracts of their own lean on what stands in the memory at the beginning. -/
theorem law_contract_laid {C : Cfg} {f : FuncId} {fn : Func} {s : ChangeSpec} {n : Nat} {tb : TypeId} (hm : C.P.follows .mixedOrders = true) (hdst : DstOK C.P) (hann : (C.ann f).pown = [] ∧ (C.ann f).rown = [])
    (hlaid : laidOutB C.P = true) (hpl : fn.params.toList.all (plainT C.P n) = true) (hread : fn.params.toList.all (fun t => C.P.readableRec t && decide (t < C.P.types.size)) = true)
    (hres : fn.resultTypes = #[tb]) (htb : C.P.underlying tb = some .bool) (hvars : s.vars = [])
    (hs : ∀ (ds : List (DataW H)), ds.length = fn.params.toList.length → (s.fn H ds).results = [.lit (.bool true)] ∧ (s.fn H ds).args = ds ∧ (s.fn H ds).vars = [])
    (hlaw : ∀ as, ArgsOk C.P n fn.params.toList as → ∃ d, (evFn C d f as ⟨[]⟩).All fun r => r.1 = [.bool true])
    (W : World) (hext : ExtOK C (wholeCtx W)) (base : Nat) (args : Array Value) (ds gs : List (DataW H)) (before : List MemPlace)
    (hval : ∀ (j : Nat) t v, fn.params[j]? = some t → args[j]? = some v → Value.okWide C.P W .any base t v)
    (hW : DataW.Whole enc C.P fn.params.toList s.vars false W args.toList ds gs before)
    (hsz : (DataW.weightsEach C.P (fn.params.toList ++ s.plain.varTypes C.P) (ds ++ gs)).all (· ≤ reachBytes) = true) :
    Calls C.P f args W fun e W' => ∃ v, e = .returned v ∧ s.post enc C.P fn false true false false W args v W' :=
  law_core W hm hdst hext hann hlaid hpl hread hres htb hvars hs base args ds gs before (fun as h _ => hlaw as h) hval hW hsz
/-- Every temporary that is written is one: by looking at all code. -/
def dstOkB (P : Program) : Bool := P.funcs.toList.all fun fn => match fn.body with | some c => codeDst fn.ntmps c | none => true
theorem dstOk_of {P : Program} (h : dstOkB P = true) : DstOK P := fun f fn c hf hb => by
  have hm : fn ∈ P.funcs.toList := by simpa using Array.mem_of_getElem? hf
  have := List.all_eq_true.1 h fn hm
  simpa [hb] using this
end Go.Weave
end

section
/- Words for the plain laws: numbers, bytes, what a run comes to. -/
namespace Go.Weave

/-! ### Numbers -/
theorem wrap_u8 (n : Int) : IntKind.u8.wrap n = n % 256 := by simp [IntKind.wrap, IntKind.bits, IntKind.signed]
theorem wrap_u64 (n : Int) : IntKind.u64.wrap n = n % 18446744073709551616 := by simp [IntKind.wrap, IntKind.bits, IntKind.signed]
theorem wrap_u64_id {n : Int} (h0 : 0 ≤ n) (h1 : n < 18446744073709551616) : IntKind.u64.wrap n = n := by rw [wrap_u64]; omega
theorem wrap_i64_id {n : Int} (h0 : -9223372036854775808 ≤ n) (h1 : n < 9223372036854775808) : IntKind.i64.wrap n = n := by
  simp [IntKind.wrap, IntKind.bits, IntKind.signed]
  split <;> omega
theorem wrap_u8_id {n : Int} (h0 : 0 ≤ n) (h1 : n < 256) : IntKind.u8.wrap n = n := by rw [wrap_u8]; omega

/-! ### Bytes -/
def bys (l : List UInt8) : List AVal := l.map ofByte
theorem bys_append (a b : List UInt8) : bys (a ++ b) = bys a ++ bys b := by simp [bys]
theorem bys_nil : bys [] = [] := rfl
theorem bys_one (n : Nat) (h : n < 256) : [AVal.int .u8 (n : Int)] = bys [UInt8.ofNat n] := by
  have : (UInt8.ofNat n).toNat = n := by simp; omega
  simp only [bys, List.map_cons, List.map_nil, ofByte, this]
theorem bys_length (a : List UInt8) : (bys a).length = a.length := by simp [bys]
theorem bys_getD {a : List UInt8} {i : Nat} (h : i < a.length) : (bys a).getD i AVal.undef = ofByte a[i] := by simp [bys, h]
theorem toByte_ofByte (b : UInt8) : toByte (ofByte b) = some b := by
  have : b.toNat < 256 := b.toNat_lt
  simp only [toByte, ofByte]
  rw [if_pos (by omega)]
  simp
theorem toBytes_bys (a : List UInt8) : toBytes (bys a) = some a := by
  unfold toBytes bys
  induction a with
  | nil => rfl
  | cons b a ih => simp only [List.map_cons, optAll, toByte_ofByte, ih]
theorem part_bys (l h : Int) (a : List UInt8) : Weave.part l h (bys a) = bys (Weave.part l h a) := by simp [Weave.part, bys]
theorem isInt_ofByte (b : UInt8) : AVal.isInt .u8 (ofByte b) = true := by simp [AVal.isInt, ofByte]
theorem toInt_ofByte (b : UInt8) : AVal.toInt (ofByte b) = b.toNat := of_eq_true (eq_self _)

/-! ### What a run comes to -/
theorem cond_of {α : Type} {b : Bool} {x y : α} (h : b = true) : (bif b then x else y) = x := by rw [h]; rfl
theorem cond_of_not {α : Type} {b : Bool} {x y : α} (h : b = false) : (bif b then x else y) = y := by rw [h]; rfl

/-! ### One step (none of these is by reflexivity alone: the kernel is not to look at a whole run at once) -/
section
variable {R : Type}
end

/-! ### From the statements' reading -/
theorem okC_bytes {P : Program} {n : Nat} {t e : TypeId} {a : AVal} (hu : P.underlying t = some (.slice e)) (he : P.underlying e = some (.int .u8)) (hs : shp P e = 0) (hb : bytesOf P e = 1) (h : OkV P (n + 2) t a) :
    ∃ b : List UInt8, a = .sl false 0 (bys b) ∧ b.length ≤ 140737488351232 := by
  obtain ⟨hag, hc⟩ := h
  have ha : aggT P t = false := by simp [aggT, hu]
  rw [ha] at hag
  unfold OkC at hc
  simp only [hu, hs, hb, Nat.mul_one] at hc
  obtain ⟨es, h1, h2, h3⟩ := hc
  have h4 : a = .sl false 0 es := by
    cases a <;> simp [AVal.cells] at h1 <;> first | exact h1 | skip
    · obtain ⟨rfl, rfl, rfl⟩ := h1; rfl
    · simp [AVal.isAgg] at hag
  have key : ∀ l : List AVal, (∀ x ∈ l, okEl 0 x ∧ OkC P (n + 1) e x.cells) → ∃ b, l = bys b := by
    intro l
    induction l with
    | nil => intro _; exact ⟨[], rfl⟩
    | cons x l ih =>
      intro h
      obtain ⟨b, rfl⟩ := ih fun y hy => h y (by simp [hy])
      obtain ⟨⟨hx1, hx2, _⟩, hx⟩ := h x (by simp)
      unfold OkC at hx
      simp only [he] at hx
      obtain ⟨z, hz, h0, h255⟩ := hx
      have e1 : x = .int .u8 z := by
        cases x <;> simp [AVal.cells] at hz <;> first | exact hz | skip
        · obtain ⟨rfl, rfl⟩ := hz; rfl
        · simp [AVal.isAgg] at hx1
      have m0 : IntKind.u8.min = 0 := by decide
      have m1 : IntKind.u8.max = 255 := by decide
      rw [m0] at h0
      rw [m1] at h255
      refine ⟨UInt8.ofNat z.toNat :: b, ?_⟩
      subst e1
      have : (UInt8.ofNat z.toNat).toNat = z.toNat := by simp; omega
      have e2 : ofByte (UInt8.ofNat z.toNat) = .int .u8 z := by
        simp only [ofByte, this]
        congr 1
        omega
      simp only [bys, List.map_cons, e2]
  obtain ⟨b, rfl⟩ := key es h3
  exact ⟨b, h4, by rwa [bys_length] at h2⟩

/-- What `law_contract` asks, from a one-valued law. -/
theorem law_of {C : Cfg} {d f : Nat} {args : List AVal} {h0 h1 : Heap} {res : List AVal} (h : Ans (evFn C d f args h0) (res, h1)) :
    ∃ d, (evFn C d f args h0).All fun r => r.1 = res := ⟨d, all_mono (fun _ hr => congrArg Prod.fst hr) h.run⟩
end Go.Weave
end

section
/- How a residual text is read: words for it, and one rule a word, for simp. -/
namespace Go.Weave
section
variable {R : Type}
def intK (k : IntKind) (v : AVal) (K : Int → Tr R) : Tr R := bif v.isInt k then K v.toInt else .fail
def boolK (v : AVal) (K : Bool → Tr R) : Tr R := bif v.isBool then K v.toBool else .fail
def strK (v : AVal) (K : List UInt8 → Tr R) : Tr R := bif v.isStr then K v.toStr else .fail
def slK (n : Nat) (v : AVal) (K : Bool → List AVal → Tr R) : Tr R := bif v.isSl n then K v.toFull v.toEs else .fail
def slOK (n : Nat) (v : AVal) (K : List AVal → Tr R) : Tr R := bif v.isSlO n then K v.toEs else .fail
def aggK (n : Nat) (v : AVal) (K : List AVal → Tr R) : Tr R := bif v.isAggOf n then K v.cells else .fail
def runK (t : Tr Res) (K : List AVal → Heap → Tr R) : Tr R := t.bind fun r => K r.1 r.2
end

/-- What hides a continuation from simp: its type depends on it. -/
structure Hid {α : Type} (Q : α → Prop) : Type where
structure Run {α : Type} (t : Tr α) (Q : α → Prop) (_ : Hid Q) : Prop where
  all : t.All Q
theorem run_eq {α : Type} {t : Tr α} {Q : α → Prop} {tg : Hid Q} : Run t Q tg = t.All Q := propext ⟨fun h => h.all, fun h => ⟨h⟩⟩
def contQ {R : Type} (K : List AVal → Heap → Tr R) (Q : R → Prop) : Res → Prop := fun r => Run (K r.1 r.2) Q ⟨⟩

theorem Ans.eq {α : Type} {t : Tr α} {a : α} (h : Ans t a) (Q : α → Prop) : t.All Q = Q a := by
  refine propext ⟨fun hq => ?_, fun hq => all_mono (fun b hb => by rw [hb]; exact hq) h.run⟩
  replace h := h.run
  induction t with
  | ret b => have : b = a := h; rw [← this]; exact hq
  | fail => exact hq.elim
  | any n k ih => exact ih 0 (hq.2 0 hq.1) (h.2 0 h.1)
theorem Ans.at {α : Type} {t : Tr α} {a : α} (h : Ans t a) {Q : α → Prop} {tg : Hid Q} : Run t Q tg = Q a := run_eq.trans (h.eq Q)
theorem Run.ans {α : Type} {t : Tr α} {a : α} (h : Run t (fun r => r = a) ⟨⟩) : Ans t a := ⟨h.all⟩

section
variable {R α : Type} {Q : R → Prop} {tg : Hid Q}
theorem at_of {t u : Tr R} (h : t.All Q = u.All Q) : Run t Q tg = Run u Q ⟨⟩ := run_eq.trans (h.trans run_eq.symm)
theorem at_eq {t u : Tr R} (h : t = u) : Run t Q tg = Run u Q ⟨⟩ := at_of (by rw [h])
theorem at_bind {t : Tr α} {f : α → Tr R} : Run (t.bind f) Q tg = Run t (fun a => Run (f a) Q ⟨⟩) ⟨⟩ := by
  refine propext ⟨fun h => ⟨?_⟩, fun h => ⟨all_bind (all_mono (fun a ha => ha.all) h.all)⟩⟩
  replace h := h.all
  induction t with
  | ret b => exact ⟨h⟩
  | fail => exact h
  | any n k ih => exact ⟨h.1, fun i hi => ih i (h.2 i hi)⟩
theorem at_runK {t : Tr Res} {K : List AVal → Heap → Tr R} : Run (runK t K) Q tg = Run t (contQ K Q) ⟨⟩ := by
  unfold runK contQ
  exact at_bind
theorem contQ_mk {K : List AVal → Heap → Tr R} {a : List AVal} {h : Heap} : contQ K Q (a, h) = Run (K a h) Q ⟨⟩ := of_eq_true (eq_self _)
theorem at_ret {a : R} : Run (.ret a) Q tg = Q a := run_eq.trans (of_eq_true (eq_self _))
theorem at_consK {v : AVal} {vs : List AVal} {K : AVal → List AVal → Tr R} : Run (consK (v :: vs) K) Q tg = Run (K v vs) Q ⟨⟩ := at_eq (of_eq_true (eq_self _))
theorem at_nilK {K : Tr R} : Run (nilK [] K) Q tg = Run K Q ⟨⟩ := at_eq (of_eq_true (eq_self _))
theorem at_optK {a : α} {K : α → Tr R} : Run (optK (some a) K) Q tg = Run (K a) Q ⟨⟩ := at_eq (of_eq_true (eq_self _))
theorem at_intK {k : IntKind} {n : Int} {K : Int → Tr R} : Run (intK k (.int k n) K) Q tg = Run (K n) Q ⟨⟩ := at_eq (by simp [intK, AVal.isInt, AVal.toInt])
theorem at_boolK {b : Bool} {K : Bool → Tr R} : Run (boolK (.bool b) K) Q tg = Run (K b) Q ⟨⟩ := at_eq (by simp [boolK, AVal.isBool, AVal.toBool])
theorem at_strK {s : List UInt8} {K : List UInt8 → Tr R} : Run (strK (.str s) K) Q tg = Run (K s) Q ⟨⟩ := at_eq (by simp [strK, AVal.isStr, AVal.toStr])
theorem at_slK {n : Nat} {f : Bool} {es : List AVal} {K : Bool → List AVal → Tr R} : Run (slK n (.sl f n es) K) Q tg = Run (K f es) Q ⟨⟩ := at_eq (by simp [slK, AVal.isSl, AVal.toFull, AVal.toEs])
theorem at_slOK {n : Nat} {f : Bool} {es : List AVal} {K : List AVal → Tr R} : Run (slOK n (.sl f n es) K) Q tg = Run (K es) Q ⟨⟩ := at_eq (by simp [slOK, AVal.isSlO, AVal.toEs])
theorem at_slK0 {n z : Nat} {f : Bool} {K : Bool → List AVal → Tr R} : Run (slK n (.sl f z []) K) Q tg = Run (K f []) Q ⟨⟩ := at_eq (by simp [slK, AVal.isSl, AVal.toFull, AVal.toEs])
theorem at_slOK0 {n z : Nat} {K : List AVal → Tr R} : Run (slOK n (.sl true z []) K) Q tg = Run (K []) Q ⟨⟩ := at_eq (by simp [slOK, AVal.isSlO, AVal.toEs])
theorem at_aggK {n : Nat} {cs : List AVal} {K : List AVal → Tr R} (h : cs.length = n) : Run (aggK n (.agg cs) K) Q tg = Run (K cs) Q ⟨⟩ := at_eq (by simp [aggK, AVal.isAggOf, AVal.cells, h])
theorem at_cond_t {b : Bool} {x y : Tr R} (h : b = true) : Run (bif b then x else y) Q tg = Run x Q ⟨⟩ := at_eq (by rw [h]; rfl)
theorem at_cond_f {b : Bool} {x y : Tr R} (h : b = false) : Run (bif b then x else y) Q tg = Run y Q ⟨⟩ := at_eq (by rw [h]; rfl)
theorem at_sameL {n : Nat} {t : Tr R} : Run (sameL (n + 1) t) Q tg = Run t Q ⟨⟩ := propext ⟨fun h => ⟨h.all.2 0 h.all.1⟩, fun h => ⟨sameL_all h.all⟩⟩
theorem at_any1 {t : Tr R} : Run (Tr.anyL [t]) Q tg = Run t Q ⟨⟩ := propext ⟨fun h => ⟨h.all.2 0 h.all.1⟩, fun h => ⟨by simp, fun i hi => by
  match i, hi with
  | 0, _ => exact h.all⟩⟩
theorem at_any {t u : Tr R} {r : List (Tr R)} : Run (Tr.anyL (t :: u :: r)) Q tg = (Run t Q ⟨⟩ ∧ Run (Tr.anyL (u :: r)) Q ⟨⟩) := propext ⟨fun h => ⟨⟨h.all.2 0 h.all.1⟩, ⟨by simp, fun i hi => h.all.2 (i + 1) (by simpa using hi)⟩⟩, fun ⟨h1, h2⟩ => ⟨by simp, fun i hi => by
  cases i with
  | zero => exact h1.all
  | succ i => exact h2.all.2 i (by simpa using hi)⟩⟩
end


theorem wrap_i64_eq (n : Int) : IntKind.i64.wrap n = (n + 9223372036854775808) % 18446744073709551616 - 9223372036854775808 := by
  simp only [IntKind.wrap, IntKind.bits, IntKind.signed]
  simp
  split <;> omega

/-! ### From the statements' reading: more -/
theorem cells_of {x : AVal} (h : x.isAgg = false) : x.cells = [x] := by cases x <;> first | rfl | simp [AVal.isAgg] at h
theorem list_choice {α β : Type} {g : β → α} {p : β → Prop} : ∀ (es : List α), (∀ x ∈ es, ∃ y, x = g y ∧ p y) → ∃ ys : List β, es = ys.map g ∧ ∀ y ∈ ys, p y
  | [], _ => ⟨[], rfl, by simp⟩
  | x :: es, h => by
    obtain ⟨y, rfl, hy⟩ := h x (by simp)
    obtain ⟨ys, rfl, hys⟩ := list_choice es fun z hz => h z (by simp [hz])
    exact ⟨y :: ys, rfl, by simpa using ⟨hy, hys⟩⟩
theorem okV_slice {P : Program} {n : Nat} {t e : TypeId} {a : AVal} (hu : P.underlying t = some (.slice e)) (h : OkV P (n + 1) t a) :
    ∃ es, a = .sl false (shp P e) es ∧ es.length * bytesOf P e ≤ 140737488351232 ∧ ∀ x ∈ es, OkV P n e x := by
  obtain ⟨hag, hc⟩ := h
  have ha : aggT P t = false := by simp [aggT, hu]
  rw [ha] at hag
  rw [cells_of hag] at hc
  unfold OkC at hc
  simp only [hu] at hc
  obtain ⟨es, h1, h2, h3⟩ := hc
  refine ⟨es, by simpa using h1, h2, fun x hx => ⟨?_, (h3 x hx).2⟩⟩
  rw [(h3 x hx).1.1]
  unfold shp
  cases aggT P e <;> simp
theorem okC_int1 {P : Program} {n : Nat} {t : TypeId} {k : IntKind} {cs : List AVal} (hu : P.underlying t = some (.int k)) (h : OkC P (n + 1) t cs) : ∃ x, cs = [.int k x] ∧ k.min ≤ x ∧ x ≤ k.max := by
  unfold OkC at h
  simp only [hu] at h
  exact h
theorem okC_bytes1 {P : Program} {n : Nat} {t e : TypeId} {cs : List AVal} (hu : P.underlying t = some (.slice e)) (he : P.underlying e = some (.int .u8)) (hs : shp P e = 0) (hb : bytesOf P e = 1) (h : OkC P (n + 2) t cs) :
    ∃ b : List UInt8, cs = [.sl false 0 (bys b)] ∧ b.length ≤ 140737488351232 := by
  have h1 : ∃ a, cs = [a] ∧ a.isAgg = false := by
    have h' := h
    unfold OkC at h'
    simp only [hu] at h'
    obtain ⟨es, rfl, _⟩ := h'
    exact ⟨_, rfl, rfl⟩
  obtain ⟨a, rfl, ha⟩ := h1
  have hag : aggT P t = false := by simp [aggT, hu]
  obtain ⟨b, rfl, hb⟩ := okC_bytes (n := n) hu he hs hb (a := a) ⟨by rw [ha, hag], by rw [cells_of ha]; exact h⟩
  exact ⟨b, rfl, hb⟩
/-! ### The steps, in one -/
def CR := And.intro @at_runK <| And.intro @at_bind <| And.intro @contQ_mk <| And.intro @at_ret <| And.intro @at_consK <| And.intro @at_nilK <| And.intro @at_optK <| And.intro @at_intK <| And.intro @at_boolK <| And.intro @at_strK <| And.intro @at_slK <| And.intro @at_slOK <| And.intro @at_slK0 <| And.intro @at_slOK0 <| And.intro @at_aggK <| And.intro @at_cond_t <| And.intro @at_cond_f <| And.intro @at_sameL <| And.intro @at_any1 @at_any
def MC := And.intro @and_self <| And.intro @toBytes_bys <| And.intro @List.nil_append.{0} @List.append_nil.{0}
end Go.Weave
end

section
/- Words for the plain laws: cells, maps, managed objects. -/
namespace Go.Weave
set_option linter.unusedSectionVars false

/-! ### Numbers as cells -/
theorem e0 : ((0 : Nat) : Int) = 0 := by omega
theorem succ_wrap {i : Nat} (h : i < 4611686018427387904) : IntKind.i64.wrap ((i : Int) + 1) = ((i + 1 : Nat) : Int) := by rw [wrap_i64_id (by omega) (by omega)]; omega
/-! ### Maps whose keys are data of one kind -/
section
variable {α : Type} [DecidableEq α]
def encM (e : α → AVal) (l : List (α × AVal × Nat)) : List (AVal × AVal × Nat) := l.map fun x => (e x.1, x.2)
def tget (a : α) : List (α × AVal × Nat) → Option AVal
  | [] => none
  | (b, v, _) :: r => if a = b then some v else tget a r
def tput (a : α) (v : AVal) : List (α × AVal × Nat) → Nat → List (α × AVal × Nat)
  | [], n => [(a, v, n)]
  | (b, w, m) :: r, n => if a = b then (a, v, m) :: r else (b, w, m) :: tput a v r n
def tdel (a : α) : List (α × AVal × Nat) → List (α × AVal × Nat)
  | [] => []
  | (b, w, m) :: r => if a = b then r else (b, w, m) :: tdel a r
structure KeyEnc (e : α → AVal) : Prop where
  eq : ∀ a b, keyEq (e a) (e b) = decide (a = b)

theorem findK_enc {e : α → AVal} (he : KeyEnc e) (a : α) : ∀ (l : List (α × AVal × Nat)) (i : Nat), (findK (e a) (encM e l) i).map (fun x => x.2.1) = tget a l
  | [], i => rfl
  | (b, v, m) :: r, i => by
    have e1 : encM e ((b, v, m) :: r) = (e b, v, m) :: encM e r := rfl
    rw [e1]
    unfold findK tget
    rw [he.eq]
    by_cases h : a = b
    · simp [h]
    · simp only [h, decide_false, cond_false, if_false]
      exact findK_enc he a r (i + 1)
theorem hasK_enc {e : α → AVal} (he : KeyEnc e) (a : α) (l : List (α × AVal × Nat)) : hasK (e a) (encM e l) = (tget a l).isSome := by
  unfold hasK
  rw [← findK_enc he a l 0]
  cases findK (e a) (encM e l) 0 <;> rfl
theorem putK_enc {e : α → AVal} (he : KeyEnc e) (a : α) (v : AVal) : ∀ (l : List (α × AVal × Nat)) (n : Nat), putK (e a) v (encM e l) n = encM e (tput a v l n)
  | [], n => rfl
  | (b, w, m) :: r, n => by
    have e1 : encM e ((b, w, m) :: r) = (e b, w, m) :: encM e r := rfl
    rw [e1]
    unfold putK tput
    rw [he.eq]
    by_cases h : a = b
    · simp [h, encM]
    · simp only [h, decide_false, cond_false, if_false]
      rw [putK_enc he a v r n]
      rfl
theorem tget_tput (a b : α) (v : AVal) : ∀ (l : List (α × AVal × Nat)) (n : Nat), tget b (tput a v l n) = if b = a then some v else tget b l
  | [], n => by simp [tput, tget]
  | (c, w, m) :: r, n => by
    unfold tput
    by_cases h : a = c
    · subst h
      simp only [if_true, tget]
      split <;> rfl
    · simp only [h, if_false, tget]
      rw [tget_tput a b v r n]
      by_cases h2 : b = c
      · subst h2
        rw [if_pos rfl, if_pos rfl, if_neg (fun h3 => h h3.symm)]
      · rw [if_neg h2, if_neg h2]
def tkeys (l : List (α × AVal × Nat)) : List α := l.map (·.1)
theorem tkeys_cons (x : α × AVal × Nat) (r : List (α × AVal × Nat)) : tkeys (x :: r) = x.1 :: tkeys r := rfl
theorem tkeys_tput (a : α) (v : AVal) : ∀ (l : List (α × AVal × Nat)) (n : Nat), tkeys (tput a v l n) = if a ∈ tkeys l then tkeys l else tkeys l ++ [a]
  | [], n => by simp [tput, tkeys]
  | (c, w, m) :: r, n => by
    have ih := tkeys_tput a v r n
    unfold tput
    by_cases h : a = c
    · subst h; rw [if_pos rfl, tkeys_cons, tkeys_cons, if_pos (by simp)]
    · rw [if_neg h, tkeys_cons, tkeys_cons, ih]
      by_cases h3 : a ∈ tkeys r
      · rw [if_pos h3, if_pos (by simp [h3])]
      · rw [if_neg h3, if_neg (by simp [h3, h])]; rfl
theorem nodup_tput {a : α} {v : AVal} {l : List (α × AVal × Nat)} {n : Nat} (h : (tkeys l).Nodup) : (tkeys (tput a v l n)).Nodup := by
  rw [tkeys_tput]
  split
  · exact h
  · rename_i hn
    rw [List.nodup_append]
    exact ⟨h, by simp, fun x hx y hy => by simp at hy; subst hy; intro h2; subst h2; exact hn hx⟩
theorem tdel_sub (a : α) : ∀ (l : List (α × AVal × Nat)), (tdel a l).Sublist l
  | [] => List.Sublist.refl _
  | (c, w, m) :: r => by
    unfold tdel
    split
    · exact List.sublist_cons_self _ _
    · exact (tdel_sub a r).cons_cons _
theorem nodup_tdel {a : α} {l : List (α × AVal × Nat)} (h : (tkeys l).Nodup) : (tkeys (tdel a l)).Nodup := h.sublist ((tdel_sub a l).map _)
end

theorem encInt : KeyEnc (AVal.int .i64) := ⟨fun a b => by
  show (a == b && true) = decide (a = b)
  rw [Bool.and_true]
  by_cases h : a = b
  · simp [h]
  · simp [h]⟩
/-! ### Managed objects -/
def Heap.put (h : Heap) (id : Nat) (o : Obj) : Heap := ⟨h.objs.set id o⟩
theorem Heap.put_len (h : Heap) (id : Nat) (o : Obj) : (h.put id o).objs.length = h.objs.length := by simp [Heap.put]
theorem Heap.lt_of {h : Heap} {id : Nat} {o : Obj} (hm : h.objs[id]? = some o) : id < h.objs.length := (List.getElem?_eq_some_iff.1 hm).1
theorem Heap.put_get {h : Heap} {id : Nat} {o o' : Obj} (hm : h.objs[id]? = some o') : (h.put id o).objs[id]? = some o := by
  simp [Heap.put, Heap.lt_of hm]
theorem Heap.put_ne {h : Heap} {id j : Nat} {o : Obj} (hj : id ≠ j) : (h.put id o).objs[j]? = h.objs[j]? := by
  simp [Heap.put, List.getElem?_set_ne hj]
theorem Heap.put_put (h : Heap) (id : Nat) (o o' : Obj) : (h.put id o).put id o' = h.put id o' := by simp [Heap.put]
theorem Heap.put_comm (h : Heap) {id j : Nat} (o o' : Obj) (hj : id ≠ j) : (h.put id o).put j o' = (h.put j o').put id o := by simp only [Heap.put]; rw [List.set_comm _ _ hj]
theorem Heap.push_old {h : Heap} {o : Obj} {i : Nat} (hi : i < h.objs.length) : (h.push o).objs[i]? = h.objs[i]? := by simp only [Heap.push]; rw [List.getElem?_append_left hi]
theorem Heap.push_new (h : Heap) (o : Obj) : (h.push o).objs[h.objs.length]? = some o := by simp [Heap.push]
theorem Heap.push_len (h : Heap) (o : Obj) : (h.push o).objs.length = h.objs.length + 1 := by simp [Heap.push]
theorem Heap.cell_at {h : Heap} {id off : Nat} {cs : List HCell} (hm : h.objs[id]? = some (.cells cs)) : h.cell? id off = cs[off]? := by simp [Heap.cell?, hm]
theorem Heap.cells_at {h : Heap} {id off n : Nat} {cs : List HCell} (hm : h.objs[id]? = some (.cells cs)) (hn : off + n ≤ cs.length) : h.cells? id off n = some (((cs.drop off).take n).map HCell.toA) := by simp [Heap.cells?, hm, hn]
theorem Heap.set_at {h : Heap} {id off : Nat} {c : HCell} {cs : List HCell} (hm : h.objs[id]? = some (.cells cs)) : h.setCell id off c = h.put id (.cells (cs.set off c)) := by simp [Heap.setCell, Heap.put, hm]
/-- What was there is there. -/
structure Heap.ext (h h' : Heap) : Prop where
  len : h.objs.length ≤ h'.objs.length
  old : ∀ i, i < h.objs.length → h'.objs[i]? = h.objs[i]?
theorem Heap.ext.refl (h : Heap) : h.ext h := ⟨Nat.le_refl _, fun _ _ => rfl⟩
theorem Heap.ext.trans {h h1 h2 : Heap} (a : h.ext h1) (b : h1.ext h2) : h.ext h2 := ⟨Nat.le_trans a.len b.len, fun i hi => by rw [b.old i (Nat.lt_of_lt_of_le hi a.len), a.old i hi]⟩
theorem Heap.ext.push (h : Heap) (o : Obj) : h.ext (h.push o) := ⟨by simp [Heap.push], fun i hi => Heap.push_old hi⟩
theorem Heap.ext.put {h h' : Heap} {id : Nat} {o : Obj} (e : h.ext h') (hid : h.objs.length ≤ id) : h.ext (h'.put id o) := ⟨by rw [Heap.put_len]; exact e.len, fun i hi => by rw [Heap.put_ne (by omega)]; exact e.old i hi⟩
theorem Heap.ext.get {h h' : Heap} (e : h.ext h') {i : Nat} {o : Obj} (hm : h.objs[i]? = some o) : h'.objs[i]? = some o := by rw [e.old i (Heap.lt_of hm)]; exact hm

section
variable {R : Type} {Q : R → Prop} {tg : Hid Q}
theorem at_lookK {α : Type} [DecidableEq α] {e : α → AVal} (he : KeyEnc e) {kt : TypeId} {z : AVal} {id : Nat} {a : α} {h : Heap} {l : List (α × AVal × Nat)} {c : Nat} {K : AVal → Bool → Tr R} (hm : h.objs[id]? = some (.map kt (encM e l) c)) :
    Run (lookK kt z (.map id) (e a) h K) Q tg = Run (K ((tget a l).getD z) (tget a l).isSome) Q ⟨⟩ := by
  refine at_eq ?_
  unfold lookK
  simp only [hm]
  simp only [beq_self_eq_true, cond_true]
  have hf := findK_enc he a l 0
  cases hc : findK (e a) (encM e l) 0 with
  | none => rw [hc] at hf; rw [← hf]; rfl
  | some x => obtain ⟨i, v, b⟩ := x; rw [hc] at hf; rw [← hf]; rfl
theorem at_updK {α : Type} [DecidableEq α] {e : α → AVal} (he : KeyEnc e) {kt : TypeId} {id : Nat} {a : α} {v : AVal} {h : Heap} {l : List (α × AVal × Nat)} {c : Nat} {K : Heap → Tr R} (hm : h.objs[id]? = some (.map kt (encM e l) c)) :
    Run (updK kt (.map id) (e a) v h K) Q tg = Run (K (h.put id (.map kt (encM e (tput a v l c)) (if (tget a l).isSome then c else c + 1)))) Q ⟨⟩ := by
  refine at_eq ?_
  unfold updK mapK
  simp only [AVal.isMap, AVal.toId, cond_true, hm, beq_self_eq_true, putK_enc he, hasK_enc he, Heap.put]
  cases (tget a l).isSome <;> rfl
theorem at_lentK_full {h : Heap} {id off sz z : Nat} {es es' : List AVal} {K : Heap → Tr R} (hm : h.cell? id off = some (.val (.sl true z es'))) : Run (lentK h id off sz es K) Q tg = Run (K h) Q ⟨⟩ := by
  refine at_eq ?_
  unfold lentK; simp only [hm]
theorem at_lentK_own {h : Heap} {id off sz : Nat} {es es' : List AVal} {K : Heap → Tr R} (hm : h.cell? id off = some (.own sz es')) : Run (lentK h id off sz es K) Q tg = Run (K (h.setCell id off (.val (.sl false sz es)))) Q ⟨⟩ := by
  refine at_eq ?_
  unfold lentK; simp only [hm, beq_self_eq_true, cond_true]
theorem at_ptr_whole {ag : Bool} {n : Nat} {e : AVal} {h : Heap} {K : AVal → Tr R} : Run (ptrLdK ag n (.elt e ag n 0) h K) Q tg = Run (K e) Q ⟨⟩ := at_eq (by simp [ptrLdK])
theorem at_ptr_cell {n sz off : Nat} {cs : List AVal} {h : Heap} {K : AVal → Tr R} : Run (ptrLdK false n (.elt (.agg cs) true sz off) h K) Q tg = Run (optK (cs[off]?) K) Q ⟨⟩ := at_eq (by simp [ptrLdK, AVal.cells])
theorem at_nodeW {n : Nat} {cs : List AVal} {K : List AVal → Tr R} : Run (nodeW n (.elt (.agg cs) true n 0) K) Q tg = Run (K cs) Q ⟨⟩ := at_eq (by simp [nodeW])
theorem at_ptr_obj {n id off : Nat} {h : Heap} {K : AVal → Tr R} : Run (ptrLdK false n (.obj id off) h K) Q tg = Run (optK (h.cell? id off) fun c => K c.toA) Q ⟨⟩ := at_eq (by simp [ptrLdK])
theorem at_ptr_objs {n id off : Nat} {h : Heap} {K : AVal → Tr R} : Run (ptrLdK true n (.obj id off) h K) Q tg = Run (optK (h.cells? id off n) fun cs => K (.agg cs)) Q ⟨⟩ := at_eq (by simp [ptrLdK])
end
/-! ### Entries told by when they were born -/
section
variable {α : Type} [DecidableEq α]
structure TOk (l : List (α × AVal × Nat)) (c : Nat) : Prop where
  keys : (tkeys l).Nodup
  born : (l.map (·.2.2)).Nodup
  lt : ∀ x ∈ l, x.2.2 < c
theorem TOk.nil (c : Nat) : TOk ([] : List (α × AVal × Nat)) c := ⟨by simp [tkeys], by simp, by simp⟩
theorem tput_new {a : α} {v : AVal} : ∀ {l : List (α × AVal × Nat)} {n : Nat}, tget a l = none → tput a v l n = l ++ [(a, v, n)]
  | [], n, _ => rfl
  | (b, w, m) :: r, n, h => by
    unfold tget at h
    unfold tput
    by_cases e : a = b
    · rw [if_pos e] at h; cases h
    · rw [if_neg e] at h
      rw [if_neg e, tput_new h]; rfl
theorem tput_born {a : α} {v : AVal} : ∀ {l : List (α × AVal × Nat)} {n : Nat} {w : AVal}, tget a l = some w → (tput a v l n).map (·.2.2) = l.map (·.2.2)
  | (b, u, m) :: r, n, w, h => by
    unfold tget at h
    unfold tput
    by_cases e : a = b
    · rw [if_pos e]; rfl
    · rw [if_neg e] at h
      rw [if_neg e]
      simp only [List.map_cons]
      rw [tput_born h]
theorem TOk.put {l : List (α × AVal × Nat)} {c : Nat} (h : TOk l c) (a : α) (v : AVal) : TOk (tput a v l c) (if (tget a l).isSome then c else c + 1) := by
  cases hg : tget a l with
  | none =>
    refine ⟨nodup_tput h.keys, ?_, ?_⟩
    · rw [tput_new hg, List.map_append, List.nodup_append]
      refine ⟨h.born, by simp, fun x hx y hy => ?_⟩
      simp at hy
      obtain ⟨z, hz, rfl⟩ := List.mem_map.1 hx
      have := h.lt z hz
      omega
    · rw [tput_new hg]
      intro x hx
      rcases List.mem_append.1 hx with hx | hx
      · have := h.lt x hx; simp; omega
      · simp at hx; subst hx; simp
  | some w =>
    have hb := tput_born (v := v) (n := c) hg
    refine ⟨nodup_tput h.keys, by rw [hb]; exact h.born, fun x hx => ?_⟩
    have hx' : x.2.2 ∈ (tput a v l c).map (·.2.2) := List.mem_map_of_mem hx
    rw [hb] at hx'
    obtain ⟨z, hz, e⟩ := List.mem_map.1 hx'
    have := h.lt z hz
    simp; omega
theorem TOk.del {l : List (α × AVal × Nat)} {c : Nat} (h : TOk l c) (a : α) : TOk (tdel a l) c :=
  ⟨nodup_tdel h.keys, h.born.sublist ((tdel_sub a l).map _), fun x hx => h.lt x ((tdel_sub a l).subset hx)⟩
variable {R : Type} {Q : R → Prop} {tg : Hid Q}
end
@[simp] theorem shift_obj (k id off : Nat) : AVal.shift k (.obj id off) = .obj id (off + k) := of_eq_true (eq_self _)
@[simp] theorem shift_elt (k : Nat) (e : AVal) (ag : Bool) (sz off : Nat) : AVal.shift k (.elt e ag sz off) = .elt e ag sz (off + k) := of_eq_true (eq_self _)
@[simp] theorem isAddr_obj (id off : Nat) : AVal.isAddr (.obj id off) = true := of_eq_true (eq_self _)
@[simp] theorem isAddr_elt (e : AVal) (ag : Bool) (sz off : Nat) : AVal.isAddr (.elt e ag sz off) = true := of_eq_true (eq_self _)
@[simp] theorem isPtr_obj (id off : Nat) : AVal.isPtr (.obj id off) = true := of_eq_true (eq_self _)
@[simp] theorem isPtr_elt (e : AVal) (ag : Bool) (sz off : Nat) : AVal.isPtr (.elt e ag sz off) = true := of_eq_true (eq_self _)
@[simp] theorem isPtr_nilp : AVal.isPtr .nilp = true := of_eq_true (eq_self _)
@[simp] theorem isNilp_obj (id off : Nat) : AVal.isNilp (.obj id off) = false := of_eq_true (eq_self _)
@[simp] theorem isNilp_elt (e : AVal) (ag : Bool) (sz off : Nat) : AVal.isNilp (.elt e ag sz off) = false := of_eq_true (eq_self _)
@[simp] theorem isNilp_nilp : AVal.isNilp .nilp = true := of_eq_true (eq_self _)
@[simp] theorem isAgg_int (k : IntKind) (n : Int) : AVal.isAgg (.int k n) = false := of_eq_true (eq_self _)
@[simp] theorem isAgg_str (s : List UInt8) : AVal.isAgg (.str s) = false := of_eq_true (eq_self _)
@[simp] theorem isAgg_nilp : AVal.isAgg .nilp = false := of_eq_true (eq_self _)
@[simp] theorem isAgg_obj (id off : Nat) : AVal.isAgg (.obj id off) = false := of_eq_true (eq_self _)
@[simp] theorem isAgg_elt (e : AVal) (ag : Bool) (sz off : Nat) : AVal.isAgg (.elt e ag sz off) = false := of_eq_true (eq_self _)
@[simp] theorem cells_agg (cs : List AVal) : AVal.cells (.agg cs) = cs := of_eq_true (eq_self _)
@[simp] theorem toA_val (v : AVal) : HCell.toA (.val v) = v := of_eq_true (eq_self _)
@[simp] theorem toA_own (z : Nat) (es : List AVal) : HCell.toA (.own z es) = .sl false z es := of_eq_true (eq_self _)
theorem eqCells_cons (a b : AVal) (x y : List AVal) : eqCells (a :: x) (b :: y) = (a.eq1 b && eqCells x y) := of_eq_true (eq_self _)
theorem eqCells_nil : eqCells [] [] = true := of_eq_true (eq_self _)
theorem eq1_int (k k' : IntKind) (a b : Int) : AVal.eq1 (.int k a) (.int k' b) = (a == b) := of_eq_true (eq_self _)
theorem eq1_bool (a b : Bool) : AVal.eq1 (.bool a) (.bool b) = (a == b) := of_eq_true (eq_self _)
theorem eq1_str (a b : List UInt8) : AVal.eq1 (.str a) (.str b) = (a == b) := of_eq_true (eq_self _)
/-! ### More steps, in one -/
def PR := And.intro @at_nodeW <| And.intro @at_ptr_whole <| And.intro @at_ptr_cell <| And.intro @at_ptr_obj @at_ptr_objs
def MR := And.intro @List.drop_zero.{0} <| And.intro @List.take_succ_cons.{0} <| And.intro @List.take_zero.{0} <| And.intro @List.getElem?_cons_succ.{0} <| And.intro @List.getElem?_cons_zero.{0} <| And.intro @cells_agg <| And.intro @eqCells_cons <| And.intro @eqCells_nil <| And.intro @eq1_int <| And.intro @eq1_bool <| And.intro @eq1_str <| And.intro @shift_obj <| And.intro @shift_elt <| And.intro @toA_val <| And.intro @toA_own <| And.intro @Int.toNat_natCast @List.cons_append.{0}
end Go.Weave
end
