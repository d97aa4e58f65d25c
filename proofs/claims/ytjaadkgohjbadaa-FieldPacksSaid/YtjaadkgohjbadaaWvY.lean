/- From a statement's reading of its arguments to the evaluator's values, and back from the evaluator's answer to the statement. -/
import Derived.Test.YtjaadkgohjbadaaWvU
import Derived.ChangeArms
import Derived.OpenShut
import Derived.ChangeOld
import Derived.SizedLaws
import Derived.Carry
import Derived.JoinedOf
import Derived.WalkKit
import Derived.ProofKit
namespace Go.Weave
variable {P : Program} {W : World} {H : Type} {enc : TypeId × Value → H}

/-- At a call from outside all of memory is there to be read. -/
def wholeCtx (W : World) : Ctx := ⟨W, 0, fun _ => 0, fun b => match W.heap[b]? with | some (.cells xs _ _) => some xs.size | _ => none⟩

theorem whole_cell {b o : Nat} {v : Value} (h : W.cell? ⟨b, o, none⟩ = some v) : ∃ lim, (wholeCtx W).κ b = some lim ∧ o < lim := by
  unfold World.cell? at h
  simp only at h
  split at h
  · rename_i c t fr hc
    simp only [Option.isSome_none, Bool.false_eq_true, if_false] at h
    exact ⟨c.size, by simp [wholeCtx, hc], (Array.getElem?_eq_some_iff.1 h).1⟩
  · cases h

theorem cell_spot {a : Addr} {v : Value} (h : W.cell? a = some v) : a = ⟨a.block, a.off, none⟩ := by
  unfold World.cell? at h
  split at h
  · split at h
    · cases h
    · rename_i hs
      obtain ⟨b, o, s⟩ := a
      cases s
      · rfl
      · simp at hs
  · cases h

theorem cells_at {a : Addr} {n : Nat} {cs : List Value} (h : W.cells? 0 a n = some cs) : cs.length = n ∧ ∀ j, j < n → W.cell? (a.add j) = some (cs.getD j undef) := by
  unfold World.cells? at h
  rw [if_pos (Nat.zero_le _)] at h
  have hl := mapM_some_length h
  simp at hl
  refine ⟨hl, fun j hj => ?_⟩
  have := mapM_some_get h j j (by simp [hj])
  rw [this]
  have hj' : j < cs.length := by omega
  simp [hj']

def RepLs (c : Ctx) (cs : List Value) (as : List AVal) : Prop := cs.length = as.length ∧ ∀ j, j < as.length → Rep c (cs.getD j undef) (as.getD j .undef) ∧ (as.getD j .undef).isAgg = false

theorem RepLs.nil (c : Ctx) : RepLs c [] [] := ⟨rfl, fun j hj => by simp at hj⟩
theorem RepLs.one {c : Ctx} {v : Value} {a : AVal} (h : Rep c v a) (hn : a.isAgg = false) : RepLs c [v] [a] := ⟨rfl, fun j hj => by
  have : j = 0 := by simpa using hj
  subst this; exact ⟨h, hn⟩⟩
theorem RepLs.append {c : Ctx} {cs ds : List Value} {as bs : List AVal} (h : RepLs c cs as) (k : RepLs c ds bs) : RepLs c (cs ++ ds) (as ++ bs) := by
  refine ⟨by simp [h.1, k.1], fun j hj => ?_⟩
  simp only [List.length_append] at hj
  simp only [List.getD_eq_getElem?_getD]
  by_cases hlt : j < as.length
  · rw [List.getElem?_append_left (by rw [h.1]; exact hlt), List.getElem?_append_left hlt]
    simpa only [List.getD_eq_getElem?_getD] using h.2 j hlt
  · rw [List.getElem?_append_right (by rw [h.1]; omega), List.getElem?_append_right (by omega), h.1]
    simpa only [List.getD_eq_getElem?_getD] using k.2 (j - as.length) (by omega)

/-! ### Bulk -/
mutual
def AVal.bulk : AVal → Nat
  | .str s => s.length + 1
  | .sl _ _ es => bulkL es + 1
  | .agg cs => bulkL cs
  | _ => 1
def bulkL : List AVal → Nat
  | [] => 0
  | a :: r => a.bulk + bulkL r
end
theorem bulkL_append : ∀ (a b : List AVal), bulkL (a ++ b) = bulkL a + bulkL b
  | [], b => by simp [bulkL]
  | x :: a, b => by simp only [List.cons_append, bulkL, bulkL_append a b]; omega
/-- A measure of data that counts at least all their parts. -/
structure BulkOk (B : DataW H → Nat) : Prop where
  pos : ∀ d, 1 ≤ B d
  str : ∀ b, b.length + 1 ≤ B (.lit (.string b))
  sl : ∀ es sp, (es.map B).sum + 1 ≤ B (.slice es sp)
  agg : ∀ ps, (ps.map B).sum ≤ B (.agg ps)
theorem bulk_sum {B : DataW H → Nat} : ∀ (xs : List AVal) (ds : List (DataW H)), xs.length ≤ ds.length → (∀ (i : Nat) d, i < xs.length → ds[i]? = some d → (xs.getD i .undef).bulk ≤ B d) → bulkL xs ≤ (ds.map B).sum
  | [], _, _, _ => by simp [bulkL]
  | _ :: _, [], h, _ => by simp at h
  | x :: xs, d :: ds, h, hx => by
    have h1 := hx 0 d (by simp) rfl
    have h2 := bulk_sum xs ds (by simpa using h) (fun i e hi he => by simpa using hx (i + 1) e (by simpa using hi) (by simpa using he))
    simp only [bulkL, List.map_cons, List.sum_cons]
    simp only [List.getD_cons_zero] at h1
    omega

/-! ### What a reading of plain data promises of the values -/
def OkF (ok : TypeId → List AVal → Prop) : List Field → List AVal → Prop
  | [], cs => cs = []
  | f :: r, cs => ∃ a b, cs = a ++ b ∧ ok f.type a ∧ OkF ok r b
def OkN (ok : List AVal → Prop) : Nat → List AVal → Prop
  | 0, cs => cs = []
  | n + 1, cs => ∃ a b, cs = a ++ b ∧ ok a ∧ OkN ok n b
def OkC (P : Program) : Nat → TypeId → List AVal → Prop
  | 0, _, _ => False
  | n + 1, t, cs =>
    match P.underlying t with
    | some (.int k) => ∃ x, cs = [.int k x] ∧ k.min ≤ x ∧ x ≤ k.max
    | some .bool => ∃ b, cs = [.bool b]
    | some .string => ∃ s, cs = [.str s] ∧ s.length ≤ 140737488351232
    | some (.slice e) => ∃ es, cs = [.sl false (shp P e) es] ∧ es.length * bytesOf P e ≤ 140737488351232 ∧ ∀ x ∈ es, okEl (shp P e) x ∧ OkC P n e x.cells
    | some (.struct fs) => OkF (OkC P n) fs.toList cs
    | some (.array len e) => OkN (OkC P n e) len cs
    | _ => False
def contig (P : Program) : Nat → List Field → Option Nat
  | off, [] => some off
  | off, f :: r => bif f.offset == off then contig P (off + szOf P f.type) r else none
def plainT (P : Program) : Nat → TypeId → Bool
  | 0, _ => false
  | n + 1, t =>
    match P.underlying t with
    | some (.int _) | some .bool | some .string => szOf P t == 1
    | some (.slice e) => (szOf P t == 1) && decide (0 < szOf P e) && (aggT P e || szOf P e == 1) && plainT P n e
    | some (.struct fs) => (contig P 0 fs.toList == some (szOf P t)) && fs.toList.all fun f => plainT P n f.type
    | some (.array len e) => (szOf P t == len * szOf P e) && plainT P n e
    | _ => false

theorem each_all {p : Nat → Bool} : ∀ (ts : List TypeId) (ds : List (DataW H)), (DataW.weightsEach P ts ds).all p = true → ∀ (i : Nat) (t : TypeId) (d : DataW H), ts[i]? = some t → ds[i]? = some d → (d.weights P t).all p = true
  | [], _, _, i, t, d, h, _ => by simp at h
  | _ :: _, [], _, i, t, d, _, h => by simp at h
  | t' :: ts, d' :: ds, h, i, t, d, h1, h2 => by
    simp only [DataW.weightsEach, List.all_append, Bool.and_eq_true] at h
    cases i with
    | zero => simp at h1 h2; subst h1; subst h2; exact h.1
    | succ i => exact each_all ts ds h.2 i t d (by simpa using h1) (by simpa using h2)
theorem all_all {p : Nat → Bool} {e : TypeId} : ∀ (ds : List (DataW H)), (DataW.weightsAll P e ds).all p = true → ∀ (i : Nat) (d : DataW H), ds[i]? = some d → (d.weights P e).all p = true
  | [], _, i, d, h => by simp at h
  | d' :: ds, h, i, d, h2 => by
    simp only [DataW.weightsAll, List.all_append, Bool.and_eq_true] at h
    cases i with
    | zero => simp at h2; subst h2; exact h.1
    | succ i => exact all_all ds h.2 i d (by simpa using h2)

theorem contig_ok {W : World} {ok : TypeId → List AVal → Prop} {tot : Nat} : ∀ (fs : List Field) (xs : List (DataW H)) (off : Nat) (cs : List Value), contig P off fs = some tot → cs.length = tot → xs.length = fs.length →
    (∀ (i : Nat) f d, fs[i]? = some f → xs[i]? = some d → ((cs.drop f.offset).take (szOf P f.type)).length = szOf P f.type ∧ ∃ as, RepLs (wholeCtx W) ((cs.drop f.offset).take (szOf P f.type)) as ∧ ok f.type as ∧ ∀ B, BulkOk B → bulkL as ≤ B d) →
    ∃ as, RepLs (wholeCtx W) (cs.drop off) as ∧ OkF ok fs as ∧ ∀ B, BulkOk B → bulkL as ≤ (xs.map B).sum
  | [], xs, off, cs, h, hl, _, _ => by
    simp only [contig, Option.some.injEq] at h
    have : cs.drop off = [] := List.drop_eq_nil_iff.2 (by omega)
    exact ⟨[], by rw [this]; exact RepLs.nil _, rfl, fun B _ => by simp [bulkL]⟩
  | f :: fs, [], off, cs, h, hl, hx, _ => by simp at hx
  | f :: fs, d :: xs, off, cs, h, hl, hx, hf => by
    simp only [contig] at h
    cases ho : f.offset == off <;> simp only [ho, cond_true, cond_false, reduceCtorEq] at h
    have ho' : f.offset = off := by simpa using ho
    obtain ⟨as, hr, hok, hbk⟩ := contig_ok fs xs (off + szOf P f.type) cs h hl (by simpa using hx) (fun i g e hg he => hf (i + 1) g e (by simpa using hg) (by simpa using he))
    obtain ⟨hlen, bs, hr1, hok1, hbk1⟩ := hf 0 f d rfl rfl
    rw [ho'] at hlen hr1
    refine ⟨bs ++ as, ?_, ⟨bs, as, rfl, hok1, hok⟩, fun B hB => ?_⟩
    · have : cs.drop off = (cs.drop off).take (szOf P f.type) ++ cs.drop (off + szOf P f.type) := by
        rw [← List.drop_drop, List.take_append_drop]
      rw [this]
      exact hr1.append hr
    · have h1 := hbk B hB
      have h2 := hbk1 B hB
      rw [bulkL_append]
      simp only [List.map_cons, List.sum_cons]
      omega

theorem repeat_ok {W : World} {ok : List AVal → Prop} {k : Nat} : ∀ (n : Nat) (xs : List (DataW H)) (cs : List Value), cs.length = n * k → xs.length = n →
    (∀ (i : Nat) d, i < n → xs[i]? = some d → ∃ as, RepLs (wholeCtx W) ((cs.drop (i * k)).take k) as ∧ ok as ∧ ∀ B, BulkOk B → bulkL as ≤ B d) → ∃ as, RepLs (wholeCtx W) cs as ∧ OkN ok n as ∧ ∀ B, BulkOk B → bulkL as ≤ (xs.map B).sum
  | 0, xs, cs, hl, _, _ => by
    have : cs = [] := by rw [← List.length_eq_zero_iff, hl]; simp
    subst this
    exact ⟨[], RepLs.nil _, rfl, fun B _ => by simp [bulkL]⟩
  | n + 1, [], cs, hl, hx, h => by simp at hx
  | n + 1, d :: xs, cs, hl, hx, h => by
    obtain ⟨bs, hr1, hok1, hbk1⟩ := h 0 d (by omega) rfl
    obtain ⟨as, hr, hok, hbk⟩ := repeat_ok (W := W) (ok := ok) (k := k) n xs (cs.drop k) (by rw [List.length_drop, hl, Nat.succ_mul]; omega) (by simpa using hx) (fun i e hi he => by
      obtain ⟨as, h1, h2⟩ := h (i + 1) e (by omega) (by simpa using he)
      refine ⟨as, ?_, h2⟩
      rw [List.drop_drop]
      rw [Nat.succ_mul] at h1
      rwa [Nat.add_comm] at h1)
    simp only [Nat.zero_mul, List.drop_zero] at hr1
    refine ⟨bs ++ as, ?_, ⟨bs, as, rfl, hok1, hok⟩, fun B hB => ?_⟩
    · have := hr1.append hr
      rwa [List.take_append_drop] at this
    · have h1 := hbk B hB
      have h2 := hbk1 B hB
      rw [bulkL_append]
      simp only [List.map_cons, List.sum_cons]
      omega

theorem reads_ok : ∀ (n : Nat) (t : TypeId) (cs : List Value) (x : DataW H × List MemPlace) (m : Nat), plainT P n t = true → DataW.trod enc P W 0 (fun _ => true) true m t cs = some x →
    (x.1.weights P t).all (fun k => decide (k ≤ reachBytes)) = true → cs.length = szOf P t ∧ ∃ as, RepLs (wholeCtx W) cs as ∧ OkC P n t as ∧ ∀ B, BulkOk B → bulkL as ≤ B x.1
  | 0, t, cs, x, m, h, _, _ => by simp [plainT] at h
  | n + 1, t, cs, x, m, hp, h, hw => by
    unfold plainT at hp
    unfold OkC
    split at hp
    · rename_i k hu
      obtain ⟨z, rfl, _, hwf⟩ := DataW.trod_int hu h


      simp [Lit.wf] at hwf
      exact ⟨by simpa using (eq_of_beq hp).symm, _, RepLs.one (.int k z) rfl, ⟨z, rfl, hwf.1, hwf.2⟩, fun B hB => by simpa [bulkL, AVal.bulk] using hB.pos _⟩
    · rename_i hu
      obtain ⟨b, rfl, _⟩ := DataW.trod_bool hu h

      exact ⟨by simpa using (eq_of_beq hp).symm, _, RepLs.one (.bool b) rfl, ⟨b, rfl⟩, fun B hB => by simpa [bulkL, AVal.bulk] using hB.pos _⟩
    · rename_i hu
      obtain ⟨s, rfl, rfl, _⟩ := DataW.trod_string hu h

      simp only [DataW.weights, List.all_cons, List.all_nil, Bool.and_true, decide_eq_true_eq] at hw
      exact ⟨by simpa using (eq_of_beq hp).symm, _, RepLs.one (.str s) rfl, ⟨_, rfl, hw⟩, fun B hB => by have := hB.str s.data.toList; simp only [bulkL, AVal.bulk, Nat.add_zero]; exact this⟩
    · rename_i e hu
      simp only [Bool.and_eq_true, beq_iff_eq, decide_eq_true_eq] at hp
      obtain ⟨⟨⟨h1, hpos⟩, hag⟩, hpe⟩ := hp

      refine ⟨by rcases DataW.trod_slice hu h with ⟨rfl, _⟩ | ⟨_, _, _, _, _, _, _, rfl, _⟩ <;> simp [h1], ?_⟩
      rcases DataW.trod_slice hu h with ⟨rfl, rfl⟩ | ⟨a, len, cap, elems, rest, k, _, rfl, rfl, _, hl, hm, hlen, hel, hsp, _⟩
      · exact ⟨_, RepLs.one (.slnil none false (shp P e)) rfl, ⟨[], rfl, by simp, by simp⟩, fun B hB => by simpa [bulkL, AVal.bulk] using hB.pos _⟩
      · simp only [DataW.weights, hu, List.all_cons, List.all_append, Bool.and_eq_true, decide_eq_true_eq, List.length_map] at hw
        obtain ⟨hbytes, hwe, _⟩ := hw
        have hcells : P.cellsOf e = szOf P e := rfl
        have hcnt : cnt (shp P e) = szOf P e := by
          unfold shp cnt
          cases ha : aggT P e
          · simp [ha] at hag ⊢; exact hag.symm
          · simp
        have each : ∀ i, ∃ p : List Value × List AVal, i < len → W.cells? 0 (a.add (i * szOf P e)) (szOf P e) = some p.1 ∧ p.1.length = szOf P e ∧ RepLs (wholeCtx W) p.1 p.2 ∧ OkC P n e p.2 ∧ ∀ B, BulkOk B → ∀ d, (elems.map (·.1))[i]? = some d → bulkL p.2 ≤ B d := fun i => by
          by_cases hi : i < len
          · have hi' : i < elems.length := by omega
            have h2 := hel i hi
            rw [List.getElem?_eq_getElem hi'] at h2
            obtain ⟨ci, hc1, hc2⟩ := Option.bind_eq_some_iff.1 h2
            obtain ⟨hl3, as, hr3, hok3, hbk3⟩ := reads_ok n e ci _ k hpe hc2 (all_all _ hwe i _ (by simp [hi']))
            exact ⟨(ci, as), fun _ => ⟨hc1, hl3, hr3, hok3, fun B hB d hd => by
              simp [hi'] at hd
              rw [← hd]; exact hbk3 B hB⟩⟩
          · exact ⟨([], []), fun h => absurd h hi⟩
        obtain ⟨f, hf⟩ := Classical.axiomOfChoice each
        have hwrap : ∀ i, i < len → okEl (shp P e) (bif aggT P e then .agg (f i).2 else (f i).2.getD 0 .undef) ∧ (bif aggT P e then AVal.agg (f i).2 else (f i).2.getD 0 .undef).cells = (f i).2 := fun i hi => by
          obtain ⟨_, h4, h5, _⟩ := hf i hi
          have h6 : (f i).2.length = szOf P e := by rw [← h5.1]; exact h4
          cases ha : aggT P e
          · simp only [cond_false]
            have hs1 : szOf P e = 1 := by simpa [ha] using hag
            have h7 := (h5.2 0 (by omega)).2
            have h8 : (f i).2 = [(f i).2.getD 0 .undef] := by
              apply List.ext_getElem?
              intro j
              rcases j with _ | j
              · have : 0 < (f i).2.length := by omega
                simp [this]
              · rw [List.getElem?_eq_none (by omega)]; simp
            have h9 : ((f i).2.getD 0 AVal.undef).cells = [(f i).2.getD 0 .undef] := by
              generalize (f i).2.getD 0 AVal.undef = q at h7
              cases q <;> first | rfl | simp [AVal.isAgg] at h7
            refine ⟨⟨by rw [h7]; simp [shp, ha], by rw [h9]; simp [shp, ha, cnt], fun y hy => ?_⟩, by rw [h9]; exact h8.symm⟩
            rw [h9] at hy
            simp only [List.mem_singleton] at hy
            rw [hy]; exact h7
          · simp only [cond_true]
            refine ⟨⟨by simp [AVal.isAgg, shp, ha], by rw [hcnt]; exact h6, fun y hy => ?_⟩, rfl⟩
            obtain ⟨j, hj, rfl⟩ := List.getElem_of_mem hy
            have := (h5.2 j hj).2
            simp only [AVal.cells] at hj
            simpa [hj, AVal.cells] using this
        refine ⟨[.sl false (shp P e) ((List.range len).map fun i => bif aggT P e then .agg (f i).2 else (f i).2.getD 0 .undef)], RepLs.one ?_ rfl, ⟨_, rfl, ?_, ?_⟩, fun B hB => ?_⟩
        · by_cases hc0 : cap = 0
          · have hl0 : len = 0 := by omega
            subst hc0; subst hl0
            exact .slnil _ _ _
          · have hcell0 : ∃ v, W.cell? a = some v := by
              by_cases hl0 : len = 0
              · subst hl0
                obtain ⟨hrl, hr⟩ := hsp rfl
                have h2 := hr 0 (by omega)
                have hr0 : 0 < rest.length := by omega
                rw [List.getElem?_eq_getElem hr0] at h2
                obtain ⟨ci, hc1, _⟩ := Option.bind_eq_some_iff.1 h2
                rw [hcells] at hc1
                have := (cells_at hc1).2 0 hpos
                simp only [Nat.add_zero, Nat.zero_mul, Addr.add, if_true] at this
                exact ⟨_, this⟩
              · have := (cells_at (hf 0 (by omega)).1).2 0 hpos
                simp only [Nat.zero_mul, Addr.add, if_true] at this
                exact ⟨_, this⟩
            obtain ⟨v0, hv0⟩ := hcell0
            have ha0 := cell_spot hv0
            generalize a.block = b at ha0
            generalize a.off = off at ha0
            subst ha0
            obtain ⟨lim, hκ, hlim⟩ := whole_cell hv0
            have hat : ∀ i j, i < len → j < szOf P e → W.cell? ⟨b, off + i * szOf P e + j, none⟩ = some ((f i).1.getD j undef) := fun i j hi hj => by
              have := (cells_at (hf i hi).1).2 j hj
              rw [add_at, add_at] at this
              exact this
            have hlen2 : ((List.range len).map fun i => bif aggT P e then AVal.agg (f i).2 else (f i).2.getD 0 .undef).length = len := by simp
            have := Rep.sl (c := wholeCtx W) b off cap lim false (shp P e) ((List.range len).map fun i => bif aggT P e then .agg (f i).2 else (f i).2.getD 0 .undef) (fun i j => (f i).1.getD j undef)
              (by rw [hlen2]; exact hl) (by simp) hκ (by
                rw [hlen2, hcnt]
                by_cases hl0 : len = 0
                · subst hl0; simp; omega
                · obtain ⟨l', rfl⟩ : ∃ l', len = l' + 1 := ⟨len - 1, by omega⟩
                  obtain ⟨lim', hκ', hlt⟩ := whole_cell (hat l' (szOf P e - 1) (by omega) (by omega))
                  rw [hκ] at hκ'
                  simp only [Option.some.injEq] at hκ'
                  rw [Nat.succ_mul]
                  omega) (fun y hy => by
                obtain ⟨i, hi, rfl⟩ := List.mem_map.1 hy
                exact (hwrap i (by simpa using hi)).1) (fun i j hi hj => by
                rw [hlen2] at hi
                rw [hcnt] at hj ⊢
                exact hat i j hi hj) (fun i j hi hj => by
                rw [hlen2] at hi
                rw [hcnt] at hj
                have e1 : ((List.range len).map fun i => bif aggT P e then AVal.agg (f i).2 else (f i).2.getD 0 .undef).getD i .undef = (bif aggT P e then AVal.agg (f i).2 else (f i).2.getD 0 .undef) := by simp [hi]
                rw [e1, (hwrap i hi).2]
                obtain ⟨_, h4, h5, _⟩ := hf i hi
                exact (h5.2 j (by rw [← h5.1, h4]; exact hj)).1)
            rw [hlen2] at this
            exact this
        · simp only [List.length_map, List.length_range]
          have : (elems.length + rest.length) * P.bytesOf e ≤ 140737488351232 := hbytes
          rw [Nat.add_mul, hlen] at this
          have e : P.bytesOf e = bytesOf P e := rfl
          rw [e] at this
          omega
        · intro y hy
          obtain ⟨i, hi, rfl⟩ := List.mem_map.1 hy
          have hi' : i < len := by simpa using hi
          obtain ⟨h7, h8⟩ := hwrap i hi'
          exact ⟨h7, by rw [h8]; exact (hf i hi').2.2.2.1⟩
        · have h1 := bulk_sum (B := B) ((List.range len).map fun i => bif aggT P e then AVal.agg (f i).2 else (f i).2.getD 0 .undef) (elems.map (·.1)) (by simp [hlen]) (fun i d hi hd => by
            have hi' : i < len := by simpa using hi
            have h9 := (hf i hi').2.2.2.2 B hB d hd
            have h10 : bulkL (bif aggT P e then AVal.agg (f i).2 else (f i).2.getD 0 .undef).cells = bulkL (f i).2 := by rw [(hwrap i hi').2]
            have h11 : ((List.range len).map fun i => bif aggT P e then AVal.agg (f i).2 else (f i).2.getD 0 .undef).getD i .undef = (bif aggT P e then AVal.agg (f i).2 else (f i).2.getD 0 .undef) := by simp [hi']
            rw [h11]
            refine Nat.le_trans (Nat.le_of_eq ?_) h9
            rw [← h10]
            generalize (bif aggT P e then AVal.agg (f i).2 else (f i).2.getD 0 .undef) = q
            cases q <;> simp [AVal.cells, bulkL, AVal.bulk])
          have h2 := hB.sl (elems.map (·.1)) (rest.map (·.1))
          simp only [bulkL, AVal.bulk]
          omega
    · rename_i fs hu
      simp only [Bool.and_eq_true, beq_iff_eq, List.all_eq_true] at hp
      obtain ⟨hc, hall⟩ := hp

      obtain ⟨xs, k, _, rfl, hl, hxl, hx⟩ := DataW.trod_struct hu h
      simp only [DataW.weights, hu] at hw
      refine ⟨hl, ?_⟩
      obtain ⟨as, h3, h4, h5⟩ := contig_ok (W := W) (ok := OkC P n) fs.toList (xs.map (·.1)) 0 cs hc hl (by simpa using hxl) (fun i f d hf hd => by
        obtain ⟨hi, rfl⟩ := List.getElem?_eq_some_iff.1 hf
        have hi' : i < fs.size := by simpa using hi
        have h2 := hx i fs.toList[i] (by simp [hi'])
        have hi2 : i < xs.length := by omega
        rw [List.getElem?_eq_getElem hi2] at h2
        simp [hi2] at hd
        subst hd
        exact reads_ok n _ _ _ k (hall _ (List.mem_of_getElem? hf)) h2 (each_all _ _ hw i _ _ (by simp [hi']) (by simp [hi2])))
      exact ⟨as, by simpa using h3, h4, fun B hB => Nat.le_trans (h5 B hB) (hB.agg _)⟩
    · rename_i len e hu
      simp only [Bool.and_eq_true, beq_iff_eq] at hp
      obtain ⟨hs, hpe⟩ := hp

      obtain ⟨xs, k, _, rfl, hl, hxl, hx⟩ := DataW.trod_array hu h
      simp only [DataW.weights, hu] at hw
      have hl' : cs.length = len * szOf P e := hl.trans hs
      obtain ⟨as, h3, h4, h5⟩ := repeat_ok (W := W) (ok := OkC P n e) (k := szOf P e) len (xs.map (·.1)) cs hl' (by simpa using hxl) (fun i d hi hd => by
        have h2 := hx i hi
        have hi2 : i < xs.length := by omega
        rw [List.getElem?_eq_getElem hi2] at h2
        simp [hi2] at hd
        subst hd
        exact (reads_ok n _ _ _ k hpe h2 (all_all _ hw i _ (by simp [hi2]))).2)
      exact ⟨hl, as, h3, h4, fun B hB => Nat.le_trans (h5 B hB) (hB.agg _)⟩
    · simp at hp

/-- A value of a type, as one. -/
def OkV (P : Program) (n : Nat) (t : TypeId) (a : AVal) : Prop := a.isAgg = aggT P t ∧ OkC P n t a.cells

theorem okWide_shape {r : Reach} {b0 n : Nat} {t : TypeId} {v : Value} (hp : plainT P n t = true) (h : Value.okWide P W r b0 t v) : (aggT P t = true ∧ ∃ xs, v = .agg xs) ∨ (aggT P t = false ∧ v.cells = #[v]) := by
  cases n with
  | zero => simp [plainT] at hp
  | succ n =>
    unfold plainT at hp
    unfold Value.okWide at h
    unfold aggT
    split at hp <;> rename_i hu <;> simp only [hu] at h ⊢
    · right; refine ⟨trivial, ?_⟩; simp only [Cell.okWide, hu, Cell.ok] at h; cases v <;> first | rfl | exact h.elim
    · right; refine ⟨trivial, ?_⟩; simp only [Cell.okWide, hu, Cell.ok] at h; cases v <;> first | rfl | exact h.elim
    · right; refine ⟨trivial, ?_⟩; simp only [Cell.okWide, hu, Cell.ok] at h; cases v <;> first | rfl | exact h.elim
    · right; refine ⟨trivial, ?_⟩; simp only [Cell.okWide, hu, Cell.ok] at h; cases v <;> first | rfl | exact h.elim
    · left; obtain ⟨cs, rfl, _⟩ := h; exact ⟨trivial, cs, rfl⟩
    · left; obtain ⟨cs, rfl, _⟩ := h; exact ⟨trivial, cs, rfl⟩
    · simp at hp

theorem value_reads {r : Reach} {b0 n : Nat} {t : TypeId} {v : Value} {d : DataW H} {ps : List MemPlace} (hp : plainT P n t = true) (hok : Value.okWide P W r b0 t v) (h : DataW.Trod enc P W 0 (fun _ => true) true t v d ps)
    (hw : (d.weights P t).all (fun k => decide (k ≤ reachBytes)) = true) : ∃ a, Rep (wholeCtx W) v a ∧ OkV P n t a ∧ ∀ B, BulkOk B → a.bulk ≤ B d := by
  obtain ⟨m, h⟩ := h
  obtain ⟨hl, as, hr, hc, hbk⟩ := reads_ok n t _ _ m hp h hw
  rcases okWide_shape hp hok with ⟨ha, xs, rfl⟩ | ⟨ha, hv⟩
  · refine ⟨.agg as, .agg xs as (by simpa [Value.cells] using hr.1) (fun y hy => ?_) (fun j hj => ?_), ⟨by simp [AVal.isAgg, ha], hc⟩, fun B hB => by simpa [AVal.bulk] using hbk B hB⟩
    · obtain ⟨j, hj, rfl⟩ := List.getElem_of_mem hy
      have := (hr.2 j hj).2
      simpa [hj] using this
    · have := (hr.2 j hj).1
      simpa [Value.cells, Array.getD_eq_getD_getElem?, List.getD_eq_getElem?_getD] using this
  · rw [hv] at hr
    have h1 : as.length = 1 := by have := hr.1; simp at this; exact this.symm
    match as, h1 with
    | [a], _ =>
      have := hr.2 0 (by simp)
      simp only [List.getD_cons_zero] at this
      have e : a.cells = [a] := by
        have h2 := this.2
        cases a <;> first | rfl | simp [AVal.isAgg] at h2
      exact ⟨a, this.1, ⟨by rw [this.2, ha], by rw [e]; exact hc⟩, fun B hB => by simpa [bulkL] using hbk B hB⟩

def ArgsOk (P : Program) (n : Nat) : List TypeId → List AVal → Prop
  | [], as => as = []
  | t :: ts, as => ∃ a r, as = a :: r ∧ OkV P n t a ∧ ArgsOk P n ts r

theorem args_reads {r : Reach} {b0 n : Nat} : ∀ (ts : List TypeId) (vs : List Value) (ds : List (DataW H)) (ps : List MemPlace), ts.all (plainT P n) = true →
    (∀ (j : Nat) t v, ts[j]? = some t → vs[j]? = some v → Value.okWide P W r b0 t v) → DataW.TrodAll enc P W 0 (fun _ => true) true ts vs ds ps →
    (DataW.weightsEach P ts ds).all (fun k => decide (k ≤ reachBytes)) = true → ∃ as, vs.length = as.length ∧ (∀ j, j < as.length → Rep (wholeCtx W) (vs.getD j undef) (as.getD j .undef)) ∧ ArgsOk P n ts as ∧ ∀ B, BulkOk B → bulkL as ≤ (ds.map B).sum
  | [], [], ds, ps, _, _, _, _ => ⟨[], rfl, fun j hj => by simp at hj, rfl, fun B _ => by simp [bulkL]⟩
  | [], _ :: _, [], _, _, _, h, _ => h.elim
  | [], _ :: _, _ :: _, _, _, _, h, _ => h.elim
  | _ :: _, [], [], _, _, _, h, _ => h.elim
  | _ :: _, [], _ :: _, _, _, _, h, _ => h.elim
  | _ :: _, _ :: _, [], _, _, _, h, _ => h.elim
  | t :: ts, v :: vs, d :: ds, ps, hp, hok, ⟨p, q, h1, h2, _⟩, hw => by
    simp only [List.all_cons, Bool.and_eq_true] at hp
    simp only [DataW.weightsEach, List.all_append, Bool.and_eq_true] at hw
    obtain ⟨a, hr, ha, hba⟩ := value_reads hp.1 (hok 0 t v rfl rfl) h1 hw.1
    obtain ⟨as, hl, hrs, has, hbs⟩ := args_reads ts vs ds q hp.2 (fun j t v h3 h4 => hok (j + 1) t v (by simpa using h3) (by simpa using h4)) h2 hw.2
    refine ⟨a :: as, by simp [hl], fun j hj => ?_, ⟨a, as, rfl, ha, has⟩, fun B hB => by
      have h1 := hba B hB
      have h2 := hbs B hB
      simp only [bulkL, List.map_cons, List.sum_cons]
      omega⟩
    cases j with
    | zero => exact hr
    | succ j => simpa using hrs j (by simpa using hj)

theorem trodAll_stays (hl : laidOutB P = true) {W' : World} (hb : ∀ k, k < W.heap.size → W'.heap[k]? = W.heap[k]?) : ∀ (ts : List TypeId) (vs : List Value) (ds : List (DataW H)) (ps : List MemPlace),
    ts.all (fun t => P.readableRec t && decide (t < P.types.size)) = true → DataW.TrodAll enc P W 0 (fun _ => true) true ts vs ds ps → DataW.TrodAll enc P W' 0 (fun b => decide (b < W.heap.size)) true ts vs ds ps
  | [], [], [], ps, _, h => h
  | [], [], _ :: _, _, _, h => h.elim
  | [], _ :: _, [], _, _, h => h.elim
  | [], _ :: _, _ :: _, _, _, h => h.elim
  | _ :: _, [], [], _, _, h => h.elim
  | _ :: _, [], _ :: _, _, _, h => h.elim
  | _ :: _, _ :: _, [], _, _, h => h.elim
  | t :: ts, v :: vs, d :: ds, ps, hp, ⟨p, q, h1, h2, e⟩ => by
    simp only [List.all_cons, Bool.and_eq_true, decide_eq_true_eq] at hp
    have hlt : ∀ x ∈ p, x.block < W.heap.size := by obtain ⟨m, hm⟩ := h1; exact DataW.trod_lt m _ _ _ hm
    refine ⟨p, q, WideElems.Trod_stays hl hp.1.1 hp.1.2 h1 (fun x hx => ?_) (fun x hx => by simpa using hlt x hx), trodAll_stays hl hb ts vs ds q (by simpa using hp.2) h2, e⟩
    cases x with
    | cell b o => exact World.cell?_of_block (w := W) (hb b (hlt _ hx))
    | map b => exact hb b (hlt _ hx)

/-- The scene of a call from outside. -/
theorem whole_rel (W : World) : HRel (wholeCtx W) (fun _ => none) ⟨[]⟩ ∧ BRel (wholeCtx W) (fun _ => none) :=
  ⟨{ n := rfl, obj := fun id o h => by simp at h, κ := fun id h => by simp [wholeCtx] at h, inj := fun id id' h => by simp [wholeCtx] at h },
   { blk := fun o b h => by simp at h, κ := fun o b h => by simp at h, inj := fun o o' b h => by simp at h, lim := fun b l h => by
      simp only [wholeCtx] at h ⊢
      split at h
      · rename_i hc; exact (Array.getElem?_eq_some_iff.1 hc).1
      · simp at h
     cl := fun id o b h => by simp at h }⟩

/-- A LAW: what the evaluator answers to every typed argument, the statement's contract. -/
theorem law_core {C : Cfg} {f : FuncId} {fn : Func} {s : ChangeSpec} {n : Nat} {tb : TypeId} (W : World) (hm : C.P.follows .mixedOrders = true) (hdst : DstOK C.P) (hext : ExtOK C (wholeCtx W)) (hann : (C.ann f).pown = [] ∧ (C.ann f).rown = [])
    (hlaid : laidOutB C.P = true) (hpl : fn.params.toList.all (plainT C.P n) = true) (hread : fn.params.toList.all (fun t => C.P.readableRec t && decide (t < C.P.types.size)) = true)
    (hres : fn.resultTypes = #[tb]) (htb : C.P.underlying tb = some .bool) (hvars : s.vars = [])
    (hs : ∀ (ds : List (DataW H)), ds.length = fn.params.toList.length → (s.fn H ds).results = [.lit (.bool true)] ∧ (s.fn H ds).args = ds ∧ (s.fn H ds).vars = [])
    (base : Nat) (args : Array Value) (ds gs : List (DataW H)) (before : List MemPlace)
    (hlaw : ∀ as, ArgsOk C.P n fn.params.toList as → (∀ B, BulkOk B → bulkL as ≤ (ds.map B).sum) → ∃ d, (evFn C d f as ⟨[]⟩).All fun r => r.1 = [.bool true])
    (hval : ∀ (j : Nat) t v, fn.params[j]? = some t → args[j]? = some v → Value.okWide C.P W .any base t v)
    (hW : DataW.Whole enc C.P fn.params.toList s.vars false W args.toList ds gs before)
    (hsz : (DataW.weightsEach C.P (fn.params.toList ++ s.plain.varTypes C.P) (ds ++ gs)).all (· ≤ reachBytes) = true) :
    Calls C.P f args W fun e W' => ∃ v, e = .returned v ∧ s.post enc C.P fn false true false false W args v W' := by
  have hW0 := hW
  obtain ⟨p, q, hA, hV, rfl, hfz, hnd⟩ := hW
  rw [hvars] at hV
  have hgs : gs = [] ∧ q = [] := by
    cases gs with
    | nil => exact ⟨rfl, hV⟩
    | cons g gs => exact hV.elim
  obtain ⟨rfl, rfl⟩ := hgs
  have hlen : ∀ (ts : List TypeId) (vs : List Value) (ds : List (DataW H)) (ps : List MemPlace), DataW.TrodAll enc C.P W 0 (fun _ => true) true ts vs ds ps → ds.length = ts.length := by
    intro ts
    induction ts with
    | nil => intro vs ds ps h; cases vs <;> cases ds <;> first | rfl | exact h.elim
    | cons t ts ih =>
      intro vs ds ps h
      cases vs <;> cases ds <;> first | exact h.elim | skip
      obtain ⟨_, _, _, h2, _⟩ := h
      simpa using ih _ _ _ h2
  have hdl := hlen _ _ _ _ hA
  have hsz' : (DataW.weightsEach C.P fn.params.toList ds).all (fun k => decide (k ≤ reachBytes)) = true := by
    have key : ∀ (ts us : List TypeId) (ds : List (DataW H)), ds.length = ts.length → DataW.weightsEach C.P (ts ++ us) (ds ++ []) = DataW.weightsEach C.P ts ds := by
      intro ts us
      induction ts with
      | nil =>
        intro ds h
        have : ds = [] := List.length_eq_zero_iff.1 (by simpa using h)
        subst this
        cases us <;> simp [DataW.weightsEach]
      | cons t ts ih =>
        intro ds h
        cases ds with
        | nil => simp at h
        | cons d ds => simp only [List.cons_append, DataW.weightsEach]; rw [ih ds (by simpa using h)]
    rwa [key _ _ _ hdl] at hsz
  obtain ⟨as, hl, hrep, hok, hbk⟩ := args_reads (r := .any) (b0 := base) fn.params.toList args.toList ds p hpl (fun j t v h1 h2 => hval j t v (by simpa using h1) (by simpa using h2)) hA hsz'
  obtain ⟨d, hd⟩ := hlaw as hok hbk
  obtain ⟨hh, hb⟩ := whole_rel W
  have hcall := (evFn_ok hm hdst hext d).2 f as ⟨[]⟩ _ hd (wholeCtx W) (fun _ => none) args (Ctx.le_refl _) hh hb (fun id kt es c h => by simp at h) (by simpa using hl) (fun j hj => by
    rw [hann.1]
    have := hrep j hj
    simp only [Array.getD_eq_getD_getElem?, List.getD_eq_getElem?_getD] at this ⊢
    simpa [cvIn, RepC, RepS] using this)
  refine hcall.mono ?_
  rintro e W' ⟨xs, c', β', r, rfl, hw', o, hr⟩
  have hx1 : xs.size = 1 := by rw [o.len, hr]; rfl
  have hxv : xs.getD 0 undef = .bool true := by
    have := o.res 0 (by rw [hr]; simp)
    rw [hr, hann.2] at this
    have this : Rep c' (xs.getD 0 undef) (.bool true) := this
    generalize xs.getD 0 undef = v at this
    cases this; rfl
  have hv : resultOf xs = .bool true := by
    unfold resultOf
    rw [dif_pos hx1]
    have : xs.getD 0 undef = xs[0] := by simp [hx1]
    rw [← this]; exact hxv
  have hblk : ∀ k, k < W.heap.size → W'.heap[k]? = W.heap[k]? := fun k hk => by
    rw [← hw']
    refine (o.pres.same k ?_).1
    rintro (h1 | (⟨id, h1, _⟩ | ⟨id, j, h1⟩) | ⟨g, h1⟩)
    · simp only [callBs, wholeCtx] at h1; omega
    · simp [wholeCtx] at h1
    · simp at h1
    · simp at h1
  obtain ⟨hs1, hs2, hs3⟩ := hs (ds ++ []) (by simpa using hdl)
  refine ⟨_, rfl, ds, [], p ++ [], [], p, [], hW0, ?_, ?_, ?_, ?_, fun h => by cases h⟩
  · rw [hv, hs1, hres]
    exact Go.ChangeShapes.trodAll_mk1 ⟨1, by simp [DataW.trod, Value.cells, htb]⟩
  · rw [hs2, List.append_nil]
    exact trodAll_stays hlaid hblk _ _ _ _ hread hA
  · rw [hs3, hvars]; rfl
  · have hio := o.pres.io
    rw [hw'] at hio
    refine ⟨hio.1, hio.2, fun i hi => ?_⟩
    rw [hblk i hi]
    split <;> simp_all

theorem law_contract {C : Cfg} {f : FuncId} {fn : Func} {s : ChangeSpec} {n : Nat} {tb : TypeId} (hm : C.P.follows .mixedOrders = true) (hdst : DstOK C.P) (hext : ∀ W, ExtOK C (wholeCtx W)) (hann : (C.ann f).pown = [] ∧ (C.ann f).rown = [])
    (hlaid : laidOutB C.P = true) (hpl : fn.params.toList.all (plainT C.P n) = true) (hread : fn.params.toList.all (fun t => C.P.readableRec t && decide (t < C.P.types.size)) = true)
    (hres : fn.resultTypes = #[tb]) (htb : C.P.underlying tb = some .bool) (hvars : s.vars = [])
    (hs : ∀ (ds : List (DataW H)), ds.length = fn.params.toList.length → (s.fn H ds).results = [.lit (.bool true)] ∧ (s.fn H ds).args = ds ∧ (s.fn H ds).vars = [])
    (hlaw : ∀ as, ArgsOk C.P n fn.params.toList as → ∃ d, (evFn C d f as ⟨[]⟩).All fun r => r.1 = [.bool true])
    (W : World) (base : Nat) (args : Array Value) (ds gs : List (DataW H)) (before : List MemPlace)
    (hval : ∀ (j : Nat) t v, fn.params[j]? = some t → args[j]? = some v → Value.okWide C.P W .any base t v)
    (hW : DataW.Whole enc C.P fn.params.toList s.vars false W args.toList ds gs before)
    (hsz : (DataW.weightsEach C.P (fn.params.toList ++ s.plain.varTypes C.P) (ds ++ gs)).all (· ≤ reachBytes) = true) :
    Calls C.P f args W fun e W' => ∃ v, e = .returned v ∧ s.post enc C.P fn false true false false W args v W' :=
  law_core W hm hdst (hext W) hann hlaid hpl hread hres htb hvars hs base args ds gs before (fun as h _ => hlaw as h) hval hW hsz
/-- Every temporary that is written is one: by looking at all code. -/
def dstOkB (P : Program) : Bool := P.funcs.toList.all fun fn => match fn.body with | some c => codeDst fn.ntmps c | none => true
theorem dstOk_of {P : Program} (h : dstOkB P = true) : DstOK P := fun f fn c hf hb => by
  have hm : fn ∈ P.funcs.toList := by simpa using Array.mem_of_getElem? hf
  have := List.all_eq_true.1 h fn hm
  simpa [hb] using this
end Go.Weave
