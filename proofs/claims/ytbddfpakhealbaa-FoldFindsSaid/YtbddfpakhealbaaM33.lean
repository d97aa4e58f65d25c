/- Texts of this proof, laid together: the evaluator, what it comes to, and the laws. No condition. -/
import Derived.Test.YtbddfpakhealbaaProg
import Derived.Shelf.Sort.Plain
import Derived.Sort.EveryDepth
import Derived.WalkKit
import Derived.Sort.OwnSorted
import Derived.Maps.AppendAt
import Derived.Test.YtbddfpakhealbaaWvZ
import Derived.KernelRfl
import Derived.Test.YtbddfpakhealbaaWvFo
import Derived.Test.YtbddfpakhealbaaWvLb
import Derived.RangeFuncCalls
import Derived.RangeFuncBox
import Derived.TacticsIn
import Derived.BigFrameIn
import Derived.LoopIn
import Derived.RangeFuncRecord
import Derived.Shelf.RegionOpen
import Derived.OwnWalkIn
import Derived.Test.YtbddfpakhealbaaWvY
import Derived.Test.YtbddfpakhealbaaWvLc
section
/- The library's sort at this program. -/
namespace Go.Proofs
open Go.Shelf
def Try.lays190_ren : Go.Shelf.Ren := ⟨fun | 190 => 24 | 125 => 32 | 258 => 31 | 128 => 48 | 129 => 49 | 302 => 39 | 303 => 40 | 304 => 41 | 305 => 42 | 306 => 43 | 307 => 44 | 308 => 45 | 309 => 46 | 310 => 47 | 333 => 57 | 329 => 58 | 330 => 59 | 334 => 60 | 335 => 61 | 336 => 62 | 344 => 69 | n => n, fun | 31 => 34 | 9 => 9 | 3 => 3 | 46 => 62 | 0 => 0 | 51 => 80 | 53 => 82 | 4 => 4 | 183 => 72 | 182 => 71 | 131 => 77 | 5 => 5 | 218 => 93 | 222 => 97 | 228 => 109 | 229 => 110 | n => n, fun | n => n⟩
theorem Try.lays190 : Go.Proofs.Lays.n190 Try.prog Try.lays190_ren := {
  mixed := by kernel_rfl
  f125 := Try.func32.trans (congrArg some (by kernel_rfl))
  f128 := Try.func48.trans (congrArg some (by kernel_rfl))
  f129 := Try.func49.trans (congrArg some (by kernel_rfl))
  f190 := Try.func24.trans (congrArg some (by kernel_rfl))
  f258 := Try.func31.trans (congrArg some (by kernel_rfl))
  f302 := Try.func39.trans (congrArg some (by kernel_rfl))
  f303 := Try.func40.trans (congrArg some (by kernel_rfl))
  f304 := Try.func41.trans (congrArg some (by kernel_rfl))
  f305 := Try.func42.trans (congrArg some (by kernel_rfl))
  f306 := Try.func43.trans (congrArg some (by kernel_rfl))
  f307 := Try.func44.trans (congrArg some (by kernel_rfl))
  f308 := Try.func45.trans (congrArg some (by kernel_rfl))
  f309 := Try.func46.trans (congrArg some (by kernel_rfl))
  f310 := Try.func47.trans (congrArg some (by kernel_rfl))
  f329 := Try.func58.trans (congrArg some (by kernel_rfl))
  f330 := Try.func59.trans (congrArg some (by kernel_rfl))
  f333 := Try.func57.trans (congrArg some (by kernel_rfl))
  f334 := Try.func60.trans (congrArg some (by kernel_rfl))
  f335 := Try.func61.trans (congrArg some (by kernel_rfl))
  f336 := Try.func62.trans (congrArg some (by kernel_rfl))
  f344 := Try.func69.trans (congrArg some (by kernel_rfl))
  t0 := Try.underlying0
  a0 := Try.isAgg0
  z0 := Try.sizeOf0
  v0 := Try.zeroValue0
  t3 := Try.underlying3
  a3 := Try.isAgg3
  z3 := Try.sizeOf3
  v3 := Try.zeroValue3
  t4 := Try.underlying4
  a4 := Try.isAgg4
  z4 := Try.sizeOf4
  v4 := Try.zeroValue4
  t5 := Try.underlying5
  a5 := Try.isAgg5
  z5 := Try.sizeOf5
  v5 := Try.zeroValue5
  t9 := Try.underlying9
  a9 := Try.isAgg9
  z9 := Try.sizeOf9
  v9 := Try.zeroValue9
  t31 := Try.underlying34
  a31 := Try.isAgg34
  z31 := Try.sizeOf34
  v31 := Try.zeroValue34
  t46 := Try.underlying62
  a46 := Try.isAgg62
  z46 := Try.sizeOf62
  v46 := Try.zeroValue62
  t51 := Try.underlying80
  a51 := Try.isAgg80
  z51 := Try.sizeOf80
  v51 := Try.zeroValue80
  t53 := Try.underlying82
  a53 := Try.isAgg82
  z53 := Try.sizeOf82
  v53 := Try.zeroValue82
  t131 := Try.underlying77
  a131 := Try.isAgg77
  z131 := Try.sizeOf77
  v131 := Try.zeroValue77
  t182 := Try.underlying71
  a182 := Try.isAgg71
  z182 := Try.sizeOf71
  v182 := Try.zeroValue71
  t183 := Try.underlying72
  a183 := Try.isAgg72
  z183 := Try.sizeOf72
  v183 := Try.zeroValue72
  t218 := Try.underlying93
  a218 := Try.isAgg93
  z218 := Try.sizeOf93
  v218 := Try.zeroValue93
  t222 := Try.underlying97
  a222 := Try.isAgg97
  z222 := Try.sizeOf97
  v222 := Try.zeroValue97
  t228 := Try.underlying109
  a228 := Try.isAgg109
  z228 := Try.sizeOf109
  v228 := Try.zeroValue109
  t229 := Try.underlying110
  a229 := Try.isAgg110
  z229 := Try.sizeOf110
  v229 := Try.zeroValue110 }
end Go.Proofs
namespace Go.Proofs.Ytbddfpakhealbaa.Wa
open Go Go.RowKit Go.Maps Go.Sort
set_option maxRecDepth 100000
set_option linter.unusedSimpArgs false
set_option linter.unusedVariables false
set_option linter.unusedSectionVars false
theorem sort_some (blk cap : Nat) (ss : List (List UInt8)) (w : World) (hH : Go.Sort.Holds encStr w blk 0 ss.toArray) (hblk : blk < w.heap.size) (hsz : ss.length < 4611686018427387904) :
    Calls Try.prog 24 #[.slice (some ⟨blk, 0, none⟩) ss.length cap] w fun e w' =>
      e = .returned (.tuple #[]) ∧ ∃ n os, w' = Go.Sort.grow (Go.Sort.putRow encStr (Go.Sort.ahead w n) blk 0 (ss.mergeSort fun x y => decide (x ≤ y)).toArray) os :=
  Go.Proofs.Any.slices_Sort_string Try.lays190 blk 0 cap ss w hH hblk hsz
theorem ins_nil (w : World) : Calls Try.prog 39 #[.slice none 0 0, .int .i64 0, .int .i64 0] w fun e w' => e = .returned (.tuple #[]) ∧ w' = w := by
  go_enter Try.func39, Try.ntmps39
  go_wp2
  refine wp_loop_rounds 1 ?_
  rw [rounds_succ]
  go_wp2
  go_end0
  exact ⟨rfl, rfl⟩
theorem pdq_nil (x : Int) (w : World) : Calls Try.prog 31 #[.slice none 0 0, .int .i64 0, .int .i64 0, .int .i64 x] w fun e w' => e = .returned (.tuple #[]) ∧ w' = w := by
  go_enter Try.func31, Try.ntmps31
  go_wp2
  refine wp_loop_rounds 1 ?_
  rw [rounds_succ]
  go_wp2_with (go_at_call 39; refine (ins_nil _).mono ?_; rintro e w' ⟨rfl, rfl⟩)
  (try simp only [Exit.inBlock, Exit.then]); refine bodyPost_ret (results_none rfl _ _ _) rfl ?_
  exact ⟨rfl, rfl⟩
theorem len64_zero (w : World) : Calls Try.prog 49 #[.int .u64 0] w fun e w' => (∃ x, e = .returned (.int .i64 x)) ∧ w' = w := by
  go_enter Try.func49, Try.ntmps49
  go_wp2
  go_ret
  exact ⟨⟨_, rfl⟩, rfl⟩
set_option maxHeartbeats 1000000 in
theorem len_zero (w : World) : Calls Try.prog 32 #[.int .u64 0] w fun e w' => (∃ x, e = .returned (.int .i64 x)) ∧ w' = w := by
  go_enter Try.func32, Try.ntmps32
  go_wp2_with (go_at_call 49; refine (len64_zero _).mono ?_; rintro e w' ⟨⟨x, rfl⟩, rfl⟩)
  go_ret
  exact ⟨⟨_, rfl⟩, rfl⟩
set_option maxHeartbeats 1000000 in
theorem sort_nil (w : World) : Calls Try.prog 24 #[.slice none 0 0] w fun e w' => e = .returned (.tuple #[]) ∧ w' = w := by
  go_enter Try.func24, Try.ntmps24
  go_wp2_with (first
    | (go_at_call 32; refine (len_zero _).mono ?_; rintro e w' ⟨⟨x, rfl⟩, rfl⟩)
    | (go_at_call 31; refine (pdq_nil _ _).mono ?_; rintro e w' ⟨rfl, rfl⟩))
  go_end0
  exact ⟨rfl, rfl⟩

end Go.Proofs.Ytbddfpakhealbaa.Wa
end

section
/- What the evaluator is told ahead of each function (nothing of it is trusted). -/
namespace Go.Proofs.Ytbddfpakhealbaa.Wa
open Go Go.Weave
set_option maxRecDepth 100000
set_option linter.unusedVariables false
def annw : FuncId → Ann := fun f => match f with
  | 70 => { node := [(10, 5), (14, 5)] }
  | 71 => { node := [(6, 5)] }
  | 72 => { frz := [24], node := [(8, 5), (12, 5)] }
  | 65 => { node := [(15, 5), (20, 5), (27, 5), (32, 5), (39, 5), (44, 5), (48, 5), (51, 5), (57, 5), (60, 5), (74, 5), (79, 5), (88, 5), (93, 5), (98, 5), (104, 5), (107, 5), (113, 5), (116, 5), (120, 5)] }
  | 63 => { frz := [13, 69], node := [(17, 5), (23, 5), (30, 5), (37, 5), (43, 5), (47, 5), (57, 5), (61, 5), (65, 5)] }
  | 66 => { keep := [(1, [.plain 0])], node := [(4, 5), (9, 5)] }
  | 52 => { node := [(9, 5), (15, 5), (21, 5), (28, 5), (34, 5), (38, 5), (46, 5), (51, 5), (56, 5), (61, 5), (65, 5), (71, 5), (75, 5), (79, 5)] }
  | 64 => { keep := [(4, [.plain 1, .plain 7, .plain 8])], node := [(18, 5), (24, 5), (29, 5)] }
  | 17 => { keep := [(2, [.plain 0, .plain 1, .plain 6])] }
  | 22 => { keep := [(3, [.plain 0, .plain 1, .own 5 3, .plain 6])], rown := [0] }
  | 21 => { keep := [(5, [.own 0 3, .plain 1, .plain 2, .own 7 3, .plain 8, .plain 9])], rown := [0] }
  | 7 => { keep := [(4, [.plain 0, .plain 1, .plain 5])] }
  | 55 => { keep := [(6, [.plain 0, .plain 3])], join := [6] }
  | 56 => { loc := [(2, false)] }
  | 36 => { keep := [(4, [.plain 2, .plain 3, .own 9 3, .plain 10, .plain 11])], loc := [(12, false)], rown := [0] }
  | 23 => { loc := [(1, false)] }
  | 28 => { keep := [(3, [.plain 0, .plain 5, .plain 10, .plain 11, .plain 12])], loc := [(7, false)] }
  | 29 => { rown := [0] }
  | 19 => { rown := [0] }
  | 20 => { loc := [(1, false)] }
  | 11 => { keep := [(3, [.plain 0, .plain 1, .plain 6, .plain 7])] }
  | 25 => { keep := [(4, [.plain 0, .plain 1, .plain 12, .plain 13])] }
  | _ => {}
noncomputable def Cw : Cfg := ⟨Try.prog, annw, fun _ => none, fun _ => none⟩
@[simp] theorem plain39 (x0 : List UInt8) (x1 : List UInt8) : plainOk Cw.P 39 (AVal.agg [AVal.str x0, AVal.str x1]) = true := by kernel_rfl
end Go.Proofs.Ytbddfpakhealbaa.Wa
end

section
/- A range over a function: fold's own iterator, whatever is done with what it yields. -/
namespace Go.Proofs.Ytbddfpakhealbaa.Wa
open Go Go.RowKit Go.Weave
set_option maxRecDepth 100000
set_option linter.unusedSimpArgs false
set_option linter.unusedVariables false
set_option linter.unusedSectionVars false

noncomputable def newK (d : Nat) (h : Heap) (K : AVal → Heap → Tr Res) : Tr Res := runK (evFn Cw d 27 [] h) fun r h' => consK r fun t ws => nilK ws (K t h')
noncomputable def applyK (d : Nat) (t ops : AVal) (h : Heap) (K : Heap → Tr Res) : Tr Res := runK (evFn Cw d 28 [t, ops] h) fun r h' => consK r fun _ ws => nilK ws (K h')
noncomputable def iterT {σ : Type} (d : Nat) (yt : Nat → AVal → Heap → σ → (σ → Heap → Tr Res) → Tr Res) (fin : σ → Heap → Tr Res) : List AVal → AVal → Nat → σ → Heap → Tr Res
  | [], t, k, s, h => yt k t h s fin
  | ops :: r, t, k, s, h => yt k t h s fun s' h' => applyK d t ops h' fun h'' => iterT d yt fin r t (k + 1) s' h''
theorem all_runK {t : Tr Res} {K : List AVal → Heap → Tr Res} {Q : Res → Prop} (h : (runK t K).All Q) : t.All fun r => (K r.1 r.2).All Q := by
  have h1 : Run (runK t K) Q ⟨⟩ := ⟨h⟩
  rw [at_runK] at h1
  have h2 := h1.all
  have e : contQ K Q = fun r => (K r.1 r.2).All Q := funext fun r => run_eq
  rw [e] at h2
  exact h2
theorem one_of {r : List AVal} {K : AVal → Tr Res} {Q : Res → Prop} (h : (consK r fun t ws => nilK ws (K t)).All Q) : ∃ t, r = [t] ∧ (K t).All Q := by
  match r, h with
  | [t], h => exact ⟨t, rfl, h⟩
theorem mixedA : Cw.P.follows .mixedOrders = true := by kernel_rfl
theorem dstA : DstOK Cw.P := dstOk_of (by kernel_rfl)
theorem callA (d : Nat) (c : Ctx) : CallOK Cw (evFn Cw d) c := evFn_ok mixedA dstA ⟨fun _ _ h => (by cases h), fun _ _ h => (by cases h)⟩ d
theorem new_calls {d : Nat} {c : Ctx} {β : Owner → Option Nat} {h : Heap} {K : AVal → Heap → Tr Res} {Q : Res → Prop} (L : Live Cw.P c β h) (hq : (newK d h K).All Q) :
    Calls Try.prog 27 #[] c.w fun e w' => ∃ (v : Value) (c' : Ctx) (β' : Owner → Option Nat) (h' : Heap) (t : AVal), e = .returned v ∧ w' = c'.w ∧ Live Cw.P c' β' h' ∧ CKp c β c' β' ∧ Rep c' v t ∧ (K t h').All Q := by
  refine (call_live (callA d c) (all_runK hq) c.le_refl L (by rfl) rfl (fun j hj => by cases hj)).mono ?_
  rintro e w' ⟨xs, c', β', r, rfl, rfl, L', k, hs, hr, hQ⟩
  obtain ⟨t, ht, hQ⟩ := one_of hQ
  rw [ht] at hs hr
  obtain ⟨v, rfl⟩ : ∃ v, xs = #[v] := Array.size_eq_one_iff.1 hs
  exact ⟨v, c', β', r.2, t, rfl, rfl, L', k, hr 0 (by simp), hQ⟩
theorem apply_calls {d : Nat} {c : Ctx} {β : Owner → Option Nat} {h : Heap} {K : Heap → Tr Res} {Q : Res → Prop} {t ops : AVal} {tv ov : Value} (L : Live Cw.P c β h) (rt : Rep c tv t) (ro : Rep c ov ops) (hq : (applyK d t ops h K).All Q) :
    Calls Try.prog 28 #[tv, ov] c.w fun e w' => ∃ (v : Value) (c' : Ctx) (β' : Owner → Option Nat) (h' : Heap), e = .returned v ∧ w' = c'.w ∧ Live Cw.P c' β' h' ∧ CKp c β c' β' ∧ (K h').All Q := by
  refine (call_live (callA d c) (all_runK hq) c.le_refl L (by rfl) rfl (fun j hj => by
    match j, hj with
    | 0, _ => exact rt
    | 1, _ => exact ro)).mono ?_
  rintro e w' ⟨xs, c', β', r, rfl, rfl, L', k, hs, hr, hQ⟩
  obtain ⟨t', ht, hQ⟩ := one_of (K := fun _ => K r.2) hQ
  exact ⟨_, c', β', r.2, rfl, rfl, L', k, hQ⟩
noncomputable def contT {σ : Type} (d : Nat) (yt : Nat → AVal → Heap → σ → (σ → Heap → Tr Res) → Tr Res) (fin : σ → Heap → Tr Res) (es : List AVal) (t : AVal) (k : Nat) : σ → Heap → Tr Res :=
  match es with
  | [] => fin
  | ops :: r => fun s' h' => applyK d t ops h' fun h'' => iterT d yt fin r t (k + 1) s' h''
theorem iterT_eq {σ : Type} (d : Nat) (yt : Nat → AVal → Heap → σ → (σ → Heap → Tr Res) → Tr Res) (fin : σ → Heap → Tr Res) (es : List AVal) (t : AVal) (k : Nat) (s : σ) (h : Heap) : iterT d yt fin es t k s h = yt k t h s (contT d yt fin es t k) := by
  cases es <;> rfl
/-- What a round is to give. -/
def RoundsOK {σ : Type} (Q : Res → Prop) (l : Nat) (yt : Nat → AVal → Heap → σ → (σ → Heap → Tr Res) → Tr Res) (I : σ → Ctx → (Owner → Option Nat) → Prop) (Stop : World → Prop) (c0 : Ctx) (tv : Value) (t : AVal) : Prop :=
  ∀ (m k : Nat) (s : σ) (c : Ctx) (β : Owner → Option Nat) (h : Heap) (K : σ → Heap → Tr Res), c0.le c → Live Cw.P c β h → Rep c tv t → I s c β → (yt k t h s K).All Q → k ≤ 1000 →
    YieldAt Fence.wide m Try.prog l #[.int .i64 k, tv] c.w fun e W' => (e = .returned (.bool true) ∧ ∃ s' c' β' h', W' = c'.w ∧ c.le c' ∧ Live Cw.P c' β' h' ∧ I s' c' β' ∧ (K s' h').All Q) ∨ (e = .returned (.bool false) ∧ Stop W')
theorem el_at {c : Ctx} {y : Option Addr} {n cp : Nat} {f : Bool} {es : List AVal} (hn : n = es.length) (h : Rep c (.slice y n cp) (.sl f 0 es)) {i : Nat} (hi : i < es.length) :
    ∃ b off fv, y = some ⟨b, off, none⟩ ∧ c.w.cell? ⟨b, off + i, none⟩ = some fv ∧ Rep c fv es[i] := by
  rcases h.slInv with ⟨x, e, e2⟩ | ⟨b, off, cap, e, hat⟩
  · subst e2; cases hi
  · obtain ⟨hcap, hf, lim, g, hk, hl, he, hc, hr⟩ := hat
    have h0 : (0 : Nat) < cnt 0 := by decide
    have h1 := hc i 0 hi h0
    have h2 := hr i 0 hi h0
    have eg : es.getD i .undef = es[i] := by simp [hi]
    have hok := he es[i] (List.getElem_mem hi)
    have hag : (es[i]).isAgg = false := hok.1
    rw [eg, cells_of hag] at h2
    refine ⟨b, off, g i 0, by cases e; rfl, ?_, h2⟩
    have e1 : off + i * cnt 0 + 0 = off + i := by have : cnt 0 = 1 := rfl; rw [this]; omega
    rw [e1] at h1
    exact h1
set_option maxHeartbeats 4000000 in
theorem each_walk {σ : Type} {Q : Res → Prop} (d l B n : Nat) (yt : Nat → AVal → Heap → σ → (σ → Heap → Tr Res) → Tr Res) (fin : σ → Heap → Tr Res) (I : σ → Ctx → (Owner → Option Nat) → Prop) (Stop : World → Prop)
    (hI : ∀ s c β c' β', I s c β → CKp c β c' β' → I s c' β') (c0 : Ctx) (y : Option Addr) (cp : Nat) (es : List AVal) (hes : es.length ≤ 100)
    (hB : ∀ s c β, I s c β → c.w.cell? ⟨B, 0, none⟩ = some (.slice y es.length cp))
    (hY : ∀ (tv : Value) (t : AVal), RoundsOK Q l yt I Stop c0 tv t)
    {s0 : σ} {β0 : Owner → Option Nat} {h0 : Heap} (L0 : Live Cw.P c0 β0 h0) (i0 : I s0 c0 β0) {f : Bool} (rl : Rep c0 (.slice y es.length cp) (.sl f 0 es)) (hq : (newK d h0 fun t h' => iterT d yt fin es t 0 s0 h').All Q) :
    CallsIn Fence.wide n Try.prog 26 #[.func (.yield l) #[] #[], .pointer (some ⟨B, 0, none⟩)] c0.w fun e W' => (∃ v, e = .returned v) ∧ ((∃ s' c' β' h', W' = c'.w ∧ Live Cw.P c' β' h' ∧ c0.le c' ∧ I s' c' β' ∧ (fin s' h').All Q) ∨ Stop W') := by
  refine callsIn_of_wp Try.func26 rfl trivial ?_ rfl
  simp only [Try.ntmps26, List.size_toArray, List.length_cons, List.length_nil, Nat.reduceAdd, Nat.reduceSub, Array.replicate_succ, Array.replicate_zero, List.push_toArray, List.append_toArray, List.nil_append, List.cons_append]
  have hfn : ∀ k, Fence.wide.fn k := fun _ => trivial
  gi_wp2
  refine ⟨fun h => (by cases h), (callsIn_wide.2 (new_calls L0 hq)).mono ?_⟩
  rintro e w' ⟨v, c1, β1, h1, t, rfl, rfl, L1, k1, rt, hq1⟩
  rw [iterT_eq] at hq1
  obtain ⟨fnn, tm, as', bd, hy, hR⟩ := hY v t (n - 1) 0 s0 c1 β1 h1 _ k1.le L1 rt (hI _ _ _ _ _ i0 k1) hq1 (Nat.zero_le _)
  have hy0 : (Instr.yield l #[.int .i64 0, v]).run Try.prog c1.w = .ok (.round l fnn tm as' bd) c1.w := hy
  gi_wp2
  refine ⟨fun h => (by cases h), hR.mono ?_⟩
  rintro e w2 (⟨rfl, s1, c2, β2, h2, rfl, hle2, L2, i2, hq2⟩ | ⟨rfl, hst⟩)
  · have hcell := hB _ _ _ i2
    have rt2 := Rep.mono hle2 rt
    have hle := Ctx.le_trans k1.le hle2
    clear hy hR hy0 i0 hq hq1 k1 L1 L0
    gi_wp2
    gi_loopw [13] (fun vi wr => ∃ (i : Nat) (s : σ) (c : Ctx) (β : Owner → Option Nat) (h : Heap), i ≤ es.length ∧ vi = .int .i64 i ∧ wr = c.w ∧ c0.le c ∧ Live Cw.P c β h ∧ I s c β ∧ Rep c v t ∧ (contT d yt fin (es.drop i) t i s h).All Q)
      (fun vi _ => es.length - (RowKit.intOf vi).toNat)
    case atStart => exact ⟨0, s1, c2, β2, h2, Nat.zero_le _, rfl, rfl, hle, L2, i2, rt2, hq2⟩
    case round =>
      obtain ⟨i, s, c, β, h, hi, rfl, rfl, hle', L, ii, rt', hqi⟩ := hrel
      by_cases hlt : i < es.length
      · obtain ⟨b, off, fv, rfl, hce, hrf⟩ := el_at rfl (Rep.mono hle' rl) hlt
        rw [List.drop_eq_getElem_cons hlt] at hqi
        have hqi' : (applyK d t es[i] h fun h'' => iterT d yt fin (es.drop (i + 1)) t (i + 1) s h'').All Q := hqi
        clear hqi
        gi_wp2
        refine ⟨fun h => (by cases h), (callsIn_wide.2 (apply_calls L rt' hrf hqi')).mono ?_⟩
        rintro e w' ⟨v3, c3, β3, h3, rfl, rfl, L3, k3, hq3⟩
        rw [iterT_eq] at hq3
        have rt3 := Rep.mono k3.le rt'
        have hle3 := Ctx.le_trans hle' k3.le
        obtain ⟨fn4, tm4, as4, bd4, hy, hR⟩ := hY v t (n - 1) (i + 1) s c3 β3 h3 _ hle3 L3 rt3 (hI _ _ _ _ _ ii k3) hq3 (by omega)
        have ei : ((i + 1 : Nat) : Int) = (i : Int) + 1 := by omega
        rw [ei] at hy
        have hy0 : (Instr.yield l #[.int .i64 ((i : Int) + 1), v]).run Try.prog c3.w = .ok (.round l fn4 tm4 as4 bd4) c3.w := hy
        clear hqi' L k3 rt' hce hrf
        gi_wp2
        refine ⟨fun h => (by cases h), hR.mono ?_⟩
        rintro e w2 (⟨rfl, s5, c5, β5, h5, rfl, hle5, L5, i5, hq5⟩ | ⟨rfl, hst⟩)
        · have rt5 := Rep.mono hle5 rt3
          have hle6 := Ctx.le_trans hle3 hle5
          clear hy hR hy0 hq3
          gi_wp2
          go_roundw
          case rel => exact ⟨i + 1, s5, c5, β5, h5, by omega, by go_num, rfl, hle6, L5, i5, rt5, hq5⟩
          case measure => simp [RowKit.intOf]; omega
        · gi_wp2
          refine bodyPost_ret (results_none rfl _ _ _) rfl ?_
          exact ⟨⟨_, rfl⟩, .inr hst⟩
      · have hi' : i = es.length := by omega
        subst hi'
        have hq9 : (fin s h).All Q := by rw [List.drop_length] at hqi; exact hqi
        gi_wp2
        go_end0
        exact ⟨⟨_, rfl⟩, .inl ⟨s, c, β, h, rfl, L, hle', ii, hq9⟩⟩
  · gi_wp2
    refine bodyPost_ret (results_none rfl _ _ _) rfl ?_
    exact ⟨⟨_, rfl⟩, .inr hst⟩
end Go.Proofs.Ytbddfpakhealbaa.Wa
end

section
/- A range over fold's own iterator: one law for whatever body. -/
namespace Go.Proofs.Ytbddfpakhealbaa.Wa
open Go Go.RowKit Go.Weave
set_option maxRecDepth 100000
set_option linter.unusedSimpArgs false
set_option linter.unusedVariables false
set_option linter.unusedSectionVars false

/-- The walk's blocks from a number on are as they were. -/
def LK (n0 : Nat) (c : Ctx) (β : Owner → Option Nat) (c' : Ctx) (β' : Owner → Option Nat) : Prop := ∀ b, n0 ≤ b → b < n0 + 2 → Pv c β b → Pv c' β' b ∧ c'.w.heap[b]? = c.w.heap[b]?
theorem LK.refl (n0 : Nat) (c : Ctx) (β : Owner → Option Nat) : LK n0 c β c β := fun _ _ _ p => ⟨p, rfl⟩
theorem LK.trans {n0 : Nat} {c c' c'' : Ctx} {β β' β'' : Owner → Option Nat} (h1 : LK n0 c β c' β') (h2 : LK n0 c' β' c'' β'') : LK n0 c β c'' β'' := fun b hb hb2 p => by
  obtain ⟨p1, e1⟩ := h1 b hb hb2 p
  obtain ⟨p2, e2⟩ := h2 b hb hb2 p1
  exact ⟨p2, e2.trans e1⟩
theorem LK.call {n0 : Nat} {c c' : Ctx} {β β' : Owner → Option Nat} (h : CKp c β c' β') : LK n0 c β c' β' := fun _ _ _ p => p.call h
/-- What a body's end is to give. -/
def bodyEnd {σ : Type} (Q : Res → Prop) (n0 : Nat) (I : σ → Ctx → (Owner → Option Nat) → Prop) (Ix : Code → Heap → Ctx → (Owner → Option Nat) → Prop) (K : σ → Heap → Tr Res) (c : Ctx) (β : Owner → Option Nat) : Exit → Act → World → Prop
  | .normal, _, W' => ∃ s' c' β' h', W' = c'.w ∧ c.le c' ∧ LK n0 c β c' β' ∧ Live Cw.P c' β' h' ∧ I s' c' β' ∧ (K s' h').All Q
  | .ret, _, W' => ∃ c' β' h', W' = c'.w ∧ LK n0 c β c' β' ∧ Live Cw.P c' β' h' ∧ Ix .ret h' c' β'
  | _, _, _ => False
/-- Steps of the law's own: they touch nothing below. -/
def LStable (n0 : Nat) (p : Ctx → (Owner → Option Nat) → Prop) : Prop := ∀ (c : Ctx) (β : Owner → Option Nat) (w' : World), c.w.heap.size ≤ w'.heap.size → w'.os = c.w.os ∧ w'.output = c.w.output → c.le (c.at w') → (∀ b, b < n0 ∨ n0 + 2 ≤ b → w'.heap[b]? = c.w.heap[b]?) → (∀ b, Pv c β b → Pv (c.at w') β b) → p c β → p (c.at w') β
theorem putObj_step {P : Program} {c : Ctx} {β : Owner → Option Nat} {H : Heap} (L : Live P c β H) {l : Nat} (o : Obj) (p : Pv c β l) : Live P (c.at (c.w.putObj l o)) β H ∧ c.le (c.at (c.w.putObj l o)) ∧ (∀ b, Pv c β b → Pv (c.at (c.w.putObj l o)) β b) := by
  obtain ⟨h1, h2, h3, _⟩ := own_step L (w' := c.w.putObj l o) (by simp) (fun b _ hb => World.putObj_heap_other fun e => hb (by rw [e]; exact p))
  exact ⟨h1, h2, h3⟩
set_option maxHeartbeats 1000000 in
theorem range_each {σ : Type} {Q : Res → Prop} (d B n : Nat) (yt : Nat → AVal → Heap → σ → (σ → Heap → Tr Res) → Tr Res) (fin : σ → Heap → Tr Res) (I : σ → Ctx → (Owner → Option Nat) → Prop) (Ix : Code → Heap → Ctx → (Owner → Option Nat) → Prop)
    {g : Operand} {ps : Array Tmp} {assign body : Code} {Qx : Exit → Act → World → Prop} {a : Act} {c0 : Ctx} {β0 : Owner → Option Nat} {h0 : Heap} (L0 : Live Cw.P c0 β0 h0)
    (hg : a.eval g = .func (.func 26) #[] #[.pointer (some ⟨B, 0, none⟩)]) (hps : ps.size = 2)
    (hI : ∀ s c β c' β', I s c β → CKp c β c' β' → I s c' β') (hI2 : ∀ s, LStable c0.w.heap.size (I s)) (hIx2 : ∀ x h, LStable c0.w.heap.size (Ix x h))
    (y : Option Addr) (cp : Nat) (es : List AVal) (hes : es.length ≤ 100) (hB : ∀ s c β, I s c β → c.w.cell? ⟨B, 0, none⟩ = some (.slice y es.length cp))
    {s0 : σ} (i0 : I s0 c0 β0) {f : Bool} (rl : Rep c0 (.slice y es.length cp) (.sl f 0 es)) (hq : (newK d h0 fun t h' => iterT d yt fin es t 0 s0 h').All Q)
    (a1 : Nat → Value → Act)
    (hassign : ∀ (l m k : Nat) (tv : Value) (W : World) (K : Act → World → Prop), K (a1 k tv) W → assign.wpIn (Fence.wide.inRound l) m Try.prog (Exit.then K (fun _ _ _ => False)) { tmps := (ps.zip #[.int .i64 k, tv]).foldl (fun t (p, v) => t.setIfInBounds p v) a.tmps, defers := [] } W)
    (hbody : ∀ (l m k : Nat) (s : σ) (c : Ctx) (β : Owner → Option Nat) (h : Heap) (t : AVal) (tv : Value) (K : σ → Heap → Tr Res), c0.w.heap.size + 2 ≤ c.w.heap.size → c0.le c → Live Cw.P c β h → Rep c tv t → I s c β → (yt k t h s K).All Q → k ≤ 1000 →
      body.wpIn (Fence.wide.inRound l) m Try.prog (bodyEnd Q c0.w.heap.size I Ix K c β) (a1 k tv) c.w)
    (hdone : ∀ (D : Nat) (s : σ) (c : Ctx) (β : Owner → Option Nat) (h : Heap), D = c0.w.heap.size → Live Cw.P c β h → c0.le c → I s c β → (fin s h).All Q → Pv c β D → c.w.heap[D]? = some (.deferred (some [])) → Qx .normal { a with defers := { target := .collected D, args := #[] } :: a.defers } c.w)
    (hstop : ∀ (D : Nat) (c : Ctx) (β : Owner → Option Nat) (h : Heap), D = c0.w.heap.size → Live Cw.P c β h → Ix .ret h c β → Pv c β D → c.w.heap[D]? = some (.deferred (some [])) → (Code.ret).wpIn Fence.wide n Try.prog Qx { a with defers := { target := .collected D, args := #[] } :: a.defers } c.w) :
    (Code.rangeFunc g ps assign body).wpIn Fence.wide n Try.prog Qx a c0.w := by
  refine wpIn_rangeFunc ?_
  intro fn hfn
  obtain ⟨rec, hrec⟩ : ∃ rec : LoopState → Option Code → Loop, rec = fun st pe => { state := st, pending := pe, fn, tmps := a.tmps, params := ps, assign, body, defers := c0.w.heap.size } := ⟨_, rfl⟩
  obtain ⟨W1, hW1⟩ : ∃ W1, (c0.w.alloc (.deferred (some []))).alloc (.loop (rec .ready none)) = W1 := ⟨_, rfl⟩
  have hL1 : W1.heap[c0.w.heap.size + 1]? = some (.loop (rec .ready none)) := by
    rw [← hW1]; have := World.alloc_heap_new (c0.w.alloc (.deferred (some []))) (.loop (rec .ready none)); rwa [World.size_alloc] at this
  have hD1 : W1.heap[c0.w.heap.size]? = some (.deferred (some [])) := by
    rw [← hW1]; exact (Below.heap_alloc _ _ _ (by simp)).trans (World.alloc_heap_new c0.w _)
  have hlow : ∀ b, b < c0.w.heap.size → W1.heap[b]? = c0.w.heap[b]? := fun b hb => by
    rw [← hW1]; exact (Below.heap_alloc _ _ b (by simp; omega)).trans (Below.heap_alloc _ _ b hb)
  have hs1 : W1.heap.size = c0.w.heap.size + 2 := by rw [← hW1]; simp
  have hio1 : W1.os = c0.w.os ∧ W1.output = c0.w.output := by rw [← hW1]; exact ⟨rfl, rfl⟩
  obtain ⟨L1, hle1, hpv1, hnew1⟩ := own_step L0 (w' := W1) (by omega) (fun b hb _ => hlow b hb)
  have hlow' : ∀ b, b < c0.w.heap.size ∨ c0.w.heap.size + 2 ≤ b → W1.heap[b]? = c0.w.heap[b]? := fun b hb => by
    rcases hb with hb | hb
    · exact hlow b hb
    · rw [Array.getElem?_eq_none (by omega), Array.getElem?_eq_none (by omega)]
  have i1 := hI2 s0 c0 β0 W1 (by omega) hio1 hle1 hlow' hpv1 i0
  have pl := hnew1 (c0.w.heap.size + 1) (by omega) (by omega)
  have pD := hnew1 c0.w.heap.size (by omega) (by omega)
  refine ⟨c0.w.heap.size + 1, [{ target := .collected c0.w.heap.size, args := #[] }], W1, { target := .fn (.func 26) #[.pointer (some ⟨B, 0, none⟩)], args := #[.func (.yield (c0.w.heap.size + 1)) #[] #[]] }, W1, 26,
    #[.func (.yield (c0.w.heap.size + 1)) #[] #[], .pointer (some ⟨B, 0, none⟩)], W1, ?_, ?_, ?_, ?_, fun h => (by cases h), ?_⟩
  · rw [← hW1, hrec]; exact run_enterLoop_outer _ _ _ _ _
  · simp only [resolve, hg]
    simp [go_sem]
  · intro f' _; trivial
  · simp [invoke, go_sem]
  · refine (each_walk d (c0.w.heap.size + 1) B (n - 1) yt fin
      (fun s c β => I s c β ∧ c0.w.heap.size ≤ c.w.heap.size ∧ c0.le c ∧ (Pv c β (c0.w.heap.size + 1) ∧ c.w.heap[c0.w.heap.size + 1]? = some (.loop (rec .ready none))) ∧ (Pv c β c0.w.heap.size ∧ c.w.heap[c0.w.heap.size]? = some (.deferred (some []))))
      (fun W => ∃ c β h, W = c.w ∧ Live Cw.P c β h ∧ Ix .ret h c β ∧ (Pv c β (c0.w.heap.size + 1) ∧ W.heap[c0.w.heap.size + 1]? = some (.loop (rec .done (some .ret)))) ∧ (Pv c β c0.w.heap.size ∧ W.heap[c0.w.heap.size]? = some (.deferred (some []))))
      (fun s c β c' β' ⟨h1, h2, h3, ⟨p1, e1⟩, ⟨p2, e2⟩⟩ k => ⟨hI _ _ _ _ _ h1 k, Nat.le_trans h2 k.size, Ctx.le_trans h3 k.le, ⟨(p1.call k).1, (p1.call k).2.trans e1⟩, ⟨(p2.call k).1, (p2.call k).2.trans e2⟩⟩)
      (c0.at W1) y cp es hes (fun s c β h => hB s c β h.1) ?_ L1 ⟨i1, by show c0.w.heap.size ≤ W1.heap.size; omega, hle1, ⟨pl, hL1⟩, ⟨pD, hD1⟩⟩ (Rep.mono hle1 rl) hq).mono ?_
    · -- one round
      rintro tv t m k s c β h K hc L rt ⟨hi, hsz, hcle, ⟨p1, e1⟩, ⟨p2, e2⟩⟩ hyt hk
      have hy := run_yield (P := Try.prog) (args := #[.int .i64 k, tv]) e1 (by rw [hrec]; exact hps.symm)
      rw [hrec] at hy
      refine ⟨fn, _, assign, body, hy, roundIn_of_wpIn trivial (hassign _ _ k tv c.w _ ⟨_, run_beginRound e1 (by rw [hrec]), ?_⟩)⟩
      have hlt := p1.out.1
      obtain ⟨L2, hle2, hpv2⟩ := putObj_step L (.loop { rec .ready none with state := .busy }) p1
      have low2 : ∀ b, b < c0.w.heap.size ∨ c0.w.heap.size + 2 ≤ b → (c.w.putObj (c0.w.heap.size + 1) (.loop { rec .ready none with state := .busy })).heap[b]? = c.w.heap[b]? := fun b hb => World.putObj_heap_other (by omega)
      have i2 := hI2 s c β (c.w.putObj (c0.w.heap.size + 1) (.loop { rec .ready none with state := .busy })) (by simp) ⟨rfl, rfl⟩ hle2 low2 hpv2 hi
      have e1' : (c.w.putObj (c0.w.heap.size + 1) (.loop { rec .ready none with state := .busy })).heap[c0.w.heap.size + 1]? = some (.loop { rec .ready none with state := .busy }) := World.putObj_heap_same hlt
      have e2' : (c.w.putObj (c0.w.heap.size + 1) (.loop { rec .ready none with state := .busy })).heap[c0.w.heap.size]? = some (.deferred (some [])) := (World.putObj_heap_other (by omega)).trans e2
      refine wpIn_mono (hbody _ _ k s (c.at (c.w.putObj (c0.w.heap.size + 1) (.loop { rec .ready none with state := .busy }))) β h t tv K (by have := p1.out.1; simp; omega) (Ctx.le_trans hcle hle2) L2 (Rep.mono hle2 rt) i2 hyt hk) ?_
      rintro e a3 W3 hp
      cases e with
      | normal =>
        obtain ⟨s', c', β', h', rfl, hle3, hlk, L3, i3, hK⟩ := hp
        obtain ⟨p1', e3⟩ := hlk _ (by omega) (by omega) (hpv2 _ p1)
        obtain ⟨p2', e4⟩ := hlk _ (Nat.le_refl _) (by omega) (hpv2 _ p2)
        have e3' := e3.trans e1'
        have e4' := e4.trans e2'
        obtain ⟨L4, hle4, hpv4⟩ := putObj_step L3 (.loop (rec .ready none)) p1'
        have hr := run_endRound (P := Try.prog) none e3'
        have er : ({ rec .ready none with state := if (none : Option Code).isNone then LoopState.ready else LoopState.done, pending := none } : Loop) = rec .ready none := by rw [hrec]; rfl
        have hr' : (Instr.endRound (c0.w.heap.size + 1) none).run Try.prog c'.w = .ok (.bool true) (c'.w.putObj (c0.w.heap.size + 1) (.loop (rec .ready none))) := by
          rw [← er]; exact hr
        have hc' : c0.w.heap.size ≤ c'.w.heap.size := by have := p1'.out.1; omega
        refine ⟨_, _, hr', .inl ⟨rfl, s', c'.at (c'.w.putObj (c0.w.heap.size + 1) (.loop (rec .ready none))), β', h', rfl, Ctx.le_trans (Ctx.le_trans hle2 hle3) hle4, L4, ⟨hI2 s' c' β' (c'.w.putObj (c0.w.heap.size + 1) (.loop (rec .ready none))) (by simp) ⟨rfl, rfl⟩ hle4 (fun b hb => World.putObj_heap_other (by omega)) hpv4 i3, by simp; exact hc', Ctx.le_trans (Ctx.le_trans (Ctx.le_trans hcle hle2) hle3) hle4, ⟨hpv4 _ p1', World.putObj_heap_same p1'.out.1⟩, ⟨hpv4 _ p2', (World.putObj_heap_other (by omega)).trans e4'⟩⟩, hK⟩⟩
      | ret =>
        obtain ⟨c', β', h', rfl, hlk, L3, i3⟩ := hp
        obtain ⟨p1', e3⟩ := hlk _ (by omega) (by omega) (hpv2 _ p1)
        obtain ⟨p2', e4⟩ := hlk _ (Nat.le_refl _) (by omega) (hpv2 _ p2)
        have e3' := e3.trans e1'
        have e4' := e4.trans e2'
        obtain ⟨L4, hle4, hpv4⟩ := putObj_step L3 (.loop (rec .done (some .ret))) p1'
        have hr := run_endRound (P := Try.prog) (some .ret) e3'
        have er : ({ rec .ready none with state := if (some Code.ret : Option Code).isNone then LoopState.ready else LoopState.done, pending := some .ret } : Loop) = rec .done (some .ret) := by rw [hrec]; rfl
        have hr' : (Instr.endRound (c0.w.heap.size + 1) (some .ret)).run Try.prog c'.w = .ok (.bool false) (c'.w.putObj (c0.w.heap.size + 1) (.loop (rec .done (some .ret)))) := by
          rw [← er]; exact hr
        refine ⟨_, _, hr', .inr ⟨rfl, c'.at (c'.w.putObj (c0.w.heap.size + 1) (.loop (rec .done (some .ret)))), β', h', rfl, L4, hIx2 _ _ c' β' (c'.w.putObj (c0.w.heap.size + 1) (.loop (rec .done (some .ret)))) (by simp) ⟨rfl, rfl⟩ hle4 (fun b hb => World.putObj_heap_other (by omega)) hpv4 i3, ⟨hpv4 _ p1', World.putObj_heap_same p1'.out.1⟩, ⟨hpv4 _ p2', (World.putObj_heap_other (by omega)).trans e4'⟩⟩⟩
      | exit id => exact hp.elim
      | goto t => exact hp.elim
      | panic ch => exact hp.elim
      | outgrown => exact hp.elim
    · -- behind the iterator
      rintro e W2 ⟨⟨v, rfl⟩, (⟨s', c', β', h', rfl, L2, hle2, ⟨i2, hsz, hcle, ⟨p1, e1⟩, ⟨p2, e2⟩⟩, hfin⟩ | ⟨c', β', h', rfl, L2, i2, ⟨p1, e1⟩, ⟨p2, e2⟩⟩)⟩
      · have hend := run_endLoop (P := Try.prog) e1 (by rw [hrec]; simp)
        have er : (rec .ready none).pending = none := by rw [hrec]
        have hend := hend.trans (congrArg (fun x => Result.ok x (c'.w.putObj (c0.w.heap.size + 1) (.loop { rec .ready none with state := .exhausted }))) er)
        obtain ⟨L4, hle4, hpv4⟩ := putObj_step L2 (.loop { rec .ready none with state := .exhausted }) p1
        exact ⟨none, _, hend, hdone _ s' (c'.at (c'.w.putObj (c0.w.heap.size + 1) (.loop { rec .ready none with state := .exhausted }))) β' h' rfl L4 (Ctx.le_trans hcle hle4) (hI2 s' c' β' (c'.w.putObj (c0.w.heap.size + 1) (.loop { rec .ready none with state := .exhausted })) (by simp) ⟨rfl, rfl⟩ hle4 (fun b hb => World.putObj_heap_other (by omega)) hpv4 i2) hfin (hpv4 _ p2) ((World.putObj_heap_other (by omega)).trans e2)⟩
      · have hend := run_endLoop (P := Try.prog) e1 (by rw [hrec]; simp)
        have er : (rec .done (some .ret)).pending = some .ret := by rw [hrec]
        have hend := hend.trans (congrArg (fun x => Result.ok x (c'.w.putObj (c0.w.heap.size + 1) (.loop { rec .done (some .ret) with state := .exhausted }))) er)
        obtain ⟨L4, hle4, hpv4⟩ := putObj_step L2 (.loop { rec .done (some .ret) with state := .exhausted }) p1
        exact ⟨some .ret, _, hend, hstop _ (c'.at (c'.w.putObj (c0.w.heap.size + 1) (.loop { rec .done (some .ret) with state := .exhausted }))) β' h' rfl L4 (hIx2 _ _ c' β' (c'.w.putObj (c0.w.heap.size + 1) (.loop { rec .done (some .ret) with state := .exhausted })) (by simp) ⟨rfl, rfl⟩ hle4 (fun b hb => World.putObj_heap_other (by omega)) hpv4 i2) (hpv4 _ p2) ((World.putObj_heap_other (by omega)).trans e2)⟩
end Go.Proofs.Ytbddfpakhealbaa.Wa
end

section
/- What is behind batches: the walk of After. -/
namespace Go.Proofs.Ytbddfpakhealbaa.Wa
open Go Go.RowKit Go.Weave
set_option maxRecDepth 100000
set_option linter.unusedSimpArgs false
set_option linter.unusedVariables false
set_option linter.unusedSectionVars false

noncomputable def pairsK (d : Nat) (t : AVal) (h : Heap) (K : Bool → Nat → List AVal → Heap → Tr Res) : Tr Res := runK (evFn Cw d 19 [t] h) fun r h' => consK r fun v ws => nilK ws (match v with | .sl f sz ps => K f sz ps h' | _ => .fail)
theorem sl_value {c : Ctx} {v : Value} {f : Bool} {sz : Nat} {ps : List AVal} (h : Rep c v (.sl f sz ps)) : ∃ x cp, v = .slice x ps.length cp := by
  rcases h.slInv with ⟨x, rfl, rfl⟩ | ⟨b, off, cap, rfl, _⟩
  · exact ⟨x, 0, rfl⟩
  · exact ⟨_, _, rfl⟩
theorem pairs_calls {d : Nat} {c : Ctx} {β : Owner → Option Nat} {h : Heap} {K : Bool → Nat → List AVal → Heap → Tr Res} {Q : Res → Prop} {t : AVal} {tv : Value} (L : Live Cw.P c β h) (rt : Rep c tv t) (hq : (pairsK d t h K).All Q) :
    Calls Try.prog 19 #[tv] c.w fun e w' => ∃ (x : Option Addr) (cp : Nat) (c' : Ctx) (β' : Owner → Option Nat) (h' : Heap) (f : Bool) (sz : Nat) (ps : List AVal), e = .returned (.slice x ps.length cp) ∧ w' = c'.w ∧ Live Cw.P c' β' h' ∧ CKp c β c' β' ∧ Rep c' (.slice x ps.length cp) (.sl f sz ps) ∧ (K f sz ps h').All Q := by
  refine (call_live (callA d c) (all_runK hq) c.le_refl L (by rfl) rfl (fun j hj => by
    match j, hj with
    | 0, _ => exact rt)).mono ?_
  rintro e w' ⟨xs, c', β', r, rfl, rfl, L', k, hs, hr, hQ⟩
  obtain ⟨a, ha, hQ⟩ := one_of (K := fun v => match v with | .sl f sz ps => K f sz ps r.2 | _ => .fail) hQ
  rw [ha] at hs hr
  obtain ⟨v, rfl⟩ : ∃ v, xs = #[v] := Array.size_eq_one_iff.1 hs
  have hv : Rep c' v a := hr 0 (by simp)
  match a, hv, hQ with
  | .sl f sz ps, hv, hQ =>
    obtain ⟨x, cp, rfl⟩ := sl_value hv
    exact ⟨x, cp, c', β', r.2, f, sz, ps, rfl, rfl, L', k, hv, hQ⟩
/-- A block of the walk's own holds this. -/
def Kept (b : Nat) (o : Obj) (c : Ctx) (β : Owner → Option Nat) : Prop := Pv c β b ∧ c.w.heap[b]? = some o
theorem Kept.call {b : Nat} {o : Obj} {c c' : Ctx} {β β' : Owner → Option Nat} (h : Kept b o c β) (k : CKp c β c' β') : Kept b o c' β' := ⟨(h.1.call k).1, (h.1.call k).2.trans h.2⟩
theorem Kept.stable {n0 b : Nat} (hb : b < n0) (o : Obj) : LStable n0 (Kept b o) := fun c β w' _ _ _ hlow hpv h => ⟨hpv _ h.1, (hlow b (.inl hb)).trans h.2⟩
theorem kp_stable {n0 B : Nat} (hB : B ≤ n0) (cs : Ctx) (βs : Owner → Option Nat) : LStable n0 (Kp B cs βs) := fun c β w' hsz hio hle hlow _ h => h.trans (own_kp hle hsz hio fun b hb _ => hlow b (.inl (by omega)))
theorem rep_stable {n0 : Nat} (v : Value) (a : AVal) : LStable n0 (fun c _ => Rep c v a) := fun c β w' _ _ hle _ _ h => Rep.mono hle h
theorem LStable.and {n0 : Nat} {p q : Ctx → (Owner → Option Nat) → Prop} (h1 : LStable n0 p) (h2 : LStable n0 q) : LStable n0 (fun c β => p c β ∧ q c β) := fun c β w' a b e f g h => ⟨h1 c β w' a b e f g h.1, h2 c β w' a b e f g h.2⟩
theorem each_calls (y : Option Addr) (n cp : Nat) (w : World) : Calls Try.prog 18 #[.slice y n cp] w fun e w' => e = .returned (.func (.func 26) #[] #[.pointer (some ⟨w.heap.size, 0, none⟩)]) ∧ w' = w.alloc (.cells #[.slice y n cp] 22) := by
  refine callsIn_wide.1 (callsIn_of_wp (n := 5) (F := Fence.wide) Try.func18 rfl trivial ?_ rfl)
  simp only [Try.ntmps18, List.size_toArray, List.length_cons, List.length_nil, Nat.reduceAdd, Nat.reduceSub, Array.replicate_succ, Array.replicate_zero, List.push_toArray, List.append_toArray, List.nil_append, List.cons_append]
  gi_wp2
  go_ret
  exact ⟨rfl, rfl⟩
noncomputable def afterT (d : Nat) (es : List AVal) (n : Int) (h : Heap) : Tr Res :=
  newK d h fun t h' => iterT d (fun k t h (_ : Unit) K => bif decide ((k : Int) = max 0 (min n es.length)) then pairsK d t h (fun f sz ps h' => .ret ([.sl f sz ps], h')) else K () h) (fun _ _ => .fail) es t 0 () h'
theorem ite_minI (x y : Int) : (if y < x then y else x) = min x y := by split <;> omega
theorem ite_maxI (x y : Int) : (if x < y then y else x) = max x y := by split <;> omega
attribute [local go_sem] Oper.semAt_some ite_minI ite_maxI
set_option maxHeartbeats 1000000 in
theorem after_in {Q : Res → Prop} (d : Nat) (c : Ctx) (β : Owner → Option Nat) (h : Heap) (L : Live Cw.P c β h) (n : Int) (y : Option Addr) (cp : Nat) (es : List AVal) (hes : es.length ≤ 100) {f : Bool} (rl : Rep c (.slice y es.length cp) (.sl f 0 es)) (hq : (afterT d es n h).All Q) :
    CallsIn Fence.wide 10 Try.prog 8 #[.slice y es.length cp, .int .i64 n] c.w fun e W' => ∃ v c' β' h' av, e = .returned v ∧ W' = c'.w ∧ Live Cw.P c' β' h' ∧ Kp c.w.heap.size c β c' β' ∧ Rep c' v av ∧ Q ([av], h') := by
  refine callsIn_of_wp_marks Try.func8 rfl trivial ?_ rfl
  simp only [Try.ntmps8, List.size_toArray, List.length_cons, List.length_nil, Nat.reduceAdd, Nat.reduceSub, Array.replicate_succ, Array.replicate_zero, List.push_toArray, List.append_toArray, List.nil_append, List.cons_append]
  gi_wp2
  refine ⟨trivial, (callsIn_wide.2 (each_calls _ _ _ _)).mono ?_⟩
  rintro e w' ⟨rfl, rfl⟩
  obtain ⟨W0, hW0⟩ : ∃ W0, ((c.w.alloc (Obj.cells #[Value.int IntKind.i64 (max 0 (min n es.length))] 3)).alloc (Obj.cells #[Value.slice none 0 0] 26)).alloc (.cells #[.slice y es.length cp] 22) = W0 := ⟨_, rfl⟩
  have hsz : W0.heap.size = c.w.heap.size + 3 := by rw [← hW0]; simp
  have hlow : ∀ b, b < c.w.heap.size → W0.heap[b]? = c.w.heap[b]? := fun b hb => by
    rw [← hW0, Below.heap_alloc _ _ b (by simp; omega), Below.heap_alloc _ _ b (by simp; omega), Below.heap_alloc _ _ b hb]
  have h3 : W0.heap[c.w.heap.size]? = some (.cells #[Value.int IntKind.i64 (max 0 (min n es.length))] 3) := by
    rw [← hW0, Below.heap_alloc _ _ _ (by simp; omega), Below.heap_alloc _ _ _ (by simp)]; exact World.alloc_heap_new _ _
  have h4 : W0.heap[c.w.heap.size + 1]? = some (.cells #[Value.slice none 0 0] 26) := by
    rw [← hW0, Below.heap_alloc _ _ _ (by simp)]
    have := World.alloc_heap_new (c.w.alloc (Obj.cells #[Value.int IntKind.i64 (max 0 (min n es.length))] 3)) (Obj.cells #[Value.slice none 0 0] 26)
    rwa [World.size_alloc] at this
  have hB : W0.heap[c.w.heap.size + 2]? = some (.cells #[.slice y es.length cp] 22) := by
    have := World.alloc_heap_new ((c.w.alloc (Obj.cells #[Value.int IntKind.i64 (max 0 (min n es.length))] 3)).alloc (Obj.cells #[Value.slice none 0 0] 26)) (.cells #[.slice y es.length cp] 22)
    rw [hW0] at this
    simpa using this
  have hio : W0.os = c.w.os ∧ W0.output = c.w.output := by rw [← hW0]; exact ⟨rfl, rfl⟩
  rw [show ((c.w.alloc (Obj.cells #[Value.int IntKind.i64 (max 0 (min n es.length))] 3)).alloc (Obj.cells #[Value.slice none 0 0] 26)).heap.size = c.w.heap.size + 2 by simp]
  rw [hW0]
  clear hW0
  gi_wp2
  obtain ⟨L0, hle0, hpv0, hnew0⟩ := own_step L (w' := W0) (by omega) (fun b hb _ => hlow b hb)
  have hkp0 : Kp c.w.heap.size c β (c.at W0) β := own_kp hle0 (by omega) hio fun b hb _ => hlow b hb
  refine range_each (Q := Q) d (c.w.heap.size + 2) 10 _ (fun _ _ => .fail)
    (fun (_ : Unit) c' β' => Kp c.w.heap.size c β c' β' ∧ Kept c.w.heap.size (.cells #[Value.int IntKind.i64 (max 0 (min n es.length))] 3) c' β' ∧ Kept (c.w.heap.size + 1) (.cells #[Value.slice none 0 0] 26) c' β' ∧ Kept (c.w.heap.size + 2) (.cells #[.slice y es.length cp] 22) c' β')
    (fun _ h' c' β' => Kp c.w.heap.size c β c' β' ∧ ∃ x k cp av, Kept (c.w.heap.size + 1) (.cells #[Value.slice x k cp] 26) c' β' ∧ Rep c' (Value.slice x k cp) av ∧ Q ([av], h'))
    (c0 := c.at W0) L0 rfl rfl (fun s c1 β1 c2 β2 ⟨h1, h2, h3, h4⟩ k => ⟨h1.trans k.kp, h2.call k, h3.call k, h4.call k⟩)
    (fun s => (kp_stable (by show _ ≤ W0.heap.size; omega) c β).and ((Kept.stable (by show _ < W0.heap.size; omega) _).and ((Kept.stable (by show _ < W0.heap.size; omega) _).and (Kept.stable (by show _ < W0.heap.size; omega) _))))
    (fun x h' c1 β1 w' e1 e2 e3 e4 e5 ⟨h1, x, k, cp, av, h2, h3, h4⟩ => ⟨kp_stable (by show _ ≤ W0.heap.size; omega) c β c1 β1 w' e1 e2 e3 e4 e5 h1, x, k, cp, av, Kept.stable (by show _ < W0.heap.size; omega) _ c1 β1 w' e1 e2 e3 e4 e5 h2, Rep.mono e3 h3, h4⟩)
    y cp es hes (fun s c1 β1 ⟨h1, h2, h3, h4⟩ => Boxed.cell h4.2) ⟨hkp0, ⟨hnew0 _ (by omega) (by omega), h3⟩, ⟨hnew0 _ (by omega) (by omega), h4⟩, ⟨hnew0 _ (by omega) (by omega), hB⟩⟩ (Rep.mono hle0 rl) hq
    (fun k tv => { tmps := #[Value.slice y es.length cp, Value.int IntKind.i64 n, undef, Value.pointer (some ⟨c.w.heap.size, 0, none⟩), Value.pointer (some ⟨c.w.heap.size + 1, 0, none⟩), .int .i64 k, tv, Value.int IntKind.i64 n,
          Value.slice y es.length cp, Value.int IntKind.i64 es.length, Value.int IntKind.i64 (min n es.length),
          Value.int IntKind.i64 (max 0 (min n es.length)), Value.slice y es.length cp, Value.func (Fn.func 26) #[] #[Value.pointer (some ⟨c.w.heap.size + 2, 0, none⟩)], .int .i64 k, tv, undef, undef, undef, undef, undef], defers := [] }) ?_ ?_ (fun D s c1 β1 h1 _ _ _ _ hf _ _ => hf.elim) ?_
  · rintro l m k tv W K hK
    gi_wp2
    exact hK
  · rintro l m k s c1 β1 h1 t tv K hsz1 hle1 L1 rt ⟨kp, k3, k4, kB⟩ hyt hk
    have hc3 := Boxed.cell k3.2
    have hc4 := Boxed.cell k4.2
    by_cases hkn : (k : Int) = max 0 (min n es.length)
    · have hyt' : (pairsK d t h1 (fun f sz ps h' => .ret ([.sl f sz ps], h'))).All Q := by simpa only [hkn, decide_true, cond_true] using hyt
      have hf4 := Boxed.frozen k4.2
      gi_wp2
      refine ⟨trivial, fun h => (by cases h), (CallsIn.inRound l (callsIn_wide.2 (pairs_calls L1 rt hyt'))).mono ?_⟩
      rintro e w' ⟨x, cp2, c2, β2, h2, f2, sz, ps, rfl, rfl, L2, k2, r2, hQ⟩
      have k4' := k4.call k2
      have hc4' := Boxed.cell k4'.2
      have hf4' := Boxed.frozen k4'.2
      gi_wp2
      have hne : ∀ b, ¬ Pv c2 β2 b → b ≠ c.w.heap.size + 1 := fun b hb e => hb (by rw [e]; exact k4'.1)
      obtain ⟨L3, hle3, hpv3, _⟩ := own_step L2 (w' := c2.w.setCell ⟨c.w.heap.size + 1, 0, none⟩ (.slice x ps.length cp2)) (by simp) (fun b _ hb => Below.heap_setCell _ _ _ b (hne b hb))
      refine ⟨c2.at _, β2, h2, rfl, fun b hb _ p => ?_, L3, (kp.trans k2.kp).trans (own_kp hle3 (by simp) ⟨rfl, rfl⟩ fun b hb _ => Below.heap_setCell _ _ _ b (by show b ≠ c.w.heap.size + 1; omega)), x, ps.length, cp2, ⟨hpv3 _ k4'.1, Boxed.set _ k4'.2⟩, _, Rep.mono hle3 r2, hQ⟩
      obtain ⟨p2, e2⟩ := p.call k2
      exact ⟨hpv3 _ p2, (Below.heap_setCell _ _ _ b (by have : c.w.heap.size + 3 ≤ b := hb; show b ≠ c.w.heap.size + 1; omega)).trans e2⟩
    · have hyt' : (K () h1).All Q := by simpa only [hkn, decide_false, cond_false] using hyt
      gi_wp2
      exact ⟨s, c1, β1, h1, rfl, c1.le_refl, LK.refl _ _ _, L1, ⟨kp, k3, k4, kB⟩, hyt'⟩
  · rintro D c1 β1 h1 hD L1 ⟨kp, x, k, cp', av, k4, rv, hQ⟩ pD hD2
    have hDs : D = c.w.heap.size + 3 := by have : D = W0.heap.size := hD; omega
    clear hD
    subst hDs
    have hc4 := Boxed.cell k4.2
    gi_wp2
    obtain ⟨L2, hle2, hpv2⟩ := putObj_step L1 (.deferred none) pD
    refine ⟨by simp, .inl ⟨_, _, rfl, run_takeDeferred hD2, ?_⟩⟩
    have hc5 : (c1.w.putObj (c.w.heap.size + 3) (.deferred none)).cell? ⟨c.w.heap.size + 1, 0, none⟩ = some (.slice x k cp') :=
      (World.cell?_of_block (World.putObj_heap_other (k := c.w.heap.size + 1) (by omega))).trans hc4
    refine ⟨.slice x k cp', ?_, _, c1.at (c1.w.putObj (c.w.heap.size + 3) (.deferred none)), β1, h1, av, rfl, rfl, L2, kp.trans (own_kp hle2 (by simp) ⟨rfl, rfl⟩ fun b hb _ => World.putObj_heap_other (by omega)), Rep.mono hle2 rv, hQ⟩
    simp [results, Try.f8, go_sem, hc5]
end Go.Proofs.Ytbddfpakhealbaa.Wa
end

section
/- The states behind batches: the walk of States. -/
namespace Go.Proofs.Ytbddfpakhealbaa.Wa
open Go Go.RowKit Go.Weave
set_option maxRecDepth 100000
set_option linter.unusedSimpArgs false
set_option linter.unusedVariables false
set_option linter.unusedSectionVars false

/-- A row of the walk's own: slices, told of. -/
structure Row (n0 : Nat) (s : List AVal) (c : Ctx) (β : Owner → Option Nat) (v : Value) (vs : List Value) : Prop where
  row : c.w.ownsRow n0 26 1 v s.length vs
  pv : ∀ g, v.ownBlock = some g → Pv c β g
  rep : ∀ k, k < s.length → Rep c (vs.getD k undef) (s.getD k .undef)
  sl : ∀ a ∈ s, ∃ f sz ps, a = .sl f sz ps
theorem ownsRow_of {w w' : World} {base size n : Nat} {e : TypeId} {v : Value} {xs : List Value} (h : w.ownsRow base e size v n xs) (hs : ∀ g, v.ownBlock = some g → w'.heap[g]? = w.heap[g]?) : w'.ownsRow base e size v n xs := by
  refine ⟨h.1, ?_⟩
  rcases h.2 with h | ⟨g, cap, cur, rfl, h1, h2, h3⟩
  · exact .inl h
  · exact .inr ⟨g, cap, cur, rfl, h1, by rw [hs g rfl]; exact h2, h3⟩
theorem ownsRow_ge {w : World} {base size n : Nat} {e : TypeId} {v : Value} {xs : List Value} (h : w.ownsRow base e size v n xs) {g : Nat} (hg : v.ownBlock = some g) : base ≤ g := by
  rcases h.2 with ⟨rfl, _⟩ | ⟨g', cap, cur, rfl, h1, h2, h3⟩
  · cases hg
  · cases hg; exact h1
theorem Row.call {n0 : Nat} {s : List AVal} {c c' : Ctx} {β β' : Owner → Option Nat} {v : Value} {vs : List Value} (h : Row n0 s c β v vs) (k : CKp c β c' β') : Row n0 s c' β' v vs :=
  ⟨ownsRow_of h.row fun g hg => ((h.pv g hg).call k).2, fun g hg => ((h.pv g hg).call k).1, fun i hi => Rep.mono k.le (h.rep i hi), h.sl⟩
theorem Row.stable {n0 : Nat} (s : List AVal) (v : Value) (vs : List Value) : LStable n0 (fun c β => Row (n0 + 2) s c β v vs) := fun c β w' _ _ hle hlow hpv h =>
  ⟨ownsRow_of h.row fun g hg => hlow g (.inr (ownsRow_ge h.row hg)), fun g hg => hpv g (h.pv g hg), fun i hi => Rep.mono hle (h.rep i hi), h.sl⟩
theorem info26 : (Try.prog.info? 26).map (fun i => (i.zero, i.size, i.bytes)) = some (some (.slice none 0 0), 1, 24) := by kernel_rfl
theorem getD_snoc_lt {α : Type} {l : List α} {x d : α} {k : Nat} (h : k < l.length) : (l ++ [x]).getD k d = l.getD k d := by
  simp only [List.getD_eq_getElem?_getD]; rw [List.getElem?_append_left h]
theorem getD_snoc_eq {α : Type} {l : List α} {x d : α} : (l ++ [x]).getD l.length d = x := by
  simp [List.getD_eq_getElem?_getD]
def appOp (ats : Array TypeId) (ty : TypeId) (args : Array Value) : Sem Value := Builtin.append_ ats ty args
theorem builtin_app (ats : Array TypeId) (ty : TypeId) (args : Array Value) : Builtin.append_ ats ty args = appOp ats ty args := rfl
theorem Row.push {n0 : Nat} {s : List AVal} {c : Ctx} {β : Owner → Option Nat} {h : Heap} {v : Value} {vs : List Value} (L : Live Cw.P c β h) (hr : Row n0 s c β v vs) {bo : Nat} (kb : Kept bo (.cells #[v] 28) c β) (hn : n0 ≤ c.w.heap.size) (hs : s.length ≤ 200)
    {x : Option Addr} {n cp : Nat} {f : Bool} {sz : Nat} {ps : List AVal} (rv : Rep c (.slice x n cp) (.sl f sz ps)) :
    ∃ v' w1, (appOp #[28, 28] 28 #[v, .slice (some ⟨c.w.heap.size, 0, none⟩) 1 1]).run Try.prog (c.w.alloc (.cells #[.slice x n cp] 26)) = .ok v' w1 ∧ (∃ g cap, v' = .slice (some ⟨g, 0, none⟩) (s.length + 1) cap) ∧ w1.cell? ⟨bo, 0, none⟩ = some v ∧ w1.frozen? ⟨bo, 0, none⟩ = false ∧
      ∃ W', w1.setCell ⟨bo, 0, none⟩ v' = W' ∧ Live Cw.P (c.at W') β h ∧ c.le (c.at W') ∧ (∀ b, Pv c β b → Pv (c.at W') β b) ∧ (∀ b, b < c.w.heap.size → b ≠ bo → v.ownBlock ≠ some b → W'.heap[b]? = c.w.heap[b]?) ∧ c.w.heap.size ≤ W'.heap.size ∧ (W'.os = c.w.os ∧ W'.output = c.w.output) ∧ Kept bo (.cells #[v'] 28) (c.at W') β ∧ Row n0 (s ++ [.sl f sz ps]) (c.at W') β v' (vs ++ [.slice x n cp]) := by
  obtain ⟨i0, hi, hz0, hz1, hz2⟩ := info_parts info26
  have hB : Boxed c.w bo 28 v := kb.2
  have hvl : vs.length = s.length := by have := hr.row.1; omega
  obtain ⟨v', w1, hrun, hown, hgrow, hnil, hwhere⟩ := run_append_own_at (P := Try.prog) (w := c.w.alloc (.cells #[.slice x n cp] 26)) n0 28 28 26 i0 (.slice none 0 0) 1 24 Try.underlying28 hi hz0 hz1 hz2 rfl (by decide) v s.length vs (hr.row.alloc _) ⟨c.w.heap.size, 0, none⟩ 1 1 [.slice x n cp] rfl (cell_one_new _ _ _) (by simp [Value.oneCell']) (by simp only [maxLen]; omega) (by omega) (by simp; omega)
  have hv1 : Boxed w1 bo 28 v := (hB.alloc _).kept hgrow (hB.not_row (by decide) hr.row)
  obtain ⟨g, cap, hv'⟩ := ownsRow_succ hown
  have hge := ownsRow_ge hown (g := g) (by rw [hv']; rfl)
  have hne1 : some bo ≠ v'.ownBlock := hv1.not_row (by decide) hown
  have hne : bo ≠ g := fun e => hne1 (by rw [hv', e]; rfl)
  obtain ⟨W', hW'⟩ : ∃ W', w1.setCell ⟨bo, 0, none⟩ v' = W' := ⟨_, rfl⟩
  have hlow : ∀ b, b < c.w.heap.size → b ≠ bo → v.ownBlock ≠ some b → W'.heap[b]? = c.w.heap[b]? := fun b h1 h2 h3 => by
    rw [← hW', Below.heap_setCell _ _ _ b h2, hgrow.block b (by simp; omega) (fun e => h3 e.symm), Below.heap_alloc _ _ b h1]
  have hsz : c.w.heap.size ≤ W'.heap.size := by have := hgrow.size; rw [← hW']; simp at this ⊢; omega
  obtain ⟨L', hle, hpv, hnew⟩ := own_step L (w' := W') hsz fun b hb hp => hlow b hb (fun e => hp (by rw [e]; exact kb.1)) fun e => hp (hr.pv b e)
  have hset := hv1.set v'
  have hWb : W'.heap[bo]? = some (.cells #[v'] 28 (0, 0)) := by rw [← hW']; exact hset
  refine ⟨v', w1, hrun, ⟨g, cap, hv'⟩, hv1.cell, hv1.frozen, W', hW', L', hle, hpv, hlow, hsz, ⟨?_, ?_⟩, ⟨hpv _ kb.1, hWb⟩, ⟨?_, ?_, ?_, ?_⟩⟩
  · rw [← hW']; exact hgrow.os
  · rw [← hW']; exact hgrow.output
  · have := ownsRow_of (w' := W') hown fun b hb => by
      rw [← hW']; exact Below.heap_setCell _ _ _ b fun e => hne1 (by rw [hb, e])
    simpa using this
  · intro b hb
    by_cases hlt : b < c.w.heap.size
    · rcases hwhere with e | e
      · exact hpv _ (hr.pv b (e.symm.trans hb))
      · rw [e] at hb
        simp at hb
        omega
    · have hlt2 : b < W'.heap.size := by
        rcases hown.2 with ⟨h0, _⟩ | ⟨g', cap', cur', e', _, hg', _⟩
        · rw [h0] at hb; cases hb
        · rw [e'] at hb; cases hb
          have := (Array.getElem?_eq_some_iff.1 hg').1
          rw [← hW']; simpa using this
      exact hnew b (by omega) hlt2
  · intro k hk
    have hk : k < s.length + 1 := by simpa using hk
    by_cases e : k < s.length
    · rw [getD_snoc_lt (by omega), getD_snoc_lt e]; exact Rep.mono hle (hr.rep k e)
    · obtain rfl : k = s.length := by omega
      have : (vs ++ [Value.slice x n cp]).getD s.length undef = Value.slice x n cp := by rw [← hvl]; exact getD_snoc_eq
      rw [this, getD_snoc_eq]; exact Rep.mono hle rv
  · intro a ha
    rcases List.mem_append.1 ha with h | h
    · exact hr.sl a h
    · exact ⟨f, sz, ps, List.mem_singleton.1 h⟩
end Go.Proofs.Ytbddfpakhealbaa.Wa
end

section
/- The states behind batches: the walk of States. -/
namespace Go.Proofs.Ytbddfpakhealbaa.Wa
open Go Go.RowKit Go.Weave
set_option maxRecDepth 100000
set_option linter.unusedSimpArgs false
set_option linter.unusedVariables false
set_option linter.unusedSectionVars false

noncomputable def statesT (d : Nat) (es : List AVal) (h : Heap) : Tr Res :=
  newK d h fun t h' => iterT d (fun _ t h (s : List AVal) K => bif decide (s.length ≤ 200) then (pairsK d t h fun f sz ps h' => K (s ++ [.sl f sz ps]) h') else .fail) (fun s h => .ret ([.sl false 0 s], h)) es t 0 [] h'
/-- At last the row is told of. -/
theorem Row.tell {n0 : Nat} {s : List AVal} {c : Ctx} {β : Owner → Option Nat} {h : Heap} {v : Value} {vs : List Value} (L : Live Cw.P c β h) (hr : Row n0 s c β v vs) : ∃ c', c'.w = c.w ∧ Live Cw.P c' β h ∧ Kp n0 c β c' β ∧ Rep c' v (.sl false 0 s) := by
  have hvl : vs.length = s.length := by have := hr.row.1; omega
  rcases hr.row.2 with ⟨rfl, h0⟩ | ⟨g, cap, cur, rfl, h1, h2, h3, h4, h5, h6⟩
  · obtain rfl : s = [] := List.length_eq_zero_iff.1 h0
    exact ⟨c, rfl, L, Kp.refl _ _ _, Rep.slnil _ _ _⟩
  · have pg := hr.pv g rfl
    have hgl : g < c.w.heap.size := pg.out.1
    have hm : ∀ b, Mgd c β b → b ≠ g := fun b hb e => pg.out.2 (e ▸ hb)
    have hβg : ∀ o b, β o = some b → b ≠ g := fun o b h e => by
      have := L.own.κ o b h
      rw [e] at this; exact this pg.κ
    have hle : c.le ⟨c.w, c.n, c.ι, fun b => if b = g then some s.length else c.κ b⟩ := ⟨Nat.le_refl _, fun _ _ => rfl, fun b l h => ⟨l, by
      have : b ≠ g := fun e => by rw [e, pg.κ] at h; cases h
      show (if b = g then _ else _) = _
      rw [if_neg this]; exact h, Nat.le_refl _, fun _ _ => rfl⟩⟩
    refine ⟨⟨c.w, c.n, c.ι, fun b => if b = g then some s.length else c.κ b⟩, rfl, ⟨⟨L.heap.n, fun id o ho => ?_, fun id hid => ?_, L.heap.inj⟩, ⟨L.own.blk, fun o b h => ?_, L.own.inj, fun b l h => ?_, L.own.cl⟩, L.keys, L.tok⟩, ⟨hle, Nat.le_refl _, ⟨rfl, rfl⟩, fun b hb ho => ⟨rfl, if_neg (by omega), ho.2⟩⟩, ?_⟩
    · have hid : id < c.n := by rw [L.heap.n]; exact (List.getElem?_eq_some_iff.1 ho).1
      exact (L.heap.obj id o ho).move hle (fun o' b h => ⟨if_neg (hβg o' b h), rfl⟩) hid rfl
    · show (if c.ι id = g then _ else _) = none
      rw [if_neg (hm _ (.inl ⟨id, hid, rfl⟩))]
      exact L.heap.κ id hid
    · show (if b = g then _ else _) ≠ none
      rw [if_neg (hβg o b h)]
      exact L.own.κ o b h
    · have h : (if b = g then some s.length else c.κ b) = some l := h
      split at h
      · rename_i e; rw [e]; exact hgl
      · exact L.own.lim b l h
    · have hcell : ∀ i (hi : i < s.length), c.w.cell? ⟨g, i, none⟩ = some (vs.getD i undef) := fun i hi => by
        have h7 : (cur.toList.take (s.length * 1))[i]? = vs[i]? := by rw [h6]
        rw [List.getElem?_take_of_lt (by omega), Array.getElem?_toList] at h7
        simp only [World.cell?, h2]
        simp only [Option.isSome_none, Bool.false_eq_true, if_false]
        rw [h7]
        have : i < vs.length := by omega
        simp [this]
      exact Rep.sl (c := ⟨c.w, c.n, c.ι, fun b => if b = g then some s.length else c.κ b⟩) g 0 cap s.length false 0 s (fun i _ => vs.getD i undef) h3 (by simp) (if_pos rfl) (by show 0 + s.length * 1 ≤ s.length; omega) (fun e he => by
        obtain ⟨f, sz, ps, rfl⟩ := hr.sl e he
        exact ⟨rfl, rfl, fun z hz => by simp [AVal.cells] at hz; subst hz; rfl⟩) (fun i j hi hj => by
        have hj0 : j = 0 := by have : cnt 0 = 1 := rfl; omega
        subst hj0
        show c.w.cell? ⟨g, 0 + i * 1 + 0, none⟩ = _
        rw [show 0 + i * 1 + 0 = i by omega, hcell i hi]) (fun i j hi hj => by
        have hj0 : j = 0 := by have : cnt 0 = 1 := rfl; omega
        subst hj0
        have e5 : (s.getD i .undef).cells.getD 0 .undef = s.getD i .undef := by
          obtain ⟨f, sz, ps, e⟩ := hr.sl _ (List.getElem_mem hi)
          simp [hi, e, AVal.cells]
        rw [e5]
        exact Rep.mono hle (hr.rep i hi))
theorem Row.form {n0 : Nat} {s : List AVal} {c : Ctx} {β : Owner → Option Nat} {v : Value} {vs : List Value} (hr : Row n0 s c β v vs) : ∃ x cp, v = .slice x s.length cp := by
  rcases hr.row.2 with ⟨rfl, h0⟩ | ⟨g, cap, cur, rfl, _⟩
  · exact ⟨none, 0, by rw [h0]⟩
  · exact ⟨_, _, rfl⟩
theorem drew_step {P : Program} {c : Ctx} {β : Owner → Option Nat} {H : Heap} (L : Live P c β H) : Live P (c.at c.w.drew) β H ∧ c.le (c.at c.w.drew) ∧ (∀ b, Pv c β b → Pv (c.at c.w.drew) β b) := by
  obtain ⟨h1, h2, h3, _⟩ := own_step L (w' := c.w.drew) (Nat.le_refl _) (fun b _ _ => rfl)
  exact ⟨h1, h2, h3⟩
attribute [local go_sem] Oper.semAt_some ite_minI ite_maxI
attribute [local go_sem ↓] builtin_app
set_option maxHeartbeats 1000000 in
theorem states_in {Q : Res → Prop} (d : Nat) (c : Ctx) (β : Owner → Option Nat) (h : Heap) (L : Live Cw.P c β h) (y : Option Addr) (cp : Nat) (es : List AVal) (hes : es.length ≤ 100) {f : Bool} (rl : Rep c (.slice y es.length cp) (.sl f 0 es)) (hq : (statesT d es h).All Q) :
    CallsIn Fence.wide 10 Try.prog 10 #[.slice y es.length cp] c.w fun e W' => ∃ v c' β' h' av, e = .returned v ∧ W' = c'.w ∧ Live Cw.P c' β' h' ∧ Kp c.w.heap.size c β c' β' ∧ Rep c' v av ∧ Q ([av], h') := by
  have hmix : Try.prog.follows .mixedOrders = true := by kernel_rfl
  refine callsIn_of_wp_marks Try.func10 rfl trivial ?_ rfl
  simp only [Try.ntmps10, List.size_toArray, List.length_cons, List.length_nil, Nat.reduceAdd, Nat.reduceSub, Array.replicate_succ, Array.replicate_zero, List.push_toArray, List.append_toArray, List.nil_append, List.cons_append]
  gi_wp2
  refine ⟨trivial, (callsIn_wide.2 (each_calls _ _ _ _)).mono ?_⟩
  rintro e w' ⟨rfl, rfl⟩
  obtain ⟨W0, hW0⟩ : ∃ W0, ((c.w.alloc (Obj.cells #[Value.slice none 0 0] 28)).alloc (.cells #[.slice y es.length cp] 22)) = W0 := ⟨_, rfl⟩
  have hsz : W0.heap.size = c.w.heap.size + 2 := by rw [← hW0]; simp
  have hlow : ∀ b, b < c.w.heap.size → W0.heap[b]? = c.w.heap[b]? := fun b hb => by
    rw [← hW0, Below.heap_alloc _ _ b (by simp; omega), Below.heap_alloc _ _ b hb]
  have h3 : W0.heap[c.w.heap.size]? = some (.cells #[Value.slice none 0 0] 28) := by
    rw [← hW0, Below.heap_alloc _ _ _ (by simp)]; exact World.alloc_heap_new _ _
  have hB : W0.heap[c.w.heap.size + 1]? = some (.cells #[.slice y es.length cp] 22) := by
    have := World.alloc_heap_new (c.w.alloc (Obj.cells #[Value.slice none 0 0] 28)) (.cells #[.slice y es.length cp] 22)
    rw [hW0] at this
    simpa using this
  have hio : W0.os = c.w.os ∧ W0.output = c.w.output := by rw [← hW0]; exact ⟨rfl, rfl⟩
  rw [show (c.w.alloc (Obj.cells #[Value.slice none 0 0] 28)).heap.size = c.w.heap.size + 1 by simp]
  rw [hW0]
  clear hW0
  gi_wp2
  obtain ⟨L0, hle0, hpv0, hnew0⟩ := own_step L (w' := W0) (by omega) (fun b hb _ => hlow b hb)
  have hkp0 : Kp c.w.heap.size c β (c.at W0) β := own_kp hle0 (by omega) hio fun b hb _ => hlow b hb
  refine range_each (Q := Q) d (c.w.heap.size + 1) 10 _ (fun s h => .ret ([.sl false 0 s], h))
    (fun (s : List AVal) c' β' => Kp c.w.heap.size c β c' β' ∧ Kept (c.w.heap.size + 1) (.cells #[.slice y es.length cp] 22) c' β' ∧ ∃ v vs, Kept c.w.heap.size (.cells #[v] 28) c' β' ∧ Row (W0.heap.size + 2) s c' β' v vs)
    (fun _ h' c' β' => False)
    (c0 := c.at W0) L0 rfl rfl (fun s c1 β1 c2 β2 ⟨h1, h2, v, vs, h4, h5⟩ k => ⟨h1.trans k.kp, h2.call k, v, vs, h4.call k, h5.call k⟩)
    (fun s c1 β1 w' e1 e2 e3 e4 e5 ⟨h1, h2, v, vs, h4, h5⟩ => ⟨kp_stable (by show _ ≤ W0.heap.size; omega) c β c1 β1 w' e1 e2 e3 e4 e5 h1, Kept.stable (by show _ < W0.heap.size; omega) _ c1 β1 w' e1 e2 e3 e4 e5 h2, v, vs, Kept.stable (by show _ < W0.heap.size; omega) _ c1 β1 w' e1 e2 e3 e4 e5 h4, Row.stable s v vs c1 β1 w' e1 e2 e3 e4 e5 h5⟩)
    (fun x h' c1 β1 w' e1 e2 e3 e4 e5 h => h)
    y cp es hes (fun s c1 β1 ⟨h1, h2, h3⟩ => Boxed.cell h2.2) ⟨hkp0, ⟨hnew0 _ (by omega) (by omega), hB⟩, _, _, ⟨hnew0 _ (by omega) (by omega), h3⟩, ⟨World.ownsRow_nil _ _ _ _, fun g hg => (by cases hg), fun k hk => (by cases hk), fun a ha => (by cases ha)⟩⟩ (Rep.mono hle0 rl) hq
    (fun k tv => { tmps := #[Value.slice y es.length cp, undef, Value.slice none 0 0,
          Value.pointer (some ⟨c.w.heap.size, 0, none⟩), undef, tv, Value.slice y es.length cp,
          Value.func (Fn.func 26) #[] #[Value.pointer (some ⟨c.w.heap.size + 1, 0, none⟩)],
          Value.int IntKind.i64 k, tv, undef, undef, undef, undef, undef, undef], defers := [] }) ?_ ?_ ?_ (fun D c1 β1 h1 _ _ hx _ _ => hx.elim)
  · rintro l m k tv W K hK
    gi_wp2
    exact hK
  · rintro l m k s c1 β1 h1 t tv K hsz1 hle1 L1 rt ⟨kp, kB, v, vs, k3, hr⟩ hyt hk
    have hsz1' : W0.heap.size + 2 ≤ c1.w.heap.size := hsz1
    cases hs200 : decide (s.length ≤ 200) with
    | false => rw [hs200] at hyt; exact hyt.elim
    | true =>
    rw [hs200] at hyt
    have hs200 := of_decide_eq_true hs200
    obtain ⟨x0, cp0, rfl⟩ := hr.form
    obtain ⟨Ld, hled, hpvd⟩ := drew_step L1
    have hc3 := Boxed.cell k3.2
    have hf3 := Boxed.frozen k3.2
    have rtd := Rep.mono hled rt
    have hfn : Fence.wide.fn 19 := trivial
    have hdp : Fence.wide.depth.isSome = true → 1 ≤ m := fun h => (by cases h)
    have hrd : Row (W0.heap.size + 2) s (c1.at c1.w.drew) β1 (.slice x0 s.length cp0) vs := ⟨hr.row, fun g hg => hpvd g (hr.pv g hg), fun i hi => Rep.mono hled (hr.rep i hi), hr.sl⟩
    have k3d : Kept c.w.heap.size (.cells #[.slice x0 s.length cp0] 28) (c1.at c1.w.drew) β1 := ⟨hpvd _ k3.1, k3.2⟩
    gi_wp2
    gi_region_with_o (refine ⟨hdp, (CallsIn.inRound l (callsIn_wide.2 (pairs_calls Ld rtd hyt))).mono ?_⟩; rintro e w' ⟨x, cp2, c2, β2, h2, f2, sz, ps, rfl, rfl, L2, k2, r2, hQ⟩; have k3e := k3d.call k2; have hc3e := Boxed.cell k3e.2; have hf3e := Boxed.frozen k3e.2; have hnn : c2.w.heap.size ≠ c.w.heap.size := Nat.ne_of_gt k3e.1.out.1; have hca : (c2.w.alloc (.cells #[.slice x ps.length cp2] 26)).cell? ⟨c.w.heap.size, 0, none⟩ = some (.slice x0 s.length cp0) := (World.cell?_of_block (Below.heap_alloc _ _ _ k3e.1.out.1)).trans hc3e; obtain ⟨v', w1, hrun, ⟨g, cap, rfl⟩, hcb, hfb, W', hW', L3, hle3, hpv3, hlow3, hsz3, hio3, k33, hr3⟩ := Row.push L2 (hrd.call k2) k3e (Nat.le_trans hsz1' k2.size) hs200 r2)
    all_goals
      refine ⟨s ++ [.sl f2 sz ps], c2.at W', β2, h2, rfl, Ctx.le_trans hled (Ctx.le_trans k2.le hle3), fun b hb hb2 p => ?_, L3, ⟨((kp.trans (own_kp hled (Nat.le_refl _) ⟨rfl, rfl⟩ fun b _ _ => rfl)).trans k2.kp).trans (own_kp hle3 hsz3 hio3 fun b hb hbl => hlow3 b hbl (by omega) fun e => ?_), ⟨hpv3 _ ((hpvd _ kB.1).call k2).1, ?_⟩, _, _, k33, hr3⟩, hQ⟩
      · have hb : W0.heap.size ≤ b := hb
        have hb2 : b < W0.heap.size + 2 := hb2
        obtain ⟨p2, e2⟩ := (hpvd b p).call k2
        exact ⟨hpv3 _ p2, (hlow3 b p2.out.1 (by omega) fun e => by have := ownsRow_ge hr.row e; omega).trans e2⟩
      · have := ownsRow_ge hr.row e
        omega
      · have pB := (hpvd _ kB.1).call k2
        exact (hlow3 _ pB.1.out.1 (by omega) fun e => by have := ownsRow_ge hr.row e; omega).trans (pB.2.trans kB.2)
  · rintro D s c1 β1 h1 hD L1 hle1 ⟨kp, kB, v, vs, k3, hr⟩ hfin pD hD2
    have hDs : D = c.w.heap.size + 2 := by have : D = W0.heap.size := hD; omega
    clear hD
    subst hDs
    obtain ⟨x0, cp0, rfl⟩ := hr.form
    have hc3 := Boxed.cell k3.2
    have hf3 := Boxed.frozen k3.2
    gi_wp2
    obtain ⟨L2, hle2, hpv2⟩ := putObj_step L1 (.deferred none) pD
    have hr2 : Row (W0.heap.size + 2) s (c1.at (c1.w.putObj (c.w.heap.size + 2) (.deferred none))) β1 (.slice x0 s.length cp0) vs := ⟨ownsRow_of hr.row fun g hg => World.putObj_heap_other (by have := ownsRow_ge hr.row hg; omega), fun g hg => hpv2 g (hr.pv g hg), fun i hi => Rep.mono hle2 (hr.rep i hi), hr.sl⟩
    obtain ⟨c3, hw3, L3, kp3, rep3⟩ := hr2.tell L2
    refine ⟨by simp, .inl ⟨_, _, rfl, run_takeDeferred hD2, ?_⟩⟩
    refine ⟨.slice x0 s.length cp0, by rw [results_tmp rfl _ _ _]; rfl, _, c3, β1, h1, _, rfl, hw3.symm, L3, (kp.trans (own_kp hle2 (by simp) ⟨rfl, rfl⟩ fun b hb _ => World.putObj_heap_other (by omega))).trans ⟨kp3.le, kp3.size, kp3.io, fun b hb => kp3.same b (by omega)⟩, rep3, hfin⟩
end Go.Proofs.Ytbddfpakhealbaa.Wa
end

section
/- Behind how many batches there are just these pairs: the walk of Find. -/
namespace Go.Proofs.Ytbddfpakhealbaa.Wa
open Go Go.RowKit Go.Weave
set_option maxRecDepth 100000
set_option linter.unusedSimpArgs false
set_option linter.unusedVariables false
set_option linter.unusedSectionVars false

noncomputable def equalK (d : Nat) (x y : AVal) (h : Heap) (K : Bool → Heap → Tr Res) : Tr Res := runK (evFn Cw d 16 [x, y] h) fun r h' => consK r fun v ws => nilK ws (match v with | .bool b => K b h' | _ => .fail)
theorem rep_bool {c : Ctx} {v : Value} {b : Bool} (h : Rep c v (.bool b)) : v = .bool b := by
  generalize hq : AVal.bool b = q at h
  cases h with
  | bool b' => cases hq; rfl
  | _ => cases hq
theorem equal_calls {d : Nat} {c : Ctx} {β : Owner → Option Nat} {h : Heap} {K : Bool → Heap → Tr Res} {Q : Res → Prop} {x y : AVal} {xv yv : Value} (L : Live Cw.P c β h) (rx : Rep c xv x) (ry : Rep c yv y) (hq : (equalK d x y h K).All Q) :
    Calls Try.prog 16 #[xv, yv] c.w fun e w' => ∃ (b : Bool) (c' : Ctx) (β' : Owner → Option Nat) (h' : Heap), e = .returned (.bool b) ∧ w' = c'.w ∧ Live Cw.P c' β' h' ∧ CKp c β c' β' ∧ (K b h').All Q := by
  refine (call_live (callA d c) (all_runK hq) c.le_refl L (by rfl) rfl (fun j hj => by
    match j, hj with
    | 0, _ => exact rx
    | 1, _ => exact ry)).mono ?_
  rintro e w' ⟨xs, c', β', r, rfl, rfl, L', k, hs, hr, hQ⟩
  obtain ⟨a, ha, hQ⟩ := one_of (K := fun v => match v with | .bool b => K b r.2 | _ => .fail) hQ
  rw [ha] at hs hr
  obtain ⟨v, rfl⟩ : ∃ v, xs = #[v] := Array.size_eq_one_iff.1 hs
  have hv : Rep c' v a := hr 0 (by simp)
  match a, hv, hQ with
  | .bool b, hv, hQ =>
    obtain rfl := rep_bool hv
    exact ⟨b, c', β', r.2, rfl, rfl, L', k, hQ⟩
noncomputable def findT (d : Nat) (es : List AVal) (n : Int) (pairs : AVal) (h : Heap) : Tr Res :=
  newK d h fun t h' => iterT d (fun k t h (_ : Unit) K => bif decide (max 0 (min n es.length) ≤ (k : Int)) then (pairsK d t h fun f sz ps h' => equalK d (.sl f sz ps) pairs h' fun b h'' => bif b then .ret ([.int .i64 k], h'') else K () h'') else K () h) (fun _ h => .ret ([.int .i64 (-1)], h)) es t 0 () h'
attribute [local go_sem] Oper.semAt_some ite_minI ite_maxI
set_option maxHeartbeats 1000000 in
theorem find_in {Q : Res → Prop} (d : Nat) (c : Ctx) (β : Owner → Option Nat) (h : Heap) (L : Live Cw.P c β h) (n : Int) (y : Option Addr) (cp : Nat) (es : List AVal) (hes : es.length ≤ 100) {f : Bool} (rl : Rep c (.slice y es.length cp) (.sl f 0 es))
    (py : Option Addr) (pn pc : Nat) (pairs : AVal) (rp : Rep c (.slice py pn pc) pairs) (hq : (findT d es n pairs h).All Q) :
    CallsIn Fence.wide 10 Try.prog 14 #[.slice y es.length cp, .int .i64 n, .slice py pn pc] c.w fun e W' => ∃ v c' β' h' av, e = .returned v ∧ W' = c'.w ∧ Live Cw.P c' β' h' ∧ Kp c.w.heap.size c β c' β' ∧ Rep c' v av ∧ Q ([av], h') := by
  have hmix : Try.prog.follows .mixedOrders = true := by kernel_rfl
  refine callsIn_of_wp_marks Try.func14 rfl trivial ?_ rfl
  simp only [Try.ntmps14, List.size_toArray, List.length_cons, List.length_nil, Nat.reduceAdd, Nat.reduceSub, Array.replicate_succ, Array.replicate_zero, List.push_toArray, List.append_toArray, List.nil_append, List.cons_append]
  gi_wp2
  refine ⟨trivial, (callsIn_wide.2 (each_calls _ _ _ _)).mono ?_⟩
  rintro e w' ⟨rfl, rfl⟩
  obtain ⟨W0, hW0⟩ : ∃ W0, (((c.w.alloc (Obj.cells #[Value.int IntKind.i64 (max 0 (min n es.length))] 3)).alloc (Obj.cells #[Value.slice py pn pc] 26)).alloc (Obj.cells #[Value.int IntKind.i64 0] 3)).alloc (.cells #[.slice y es.length cp] 22) = W0 := ⟨_, rfl⟩
  have hsz : W0.heap.size = c.w.heap.size + 4 := by rw [← hW0]; simp
  have hlow : ∀ b, b < c.w.heap.size → W0.heap[b]? = c.w.heap[b]? := fun b hb => by
    rw [← hW0, Below.heap_alloc _ _ b (by simp; omega), Below.heap_alloc _ _ b (by simp; omega), Below.heap_alloc _ _ b (by simp; omega), Below.heap_alloc _ _ b hb]
  have h3 : W0.heap[c.w.heap.size]? = some (.cells #[Value.int IntKind.i64 (max 0 (min n es.length))] 3) := by
    rw [← hW0, Below.heap_alloc _ _ _ (by simp; omega), Below.heap_alloc _ _ _ (by simp; omega), Below.heap_alloc _ _ _ (by simp)]; exact World.alloc_heap_new _ _
  have h4 : W0.heap[c.w.heap.size + 1]? = some (.cells #[Value.slice py pn pc] 26) := by
    rw [← hW0, Below.heap_alloc _ _ _ (by simp), Below.heap_alloc _ _ _ (by simp)]
    have := World.alloc_heap_new (c.w.alloc (Obj.cells #[Value.int IntKind.i64 (max 0 (min n es.length))] 3)) (Obj.cells #[Value.slice py pn pc] 26)
    rwa [World.size_alloc] at this
  have h5 : W0.heap[c.w.heap.size + 2]? = some (.cells #[Value.int IntKind.i64 0] 3) := by
    rw [← hW0, Below.heap_alloc _ _ _ (by simp)]
    have := World.alloc_heap_new ((c.w.alloc (Obj.cells #[Value.int IntKind.i64 (max 0 (min n es.length))] 3)).alloc (Obj.cells #[Value.slice py pn pc] 26)) (Obj.cells #[Value.int IntKind.i64 0] 3)
    simpa using this
  have hB : W0.heap[c.w.heap.size + 3]? = some (.cells #[.slice y es.length cp] 22) := by
    have := World.alloc_heap_new (((c.w.alloc (Obj.cells #[Value.int IntKind.i64 (max 0 (min n es.length))] 3)).alloc (Obj.cells #[Value.slice py pn pc] 26)).alloc (Obj.cells #[Value.int IntKind.i64 0] 3)) (.cells #[.slice y es.length cp] 22)
    rw [hW0] at this
    simpa using this
  have hio : W0.os = c.w.os ∧ W0.output = c.w.output := by rw [← hW0]; exact ⟨rfl, rfl⟩
  rw [show (((c.w.alloc (Obj.cells #[Value.int IntKind.i64 (max 0 (min n es.length))] 3)).alloc (Obj.cells #[Value.slice py pn pc] 26)).alloc (Obj.cells #[Value.int IntKind.i64 0] 3)).heap.size = c.w.heap.size + 3 by simp]
  rw [hW0]
  clear hW0
  gi_wp2
  obtain ⟨L0, hle0, hpv0, hnew0⟩ := own_step L (w' := W0) (by omega) (fun b hb _ => hlow b hb)
  have hkp0 : Kp c.w.heap.size c β (c.at W0) β := own_kp hle0 (by omega) hio fun b hb _ => hlow b hb
  refine range_each (Q := Q) d (c.w.heap.size + 3) 10 _ (fun (_ : Unit) h => .ret ([.int .i64 (-1)], h))
    (fun (_ : Unit) c' β' => Kp c.w.heap.size c β c' β' ∧ Kept c.w.heap.size (.cells #[Value.int IntKind.i64 (max 0 (min n es.length))] 3) c' β' ∧ Kept (c.w.heap.size + 1) (.cells #[Value.slice py pn pc] 26) c' β' ∧ Kept (c.w.heap.size + 2) (.cells #[Value.int IntKind.i64 0] 3) c' β' ∧ Kept (c.w.heap.size + 3) (.cells #[.slice y es.length cp] 22) c' β' ∧ Rep c' (Value.slice py pn pc) pairs)
    (fun _ h' c' β' => Kp c.w.heap.size c β c' β' ∧ ∃ x, Kept (c.w.heap.size + 2) (.cells #[Value.int .i64 x] 3) c' β' ∧ Q ([.int .i64 x], h'))
    (c0 := c.at W0) L0 rfl rfl (fun s c1 β1 c2 β2 ⟨h1, h2, h3, h4, h5, h6⟩ k => ⟨h1.trans k.kp, h2.call k, h3.call k, h4.call k, h5.call k, Rep.mono k.le h6⟩)
    (fun s => (kp_stable (by show _ ≤ W0.heap.size; omega) c β).and ((Kept.stable (by show _ < W0.heap.size; omega) _).and ((Kept.stable (by show _ < W0.heap.size; omega) _).and ((Kept.stable (by show _ < W0.heap.size; omega) _).and ((Kept.stable (by show _ < W0.heap.size; omega) _).and (rep_stable _ _))))))
    (fun x h' c1 β1 w' e1 e2 e3 e4 e5 ⟨h1, x, h2, h4⟩ => ⟨kp_stable (by show _ ≤ W0.heap.size; omega) c β c1 β1 w' e1 e2 e3 e4 e5 h1, x, Kept.stable (by show _ < W0.heap.size; omega) _ c1 β1 w' e1 e2 e3 e4 e5 h2, h4⟩)
    y cp es hes (fun s c1 β1 ⟨h1, h2, h3, h4, h5, h6⟩ => Boxed.cell h5.2) ⟨hkp0, ⟨hnew0 _ (by omega) (by omega), h3⟩, ⟨hnew0 _ (by omega) (by omega), h4⟩, ⟨hnew0 _ (by omega) (by omega), h5⟩, ⟨hnew0 _ (by omega) (by omega), hB⟩, Rep.mono hle0 rp⟩ (Rep.mono hle0 rl) hq
    (fun k tv => { tmps := #[Value.slice y es.length cp, Value.int IntKind.i64 n, Value.slice py pn pc, undef,
          Value.pointer (some ⟨c.w.heap.size, 0, none⟩),
          Value.pointer (some ⟨c.w.heap.size + 1, 0, none⟩),
          Value.pointer (some ⟨c.w.heap.size + 2, 0, none⟩), .int .i64 k, tv, Value.int IntKind.i64 n,
          Value.slice y es.length cp, Value.int IntKind.i64 es.length, Value.int IntKind.i64 (min n es.length),
          Value.int IntKind.i64 (max 0 (min n es.length)), Value.slice y es.length cp,
          Value.func (Fn.func 26) #[] #[Value.pointer (some ⟨c.w.heap.size + 3, 0, none⟩)], .int .i64 k, tv,
          undef, undef, undef, undef, undef, undef, undef, undef, undef, undef], defers := [] }) ?_ ?_ ?_ ?_
  · rintro l m k tv W K hK
    gi_wp2
    exact hK
  · rintro l m k s c1 β1 h1 t tv K hsz1 hle1 L1 rt ⟨kp, k3, k4, k5, kB, r6⟩ hyt hk
    have hfn : Fence.wide.fn 19 := trivial
    have hfn2 : Fence.wide.fn 16 := trivial
    have hdp : Fence.wide.depth.isSome = true → 1 ≤ m := fun h => (by cases h)
    have hc3 := Boxed.cell k3.2
    have hc4 := Boxed.cell k4.2
    obtain ⟨Ld, hled, hpvd⟩ := drew_step L1
    have rtd := Rep.mono hled rt
    by_cases hkn : max 0 (min n es.length) ≤ (k : Int)
    · have hyt' : (pairsK d t h1 fun f sz ps h' => equalK d (.sl f sz ps) pairs h' fun b h'' => bif b then .ret ([.int .i64 k], h'') else K () h'').All Q := by simpa only [hkn, decide_true, cond_true] using hyt
      have k4d : Kept (c.w.heap.size + 1) (.cells #[Value.slice py pn pc] 26) (c1.at c1.w.drew) β1 := ⟨hpvd _ k4.1, k4.2⟩
      have r6d := Rep.mono hled r6
      gi_wp2
      gi_region_with_o (first
        | (refine ⟨hdp, (CallsIn.inRound l (callsIn_wide.2 (pairs_calls Ld rtd hyt'))).mono ?_⟩; rintro e w' ⟨x, cp2, c2, β2, h2, f2, sz, ps, rfl, rfl, L2, k2, r2, hQ⟩; have k4e := k4d.call k2; have hc4e := Boxed.cell k4e.2)
        | (refine ⟨hdp, (CallsIn.inRound l (callsIn_wide.2 (equal_calls L2 r2 (Rep.mono k2.le r6d) hQ))).mono ?_⟩; rintro e w' ⟨bb, c3, β3, h3, rfl, rfl, L3, kk3, hQ3⟩))
      all_goals
        have kp3 := ((kp.trans (own_kp hled (Nat.le_refl _) ⟨rfl, rfl⟩ fun b _ _ => rfl)).trans k2.kp).trans kk3.kp
        have hle3 := Ctx.le_trans hled (Ctx.le_trans k2.le kk3.le)
        have K3 : Kept _ _ c3 β3 := (Kept.call (⟨hpvd _ k3.1, k3.2⟩ : Kept _ _ (c1.at c1.w.drew) β1) k2).call kk3
        have K4 : Kept _ _ c3 β3 := k4e.call kk3
        have K5 : Kept _ _ c3 β3 := (Kept.call (⟨hpvd _ k5.1, k5.2⟩ : Kept _ _ (c1.at c1.w.drew) β1) k2).call kk3
        have KB : Kept _ _ c3 β3 := (Kept.call (⟨hpvd _ kB.1, kB.2⟩ : Kept _ _ (c1.at c1.w.drew) β1) k2).call kk3
        cases bb with
        | false =>
          gi_wp2
          exact ⟨(), c3, β3, h3, rfl, hle3, fun b hb hb2 p => by
            obtain ⟨p2, e2⟩ := (hpvd b p).call k2
            obtain ⟨p3, e3⟩ := p2.call kk3
            exact ⟨p3, e3.trans e2⟩, L3, ⟨kp3, K3, K4, K5, KB, Rep.mono hle3 r6⟩, hQ3⟩
        | true =>
          have hc5 := Boxed.cell K5.2
          have hf5 := Boxed.frozen K5.2
          gi_wp2
          have hne : ∀ b, ¬ Pv c3 β3 b → b ≠ c.w.heap.size + 2 := fun b hb e => hb (by rw [e]; exact K5.1)
          obtain ⟨L4, hle4, hpv4, _⟩ := own_step L3 (w' := c3.w.setCell ⟨c.w.heap.size + 2, 0, none⟩ (.int .i64 k)) (by simp) (fun b _ hb => Below.heap_setCell _ _ _ b (hne b hb))
          refine ⟨c3.at _, β3, h3, rfl, fun b hb hb2 p => ?_, L4, kp3.trans (own_kp hle4 (by simp) ⟨rfl, rfl⟩ fun b hb _ => Below.heap_setCell _ _ _ b (by show b ≠ c.w.heap.size + 2; omega)), k, ⟨hpv4 _ K5.1, Boxed.set _ K5.2⟩, hQ3⟩
          have hb : c.w.heap.size + 4 ≤ b := hsz ▸ hb
          obtain ⟨p2, e2⟩ := (hpvd b p).call k2
          obtain ⟨p3, e3⟩ := p2.call kk3
          exact ⟨hpv4 _ p3, (Below.heap_setCell _ _ _ b (by show b ≠ c.w.heap.size + 2; omega)).trans (e3.trans e2)⟩
    · have hyt' : (K () h1).All Q := by simpa only [hkn, decide_false, cond_false] using hyt
      gi_wp2
      gi_region_with_o (fail)
      all_goals
        gi_wp2
        exact ⟨(), c1.at c1.w.drew, β1, h1, rfl, hled, fun b hb hb2 p => ⟨hpvd b p, rfl⟩, Ld, ⟨kp.trans (own_kp hled (Nat.le_refl _) ⟨rfl, rfl⟩ fun b _ _ => rfl), ⟨hpvd _ k3.1, k3.2⟩, ⟨hpvd _ k4.1, k4.2⟩, ⟨hpvd _ k5.1, k5.2⟩, ⟨hpvd _ kB.1, kB.2⟩, Rep.mono hled r6⟩, hyt'⟩
  · rintro D s c1 β1 h1 hD L1 hle1 ⟨kp, k3, k4, k5, kB, r6⟩ hfin pD hD2
    have hDs : D = c.w.heap.size + 4 := by have : D = W0.heap.size := hD; omega
    clear hD
    subst hDs
    have hc5 := Boxed.cell k5.2
    have hf5 := Boxed.frozen k5.2
    gi_wp2
    have hne : ∀ b, ¬ Pv c1 β1 b → b ≠ c.w.heap.size + 2 := fun b hb e => hb (by rw [e]; exact k5.1)
    obtain ⟨L2, hle2, hpv2, _⟩ := own_step L1 (w' := c1.w.setCell ⟨c.w.heap.size + 2, 0, none⟩ (.int .i64 (-1))) (by simp) (fun b _ hb => Below.heap_setCell _ _ _ b (hne b hb))
    have kp2 := kp.trans (own_kp hle2 (by simp) ⟨rfl, rfl⟩ fun b hb _ => Below.heap_setCell _ _ _ b (by show b ≠ c.w.heap.size + 2; omega))
    have hD3 : (c1.w.setCell ⟨c.w.heap.size + 2, 0, none⟩ (.int .i64 (-1))).heap[c.w.heap.size + 4]? = some (.deferred (some [])) := (Below.heap_setCell _ _ _ _ (by show c.w.heap.size + 4 ≠ c.w.heap.size + 2; omega)).trans hD2
    have k52 : Kept (c.w.heap.size + 2) (.cells #[Value.int .i64 (-1)] 3) (c1.at (c1.w.setCell ⟨c.w.heap.size + 2, 0, none⟩ (.int .i64 (-1)))) β1 := ⟨hpv2 _ k5.1, Boxed.set _ k5.2⟩
    have hc52 := Boxed.cell k52.2
    obtain ⟨L3, hle3, hpv3⟩ := putObj_step L2 (.deferred none) (hpv2 _ pD)
    refine ⟨by simp, .inl ⟨_, _, rfl, run_takeDeferred hD3, ?_⟩⟩
    have hc6 : ((c1.w.setCell ⟨c.w.heap.size + 2, 0, none⟩ (.int .i64 (-1))).putObj (c.w.heap.size + 4) (.deferred none)).cell? ⟨c.w.heap.size + 2, 0, none⟩ = some (.int .i64 (-1)) :=
      (World.cell?_of_block (World.putObj_heap_other (k := c.w.heap.size + 2) (by omega))).trans hc52
    refine ⟨.int .i64 (-1), ?_, _, (c1.at (c1.w.setCell ⟨c.w.heap.size + 2, 0, none⟩ (.int .i64 (-1)))).at _, β1, h1, _, rfl, rfl, L3, kp2.trans (own_kp hle3 (by simp) ⟨rfl, rfl⟩ fun b hb _ => World.putObj_heap_other (by omega)), .int .i64 (-1), hfin⟩
    simp [results, Try.f14, go_sem, hc6]
  · rintro D c1 β1 h1 hD L1 ⟨kp, x, k5, hQ⟩ pD hD2
    have hDs : D = c.w.heap.size + 4 := by have : D = W0.heap.size := hD; omega
    clear hD
    subst hDs
    have hc5 := Boxed.cell k5.2
    gi_wp2
    obtain ⟨L2, hle2, hpv2⟩ := putObj_step L1 (.deferred none) pD
    refine ⟨by simp, .inl ⟨_, _, rfl, run_takeDeferred hD2, ?_⟩⟩
    have hc6 : (c1.w.putObj (c.w.heap.size + 4) (.deferred none)).cell? ⟨c.w.heap.size + 2, 0, none⟩ = some (.int .i64 x) :=
      (World.cell?_of_block (World.putObj_heap_other (k := c.w.heap.size + 2) (by omega))).trans hc5
    refine ⟨.int .i64 x, ?_, _, c1.at (c1.w.putObj (c.w.heap.size + 4) (.deferred none)), β1, h1, _, rfl, rfl, L2, kp.trans (own_kp hle2 (by simp) ⟨rfl, rfl⟩ fun b hb _ => World.putObj_heap_other (by omega)), .int .i64 x, hQ⟩
    simp [results, Try.f14, go_sem, hc6]
end Go.Proofs.Ytbddfpakhealbaa.Wa
end

section
/- After, States, Find as contracts. -/
namespace Go.Proofs.Ytbddfpakhealbaa.Wa
open Go Go.RowKit Go.Weave
set_option maxRecDepth 100000
set_option linter.unusedSimpArgs false
set_option linter.unusedVariables false
set_option linter.unusedSectionVars false

def foldD : Nat := 40000
noncomputable def afterG (args : List AVal) (h : Heap) : Tr Res :=
  match args with
  | [.sl _ 0 es, .int .i64 n] => bif decide (es.length ≤ 100) then afterT foldD es n h else .fail
  | _ => .fail
noncomputable def statesG (args : List AVal) (h : Heap) : Tr Res :=
  match args with
  | [.sl _ 0 es] => bif decide (es.length ≤ 100) then statesT foldD es h else .fail
  | _ => .fail
noncomputable def findG (args : List AVal) (h : Heap) : Tr Res :=
  match args with
  | [.sl _ 0 es, .int .i64 n, .sl f 3 ps] => bif decide (es.length ≤ 100) then findT foldD es n (.sl f 3 ps) h else .fail
  | [.sl _ 0 es, .int .i64 n, .sl true 0 []] => bif decide (es.length ≤ 100) then findT foldD es n (.sl true 3 []) h else .fail
  | _ => .fail
/-- What such a walk gives. -/
def FoldPost (Q : Res → Prop) (c : Ctx) (β : Owner → Option Nat) (e : Ending) (W' : World) : Prop := ∃ v c' β' h' av, e = .returned v ∧ W' = c'.w ∧ Live Cw.P c' β' h' ∧ Kp c.w.heap.size c β c' β' ∧ Rep c' v av ∧ Q ([av], h')
theorem callAt_of {C : Cfg} (hP : C.P = Cw.P) {f : FuncId} {g : List AVal → Heap → Tr Res} {c0 : Ctx} (hann : (C.ann f).pown = [] ∧ (C.ann f).rown = [])
    (hw : ∀ (args : List AVal) (H : Heap) (Q : Res → Prop), (g args H).All Q → ∀ (c : Ctx) (β : Owner → Option Nat) (vs : Array Value), Live Cw.P c β H → vs.size = args.length → (∀ j, j < args.length → Rep c (vs.getD j undef) (args.getD j .undef)) → Calls Try.prog f vs c.w (FoldPost Q c β)) : CallAt C f g c0 := by
  intro args H Q hq c β vs hle hh hb hk hs hr
  have L : Live Cw.P c (noTok β) H := by
    refine ⟨hh.ofCell fun _ _ => rfl, ⟨fun ow b h => ?_, fun ow b h => ?_, fun ow ow' b h h' => ?_, hb.lim, hb.cl⟩, hP ▸ hk, fun g => rfl⟩
    · cases ow with
      | tok g => cases h
      | cell i j => exact hb.blk (.cell i j) b h
    · cases ow with
      | tok g => cases h
      | cell i j => exact hb.κ (.cell i j) b h
    · cases ow with
      | tok g => cases h
      | cell i j =>
        cases ow' with
        | tok g => cases h'
        | cell i' j' => exact hb.inj _ _ b h h'
  have hw' := hw args H Q hq c (noTok β) vs L hs (fun j hj => by
    have := hr j hj
    rw [hann.1] at this
    exact this)
  rw [hP]
  refine hw'.mono ?_
  rintro e w' ⟨v, c', β', h', av, rfl, rfl, L', k, rv, hQ⟩
  have hout : ∀ b, ¬ (callBs c β).ok b → Outs c (noTok β) b := fun b hb => ⟨Nat.lt_of_not_le fun h => hb (.inl h), fun h => hb (.inr (.inl h.noTok))⟩
  refine ⟨#[v], c', β', ([av], h'), rfl, rfl, ⟨L'.heap, L'.own, hP ▸ L'.keys, ⟨k.le, k.size, fun b hb => ?_, k.io⟩, fun b hm => ?_, fun g b h => ?_, rfl, fun i hi => ?_⟩, hQ⟩
  · obtain ⟨h1, h2, _⟩ := k.same b (hout b hb).1 (hout b hb)
    exact ⟨h1, h2⟩
  · apply Classical.byContradiction
    intro hn
    exact (k.same b (hout b hn).1 (hout b hn)).2.2 hm
  · rw [L'.tok g] at h; cases h
  · match i, hi with
    | 0, _ =>
      rw [hann.2]
      exact rv
theorem rep_int {c : Ctx} {v : Value} {k : IntKind} {n : Int} (h : Rep c v (.int k n)) : v = .int k n := by
  generalize hq : AVal.int k n = q at h
  cases h with
  | int k' n' => cases hq; rfl
  | _ => cases hq
theorem arr1 {vs : Array Value} (h : vs.size = 1) : ∃ a, vs = #[a] := Array.size_eq_one_iff.1 h
theorem arr2 {vs : Array Value} (h : vs.size = 2) : ∃ a b, vs = #[a, b] := by
  refine ⟨vs[0], vs[1], ?_⟩
  apply Array.ext
  · simp [h]
  · intro i hi hi2
    match i, hi2 with
    | 0, _ => rfl
    | 1, _ => rfl
theorem arr3 {vs : Array Value} (h : vs.size = 3) : ∃ a b c, vs = #[a, b, c] := by
  refine ⟨vs[0], vs[1], vs[2], ?_⟩
  apply Array.ext
  · simp [h]
  · intro i hi hi2
    match i, hi2 with
    | 0, _ => rfl
    | 1, _ => rfl
    | 2, _ => rfl
theorem after_ext {C : Cfg} (hP : C.P = Cw.P) {c0 : Ctx} (hann : (C.ann 8).pown = [] ∧ (C.ann 8).rown = []) : CallAt C 8 afterG c0 := by
  refine callAt_of hP hann ?_
  intro args H Q hq c β vs L hs hr
  unfold afterG at hq
  split at hq
  · rename_i f es n
    cases hd : decide (es.length ≤ 100) with
    | false => rw [hd] at hq; exact hq.elim
    | true =>
    rw [hd] at hq
    obtain ⟨a, b, rfl⟩ := arr2 hs
    have h0 : Rep c a (.sl f 0 es) := hr 0 (by simp)
    have h1 : Rep c b (.int .i64 n) := hr 1 (by simp)
    obtain rfl := rep_int h1
    obtain ⟨x, cp, rfl⟩ := sl_value h0
    exact callsIn_wide.1 (after_in foldD c β H L n x cp es (of_decide_eq_true hd) h0 hq)
  · exact hq.elim
theorem states_ext {C : Cfg} (hP : C.P = Cw.P) {c0 : Ctx} (hann : (C.ann 10).pown = [] ∧ (C.ann 10).rown = []) : CallAt C 10 statesG c0 := by
  refine callAt_of hP hann ?_
  intro args H Q hq c β vs L hs hr
  unfold statesG at hq
  split at hq
  · rename_i f es
    cases hd : decide (es.length ≤ 100) with
    | false => rw [hd] at hq; exact hq.elim
    | true =>
    rw [hd] at hq
    obtain ⟨a, rfl⟩ := arr1 hs
    have h0 : Rep c a (.sl f 0 es) := hr 0 (by simp)
    obtain ⟨x, cp, rfl⟩ := sl_value h0
    exact callsIn_wide.1 (states_in foldD c β H L x cp es (of_decide_eq_true hd) h0 hq)
  · exact hq.elim
theorem find_ext {C : Cfg} (hP : C.P = Cw.P) {c0 : Ctx} (hann : (C.ann 14).pown = [] ∧ (C.ann 14).rown = []) : CallAt C 14 findG c0 := by
  refine callAt_of hP hann ?_
  intro args H Q hq c β vs L hs hr
  unfold findG at hq
  split at hq
  · rename_i f es n f2 ps
    cases hd : decide (es.length ≤ 100) with
    | false => rw [hd] at hq; exact hq.elim
    | true =>
    rw [hd] at hq
    obtain ⟨a, b, p, rfl⟩ := arr3 hs
    have h0 : Rep c a (.sl f 0 es) := hr 0 (by simp)
    have h1 : Rep c b (.int .i64 n) := hr 1 (by simp)
    have h2 : Rep c p (.sl f2 3 ps) := hr 2 (by simp)
    obtain rfl := rep_int h1
    obtain ⟨x, cp, rfl⟩ := sl_value h0
    obtain ⟨x2, cp2, rfl⟩ := sl_value h2
    exact callsIn_wide.1 (find_in foldD c β H L n x cp es (of_decide_eq_true hd) h0 x2 _ cp2 _ h2 hq)
  · rename_i f es n
    cases hd : decide (es.length ≤ 100) with
    | false => rw [hd] at hq; exact hq.elim
    | true =>
    rw [hd] at hq
    obtain ⟨a, b, p, rfl⟩ := arr3 hs
    have h0 : Rep c a (.sl f 0 es) := hr 0 (by simp)
    have h1 : Rep c b (.int .i64 n) := hr 1 (by simp)
    have h2 : Rep c p (.sl true 0 []) := hr 2 (by simp)
    obtain rfl := rep_int h1
    obtain ⟨x, cp, rfl⟩ := sl_value h0
    obtain ⟨x2, rfl⟩ : ∃ x2, p = .slice x2 0 0 := by
      rcases h2.slInv with ⟨x, rfl, _⟩ | ⟨b, off, cap, rfl, hat⟩
      · exact ⟨x, rfl⟩
      · obtain ⟨_, hf, _⟩ := hat
        have := hf rfl
        simp at this
        subst this
        exact ⟨_, rfl⟩
    exact callsIn_wide.1 (find_in foldD c β H L n x cp es (of_decide_eq_true hd) h0 x2 _ 0 _ (Rep.slnil _ _ _) hq)
  · exact hq.elim
end Go.Proofs.Ytbddfpakhealbaa.Wa
end

section
/- What the evaluator comes to in these functions. -/
namespace Go.Proofs.Ytbddfpakhealbaa.Wa
open Go Go.Weave
set_option maxRecDepth 100000
set_option linter.unusedVariables false
/- f25 slices.Equal[[]strandline/api.Pair,strandline/api.Pair] -/
noncomputable def P25_0 (d k : Nat) (f0 : Bool) (l1 : List AVal) (f2 : Bool) (l3 : List AVal) (x4 : Int) (x5 : Int) (h : Heap) : Tr Res :=
  loopPt Cw d 25 [true, true, false, true, true] [] k ⟨[(0, (EV.one (SV.val (AVal.sl f0 3 l1)))), (1, (EV.one (SV.val (AVal.sl f2 3 l3)))), (12, (EV.one (SV.val (AVal.int .i64 x4)))), (13, (EV.one (SV.val (AVal.int .i64 x5))))], []⟩ h
theorem P25_0_eq (d k : Nat) (f0 : Bool) (l1 : List AVal) (f2 : Bool) (l3 : List AVal) (x4 : Int) (x5 : Int) (h : Heap) : P25_0 d (k + 1) f0 l1 f2 l3 x4 x5 h =
  (bif (decide ((x5 : Int) < x4)) then
    (bif (decide ((0 : Int) ≤ x5) && decide ((x5 : Int) < (l1.length : Int))) then
      (aggK 2 (l1.getD (Int.toNat x5) AVal.undef) fun cc1 =>
        (bif (decide ((0 : Int) ≤ x5) && decide ((x5 : Int) < (l3.length : Int))) then
          (aggK 2 (l3.getD (Int.toNat x5) AVal.undef) fun cc2 =>
            (bif ((plainOk Cw.P 39 (AVal.agg cc1)) && (plainOk Cw.P 39 (AVal.agg cc2))) then
              (bif (!(eqCells cc1 cc2)) then (Tr.ret ([(AVal.bool false)], h)) else (P25_0 d k f0 l1 f2 l3 x4 (IntKind.i64.wrap (x5 + 1)) h))
            else
              Tr.fail))
        else
          Tr.fail))
    else
      Tr.fail)
  else
    (Tr.ret ([(AVal.bool true)], h))) := by kernel_rfl
theorem F25_eq (d : Nat) (f0 : Bool) (l1 : List AVal) (f2 : Bool) (l3 : List AVal) (h : Heap) : evFn Cw (d + 1) 25 [(AVal.sl f0 3 l1), (AVal.sl f2 3 l3)] h =
  (bif (((l1.length : Int) : Int) != (l3.length : Int)) then (Tr.ret ([(AVal.bool false)], h)) else (P25_0 d rounds f0 l1 f2 l3 (l1.length : Int) 0 h)) := by kernel_rfl
/- f16 strandline/fold.Equal -/
theorem F16_eq (d : Nat) (f0 : Bool) (l1 : List AVal) (f2 : Bool) (l3 : List AVal) (h : Heap) : evFn Cw (d + 1) 16 [(AVal.sl f0 3 l1), (AVal.sl f2 3 l3)] h =
  (runK (evFn Cw d 25 [(AVal.sl f0 3 l1), (AVal.sl f2 3 l3)] h) fun r1 h1 =>
    (consK r1 fun w2 ws3 =>
      (boolK w2 fun bb4 =>
        (nilK ws3
          (Tr.ret ([(AVal.bool bb4)], h1)))))) := by kernel_rfl
end Go.Proofs.Ytbddfpakhealbaa.Wa
end

section
/- What the evaluator comes to in these functions. -/
namespace Go.Proofs.Ytbddfpakhealbaa.Wa
open Go Go.Weave
set_option maxRecDepth 100000
set_option linter.unusedVariables false
/- f70 strandline/tree.told[string] -/
theorem F70_eq (d : Nat) (v0 : AVal) (h : Heap) : evFn Cw (d + 1) 70 [v0] h =
  (bif AVal.isPtr v0 then
    (bif (AVal.isNilp v0) then
      (Tr.ret ([(AVal.str []), (AVal.str []), (AVal.bool false)], h))
    else
      (nodeW 5 v0 fun cc1 =>
        (optK (cc1[0]?) fun w2 =>
          (strK w2 fun ss3 =>
            (nodeW 5 v0 fun cc4 =>
              (optK (cc4[1]?) fun w5 =>
                (strK w5 fun ss6 =>
                  (Tr.ret ([(AVal.str ss3), (AVal.str ss6), (AVal.bool true)], h)))))))))
  else
    Tr.fail) := by kernel_rfl
/- f71 (*strandline/tree.node[string]).high -/
theorem F71_eq (d : Nat) (v0 : AVal) (h : Heap) : evFn Cw (d + 1) 71 [v0] h =
  (bif AVal.isPtr v0 then
    (bif (AVal.isNilp v0) then
      (Tr.ret ([(AVal.int .i64 0)], h))
    else
      (nodeW 5 v0 fun cc1 =>
        (optK (cc1[4]?) fun w2 =>
          (intK .i64 w2 fun y3 =>
            (Tr.ret ([(AVal.int .i64 y3)], h))))))
  else
    Tr.fail) := by kernel_rfl
/- f72 (*strandline/tree.node[string]).with -/
theorem F72_eq (d : Nat) (v0 : AVal) (v1 : AVal) (v2 : AVal) (h : Heap) : evFn Cw (d + 1) 72 [v0, v1, v2] h =
  (nodeW 5 v0 fun cc1 =>
    (nodeW 5 v0 fun cc2 =>
      (Tr.anyL [
        (optK (cc1[0]?) fun w3 =>
          (strK w3 fun ss4 =>
            (Tr.anyL [
              (optK (cc2[1]?) fun w5 =>
                (strK w5 fun ss6 =>
                  (runK (evFn Cw d 71 [v1] h) fun r7 h7 =>
                    (consK r7 fun w8 ws9 =>
                      (intK .i64 w8 fun y10 =>
                        (nilK ws9
                          (runK (evFn Cw d 71 [v2] h7) fun r11 h11 =>
                            (consK r11 fun w12 ws13 =>
                              (intK .i64 w12 fun y14 =>
                                (nilK ws13
                                  (bif (((!(AVal.isAgg v1)) && true) && true) then
                                    (bif (((!(AVal.isAgg v2)) && true) && true) then
                                      (Tr.ret ([(AVal.elt (AVal.agg [(AVal.str ss4), (AVal.str ss6), v1, v2, (AVal.int .i64 (IntKind.i64.wrap (1 + (if (y14 : Int) > y10 then y14 else y10))))]) true 5 0)], h11))
                                    else
                                      Tr.fail)
                                  else
                                    Tr.fail))))))))))),
              (runK (evFn Cw d 71 [v1] h) fun r5 h5 =>
                (consK r5 fun w6 ws7 =>
                  (intK .i64 w6 fun y8 =>
                    (nilK ws7
                      (Tr.anyL [
                        (optK (cc2[1]?) fun w9 =>
                          (strK w9 fun ss10 =>
                            (runK (evFn Cw d 71 [v2] h5) fun r11 h11 =>
                              (consK r11 fun w12 ws13 =>
                                (intK .i64 w12 fun y14 =>
                                  (nilK ws13
                                    (bif (((!(AVal.isAgg v1)) && true) && true) then
                                      (bif (((!(AVal.isAgg v2)) && true) && true) then
                                        (Tr.ret ([(AVal.elt (AVal.agg [(AVal.str ss4), (AVal.str ss10), v1, v2, (AVal.int .i64 (IntKind.i64.wrap (1 + (if (y14 : Int) > y8 then y14 else y8))))]) true 5 0)], h11))
                                      else
                                        Tr.fail)
                                    else
                                      Tr.fail))))))),
                        (runK (evFn Cw d 71 [v2] h5) fun r9 h9 =>
                          (consK r9 fun w10 ws11 =>
                            (intK .i64 w10 fun y12 =>
                              (nilK ws11
                                (optK (cc2[1]?) fun w13 =>
                                  (strK w13 fun ss14 =>
                                    (bif (((!(AVal.isAgg v1)) && true) && true) then
                                      (bif (((!(AVal.isAgg v2)) && true) && true) then
                                        (Tr.ret ([(AVal.elt (AVal.agg [(AVal.str ss4), (AVal.str ss14), v1, v2, (AVal.int .i64 (IntKind.i64.wrap (1 + (if (y12 : Int) > y8 then y12 else y8))))]) true 5 0)], h9))
                                      else
                                        Tr.fail)
                                    else
                                      Tr.fail)))))))])))))]))),
        (optK (cc2[1]?) fun w3 =>
          (strK w3 fun ss4 =>
            (Tr.anyL [
              (optK (cc1[0]?) fun w5 =>
                (strK w5 fun ss6 =>
                  (runK (evFn Cw d 71 [v1] h) fun r7 h7 =>
                    (consK r7 fun w8 ws9 =>
                      (intK .i64 w8 fun y10 =>
                        (nilK ws9
                          (runK (evFn Cw d 71 [v2] h7) fun r11 h11 =>
                            (consK r11 fun w12 ws13 =>
                              (intK .i64 w12 fun y14 =>
                                (nilK ws13
                                  (bif (((!(AVal.isAgg v1)) && true) && true) then
                                    (bif (((!(AVal.isAgg v2)) && true) && true) then
                                      (Tr.ret ([(AVal.elt (AVal.agg [(AVal.str ss6), (AVal.str ss4), v1, v2, (AVal.int .i64 (IntKind.i64.wrap (1 + (if (y14 : Int) > y10 then y14 else y10))))]) true 5 0)], h11))
                                    else
                                      Tr.fail)
                                  else
                                    Tr.fail))))))))))),
              (runK (evFn Cw d 71 [v1] h) fun r5 h5 =>
                (consK r5 fun w6 ws7 =>
                  (intK .i64 w6 fun y8 =>
                    (nilK ws7
                      (Tr.anyL [
                        (optK (cc1[0]?) fun w9 =>
                          (strK w9 fun ss10 =>
                            (runK (evFn Cw d 71 [v2] h5) fun r11 h11 =>
                              (consK r11 fun w12 ws13 =>
                                (intK .i64 w12 fun y14 =>
                                  (nilK ws13
                                    (bif (((!(AVal.isAgg v1)) && true) && true) then
                                      (bif (((!(AVal.isAgg v2)) && true) && true) then
                                        (Tr.ret ([(AVal.elt (AVal.agg [(AVal.str ss10), (AVal.str ss4), v1, v2, (AVal.int .i64 (IntKind.i64.wrap (1 + (if (y14 : Int) > y8 then y14 else y8))))]) true 5 0)], h11))
                                      else
                                        Tr.fail)
                                    else
                                      Tr.fail))))))),
                        (runK (evFn Cw d 71 [v2] h5) fun r9 h9 =>
                          (consK r9 fun w10 ws11 =>
                            (intK .i64 w10 fun y12 =>
                              (nilK ws11
                                (optK (cc1[0]?) fun w13 =>
                                  (strK w13 fun ss14 =>
                                    (bif (((!(AVal.isAgg v1)) && true) && true) then
                                      (bif (((!(AVal.isAgg v2)) && true) && true) then
                                        (Tr.ret ([(AVal.elt (AVal.agg [(AVal.str ss14), (AVal.str ss4), v1, v2, (AVal.int .i64 (IntKind.i64.wrap (1 + (if (y12 : Int) > y8 then y12 else y8))))]) true 5 0)], h9))
                                      else
                                        Tr.fail)
                                    else
                                      Tr.fail)))))))])))))]))),
        (runK (evFn Cw d 71 [v1] h) fun r3 h3 =>
          (consK r3 fun w4 ws5 =>
            (intK .i64 w4 fun y6 =>
              (nilK ws5
                (Tr.anyL [
                  (optK (cc1[0]?) fun w7 =>
                    (strK w7 fun ss8 =>
                      (Tr.anyL [
                        (optK (cc2[1]?) fun w9 =>
                          (strK w9 fun ss10 =>
                            (runK (evFn Cw d 71 [v2] h3) fun r11 h11 =>
                              (consK r11 fun w12 ws13 =>
                                (intK .i64 w12 fun y14 =>
                                  (nilK ws13
                                    (bif (((!(AVal.isAgg v1)) && true) && true) then
                                      (bif (((!(AVal.isAgg v2)) && true) && true) then
                                        (Tr.ret ([(AVal.elt (AVal.agg [(AVal.str ss8), (AVal.str ss10), v1, v2, (AVal.int .i64 (IntKind.i64.wrap (1 + (if (y14 : Int) > y6 then y14 else y6))))]) true 5 0)], h11))
                                      else
                                        Tr.fail)
                                    else
                                      Tr.fail))))))),
                        (runK (evFn Cw d 71 [v2] h3) fun r9 h9 =>
                          (consK r9 fun w10 ws11 =>
                            (intK .i64 w10 fun y12 =>
                              (nilK ws11
                                (optK (cc2[1]?) fun w13 =>
                                  (strK w13 fun ss14 =>
                                    (bif (((!(AVal.isAgg v1)) && true) && true) then
                                      (bif (((!(AVal.isAgg v2)) && true) && true) then
                                        (Tr.ret ([(AVal.elt (AVal.agg [(AVal.str ss8), (AVal.str ss14), v1, v2, (AVal.int .i64 (IntKind.i64.wrap (1 + (if (y12 : Int) > y6 then y12 else y6))))]) true 5 0)], h9))
                                      else
                                        Tr.fail)
                                    else
                                      Tr.fail)))))))]))),
                  (optK (cc2[1]?) fun w7 =>
                    (strK w7 fun ss8 =>
                      (Tr.anyL [
                        (optK (cc1[0]?) fun w9 =>
                          (strK w9 fun ss10 =>
                            (runK (evFn Cw d 71 [v2] h3) fun r11 h11 =>
                              (consK r11 fun w12 ws13 =>
                                (intK .i64 w12 fun y14 =>
                                  (nilK ws13
                                    (bif (((!(AVal.isAgg v1)) && true) && true) then
                                      (bif (((!(AVal.isAgg v2)) && true) && true) then
                                        (Tr.ret ([(AVal.elt (AVal.agg [(AVal.str ss10), (AVal.str ss8), v1, v2, (AVal.int .i64 (IntKind.i64.wrap (1 + (if (y14 : Int) > y6 then y14 else y6))))]) true 5 0)], h11))
                                      else
                                        Tr.fail)
                                    else
                                      Tr.fail))))))),
                        (runK (evFn Cw d 71 [v2] h3) fun r9 h9 =>
                          (consK r9 fun w10 ws11 =>
                            (intK .i64 w10 fun y12 =>
                              (nilK ws11
                                (optK (cc1[0]?) fun w13 =>
                                  (strK w13 fun ss14 =>
                                    (bif (((!(AVal.isAgg v1)) && true) && true) then
                                      (bif (((!(AVal.isAgg v2)) && true) && true) then
                                        (Tr.ret ([(AVal.elt (AVal.agg [(AVal.str ss14), (AVal.str ss8), v1, v2, (AVal.int .i64 (IntKind.i64.wrap (1 + (if (y12 : Int) > y6 then y12 else y6))))]) true 5 0)], h9))
                                      else
                                        Tr.fail)
                                    else
                                      Tr.fail)))))))]))),
                  (runK (evFn Cw d 71 [v2] h3) fun r7 h7 =>
                    (consK r7 fun w8 ws9 =>
                      (intK .i64 w8 fun y10 =>
                        (nilK ws9
                          (Tr.anyL [
                            (optK (cc1[0]?) fun w11 =>
                              (strK w11 fun ss12 =>
                                (optK (cc2[1]?) fun w13 =>
                                  (strK w13 fun ss14 =>
                                    (bif (((!(AVal.isAgg v1)) && true) && true) then
                                      (bif (((!(AVal.isAgg v2)) && true) && true) then
                                        (Tr.ret ([(AVal.elt (AVal.agg [(AVal.str ss12), (AVal.str ss14), v1, v2, (AVal.int .i64 (IntKind.i64.wrap (1 + (if (y10 : Int) > y6 then y10 else y6))))]) true 5 0)], h7))
                                      else
                                        Tr.fail)
                                    else
                                      Tr.fail))))),
                            (optK (cc2[1]?) fun w11 =>
                              (strK w11 fun ss12 =>
                                (optK (cc1[0]?) fun w13 =>
                                  (strK w13 fun ss14 =>
                                    (bif (((!(AVal.isAgg v1)) && true) && true) then
                                      (bif (((!(AVal.isAgg v2)) && true) && true) then
                                        (Tr.ret ([(AVal.elt (AVal.agg [(AVal.str ss14), (AVal.str ss12), v1, v2, (AVal.int .i64 (IntKind.i64.wrap (1 + (if (y10 : Int) > y6 then y10 else y6))))]) true 5 0)], h7))
                                      else
                                        Tr.fail)
                                    else
                                      Tr.fail)))))])))))])))))]))) := by kernel_rfl
/- f65 (*strandline/tree.node[string]).level -/
theorem F65_eq (d : Nat) (v0 : AVal) (v1 : AVal) (v2 : AVal) (h : Heap) : evFn Cw (d + 1) 65 [v0, v1, v2] h =
  (runK (evFn Cw d 71 [v1] h) fun r1 h1 =>
    (consK r1 fun w2 ws3 =>
      (intK .i64 w2 fun y4 =>
        (nilK ws3
          (runK (evFn Cw d 71 [v2] h1) fun r5 h5 =>
            (consK r5 fun w6 ws7 =>
              (intK .i64 w6 fun y8 =>
                (nilK ws7
                  (bif (decide ((y4 : Int) > (IntKind.i64.wrap (y8 + 1)))) then
                    (nodeW 5 v1 fun cc9 =>
                      (optK (cc9[2]?) fun w10 =>
                        (nodeW 5 v1 fun cc11 =>
                          (optK (cc11[3]?) fun w12 =>
                            (runK (evFn Cw d 71 [w10] h5) fun r13 h13 =>
                              (consK r13 fun w14 ws15 =>
                                (intK .i64 w14 fun y16 =>
                                  (nilK ws15
                                    (runK (evFn Cw d 71 [w12] h13) fun r17 h17 =>
                                      (consK r17 fun w18 ws19 =>
                                        (intK .i64 w18 fun y20 =>
                                          (nilK ws19
                                            (bif (decide ((y16 : Int) ≥ y20)) then
                                              (nodeW 5 v1 fun cc21 =>
                                                (optK (cc21[2]?) fun w22 =>
                                                  (nodeW 5 v1 fun cc23 =>
                                                    (optK (cc23[3]?) fun w24 =>
                                                      (runK (evFn Cw d 72 [v0, w24, v2] h17) fun r25 h25 =>
                                                        (consK r25 fun w26 ws27 =>
                                                          (nilK ws27
                                                            (runK (evFn Cw d 72 [v1, w22, w26] h25) fun r28 h28 =>
                                                              (consK r28 fun w29 ws30 =>
                                                                (nilK ws30
                                                                  (Tr.ret ([w29], h28))))))))))))
                                            else
                                              (nodeW 5 v1 fun cc31 =>
                                                (optK (cc31[3]?) fun w32 =>
                                                  (nodeW 5 v1 fun cc33 =>
                                                    (optK (cc33[2]?) fun w34 =>
                                                      (nodeW 5 v1 fun cc35 =>
                                                        (optK (cc35[3]?) fun w36 =>
                                                          (nodeW 5 w36 fun cc37 =>
                                                            (optK (cc37[2]?) fun w38 =>
                                                              (nodeW 5 v1 fun cc39 =>
                                                                (optK (cc39[3]?) fun w40 =>
                                                                  (nodeW 5 w40 fun cc41 =>
                                                                    (optK (cc41[3]?) fun w42 =>
                                                                      (runK (evFn Cw d 72 [v1, w34, w38] h17) fun r43 h43 =>
                                                                        (consK r43 fun w44 ws45 =>
                                                                          (nilK ws45
                                                                            (runK (evFn Cw d 72 [v0, w42, v2] h43) fun r46 h46 =>
                                                                              (consK r46 fun w47 ws48 =>
                                                                                (nilK ws48
                                                                                  (runK (evFn Cw d 72 [w32, w44, w47] h46) fun r49 h49 =>
                                                                                    (consK r49 fun w50 ws51 =>
                                                                                      (nilK ws51
                                                                                        (Tr.ret ([w50], h49))))))))))))))))))))))))))))))))))))
                  else
                    (runK (evFn Cw d 71 [v2] h5) fun r52 h52 =>
                      (consK r52 fun w53 ws54 =>
                        (intK .i64 w53 fun y55 =>
                          (nilK ws54
                            (runK (evFn Cw d 71 [v1] h52) fun r56 h56 =>
                              (consK r56 fun w57 ws58 =>
                                (intK .i64 w57 fun y59 =>
                                  (nilK ws58
                                    (bif (decide ((y55 : Int) > (IntKind.i64.wrap (y59 + 1)))) then
                                      (nodeW 5 v2 fun cc60 =>
                                        (optK (cc60[3]?) fun w61 =>
                                          (nodeW 5 v2 fun cc62 =>
                                            (optK (cc62[2]?) fun w63 =>
                                              (runK (evFn Cw d 71 [w61] h56) fun r64 h64 =>
                                                (consK r64 fun w65 ws66 =>
                                                  (intK .i64 w65 fun y67 =>
                                                    (nilK ws66
                                                      (runK (evFn Cw d 71 [w63] h64) fun r68 h68 =>
                                                        (consK r68 fun w69 ws70 =>
                                                          (intK .i64 w69 fun y71 =>
                                                            (nilK ws70
                                                              (bif (decide ((y67 : Int) ≥ y71)) then
                                                                (nodeW 5 v2 fun cc72 =>
                                                                  (optK (cc72[2]?) fun w73 =>
                                                                    (nodeW 5 v2 fun cc74 =>
                                                                      (optK (cc74[3]?) fun w75 =>
                                                                        (runK (evFn Cw d 72 [v0, v1, w73] h68) fun r76 h76 =>
                                                                          (consK r76 fun w77 ws78 =>
                                                                            (nilK ws78
                                                                              (runK (evFn Cw d 72 [v2, w77, w75] h76) fun r79 h79 =>
                                                                                (consK r79 fun w80 ws81 =>
                                                                                  (nilK ws81
                                                                                    (Tr.ret ([w80], h79))))))))))))
                                                              else
                                                                (nodeW 5 v2 fun cc82 =>
                                                                  (optK (cc82[2]?) fun w83 =>
                                                                    (nodeW 5 v2 fun cc84 =>
                                                                      (optK (cc84[2]?) fun w85 =>
                                                                        (nodeW 5 w85 fun cc86 =>
                                                                          (optK (cc86[2]?) fun w87 =>
                                                                            (nodeW 5 v2 fun cc88 =>
                                                                              (optK (cc88[2]?) fun w89 =>
                                                                                (nodeW 5 w89 fun cc90 =>
                                                                                  (optK (cc90[3]?) fun w91 =>
                                                                                    (nodeW 5 v2 fun cc92 =>
                                                                                      (optK (cc92[3]?) fun w93 =>
                                                                                        (runK (evFn Cw d 72 [v0, v1, w87] h68) fun r94 h94 =>
                                                                                          (consK r94 fun w95 ws96 =>
                                                                                            (nilK ws96
                                                                                              (runK (evFn Cw d 72 [v2, w91, w93] h94) fun r97 h97 =>
                                                                                                (consK r97 fun w98 ws99 =>
                                                                                                  (nilK ws99
                                                                                                    (runK (evFn Cw d 72 [w83, w95, w98] h97) fun r100 h100 =>
                                                                                                      (consK r100 fun w101 ws102 =>
                                                                                                        (nilK ws102
                                                                                                          (Tr.ret ([w101], h100))))))))))))))))))))))))))))))))))))
                                    else
                                      (runK (evFn Cw d 72 [v0, v1, v2] h56) fun r103 h103 =>
                                        (consK r103 fun w104 ws105 =>
                                          (nilK ws105
                                            (Tr.ret ([w104], h103))))))))))))))))))))))) := by kernel_rfl
/- f63 (*strandline/tree.node[string]).put -/
theorem F63_eq (d : Nat) (v0 : AVal) (s1 : List UInt8) (s2 : List UInt8) (h : Heap) : evFn Cw (d + 1) 63 [v0, (AVal.str s1), (AVal.str s2)] h =
  (bif AVal.isPtr v0 then
    (bif (AVal.isNilp v0) then
      (Tr.ret ([(AVal.elt (AVal.agg [(AVal.str s1), (AVal.str s2), AVal.nilp, AVal.nilp, (AVal.int .i64 1)]) true 5 0)], h))
    else
      (nodeW 5 v0 fun cc1 =>
        (optK (cc1[0]?) fun w2 =>
          (strK w2 fun ss3 =>
            (bif (Go.Op.bytesLess s1 ss3) then
              (nodeW 5 v0 fun cc4 =>
                (optK (cc4[2]?) fun w5 =>
                  (nodeW 5 v0 fun cc6 =>
                    (optK (cc6[3]?) fun w7 =>
                      (runK (evFn Cw d 63 [w5, (AVal.str s1), (AVal.str s2)] h) fun r8 h8 =>
                        (consK r8 fun w9 ws10 =>
                          (nilK ws10
                            (runK (evFn Cw d 65 [v0, w9, w7] h8) fun r11 h11 =>
                              (consK r11 fun w12 ws13 =>
                                (nilK ws13
                                  (Tr.ret ([w12], h11))))))))))))
            else
              (nodeW 5 v0 fun cc14 =>
                (optK (cc14[0]?) fun w15 =>
                  (strK w15 fun ss16 =>
                    (bif (!((Go.Op.bytesLess s1 ss16) || (s1 == ss16))) then
                      (nodeW 5 v0 fun cc17 =>
                        (optK (cc17[2]?) fun w18 =>
                          (nodeW 5 v0 fun cc19 =>
                            (optK (cc19[3]?) fun w20 =>
                              (runK (evFn Cw d 63 [w20, (AVal.str s1), (AVal.str s2)] h) fun r21 h21 =>
                                (consK r21 fun w22 ws23 =>
                                  (nilK ws23
                                    (runK (evFn Cw d 65 [v0, w18, w22] h21) fun r24 h24 =>
                                      (consK r24 fun w25 ws26 =>
                                        (nilK ws26
                                          (Tr.ret ([w25], h24))))))))))))
                    else
                      (nodeW 5 v0 fun cc27 =>
                        (nodeW 5 v0 fun cc28 =>
                          (nodeW 5 v0 fun cc29 =>
                            (Tr.anyL [
                              (optK (cc27[2]?) fun w30 =>
                                (Tr.anyL [
                                  (optK (cc28[3]?) fun w31 =>
                                    (optK (cc29[4]?) fun w32 =>
                                      (intK .i64 w32 fun y33 =>
                                        (bif (((!(AVal.isAgg w30)) && true) && true) then
                                          (bif (((!(AVal.isAgg w31)) && true) && true) then
                                            (Tr.ret ([(AVal.elt (AVal.agg [(AVal.str s1), (AVal.str s2), w30, w31, (AVal.int .i64 y33)]) true 5 0)], h))
                                          else
                                            Tr.fail)
                                        else
                                          Tr.fail)))),
                                  (optK (cc29[4]?) fun w31 =>
                                    (intK .i64 w31 fun y32 =>
                                      (optK (cc28[3]?) fun w33 =>
                                        (bif (((!(AVal.isAgg w30)) && true) && true) then
                                          (bif (((!(AVal.isAgg w33)) && true) && true) then
                                            (Tr.ret ([(AVal.elt (AVal.agg [(AVal.str s1), (AVal.str s2), w30, w33, (AVal.int .i64 y32)]) true 5 0)], h))
                                          else
                                            Tr.fail)
                                        else
                                          Tr.fail))))])),
                              (optK (cc28[3]?) fun w30 =>
                                (Tr.anyL [
                                  (optK (cc27[2]?) fun w31 =>
                                    (optK (cc29[4]?) fun w32 =>
                                      (intK .i64 w32 fun y33 =>
                                        (bif (((!(AVal.isAgg w31)) && true) && true) then
                                          (bif (((!(AVal.isAgg w30)) && true) && true) then
                                            (Tr.ret ([(AVal.elt (AVal.agg [(AVal.str s1), (AVal.str s2), w31, w30, (AVal.int .i64 y33)]) true 5 0)], h))
                                          else
                                            Tr.fail)
                                        else
                                          Tr.fail)))),
                                  (optK (cc29[4]?) fun w31 =>
                                    (intK .i64 w31 fun y32 =>
                                      (optK (cc27[2]?) fun w33 =>
                                        (bif (((!(AVal.isAgg w33)) && true) && true) then
                                          (bif (((!(AVal.isAgg w30)) && true) && true) then
                                            (Tr.ret ([(AVal.elt (AVal.agg [(AVal.str s1), (AVal.str s2), w33, w30, (AVal.int .i64 y32)]) true 5 0)], h))
                                          else
                                            Tr.fail)
                                        else
                                          Tr.fail))))])),
                              (optK (cc29[4]?) fun w30 =>
                                (intK .i64 w30 fun y31 =>
                                  (Tr.anyL [
                                    (optK (cc27[2]?) fun w32 =>
                                      (optK (cc28[3]?) fun w33 =>
                                        (bif (((!(AVal.isAgg w32)) && true) && true) then
                                          (bif (((!(AVal.isAgg w33)) && true) && true) then
                                            (Tr.ret ([(AVal.elt (AVal.agg [(AVal.str s1), (AVal.str s2), w32, w33, (AVal.int .i64 y31)]) true 5 0)], h))
                                          else
                                            Tr.fail)
                                        else
                                          Tr.fail))),
                                    (optK (cc28[3]?) fun w32 =>
                                      (optK (cc27[2]?) fun w33 =>
                                        (bif (((!(AVal.isAgg w33)) && true) && true) then
                                          (bif (((!(AVal.isAgg w32)) && true) && true) then
                                            (Tr.ret ([(AVal.elt (AVal.agg [(AVal.str s1), (AVal.str s2), w33, w32, (AVal.int .i64 y31)]) true 5 0)], h))
                                          else
                                            Tr.fail)
                                        else
                                          Tr.fail)))])))])))))))))))))
  else
    Tr.fail) := by kernel_rfl
/- f66 (*strandline/tree.node[string]).least -/
noncomputable def P66_0 (d k : Nat) (v0 : AVal) (h : Heap) : Tr Res :=
  loopPt Cw d 66 [true, false, true] [] k ⟨[(0, (EV.one (SV.val v0)))], []⟩ h
theorem P66_0_eq (d k : Nat) (v0 : AVal) (h : Heap) : P66_0 d (k + 1) v0 h =
  (nodeW 5 v0 fun cc1 =>
    (optK (cc1[2]?) fun w2 =>
      (bif AVal.isPtr w2 then
        (bif (!(AVal.isNilp w2)) then
          (nodeW 5 v0 fun cc3 =>
            (optK (cc3[2]?) fun w4 =>
              (P66_0 d k w4 h)))
        else
          (Tr.ret ([v0], h)))
      else
        Tr.fail))) := by kernel_rfl
theorem F66_eq (d : Nat) (v0 : AVal) (h : Heap) : evFn Cw (d + 1) 66 [v0] h =
  (P66_0 d rounds v0 h) := by kernel_rfl
/- f52 (*strandline/tree.node[string]).without -/
theorem F52_eq (d : Nat) (v0 : AVal) (s1 : List UInt8) (h : Heap) : evFn Cw (d + 1) 52 [v0, (AVal.str s1)] h =
  (nodeW 5 v0 fun cc1 =>
    (optK (cc1[0]?) fun w2 =>
      (strK w2 fun ss3 =>
        (bif (Go.Op.bytesLess s1 ss3) then
          (nodeW 5 v0 fun cc4 =>
            (optK (cc4[2]?) fun w5 =>
              (nodeW 5 v0 fun cc6 =>
                (optK (cc6[3]?) fun w7 =>
                  (runK (evFn Cw d 52 [w5, (AVal.str s1)] h) fun r8 h8 =>
                    (consK r8 fun w9 ws10 =>
                      (nilK ws10
                        (runK (evFn Cw d 65 [v0, w9, w7] h8) fun r11 h11 =>
                          (consK r11 fun w12 ws13 =>
                            (nilK ws13
                              (Tr.ret ([w12], h11))))))))))))
        else
          (nodeW 5 v0 fun cc14 =>
            (optK (cc14[0]?) fun w15 =>
              (strK w15 fun ss16 =>
                (bif (!((Go.Op.bytesLess s1 ss16) || (s1 == ss16))) then
                  (nodeW 5 v0 fun cc17 =>
                    (optK (cc17[2]?) fun w18 =>
                      (nodeW 5 v0 fun cc19 =>
                        (optK (cc19[3]?) fun w20 =>
                          (runK (evFn Cw d 52 [w20, (AVal.str s1)] h) fun r21 h21 =>
                            (consK r21 fun w22 ws23 =>
                              (nilK ws23
                                (runK (evFn Cw d 65 [v0, w18, w22] h21) fun r24 h24 =>
                                  (consK r24 fun w25 ws26 =>
                                    (nilK ws26
                                      (Tr.ret ([w25], h24))))))))))))
                else
                  (nodeW 5 v0 fun cc27 =>
                    (optK (cc27[2]?) fun w28 =>
                      (bif AVal.isPtr w28 then
                        (bif (AVal.isNilp w28) then
                          (nodeW 5 v0 fun cc29 =>
                            (optK (cc29[3]?) fun w30 =>
                              (Tr.ret ([w30], h))))
                        else
                          (nodeW 5 v0 fun cc31 =>
                            (optK (cc31[3]?) fun w32 =>
                              (bif AVal.isPtr w32 then
                                (bif (AVal.isNilp w32) then
                                  (nodeW 5 v0 fun cc33 =>
                                    (optK (cc33[2]?) fun w34 =>
                                      (Tr.ret ([w34], h))))
                                else
                                  (nodeW 5 v0 fun cc35 =>
                                    (optK (cc35[3]?) fun w36 =>
                                      (runK (evFn Cw d 66 [w36] h) fun r37 h37 =>
                                        (consK r37 fun w38 ws39 =>
                                          (nilK ws39
                                            (nodeW 5 v0 fun cc40 =>
                                              (optK (cc40[2]?) fun w41 =>
                                                (nodeW 5 v0 fun cc42 =>
                                                  (optK (cc42[3]?) fun w43 =>
                                                    (nodeW 5 w38 fun cc44 =>
                                                      (optK (cc44[0]?) fun w45 =>
                                                        (strK w45 fun ss46 =>
                                                          (runK (evFn Cw d 52 [w43, (AVal.str ss46)] h37) fun r47 h47 =>
                                                            (consK r47 fun w48 ws49 =>
                                                              (nilK ws49
                                                                (runK (evFn Cw d 65 [w38, w41, w48] h47) fun r50 h50 =>
                                                                  (consK r50 fun w51 ws52 =>
                                                                    (nilK ws52
                                                                      (Tr.ret ([w51], h50)))))))))))))))))))))
                              else
                                Tr.fail))))
                      else
                        Tr.fail))))))))))) := by kernel_rfl
/- f33 strandline/tree.New[string] -/
theorem F33_eq (d : Nat) (h : Heap) : evFn Cw (d + 1) 33 [] h =
  (Tr.ret ([(AVal.obj h.objs.length 0)], (Heap.push h (Go.Weave.Obj.cells ([AVal.nilp, (AVal.int .i64 0)].map HCell.val))))) := by kernel_rfl
/- f64 (*strandline/tree.Tree[string]).Seek -/
noncomputable def P64_0 (d k : Nat) (s0 : List UInt8) (v1 : AVal) (v2 : AVal) (h : Heap) : Tr Res :=
  loopPt Cw d 64 [true, true, false, true, true, true, true] [] k ⟨[(1, (EV.one (SV.val (AVal.str s0)))), (7, (EV.one (SV.val v1))), (8, (EV.one (SV.val v2)))], []⟩ h
theorem P64_0_eq (d k : Nat) (s0 : List UInt8) (v1 : AVal) (v2 : AVal) (h : Heap) : P64_0 d (k + 1) s0 v1 v2 h =
  (bif AVal.isPtr v2 then
    (bif (!(AVal.isNilp v2)) then
      (nodeW 5 v2 fun cc1 =>
        (optK (cc1[0]?) fun w2 =>
          (strK w2 fun ss3 =>
            (bif (Go.Op.bytesLess ss3 s0) then
              (nodeW 5 v2 fun cc4 =>
                (optK (cc4[3]?) fun w5 =>
                  (P64_0 d k s0 v1 w5 h)))
            else
              (nodeW 5 v2 fun cc6 =>
                (optK (cc6[2]?) fun w7 =>
                  (P64_0 d k s0 v2 w7 h)))))))
    else
      (runK (evFn Cw d 70 [v1] h) fun r8 h8 =>
        (consK r8 fun w9 ws10 =>
          (strK w9 fun ss11 =>
            (consK ws10 fun w12 ws13 =>
              (strK w12 fun ss14 =>
                (consK ws13 fun w15 ws16 =>
                  (boolK w15 fun bb17 =>
                    (nilK ws16
                      (Tr.ret ([(AVal.str ss11), (AVal.str ss14), (AVal.bool bb17)], h8)))))))))))
  else
    Tr.fail) := by kernel_rfl
theorem F64_eq (d : Nat) (i0 : Nat) (s1 : List UInt8) (h : Heap) : evFn Cw (d + 1) 64 [(AVal.obj i0 0), (AVal.str s1)] h =
  (optK (Heap.cell? h i0 0) fun z1 =>
    (P64_0 d rounds s1 AVal.nilp (HCell.toA z1) h)) := by kernel_rfl
/- f51 (*strandline/tree.Tree[string]).Get -/
theorem F51_eq (d : Nat) (i0 : Nat) (s1 : List UInt8) (h : Heap) : evFn Cw (d + 1) 51 [(AVal.obj i0 0), (AVal.str s1)] h =
  (runK (evFn Cw d 64 [(AVal.obj i0 0), (AVal.str s1)] h) fun r1 h1 =>
    (consK r1 fun w2 ws3 =>
      (strK w2 fun ss4 =>
        (consK ws3 fun w5 ws6 =>
          (strK w5 fun ss7 =>
            (consK ws6 fun w8 ws9 =>
              (boolK w8 fun bb10 =>
                (nilK ws9
                  (bif (!bb10) then
                    (Tr.ret ([(AVal.str []), (AVal.bool false)], h1))
                  else
                    (bif (!(ss4 == s1)) then (Tr.ret ([(AVal.str []), (AVal.bool false)], h1)) else (Tr.ret ([(AVal.str ss7), (AVal.bool true)], h1)))))))))))) := by kernel_rfl
/- f50 (*strandline/tree.Tree[string]).Put -/
theorem F50_eq (d : Nat) (i0 : Nat) (s1 : List UInt8) (s2 : List UInt8) (h : Heap) : evFn Cw (d + 1) 50 [(AVal.obj i0 0), (AVal.str s1), (AVal.str s2)] h =
  (runK (evFn Cw d 51 [(AVal.obj i0 0), (AVal.str s1)] h) fun r1 h1 =>
    (consK r1 fun w2 ws3 =>
      (strK w2 fun ss4 =>
        (consK ws3 fun w5 ws6 =>
          (boolK w5 fun bb7 =>
            (nilK ws6
              (optK (Heap.cell? h1 i0 0) fun z8 =>
                (runK (evFn Cw d 63 [(HCell.toA z8), (AVal.str s1), (AVal.str s2)] h1) fun r9 h9 =>
                  (consK r9 fun w10 ws11 =>
                    (nilK ws11
                      (bif (AVal.isAgg w10) then
                        Tr.fail
                      else
                        (optK (Heap.cell? h9 i0 0) fun _ =>
                          (bif (!bb7) then
                            (optK (Heap.cell? (Heap.setCell h9 i0 0 (HCell.val w10)) i0 1) fun z12 =>
                              (intK .i64 (HCell.toA z12) fun y13 =>
                                (optK (Heap.cell? (Heap.setCell h9 i0 0 (HCell.val w10)) i0 1) fun _ =>
                                  (Tr.ret ([(AVal.str ss4), (AVal.bool bb7)], (Heap.setCell (Heap.setCell h9 i0 0 (HCell.val w10)) i0 1 (HCell.val (AVal.int .i64 (IntKind.i64.wrap (y13 + 1))))))))))
                          else
                            (Tr.ret ([(AVal.str ss4), (AVal.bool bb7)], (Heap.setCell h9 i0 0 (HCell.val w10))))))))))))))))) := by kernel_rfl
/- f35 (*strandline/tree.Tree[string]).Delete -/
theorem F35_eq (d : Nat) (i0 : Nat) (s1 : List UInt8) (h : Heap) : evFn Cw (d + 1) 35 [(AVal.obj i0 0), (AVal.str s1)] h =
  (runK (evFn Cw d 51 [(AVal.obj i0 0), (AVal.str s1)] h) fun r1 h1 =>
    (consK r1 fun w2 ws3 =>
      (strK w2 fun ss4 =>
        (consK ws3 fun w5 ws6 =>
          (boolK w5 fun bb7 =>
            (nilK ws6
              (bif bb7 then
                (optK (Heap.cell? h1 i0 0) fun z8 =>
                  (runK (evFn Cw d 52 [(HCell.toA z8), (AVal.str s1)] h1) fun r9 h9 =>
                    (consK r9 fun w10 ws11 =>
                      (nilK ws11
                        (bif (AVal.isAgg w10) then
                          Tr.fail
                        else
                          (optK (Heap.cell? h9 i0 0) fun _ =>
                            (optK (Heap.cell? (Heap.setCell h9 i0 0 (HCell.val w10)) i0 1) fun z12 =>
                              (intK .i64 (HCell.toA z12) fun y13 =>
                                (optK (Heap.cell? (Heap.setCell h9 i0 0 (HCell.val w10)) i0 1) fun _ =>
                                  (Tr.ret ([(AVal.str ss4), (AVal.bool bb7)], (Heap.setCell (Heap.setCell h9 i0 0 (HCell.val w10)) i0 1 (HCell.val (AVal.int .i64 (IntKind.i64.wrap (y13 - 1))))))))))))))))
              else
                (Tr.ret ([(AVal.str ss4), (AVal.bool bb7)], h1))))))))) := by kernel_rfl
/- f38 (*strandline/tree.Tree[string]).Len -/
theorem F38_eq (d : Nat) (i0 : Nat) (h : Heap) : evFn Cw (d + 1) 38 [(AVal.obj i0 0)] h =
  (optK (Heap.cell? h i0 1) fun z1 =>
    (intK .i64 (HCell.toA z1) fun y2 =>
      (Tr.ret ([(AVal.int .i64 y2)], h)))) := by kernel_rfl
/- f17 strandline/strandlineref31.Get -/
noncomputable def P17_0 (d k : Nat) (f0 : Bool) (l1 : List AVal) (s2 : List UInt8) (x3 : Int) (h : Heap) : Tr Res :=
  loopPt Cw d 17 [true, false, true, true] [] k ⟨[(0, (EV.one (SV.val (AVal.sl f0 3 l1)))), (1, (EV.one (SV.val (AVal.str s2)))), (6, (EV.one (SV.val (AVal.int .i64 x3))))], []⟩ h
theorem P17_0_eq (d k : Nat) (f0 : Bool) (l1 : List AVal) (s2 : List UInt8) (x3 : Int) (h : Heap) : P17_0 d (k + 1) f0 l1 s2 x3 h =
  (bif (decide ((x3 : Int) < (l1.length : Int))) then
    (bif (decide ((0 : Int) ≤ x3) && decide ((x3 : Int) < (l1.length : Int))) then
      (optK ((AVal.cells (l1.getD (Int.toNat x3) AVal.undef))[0]?) fun w1 =>
        (strK w1 fun ss2 =>
          (bif (ss2 == s2) then
            (bif (decide ((0 : Int) ≤ x3) && decide ((x3 : Int) < (l1.length : Int))) then
              (optK ((AVal.cells (l1.getD (Int.toNat x3) AVal.undef))[1]?) fun w3 =>
                (strK w3 fun ss4 =>
                  (Tr.ret ([(AVal.str ss4), (AVal.bool true)], h))))
            else
              Tr.fail)
          else
            (P17_0 d k f0 l1 s2 (IntKind.i64.wrap (x3 + 1)) h))))
    else
      Tr.fail)
  else
    (Tr.ret ([(AVal.str []), (AVal.bool false)], h))) := by kernel_rfl
theorem F17_eq (d : Nat) (f0 : Bool) (l1 : List AVal) (s2 : List UInt8) (h : Heap) : evFn Cw (d + 1) 17 [(AVal.sl f0 3 l1), (AVal.str s2)] h =
  (P17_0 d rounds f0 l1 s2 0 h) := by kernel_rfl
/- f22 strandline/strandlineref31.Delete -/
noncomputable def P22_0 (d k : Nat) (f0 : Bool) (l1 : List AVal) (s2 : List UInt8) (l3 : List AVal) (x4 : Int) (h : Heap) : Tr Res :=
  loopPt Cw d 22 [true, true, false, true, true] [] k ⟨[(0, (EV.one (SV.val (AVal.sl f0 3 l1)))), (1, (EV.one (SV.val (AVal.str s2)))), (5, (EV.one (SV.own (tokOf 5 0) 3 l3))), (6, (EV.one (SV.val (AVal.int .i64 x4))))], []⟩ h
theorem P22_0_eq (d k : Nat) (f0 : Bool) (l1 : List AVal) (s2 : List UInt8) (l3 : List AVal) (x4 : Int) (h : Heap) : P22_0 d (k + 1) f0 l1 s2 l3 x4 h =
  (bif (decide ((x4 : Int) < (l1.length : Int))) then
    (bif (decide ((0 : Int) ≤ x4) && decide ((x4 : Int) < (l1.length : Int))) then
      (optK ((AVal.cells (l1.getD (Int.toNat x4) AVal.undef))[0]?) fun w1 =>
        (strK w1 fun ss2 =>
          (bif (!(ss2 == s2)) then
            (bif (decide ((0 : Int) ≤ x4) && decide ((x4 : Int) < (l1.length : Int))) then
              (aggK 2 (l1.getD (Int.toNat x4) AVal.undef) fun cc3 =>
                (bif ((cc3.length == 2) && true) then
                  (bif decide ((l3.length + (1 : Nat)) * 32 ≤ 140737488355328) then (P22_0 d k f0 l1 s2 (l3 ++ [(AVal.agg cc3)]) (IntKind.i64.wrap (x4 + 1)) h) else Tr.fail)
                else
                  Tr.fail))
            else
              Tr.fail)
          else
            (P22_0 d k f0 l1 s2 l3 (IntKind.i64.wrap (x4 + 1)) h))))
    else
      Tr.fail)
  else
    (Tr.ret ([(AVal.sl false 3 l3)], h))) := by kernel_rfl
theorem F22_eq (d : Nat) (f0 : Bool) (l1 : List AVal) (s2 : List UInt8) (h : Heap) : evFn Cw (d + 1) 22 [(AVal.sl f0 3 l1), (AVal.str s2)] h =
  (P22_0 d rounds f0 l1 s2 [] 0 h) := by kernel_rfl
noncomputable def P22n_0 (d k : Nat) (s0 : List UInt8) (l1 : List AVal) (x2 : Int) (h : Heap) : Tr Res :=
  loopPt Cw d 22 [true, true, false, true, true] [] k ⟨[(0, (EV.one (SV.val (AVal.sl true 0 [])))), (1, (EV.one (SV.val (AVal.str s0)))), (5, (EV.one (SV.own (tokOf 5 0) 3 l1))), (6, (EV.one (SV.val (AVal.int .i64 x2))))], []⟩ h
theorem P22n_0_eq (d k : Nat) (s0 : List UInt8) (l1 : List AVal) (x2 : Int) (h : Heap) : P22n_0 d (k + 1) s0 l1 x2 h =
  (bif (decide ((x2 : Int) < 0)) then
    (bif (decide ((0 : Int) ≤ x2) && decide ((x2 : Int) < 0)) then
      (optK ((AVal.cells ([].getD (Int.toNat x2) AVal.undef))[0]?) fun w1 =>
        (strK w1 fun ss2 =>
          (bif (!(ss2 == s0)) then
            (bif (decide ((0 : Int) ≤ x2) && decide ((x2 : Int) < 0)) then
              (aggK 2 ([].getD (Int.toNat x2) AVal.undef) fun cc3 =>
                (bif ((cc3.length == 2) && true) then
                  (bif decide ((l1.length + (1 : Nat)) * 32 ≤ 140737488355328) then (P22n_0 d k s0 (l1 ++ [(AVal.agg cc3)]) (IntKind.i64.wrap (x2 + 1)) h) else Tr.fail)
                else
                  Tr.fail))
            else
              Tr.fail)
          else
            (P22n_0 d k s0 l1 (IntKind.i64.wrap (x2 + 1)) h))))
    else
      Tr.fail)
  else
    (Tr.ret ([(AVal.sl false 3 l1)], h))) := by kernel_rfl
theorem F22n_eq (d : Nat) (s0 : List UInt8) (h : Heap) : evFn Cw (d + 1) 22 [(AVal.sl true 0 []), (AVal.str s0)] h =
  (P22n_0 d rounds s0 [] 0 h) := by kernel_rfl
/- f21 strandline/strandlineref31.Put -/
noncomputable def P21_0 (d k : Nat) (l0 : List AVal) (s1 : List UInt8) (s2 : List UInt8) (l3 : List AVal) (b4 : Bool) (x5 : Int) (h : Heap) : Tr Res :=
  loopPt Cw d 21 [true, true, true, true, false, true, true] [] k ⟨[(0, (EV.one (SV.own (tokOf 0 0) 3 l0))), (1, (EV.one (SV.val (AVal.str s1)))), (2, (EV.one (SV.val (AVal.str s2)))), (7, (EV.one (SV.own (tokOf 7 0) 3 l3))), (8, (EV.one (SV.val (AVal.bool b4)))), (9, (EV.one (SV.val (AVal.int .i64 x5))))], []⟩ h
theorem P21_0_eq (d k : Nat) (l0 : List AVal) (s1 : List UInt8) (s2 : List UInt8) (l3 : List AVal) (b4 : Bool) (x5 : Int) (h : Heap) : P21_0 d (k + 1) l0 s1 s2 l3 b4 x5 h =
  (bif (decide ((x5 : Int) < (l0.length : Int))) then
    (bif (!b4) then
      (bif (decide ((0 : Int) ≤ x5) && decide ((x5 : Int) < (l0.length : Int))) then
        (optK ((AVal.cells (l0.getD (Int.toNat x5) AVal.undef))[0]?) fun w1 =>
          (strK w1 fun ss2 =>
            (bif (!((Go.Op.bytesLess ss2 s1) || (ss2 == s1))) then
              (bif decide ((l3.length + (1 : Nat)) * 32 ≤ 140737488355328) then
                (bif (decide ((0 : Int) ≤ x5) && decide ((x5 : Int) < (l0.length : Int))) then
                  (aggK 2 (l0.getD (Int.toNat x5) AVal.undef) fun cc3 =>
                    (bif ((cc3.length == 2) && true) then
                      (bif decide (((l3 ++ [(AVal.agg [(AVal.str s1), (AVal.str s2)])]).length + (1 : Nat)) * 32 ≤ 140737488355328) then
                        (P21_0 d k l0 s1 s2 ((l3 ++ [(AVal.agg [(AVal.str s1), (AVal.str s2)])]) ++ [(AVal.agg cc3)]) true (IntKind.i64.wrap (x5 + 1)) h)
                      else
                        Tr.fail)
                    else
                      Tr.fail))
                else
                  Tr.fail)
              else
                Tr.fail)
            else
              (bif (decide ((0 : Int) ≤ x5) && decide ((x5 : Int) < (l0.length : Int))) then
                (aggK 2 (l0.getD (Int.toNat x5) AVal.undef) fun cc4 =>
                  (bif ((cc4.length == 2) && true) then
                    (bif decide ((l3.length + (1 : Nat)) * 32 ≤ 140737488355328) then (P21_0 d k l0 s1 s2 (l3 ++ [(AVal.agg cc4)]) b4 (IntKind.i64.wrap (x5 + 1)) h) else Tr.fail)
                  else
                    Tr.fail))
              else
                Tr.fail))))
      else
        Tr.fail)
    else
      (bif (decide ((0 : Int) ≤ x5) && decide ((x5 : Int) < (l0.length : Int))) then
        (aggK 2 (l0.getD (Int.toNat x5) AVal.undef) fun cc5 =>
          (bif ((cc5.length == 2) && true) then
            (bif decide ((l3.length + (1 : Nat)) * 32 ≤ 140737488355328) then (P21_0 d k l0 s1 s2 (l3 ++ [(AVal.agg cc5)]) b4 (IntKind.i64.wrap (x5 + 1)) h) else Tr.fail)
          else
            Tr.fail))
      else
        Tr.fail))
  else
    (bif (!b4) then
      (bif decide ((l3.length + (1 : Nat)) * 32 ≤ 140737488355328) then (Tr.ret ([(AVal.sl false 3 (l3 ++ [(AVal.agg [(AVal.str s1), (AVal.str s2)])]))], h)) else Tr.fail)
    else
      (Tr.ret ([(AVal.sl false 3 l3)], h)))) := by kernel_rfl
theorem F21_eq (d : Nat) (f0 : Bool) (l1 : List AVal) (s2 : List UInt8) (s3 : List UInt8) (h : Heap) : evFn Cw (d + 1) 21 [(AVal.sl f0 3 l1), (AVal.str s2), (AVal.str s3)] h =
  (runK (evFn Cw d 22 [(AVal.sl f0 3 l1), (AVal.str s2)] h) fun r1 h1 =>
    (consK r1 fun w2 ws3 =>
      (slOK 3 w2 fun es4 =>
        (nilK ws3
          (P21_0 d rounds es4 s2 s3 [] false 0 h1))))) := by kernel_rfl
noncomputable def P21n_0 (d k : Nat) (l0 : List AVal) (s1 : List UInt8) (s2 : List UInt8) (l3 : List AVal) (b4 : Bool) (x5 : Int) (h : Heap) : Tr Res :=
  loopPt Cw d 21 [true, true, true, true, false, true, true] [] k ⟨[(0, (EV.one (SV.own (tokOf 0 0) 3 l0))), (1, (EV.one (SV.val (AVal.str s1)))), (2, (EV.one (SV.val (AVal.str s2)))), (7, (EV.one (SV.own (tokOf 7 0) 3 l3))), (8, (EV.one (SV.val (AVal.bool b4)))), (9, (EV.one (SV.val (AVal.int .i64 x5))))], []⟩ h
theorem P21n_0_eq (d k : Nat) (l0 : List AVal) (s1 : List UInt8) (s2 : List UInt8) (l3 : List AVal) (b4 : Bool) (x5 : Int) (h : Heap) : P21n_0 d (k + 1) l0 s1 s2 l3 b4 x5 h =
  (bif (decide ((x5 : Int) < (l0.length : Int))) then
    (bif (!b4) then
      (bif (decide ((0 : Int) ≤ x5) && decide ((x5 : Int) < (l0.length : Int))) then
        (optK ((AVal.cells (l0.getD (Int.toNat x5) AVal.undef))[0]?) fun w1 =>
          (strK w1 fun ss2 =>
            (bif (!((Go.Op.bytesLess ss2 s1) || (ss2 == s1))) then
              (bif decide ((l3.length + (1 : Nat)) * 32 ≤ 140737488355328) then
                (bif (decide ((0 : Int) ≤ x5) && decide ((x5 : Int) < (l0.length : Int))) then
                  (aggK 2 (l0.getD (Int.toNat x5) AVal.undef) fun cc3 =>
                    (bif ((cc3.length == 2) && true) then
                      (bif decide (((l3 ++ [(AVal.agg [(AVal.str s1), (AVal.str s2)])]).length + (1 : Nat)) * 32 ≤ 140737488355328) then
                        (P21n_0 d k l0 s1 s2 ((l3 ++ [(AVal.agg [(AVal.str s1), (AVal.str s2)])]) ++ [(AVal.agg cc3)]) true (IntKind.i64.wrap (x5 + 1)) h)
                      else
                        Tr.fail)
                    else
                      Tr.fail))
                else
                  Tr.fail)
              else
                Tr.fail)
            else
              (bif (decide ((0 : Int) ≤ x5) && decide ((x5 : Int) < (l0.length : Int))) then
                (aggK 2 (l0.getD (Int.toNat x5) AVal.undef) fun cc4 =>
                  (bif ((cc4.length == 2) && true) then
                    (bif decide ((l3.length + (1 : Nat)) * 32 ≤ 140737488355328) then (P21n_0 d k l0 s1 s2 (l3 ++ [(AVal.agg cc4)]) b4 (IntKind.i64.wrap (x5 + 1)) h) else Tr.fail)
                  else
                    Tr.fail))
              else
                Tr.fail))))
      else
        Tr.fail)
    else
      (bif (decide ((0 : Int) ≤ x5) && decide ((x5 : Int) < (l0.length : Int))) then
        (aggK 2 (l0.getD (Int.toNat x5) AVal.undef) fun cc5 =>
          (bif ((cc5.length == 2) && true) then
            (bif decide ((l3.length + (1 : Nat)) * 32 ≤ 140737488355328) then (P21n_0 d k l0 s1 s2 (l3 ++ [(AVal.agg cc5)]) b4 (IntKind.i64.wrap (x5 + 1)) h) else Tr.fail)
          else
            Tr.fail))
      else
        Tr.fail))
  else
    (bif (!b4) then
      (bif decide ((l3.length + (1 : Nat)) * 32 ≤ 140737488355328) then (Tr.ret ([(AVal.sl false 3 (l3 ++ [(AVal.agg [(AVal.str s1), (AVal.str s2)])]))], h)) else Tr.fail)
    else
      (Tr.ret ([(AVal.sl false 3 l3)], h)))) := by kernel_rfl
theorem F21n_eq (d : Nat) (s0 : List UInt8) (s1 : List UInt8) (h : Heap) : evFn Cw (d + 1) 21 [(AVal.sl true 0 []), (AVal.str s0), (AVal.str s1)] h =
  (runK (evFn Cw d 22 [(AVal.sl true 0 []), (AVal.str s0)] h) fun r1 h1 =>
    (consK r1 fun w2 ws3 =>
      (slOK 3 w2 fun es4 =>
        (nilK ws3
          (P21n_0 d rounds es4 s0 s1 [] false 0 h1))))) := by kernel_rfl
/- f7 strandline/strandlineref31.Same -/
noncomputable def P7_0 (d k : Nat) (f0 : Bool) (l1 : List AVal) (f2 : Bool) (l3 : List AVal) (x4 : Int) (h : Heap) : Tr Res :=
  loopPt Cw d 7 [true, true, false, true, true] [] k ⟨[(0, (EV.one (SV.val (AVal.sl f0 3 l1)))), (1, (EV.one (SV.val (AVal.sl f2 3 l3)))), (5, (EV.one (SV.val (AVal.int .i64 x4))))], []⟩ h
theorem P7_0_eq (d k : Nat) (f0 : Bool) (l1 : List AVal) (f2 : Bool) (l3 : List AVal) (x4 : Int) (h : Heap) : P7_0 d (k + 1) f0 l1 f2 l3 x4 h =
  (bif (decide ((x4 : Int) < (l1.length : Int))) then
    (bif (decide ((0 : Int) ≤ x4) && decide ((x4 : Int) < (l1.length : Int))) then
      (aggK 2 (l1.getD (Int.toNat x4) AVal.undef) fun cc1 =>
        (bif (decide ((0 : Int) ≤ x4) && decide ((x4 : Int) < (l3.length : Int))) then
          (aggK 2 (l3.getD (Int.toNat x4) AVal.undef) fun cc2 =>
            (bif ((plainOk Cw.P 39 (AVal.agg cc1)) && (plainOk Cw.P 39 (AVal.agg cc2))) then
              (bif (!(eqCells cc1 cc2)) then (Tr.ret ([(AVal.bool false)], h)) else (P7_0 d k f0 l1 f2 l3 (IntKind.i64.wrap (x4 + 1)) h))
            else
              Tr.fail))
        else
          Tr.fail))
    else
      Tr.fail)
  else
    (Tr.ret ([(AVal.bool true)], h))) := by kernel_rfl
theorem F7_eq (d : Nat) (f0 : Bool) (l1 : List AVal) (f2 : Bool) (l3 : List AVal) (h : Heap) : evFn Cw (d + 1) 7 [(AVal.sl f0 3 l1), (AVal.sl f2 3 l3)] h =
  (bif (((l1.length : Int) : Int) != (l3.length : Int)) then (Tr.ret ([(AVal.bool false)], h)) else (P7_0 d rounds f0 l1 f2 l3 0 h)) := by kernel_rfl
end Go.Proofs.Ytbddfpakhealbaa.Wa
end

section
/- The program's plain types, as Lean's. -/
namespace Go.Weave
structure Rec where
  kind : Int
  chain : Int
  lsn : Int
  prev : Int
  full : Bool
  data : List UInt8
def Rec.C (r : Rec) : List AVal := [.int .i64 r.kind, .int .i64 r.chain, .int .i64 r.lsn, .int .i64 r.prev, .sl r.full 0 (bys r.data)]
def Rec.A (r : Rec) : AVal := .agg r.C
def i64ok (n : Int) : Prop := -9223372036854775808 ≤ n ∧ n ≤ 9223372036854775807
def Rec.ok (r : Rec) : Prop := i64ok r.kind ∧ i64ok r.chain ∧ i64ok r.lsn ∧ i64ok r.prev ∧ r.data.length ≤ 140737488351232 ∧ r.full = false
structure Change where
  key : List UInt8
  was : Bool
  is : Bool
  old : List UInt8
  new : List UInt8
  next : Int
def Change.C (c : Change) : List AVal := [.str c.key, .bool c.was, .bool c.is, .str c.old, .str c.new, .int .i64 c.next]
def Change.A (c : Change) : AVal := .agg c.C
def Change.ok (c : Change) : Prop := c.key.length ≤ 140737488351232 ∧ True ∧ True ∧ c.old.length ≤ 140737488351232 ∧ c.new.length ≤ 140737488351232 ∧ i64ok c.next
structure KOp where
  kind : Int
  key : List UInt8
  val : List UInt8
def KOp.C (o : KOp) : List AVal := [.int .i64 o.kind, .str o.key, .str o.val]
def KOp.A (o : KOp) : AVal := .agg o.C
def KOp.ok (o : KOp) : Prop := i64ok o.kind ∧ o.key.length ≤ 140737488351232 ∧ o.val.length ≤ 140737488351232
structure KPair where
  key : List UInt8
  val : List UInt8
def KPair.C (o : KPair) : List AVal := [.str o.key, .str o.val]
def KPair.A (o : KPair) : AVal := .agg o.C
def KPair.ok (o : KPair) : Prop := o.key.length ≤ 140737488351232 ∧ o.val.length ≤ 140737488351232
structure IPlace where
  seq : Int
  at' : Int
  deriving DecidableEq
def IPlace.C (o : IPlace) : List AVal := [.int .i64 o.seq, .int .i64 o.at']
def IPlace.A (o : IPlace) : AVal := .agg o.C
def IPlace.ok (o : IPlace) : Prop := i64ok o.seq ∧ i64ok o.at'
structure Act26 where
  kind : Int
  chain : Int
  at' : IPlace
  n : Int
def Act26.C (a : Act26) : List AVal := [.int .u64 a.kind, .int .i64 a.chain, .int .i64 a.at'.seq, .int .i64 a.at'.at', .int .i64 a.n]
def Act26.A (a : Act26) : AVal := .agg a.C
def Act26.ok (a : Act26) : Prop := (0 ≤ a.kind ∧ a.kind ≤ 18446744073709551615) ∧ i64ok a.chain ∧ a.at'.ok ∧ i64ok a.n
structure Act32 where
  kind : Int
  key : List UInt8
def Act32.C (a : Act32) : List AVal := [.int .u64 a.kind, .str a.key]
def Act32.A (a : Act32) : AVal := .agg a.C
def Act32.ok (a : Act32) : Prop := (0 ≤ a.kind ∧ a.kind ≤ 18446744073709551615) ∧ a.key.length ≤ 140737488351232
structure Act43 where
  drop : Bool
  who : Int
  key : List UInt8
def Act43.C (a : Act43) : List AVal := [.bool a.drop, .int .i64 a.who, .str a.key]
def Act43.A (a : Act43) : AVal := .agg a.C
def Act43.ok (a : Act43) : Prop := True ∧ i64ok a.who ∧ a.key.length ≤ 140737488351232
structure RPoint where
  pieces : Int
  pairs : Int
  sum : Int
def RPoint.C (a : RPoint) : List AVal := [.int .i64 a.pieces, .int .i64 a.pairs, .int .u32 a.sum]
def RPoint.A (a : RPoint) : AVal := .agg a.C
def RPoint.ok (a : RPoint) : Prop := i64ok a.pieces ∧ i64ok a.pairs ∧ (0 ≤ a.sum ∧ a.sum ≤ 4294967295)
end Go.Weave
end

section
/- Balanced trees of texts, as plain Lean. -/
namespace Go.Weave
set_option maxRecDepth 100000
set_option linter.unusedSimpArgs false
set_option linter.unusedVariables false
set_option linter.unusedSectionVars false

/-! ### The order of texts -/
abbrev blt (a b : List UInt8) : Bool := Go.Op.bytesLess a b
theorem blt_irr : ∀ a : List UInt8, blt a a = false
  | [] => rfl
  | a :: x => by
    have := blt_irr x
    simp only [blt] at this
    simp [blt, Go.Op.bytesLess, this]
theorem blt_trans : ∀ {a b c : List UInt8}, blt a b = true → blt b c = true → blt a c = true
  | [], [], _, h, _ => by simp [blt, Go.Op.bytesLess] at h
  | [], _ :: _, [], _, h => by simp [blt, Go.Op.bytesLess] at h
  | [], _ :: _, _ :: _, _, _ => rfl
  | _ :: _, [], _, h, _ => by simp [blt, Go.Op.bytesLess] at h
  | _ :: _, _ :: _, [], _, h => by simp [blt, Go.Op.bytesLess] at h
  | a :: x, b :: y, c :: z, h1, h2 => by
    have ih := fun h1 h2 => blt_trans (a := x) (b := y) (c := z) h1 h2
    simp only [blt] at ih
    simp only [blt, Go.Op.bytesLess, Bool.or_eq_true, decide_eq_true_eq, Bool.and_eq_true, beq_iff_eq] at h1 h2 ⊢
    rcases h1 with h1 | ⟨h1, h1'⟩ <;> rcases h2 with h2 | ⟨h2, h2'⟩
    · exact .inl (UInt8.lt_trans h1 h2)
    · subst h2; exact .inl h1
    · subst h1; exact .inl h2
    · subst h1; subst h2; exact .inr ⟨rfl, ih h1' h2'⟩
theorem blt_tri : ∀ {a b : List UInt8}, blt a b = false → blt b a = false → a = b
  | [], [], _, _ => rfl
  | [], _ :: _, h, _ => by simp [blt, Go.Op.bytesLess] at h
  | _ :: _, [], _, h => by simp [blt, Go.Op.bytesLess] at h
  | a :: x, b :: y, h1, h2 => by
    simp only [blt, Go.Op.bytesLess, Bool.or_eq_false_iff, decide_eq_false_iff_not, Bool.and_eq_false_iff, beq_eq_false_iff_ne] at h1 h2
    have hab : a = b := by
      have h3 := h1.1; have h4 := h2.1
      exact UInt8.le_antisymm (UInt8.not_lt.1 h4) (UInt8.not_lt.1 h3)
    subst hab
    have e : x = y := blt_tri (by simpa [blt] using h1.2) (by simpa [blt] using h2.2)
    rw [e]
theorem blt_asym {a b : List UInt8} (h : blt a b = true) : blt b a = false := by
  cases hb : blt b a
  · rfl
  · have := blt_trans h hb
    rw [blt_irr] at this; simp at this
theorem blt_ne {a b : List UInt8} (h : blt a b = true) : a ≠ b := fun e => by rw [e, blt_irr] at h; simp at h

/-! ### Sorted pairs -/
def Srt (l : List KPair) : Prop := l.Pairwise fun a b => blt a.key b.key = true
def lput (k v : List UInt8) (l : List KPair) : List KPair := l.filter (fun p => blt p.key k) ++ ⟨k, v⟩ :: l.filter (fun p => blt k p.key)
def ldel (k : List UInt8) (l : List KPair) : List KPair := l.filter (fun p => p.key != k)
def lget (k : List UInt8) (l : List KPair) : Option KPair := l.find? (fun p => p.key == k)
def lseek (k : List UInt8) (l : List KPair) : Option KPair := l.find? (fun p => !blt p.key k)
theorem filter_none {p : KPair → Bool} {l : List KPair} (h : ∀ x ∈ l, p x = false) : l.filter p = [] := by
  rw [List.filter_eq_nil_iff]; intro x hx; rw [h x hx]; simp
theorem filter_all {p : KPair → Bool} {l : List KPair} (h : ∀ x ∈ l, p x = true) : l.filter p = l := List.filter_eq_self.2 h
theorem Srt.mid {a b : List KPair} {p : KPair} (h : Srt (a ++ p :: b)) : Srt a ∧ Srt b ∧ (∀ x ∈ a, blt x.key p.key = true) ∧ (∀ x ∈ b, blt p.key x.key = true) := by
  obtain ⟨h1, h2, h3⟩ := List.pairwise_append.1 h
  obtain ⟨h4, h5⟩ := List.pairwise_cons.1 h2
  exact ⟨h1, h5, fun x hx => h3 x hx p (by simp), h4⟩
theorem lput_lt {a b : List KPair} {p : KPair} {k v : List UInt8} (h : Srt (a ++ p :: b)) (hk : blt k p.key = true) : lput k v (a ++ p :: b) = lput k v a ++ p :: b := by
  obtain ⟨_, _, h3, h4⟩ := h.mid
  have e1 : (p :: b).filter (fun q => blt q.key k) = [] := filter_none fun x hx => by
    rcases List.mem_cons.1 hx with rfl | hx
    · exact blt_asym hk
    · exact blt_asym (blt_trans hk (h4 x hx))
  have e2 : (p :: b).filter (fun q => blt k q.key) = p :: b := filter_all fun x hx => by
    rcases List.mem_cons.1 hx with rfl | hx
    · exact hk
    · exact blt_trans hk (h4 x hx)
  unfold lput
  rw [List.filter_append, List.filter_append, e1, e2]
  simp
theorem lput_gt {a b : List KPair} {p : KPair} {k v : List UInt8} (h : Srt (a ++ p :: b)) (hk : blt p.key k = true) : lput k v (a ++ p :: b) = a ++ p :: lput k v b := by
  obtain ⟨_, _, h3, h4⟩ := h.mid
  have e1 : a.filter (fun q => blt q.key k) = a := filter_all fun x hx => blt_trans (h3 x hx) hk
  have e2 : a.filter (fun q => blt k q.key) = [] := filter_none fun x hx => blt_asym (blt_trans (h3 x hx) hk)
  unfold lput
  rw [List.filter_append, List.filter_append, e1, e2, List.filter_cons, List.filter_cons, if_pos hk, if_neg (by rw [blt_asym hk]; simp)]
  simp
theorem lput_eq {a b : List KPair} {k v w : List UInt8} (h : Srt (a ++ ⟨k, w⟩ :: b)) : lput k v (a ++ ⟨k, w⟩ :: b) = a ++ ⟨k, v⟩ :: b := by
  obtain ⟨_, _, h3, h4⟩ := h.mid
  have e1 : a.filter (fun q => blt q.key k) = a := filter_all fun x hx => h3 x hx
  have e2 : a.filter (fun q => blt k q.key) = [] := filter_none fun x hx => blt_asym (h3 x hx)
  have e3 : b.filter (fun q => blt q.key k) = [] := filter_none fun x hx => blt_asym (h4 x hx)
  have e4 : b.filter (fun q => blt k q.key) = b := filter_all fun x hx => h4 x hx
  unfold lput
  rw [List.filter_append, List.filter_append, e1, e2, List.filter_cons, List.filter_cons, if_neg (by simp [blt_irr]), if_neg (by simp [blt_irr]), e3, e4]
  simp
theorem ldel_none {k : List UInt8} {l : List KPair} (h : ∀ x ∈ l, x.key ≠ k) : ldel k l = l := filter_all fun x hx => by simpa using h x hx
theorem ldel_lt {a b : List KPair} {p : KPair} {k : List UInt8} (h : Srt (a ++ p :: b)) (hk : blt k p.key = true) : ldel k (a ++ p :: b) = ldel k a ++ p :: b := by
  obtain ⟨_, _, h3, h4⟩ := h.mid
  have e : ldel k (p :: b) = p :: b := ldel_none fun x hx => by
    rcases List.mem_cons.1 hx with rfl | hx
    · exact (blt_ne hk).symm
    · exact (blt_ne (blt_trans hk (h4 x hx))).symm
  unfold ldel at e ⊢
  rw [List.filter_append, e]
theorem ldel_gt {a b : List KPair} {p : KPair} {k : List UInt8} (h : Srt (a ++ p :: b)) (hk : blt p.key k = true) : ldel k (a ++ p :: b) = a ++ p :: ldel k b := by
  obtain ⟨_, _, h3, h4⟩ := h.mid
  have e : ldel k a = a := ldel_none fun x hx => blt_ne (blt_trans (h3 x hx) hk)
  unfold ldel at e ⊢
  rw [List.filter_append, e, List.filter_cons, if_pos (by simpa using blt_ne hk)]
theorem ldel_eq {a b : List KPair} {p : KPair} (h : Srt (a ++ p :: b)) : ldel p.key (a ++ p :: b) = a ++ b := by
  obtain ⟨_, _, h3, h4⟩ := h.mid
  have e1 : ldel p.key a = a := ldel_none fun x hx => blt_ne (h3 x hx)
  have e2 : ldel p.key b = b := ldel_none fun x hx => (blt_ne (h4 x hx)).symm
  unfold ldel at e1 e2 ⊢
  rw [List.filter_append, e1, List.filter_cons, if_neg (by simp), e2]
theorem Srt.put {k v : List UInt8} {l : List KPair} (h : Srt l) : Srt (lput k v l) := by
  unfold lput
  refine List.pairwise_append.2 ⟨h.sublist List.filter_sublist, List.pairwise_cons.2 ⟨fun x hx => (List.mem_filter.1 hx).2, h.sublist List.filter_sublist⟩, fun x hx y hy => ?_⟩
  have h1 := (List.mem_filter.1 hx).2
  rcases List.mem_cons.1 hy with rfl | hy
  · exact h1
  · exact blt_trans h1 (List.mem_filter.1 hy).2
theorem Srt.del {k : List UInt8} {l : List KPair} (h : Srt l) : Srt (ldel k l) := h.sublist List.filter_sublist

/-! ### Trees -/
inductive Nd where
  | nil
  | node (k v : List UInt8) (l r : Nd) (h : Int)
def Nd.A : Nd → AVal
  | .nil => .nilp
  | .node k v l r h => .elt (.agg [.str k, .str v, l.A, r.A, .int .i64 h]) true 5 0
def Nd.high : Nd → Int
  | .nil => 0
  | .node _ _ _ _ h => h
def Nd.toL : Nd → List KPair
  | .nil => []
  | .node k v l r _ => l.toL ++ ⟨k, v⟩ :: r.toL
def Nd.dep : Nd → Nat
  | .nil => 0
  | .node _ _ l r _ => 1 + max l.dep r.dep
def Nd.Avl : Nd → Prop
  | .nil => True
  | .node _ _ l r h => l.Avl ∧ r.Avl ∧ h = 1 + max l.high r.high ∧ l.high - r.high ≤ 1 ∧ r.high - l.high ≤ 1
def Nd.mk (k v : List UInt8) (l r : Nd) : Nd := .node k v l r (1 + max l.high r.high)
def Nd.level (k v : List UInt8) (l r : Nd) : Nd :=
  if l.high > r.high + 1 then
    match l with
    | .node lk lv ll lr _ => if ll.high ≥ lr.high then .mk lk lv ll (.mk k v lr r) else
        (match lr with
        | .node rk rv rl rr _ => .mk rk rv (.mk lk lv ll rl) (.mk k v rr r)
        | .nil => .mk k v l r)
    | .nil => .mk k v l r
  else if r.high > l.high + 1 then
    match r with
    | .node rk rv rl rr _ => if rr.high ≥ rl.high then .mk rk rv (.mk k v l rl) rr else
        (match rl with
        | .node lk lv ll lr _ => .mk lk lv (.mk k v l ll) (.mk rk rv lr rr)
        | .nil => .mk k v l r)
    | .nil => .mk k v l r
  else .mk k v l r
def Nd.put (k v : List UInt8) : Nd → Nd
  | .nil => .node k v .nil .nil 1
  | .node k' v' l r h => if blt k k' then .level k' v' (l.put k v) r else if blt k' k then .level k' v' l (r.put k v) else .node k v l r h
def Nd.least (k v : List UInt8) : Nd → List UInt8 × List UInt8
  | .nil => (k, v)
  | .node k' v' l _ _ => l.least k' v'
def Nd.without (k : List UInt8) : Nd → Nd
  | .nil => .nil
  | .node k' v' l r h => if blt k k' then .level k' v' (l.without k) r else if blt k' k then .level k' v' l (r.without k) else
      match l, r with
      | .nil, r => r
      | l, .nil => l
      | l, .node rk rv rl rr rh => .level (rl.least rk rv).1 (rl.least rk rv).2 l ((Nd.node rk rv rl rr rh).without (rl.least rk rv).1)

theorem Nd.toL_node (k v : List UInt8) (l r : Nd) (h : Int) : (Nd.node k v l r h).toL = l.toL ++ ⟨k, v⟩ :: r.toL := rfl
theorem Nd.toL_mk (k v : List UInt8) (l r : Nd) : (Nd.mk k v l r).toL = l.toL ++ ⟨k, v⟩ :: r.toL := rfl
theorem Nd.toL_level (k v : List UInt8) (l r : Nd) : (Nd.level k v l r).toL = l.toL ++ ⟨k, v⟩ :: r.toL := by
  unfold Nd.level
  split
  · split
    · split
      · simp [Nd.toL_mk, Nd.toL]
      · split
        · simp [Nd.toL_mk, Nd.toL]
        · rfl
    · rfl
  · split
    · split
      · split
        · simp [Nd.toL_mk, Nd.toL]
        · split
          · simp [Nd.toL_mk, Nd.toL]
          · rfl
      · rfl
    · rfl
theorem Nd.high_node (k v : List UInt8) (l r : Nd) (h : Int) : (Nd.node k v l r h).high = h := rfl
theorem Nd.high_nil : Nd.nil.high = 0 := rfl
theorem Nd.Avl.high_nn : ∀ {t : Nd}, t.Avl → 0 ≤ t.high
  | .nil, _ => Int.le_refl _
  | .node _ _ l r _, h => by
    have h1 := Nd.Avl.high_nn h.1
    have h2 := h.2.2.1
    simp only [Nd.high_node]; omega
theorem Nd.Avl.mk {k v : List UInt8} {l r : Nd} (hl : l.Avl) (hr : r.Avl) (h1 : l.high - r.high ≤ 1) (h2 : r.high - l.high ≤ 1) : (Nd.mk k v l r).Avl := ⟨hl, hr, rfl, h1, h2⟩
theorem Nd.high_mk (k v : List UInt8) (l r : Nd) : (Nd.mk k v l r).high = 1 + max l.high r.high := rfl
theorem Nd.level_avl {k v : List UInt8} {l r : Nd} (hl : l.Avl) (hr : r.Avl) (h1 : l.high - r.high ≤ 2) (h2 : r.high - l.high ≤ 2) :
    (Nd.level k v l r).Avl ∧ max l.high r.high ≤ (Nd.level k v l r).high ∧ (Nd.level k v l r).high ≤ 1 + max l.high r.high ∧ (l.high - r.high ≤ 1 → r.high - l.high ≤ 1 → (Nd.level k v l r).high = 1 + max l.high r.high) := by
  unfold Nd.level
  split
  · rename_i c1
    split
    · rename_i lk lv ll lr lh
      obtain ⟨a1, a2, a3, a4, a5⟩ := hl
      simp only [Nd.high_node, Nd.high_nil] at c1 h1 h2
      split
      · rename_i c2
        refine ⟨.mk a1 (.mk a2 hr ?_ ?_) ?_ ?_, ?_, ?_, ?_⟩ <;> (try simp only [Nd.high_mk, Nd.high_node]) <;> omega
      · rename_i c2
        split
        · rename_i rk rv rl rr rh
          obtain ⟨b1, b2, b3, b4, b5⟩ := a2
          simp only [Nd.high_node, Nd.high_nil] at c2 a3 a4 a5
          refine ⟨.mk (.mk a1 b1 ?_ ?_) (.mk b2 hr ?_ ?_) ?_ ?_, ?_, ?_, ?_⟩ <;> (try simp only [Nd.high_mk, Nd.high_node]) <;> omega
        · have := Nd.Avl.high_nn a1
          simp only [Nd.high_node, Nd.high_nil] at c2
          omega
    · have := Nd.Avl.high_nn hr
      simp only [Nd.high_node, Nd.high_nil] at c1
      omega
  · rename_i c1
    split
    · rename_i c2
      split
      · rename_i rk rv rl rr rh
        obtain ⟨a1, a2, a3, a4, a5⟩ := hr
        simp only [Nd.high_node, Nd.high_nil] at c1 c2 h1 h2
        split
        · rename_i c3
          refine ⟨.mk (.mk hl a1 ?_ ?_) a2 ?_ ?_, ?_, ?_, ?_⟩ <;> (try simp only [Nd.high_mk, Nd.high_node]) <;> omega
        · rename_i c3
          split
          · rename_i lk lv ll lr lh
            obtain ⟨b1, b2, b3, b4, b5⟩ := a1
            simp only [Nd.high_node, Nd.high_nil] at c3 a3 a4 a5
            refine ⟨.mk (.mk hl b1 ?_ ?_) (.mk b2 a2 ?_ ?_) ?_ ?_, ?_, ?_, ?_⟩ <;> (try simp only [Nd.high_mk, Nd.high_node]) <;> omega
          · have := Nd.Avl.high_nn a2
            simp only [Nd.high_node, Nd.high_nil] at c3
            omega
      · have := Nd.Avl.high_nn hl
        simp only [Nd.high_node, Nd.high_nil] at c2
        omega
    · rename_i c2
      refine ⟨.mk hl hr ?_ ?_, ?_, ?_, ?_⟩ <;> (try simp only [Nd.high_mk]) <;> first | omega | (intro _ _; trivial)
theorem Nd.put_avl {k v : List UInt8} : ∀ {t : Nd}, t.Avl → (t.put k v).Avl ∧ t.high ≤ (t.put k v).high ∧ (t.put k v).high ≤ t.high + 1
  | .nil, _ => by simp [Nd.put, Nd.Avl, Nd.high]
  | .node k' v' l r h, a => by
    obtain ⟨a1, a2, a3, a4, a5⟩ := a
    unfold Nd.put
    split
    · obtain ⟨b1, b2, b3⟩ := Nd.put_avl (k := k) (v := v) a1
      obtain ⟨c1, c2, c3, c4⟩ := Nd.level_avl (k := k') (v := v') b1 a2 (by omega) (by omega)
      refine ⟨c1, ?_, ?_⟩ <;> simp only [Nd.high_node] <;> omega
    · split
      · obtain ⟨b1, b2, b3⟩ := Nd.put_avl (k := k) (v := v) a2
        obtain ⟨c1, c2, c3, c4⟩ := Nd.level_avl (k := k') (v := v') a1 b1 (by omega) (by omega)
        refine ⟨c1, ?_, ?_⟩ <;> simp only [Nd.high_node] <;> omega
      · refine ⟨⟨a1, a2, a3, a4, a5⟩, ?_, ?_⟩ <;> simp only [Nd.high_node] <;> omega
theorem Nd.put_toL {k v : List UInt8} : ∀ {t : Nd}, Srt t.toL → (t.put k v).toL = lput k v t.toL
  | .nil, _ => rfl
  | .node k' v' l r h, hs => by
    unfold Nd.put
    rw [Nd.toL_node] at hs ⊢
    obtain ⟨s1, s2, _, _⟩ := hs.mid
    split
    · rename_i c
      rw [Nd.toL_level, Nd.put_toL s1]
      exact (lput_lt hs c).symm
    · rename_i c
      split
      · rename_i c2
        rw [Nd.toL_level, Nd.put_toL s2]
        exact (lput_gt hs c2).symm
      · rename_i c2
        have e : k = k' := blt_tri (by simpa using c) (by simpa using c2)
        subst e
        exact (lput_eq hs).symm
theorem Nd.least_toL : ∀ {t : Nd} {k v : List UInt8} (b : List KPair), ∃ rest, t.toL ++ ⟨k, v⟩ :: b = ⟨(t.least k v).1, (t.least k v).2⟩ :: rest
  | .nil, k, v, b => ⟨b, rfl⟩
  | .node k' v' l r h, k, v, b => by
    obtain ⟨rest, e⟩ := Nd.least_toL (t := l) (k := k') (v := v') (r.toL ++ ⟨k, v⟩ :: b)
    refine ⟨rest, ?_⟩
    rw [Nd.toL_node]; unfold Nd.least
    rw [← e]; simp
theorem Nd.without_ok {k : List UInt8} : ∀ {t : Nd}, t.Avl → Srt t.toL → (∃ p ∈ t.toL, p.key = k) → (t.without k).Avl ∧ t.high - 1 ≤ (t.without k).high ∧ (t.without k).high ≤ t.high ∧ (t.without k).toL = ldel k t.toL
  | .nil, _, _, h => by obtain ⟨p, hp, _⟩ := h; simp [Nd.toL] at hp
  | .node k' v' l r h, a, hs, hk => by
    obtain ⟨a1, a2, a3, a4, a5⟩ := a
    rw [Nd.toL_node] at hs ⊢
    simp only [Nd.toL_node] at hk
    obtain ⟨s1, s2, s3, s4⟩ := hs.mid
    unfold Nd.without
    split
    · rename_i c
      have hk1 : ∃ p ∈ l.toL, p.key = k := by
        obtain ⟨p, hp, e⟩ := hk
        rcases List.mem_append.1 hp with hp | hp
        · exact ⟨p, hp, e⟩
        · rcases List.mem_cons.1 hp with rfl | hp
          · subst e; rw [blt_irr] at c; simp at c
          · have := blt_asym (s4 p hp)
            rw [e] at this
            rw [this] at c; simp at c
      obtain ⟨b1, b2, b3, b4⟩ := Nd.without_ok a1 s1 hk1
      obtain ⟨c1, c2, c3, c4⟩ := Nd.level_avl (k := k') (v := v') b1 a2 (by omega) (by omega)
      refine ⟨c1, ?_, ?_, ?_⟩
      · simp only [Nd.high_node]; omega
      · simp only [Nd.high_node]; omega
      · rw [Nd.toL_level, b4]; exact (ldel_lt hs c).symm
    · rename_i c
      split
      · rename_i c2
        have hk1 : ∃ p ∈ r.toL, p.key = k := by
          obtain ⟨p, hp, e⟩ := hk
          rcases List.mem_append.1 hp with hp | hp
          · have := blt_asym (s3 p hp)
            rw [e] at this
            rw [this] at c2; simp at c2
          · rcases List.mem_cons.1 hp with rfl | hp
            · subst e; rw [blt_irr] at c2; simp at c2
            · exact ⟨p, hp, e⟩
        obtain ⟨b1, b2, b3, b4⟩ := Nd.without_ok a2 s2 hk1
        obtain ⟨c1, c2', c3, c4⟩ := Nd.level_avl (k := k') (v := v') a1 b1 (by omega) (by omega)
        refine ⟨c1, ?_, ?_, ?_⟩
        · simp only [Nd.high_node]; omega
        · simp only [Nd.high_node]; omega
        · rw [Nd.toL_level, b4]; exact (ldel_gt hs c2).symm
      · rename_i c2
        have e : k = k' := blt_tri (by simpa using c) (by simpa using c2)
        subst e
        have hd : ldel k (l.toL ++ ⟨k, v'⟩ :: r.toL) = l.toL ++ r.toL := ldel_eq (p := ⟨k, v'⟩) hs
        rw [hd]
        split
        · refine ⟨a2, ?_, ?_, rfl⟩ <;> (have h0 := Nd.high_nil; have h2 := a2.high_nn; rw [Nd.high_node]; omega)
        · refine ⟨a1, ?_, ?_, by simp [Nd.toL]⟩ <;> (have h0 := Nd.high_nil; have h2 := a1.high_nn; rw [Nd.high_node]; omega)
        · rename_i rk rv rl rr rh _
          obtain ⟨rest, hrest⟩ := Nd.least_toL (t := rl) (k := rk) (v := rv) rr.toL
          have hR : (Nd.node rk rv rl rr rh).toL = ⟨(rl.least rk rv).1, (rl.least rk rv).2⟩ :: rest := hrest
          obtain ⟨b1, b2, b3, b4⟩ := Nd.without_ok (k := (rl.least rk rv).1) a2 s2 ⟨_, by rw [hR]; exact List.mem_cons_self, rfl⟩
          obtain ⟨c1, c2', c3, c4⟩ := Nd.level_avl (k := (rl.least rk rv).1) (v := (rl.least rk rv).2) a1 b1 (by omega) (by omega)
          refine ⟨c1, ?_, ?_, ?_⟩
          · simp only [Nd.high_node, Nd.high_nil] at *; omega
          · simp only [Nd.high_node, Nd.high_nil] at *; omega
          · rw [Nd.toL_level, b4, hR]
            rw [hR] at s2
            have := ldel_eq (a := []) (p := ⟨(rl.least rk rv).1, (rl.least rk rv).2⟩) (b := rest) s2
            simp only [List.nil_append] at this
            rw [this]
theorem Nd.dep_le : ∀ t : Nd, t.dep ≤ t.toL.length
  | .nil => Nat.le_refl _
  | .node k v l r h => by
    have h1 := Nd.dep_le l
    have h2 := Nd.dep_le r
    simp only [Nd.dep, Nd.toL, List.length_append, List.length_cons]
    omega
theorem Nd.Avl.high_le : ∀ {t : Nd}, t.Avl → t.high ≤ t.toL.length
  | .nil, _ => Int.le_refl _
  | .node k v l r h, a => by
    have h1 := Nd.Avl.high_le a.1
    have h2 := Nd.Avl.high_le a.2.1
    have h3 := a.2.2.1
    simp only [Nd.high_node, Nd.toL, List.length_append, List.length_cons]
    omega
def Nd.kv : Nd → Option KPair
  | .nil => none
  | .node k v _ _ _ => some ⟨k, v⟩
theorem rounds_gt' {n : Nat} (h : n < 4611686018427387904) : n < rounds := Nat.lt_of_lt_of_le h rounds_ge
end Go.Weave
end

section
/- Balanced trees: what the program's nodes do. -/
namespace Go.Proofs.Ytbddfpakhealbaa.Wa
open Go Go.Weave
set_option maxRecDepth 100000
set_option linter.unusedSimpArgs false
set_option linter.unusedVariables false
set_option linter.unusedSectionVars false

theorem Heap.put_self' {h : Heap} {i : Nat} {o : Weave.Obj} (hm : h.objs[i]? = some o) : h.put i o = h := by
  obtain ⟨l⟩ := h
  simp only [Heap.put]
  congr 1
  apply List.ext_getElem?
  intro j
  rw [List.getElem?_set]
  split
  · rename_i e
    subst e
    split
    · exact hm.symm
    · rename_i hl
      rw [List.getElem?_eq_none (by omega)]
  · rfl
theorem A_nil : Nd.nil.A = .nilp := of_eq_true (eq_self _)
theorem isPtr_A (t : Nd) : AVal.isPtr t.A = true := by cases t <;> exact of_eq_true (eq_self _)
theorem isAgg_A (t : Nd) : AVal.isAgg t.A = false := by cases t <;> exact of_eq_true (eq_self _)
theorem isNilp_node (k v : List UInt8) (l r : Nd) (h : Int) : AVal.isNilp (Nd.node k v l r h).A = false := of_eq_true (eq_self _)
theorem at_nodeN {k v : List UInt8} {l r : Nd} {x : Int} {K : List AVal → Tr Res} {Q : Res → Prop} {tg : Hid Q} : Run (nodeW 5 (Nd.node k v l r x).A K) Q tg = Run (K [.str k, .str v, l.A, r.A, .int .i64 x]) Q ⟨⟩ := at_nodeW
theorem high_run {d : Nat} {t : Nd} {h : Heap} {Q : Res → Prop} {tg : Hid Q} : Run (evFn Cw (d + 1) 71 [t.A] h) Q tg = Q ([.int .i64 t.high], h) := by
  rw [F71_eq]
  cases t
  · simp (disch := (first | assumption | (simp only [Bool.and_eq_true, Bool.and_eq_false_iff, decide_eq_true_eq, decide_eq_false_iff_not, bne_iff_ne, beq_iff_eq, beq_eq_false_iff_ne, bne_eq_false_iff_eq, Bool.not_eq_true', Bool.not_eq_false', bys_length, List.length_append, List.length_cons, List.length_nil, List.length_map, List.length_drop, List.length_take, Int.natCast_add, wrap_i64_eq, wrap_u64, wrap_u8, ne_eq, not_true_eq_false, not_false_eq_true, Nat.zero_add, Nat.mul_one] <;> omega) | omega | (simp; done) | (simp; omega))) only [↓CR, MC, ↓PR, MR, A_nil, isPtr_nilp, isNilp_nilp]
    rfl
  · simp (disch := (first | assumption | (simp only [Bool.and_eq_true, Bool.and_eq_false_iff, decide_eq_true_eq, decide_eq_false_iff_not, bne_iff_ne, beq_iff_eq, beq_eq_false_iff_ne, bne_eq_false_iff_eq, Bool.not_eq_true', Bool.not_eq_false', bys_length, List.length_append, List.length_cons, List.length_nil, List.length_map, List.length_drop, List.length_take, Int.natCast_add, wrap_i64_eq, wrap_u64, wrap_u8, ne_eq, not_true_eq_false, not_false_eq_true, Nat.zero_add, Nat.mul_one] <;> omega) | omega | (simp; done) | (simp; omega))) only [↓CR, MC, ↓PR, MR, isPtr_A, at_nodeN, isNilp_node]
    rfl
theorem with_run {d : Nat} {k v : List UInt8} {a b l r : Nd} {x : Int} {h : Heap} {Q : Res → Prop} {tg : Hid Q} (hl : 0 ≤ l.high ∧ l.high ≤ 2000000) (hr : 0 ≤ r.high ∧ r.high ≤ 2000000) :
    Run (evFn Cw (d + 2) 72 [(Nd.node k v a b x).A, l.A, r.A] h) Q tg = Q ([(Nd.mk k v l r).A], h) := by
  have e : IntKind.i64.wrap (1 + (if r.high > l.high then r.high else l.high)) = 1 + max l.high r.high := by
    rw [wrap_i64_id (by split <;> omega) (by split <;> omega)]
    split <;> omega
  rw [F72_eq]
  simp (disch := (first | assumption | (simp only [Bool.and_eq_true, Bool.and_eq_false_iff, decide_eq_true_eq, decide_eq_false_iff_not, bne_iff_ne, beq_iff_eq, beq_eq_false_iff_ne, bne_eq_false_iff_eq, Bool.not_eq_true', Bool.not_eq_false', bys_length, List.length_append, List.length_cons, List.length_nil, List.length_map, List.length_drop, List.length_take, Int.natCast_add, wrap_i64_eq, wrap_u64, wrap_u8, ne_eq, not_true_eq_false, not_false_eq_true, Nat.zero_add, Nat.mul_one] <;> omega) | omega | (simp; done) | (simp; omega))) only [↓CR, MC, ↓PR, MR, at_nodeN, high_run, isAgg_A, e, Bool.not_false, Bool.and_true]
  rfl
theorem level_run {d : Nat} {k v : List UInt8} {a b l r : Nd} {x : Int} {h : Heap} {Q : Res → Prop} {tg : Hid Q} (hl : l.Avl) (hr : r.Avl) (bl : l.high ≤ 1000000) (br : r.high ≤ 1000000) :
    Run (evFn Cw (d + 3) 65 [(Nd.node k v a b x).A, l.A, r.A] h) Q tg = Q ([(Nd.level k v l r).A], h) := by
  have nl := hl.high_nn
  have nr := hr.high_nn
  have e1 : IntKind.i64.wrap (r.high + 1) = r.high + 1 := wrap_i64_id (by omega) (by omega)
  have e2 : IntKind.i64.wrap (l.high + 1) = l.high + 1 := wrap_i64_id (by omega) (by omega)
  rw [F65_eq]
  unfold Nd.level
  by_cases c1 : l.high > r.high + 1
  · rw [if_pos c1]
    cases l with
    | nil => rw [Nd.high_nil] at c1; omega
    | node lk lv ll lr lh =>
      obtain ⟨a1, a2, a3, a4, a5⟩ := hl
      have n1 := a1.high_nn
      have n2 := a2.high_nn
      simp only [Nd.high_node] at c1 bl nl e2 ⊢
      by_cases c2 : ll.high ≥ lr.high
      · rw [if_pos c2]
        have b1 : 0 ≤ (Nd.mk k v lr r).high ∧ (Nd.mk k v lr r).high ≤ 2000000 := by rw [Nd.high_mk]; omega
        have w1 := fun (Q : Res → Prop) (tg : Hid Q) => with_run (d := d) (k := k) (v := v) (a := a) (b := b) (l := lr) (r := r) (x := x) (h := h) (Q := Q) (tg := tg) (by omega) (by omega)
        have w2 := fun (Q : Res → Prop) (tg : Hid Q) => with_run (d := d) (k := lk) (v := lv) (a := ll) (b := lr) (l := ll) (r := Nd.mk k v lr r) (x := lh) (h := h) (Q := Q) (tg := tg) (by omega) b1
        simp (disch := (first | assumption | (simp only [Bool.and_eq_true, Bool.and_eq_false_iff, decide_eq_true_eq, decide_eq_false_iff_not, bne_iff_ne, beq_iff_eq, beq_eq_false_iff_ne, bne_eq_false_iff_eq, Bool.not_eq_true', Bool.not_eq_false', bys_length, List.length_append, List.length_cons, List.length_nil, List.length_map, List.length_drop, List.length_take, Int.natCast_add, wrap_i64_eq, wrap_u64, wrap_u8, ne_eq, not_true_eq_false, not_false_eq_true, Nat.zero_add, Nat.mul_one] <;> omega) | omega | (simp; done) | (simp; omega))) only [↓CR, MC, ↓PR, MR, high_run, Nd.high_node, e1, at_nodeN, w1, w2]
      · rw [if_neg c2]
        cases lr with
        | nil => rw [Nd.high_nil] at c2; omega
        | node rk rv rl rr rh =>
          obtain ⟨b1, b2, b3, b4, b5⟩ := a2
          have n3 := b1.high_nn
          have n4 := b2.high_nn
          simp only [Nd.high_node] at c2 a3 a4 a5 n2
          have b1' : 0 ≤ (Nd.mk lk lv ll rl).high ∧ (Nd.mk lk lv ll rl).high ≤ 2000000 := by rw [Nd.high_mk]; omega
          have b2' : 0 ≤ (Nd.mk k v rr r).high ∧ (Nd.mk k v rr r).high ≤ 2000000 := by rw [Nd.high_mk]; omega
          have w1 := fun (Q : Res → Prop) (tg : Hid Q) => with_run (d := d) (k := lk) (v := lv) (a := ll) (b := .node rk rv rl rr rh) (l := ll) (r := rl) (x := lh) (h := h) (Q := Q) (tg := tg) (by omega) (by omega)
          have w2 := fun (Q : Res → Prop) (tg : Hid Q) => with_run (d := d) (k := k) (v := v) (a := a) (b := b) (l := rr) (r := r) (x := x) (h := h) (Q := Q) (tg := tg) (by omega) (by omega)
          have w3 := fun (Q : Res → Prop) (tg : Hid Q) => with_run (d := d) (k := rk) (v := rv) (a := rl) (b := rr) (l := Nd.mk lk lv ll rl) (r := Nd.mk k v rr r) (x := rh) (h := h) (Q := Q) (tg := tg) b1' b2'
          have hh : Nd.high (.node rk rv rl rr rh) = rh := rfl
          simp (disch := (first | assumption | (simp only [Bool.and_eq_true, Bool.and_eq_false_iff, decide_eq_true_eq, decide_eq_false_iff_not, bne_iff_ne, beq_iff_eq, beq_eq_false_iff_ne, bne_eq_false_iff_eq, Bool.not_eq_true', Bool.not_eq_false', bys_length, List.length_append, List.length_cons, List.length_nil, List.length_map, List.length_drop, List.length_take, Int.natCast_add, wrap_i64_eq, wrap_u64, wrap_u8, ne_eq, not_true_eq_false, not_false_eq_true, Nat.zero_add, Nat.mul_one] <;> omega) | omega | (simp; done) | (simp; omega))) only [↓CR, MC, ↓PR, MR, high_run, Nd.high_node, e1, at_nodeN, w1, w2, w3]
  · rw [if_neg c1]
    by_cases c2 : r.high > l.high + 1
    · rw [if_pos c2]
      cases r with
      | nil => rw [Nd.high_nil] at c2; omega
      | node rk rv rl rr rh =>
        obtain ⟨a1, a2, a3, a4, a5⟩ := hr
        have n1 := a1.high_nn
        have n2 := a2.high_nn
        simp only [Nd.high_node] at c1 c2 br nr e1 ⊢
        by_cases c3 : rr.high ≥ rl.high
        · rw [if_pos c3]
          have b1 : 0 ≤ (Nd.mk k v l rl).high ∧ (Nd.mk k v l rl).high ≤ 2000000 := by rw [Nd.high_mk]; omega
          have w1 := fun (Q : Res → Prop) (tg : Hid Q) => with_run (d := d) (k := k) (v := v) (a := a) (b := b) (l := l) (r := rl) (x := x) (h := h) (Q := Q) (tg := tg) (by omega) (by omega)
          have w2 := fun (Q : Res → Prop) (tg : Hid Q) => with_run (d := d) (k := rk) (v := rv) (a := rl) (b := rr) (l := Nd.mk k v l rl) (r := rr) (x := rh) (h := h) (Q := Q) (tg := tg) b1 (by omega)
          simp (disch := (first | assumption | (simp only [Bool.and_eq_true, Bool.and_eq_false_iff, decide_eq_true_eq, decide_eq_false_iff_not, bne_iff_ne, beq_iff_eq, beq_eq_false_iff_ne, bne_eq_false_iff_eq, Bool.not_eq_true', Bool.not_eq_false', bys_length, List.length_append, List.length_cons, List.length_nil, List.length_map, List.length_drop, List.length_take, Int.natCast_add, wrap_i64_eq, wrap_u64, wrap_u8, ne_eq, not_true_eq_false, not_false_eq_true, Nat.zero_add, Nat.mul_one] <;> omega) | omega | (simp; done) | (simp; omega))) only [↓CR, MC, ↓PR, MR, high_run, Nd.high_node, e1, e2, at_nodeN, w1, w2]
        · rw [if_neg c3]
          cases rl with
          | nil => rw [Nd.high_nil] at c3; omega
          | node lk lv ll lr lh =>
            obtain ⟨b1, b2, b3, b4, b5⟩ := a1
            have n3 := b1.high_nn
            have n4 := b2.high_nn
            simp only [Nd.high_node] at c3 a3 a4 a5 n1
            have b1' : 0 ≤ (Nd.mk k v l ll).high ∧ (Nd.mk k v l ll).high ≤ 2000000 := by rw [Nd.high_mk]; omega
            have b2' : 0 ≤ (Nd.mk rk rv lr rr).high ∧ (Nd.mk rk rv lr rr).high ≤ 2000000 := by rw [Nd.high_mk]; omega
            have w1 := fun (Q : Res → Prop) (tg : Hid Q) => with_run (d := d) (k := k) (v := v) (a := a) (b := b) (l := l) (r := ll) (x := x) (h := h) (Q := Q) (tg := tg) (by omega) (by omega)
            have w2 := fun (Q : Res → Prop) (tg : Hid Q) => with_run (d := d) (k := rk) (v := rv) (a := .node lk lv ll lr lh) (b := rr) (l := lr) (r := rr) (x := rh) (h := h) (Q := Q) (tg := tg) (by omega) (by omega)
            have w3 := fun (Q : Res → Prop) (tg : Hid Q) => with_run (d := d) (k := lk) (v := lv) (a := ll) (b := lr) (l := Nd.mk k v l ll) (r := Nd.mk rk rv lr rr) (x := lh) (h := h) (Q := Q) (tg := tg) b1' b2'
            simp (disch := (first | assumption | (simp only [Bool.and_eq_true, Bool.and_eq_false_iff, decide_eq_true_eq, decide_eq_false_iff_not, bne_iff_ne, beq_iff_eq, beq_eq_false_iff_ne, bne_eq_false_iff_eq, Bool.not_eq_true', Bool.not_eq_false', bys_length, List.length_append, List.length_cons, List.length_nil, List.length_map, List.length_drop, List.length_take, Int.natCast_add, wrap_i64_eq, wrap_u64, wrap_u8, ne_eq, not_true_eq_false, not_false_eq_true, Nat.zero_add, Nat.mul_one] <;> omega) | omega | (simp; done) | (simp; omega))) only [↓CR, MC, ↓PR, MR, high_run, Nd.high_node, e1, e2, at_nodeN, w1, w2, w3]
    · rw [if_neg c2]
      have w1 := fun (Q : Res → Prop) (tg : Hid Q) => with_run (d := d) (k := k) (v := v) (a := a) (b := b) (l := l) (r := r) (x := x) (h := h) (Q := Q) (tg := tg) (by omega) (by omega)
      simp (disch := (first | assumption | (simp only [Bool.and_eq_true, Bool.and_eq_false_iff, decide_eq_true_eq, decide_eq_false_iff_not, bne_iff_ne, beq_iff_eq, beq_eq_false_iff_ne, bne_eq_false_iff_eq, Bool.not_eq_true', Bool.not_eq_false', bys_length, List.length_append, List.length_cons, List.length_nil, List.length_map, List.length_drop, List.length_take, Int.natCast_add, wrap_i64_eq, wrap_u64, wrap_u8, ne_eq, not_true_eq_false, not_false_eq_true, Nat.zero_add, Nat.mul_one] <;> omega) | omega | (simp; done) | (simp; omega))) only [↓CR, MC, ↓PR, MR, high_run, e1, e2, w1]

theorem put_nd : ∀ (t : Nd) (d : Nat), t.dep + 6 ≤ d → t.Avl → t.high ≤ 900000 → ∀ (k v : List UInt8) (h : Heap) (Q : Res → Prop) (tg : Hid Q),
    Run (evFn Cw d 63 [t.A, .str k, .str v] h) Q tg = Q ([(t.put k v).A], h) := by
  intro t
  induction t with
  | nil =>
    intro d hd _ _ k v h Q tg
    obtain ⟨d, rfl⟩ : ∃ e, d = e + 6 := ⟨d - 6, by omega⟩
    rw [F63_eq]
    simp (disch := (first | assumption | (simp only [Bool.and_eq_true, Bool.and_eq_false_iff, decide_eq_true_eq, decide_eq_false_iff_not, bne_iff_ne, beq_iff_eq, beq_eq_false_iff_ne, bne_eq_false_iff_eq, Bool.not_eq_true', Bool.not_eq_false', bys_length, List.length_append, List.length_cons, List.length_nil, List.length_map, List.length_drop, List.length_take, Int.natCast_add, wrap_i64_eq, wrap_u64, wrap_u8, ne_eq, not_true_eq_false, not_false_eq_true, Nat.zero_add, Nat.mul_one] <;> omega) | omega | (simp; done) | (simp; omega))) only [↓CR, MC, ↓PR, MR, A_nil, isPtr_nilp, isNilp_nilp]
    rfl
  | node k' v' l r x ihl ihr =>
    intro d hd ha hb k v h Q tg
    obtain ⟨d, rfl⟩ : ∃ e, d = e + 4 := ⟨d - 4, by omega⟩
    have ha' := ha
    obtain ⟨a1, a2, a3, a4, a5⟩ := ha
    simp only [Nd.high_node] at hb
    have n1 := a1.high_nn
    have n2 := a2.high_nn
    have q1 := ihl (d + 3) (by simp only [Nd.dep] at hd; omega) a1 (by omega) k v h
    have q2 := ihr (d + 3) (by simp only [Nd.dep] at hd; omega) a2 (by omega) k v h
    have ⟨p1, p2, p3⟩ := Nd.put_avl (k := k) (v := v) a1
    have ⟨p4, p5, p6⟩ := Nd.put_avl (k := k) (v := v) a2
    have w1 := fun (Q : Res → Prop) (tg : Hid Q) => level_run (d := d) (k := k') (v := v') (a := l) (b := r) (l := l.put k v) (r := r) (x := x) (h := h) (Q := Q) (tg := tg) p1 a2 (by omega) (by omega)
    have w2 := fun (Q : Res → Prop) (tg : Hid Q) => level_run (d := d) (k := k') (v := v') (a := l) (b := r) (l := l) (r := r.put k v) (x := x) (h := h) (Q := Q) (tg := tg) a1 p4 (by omega) (by omega)
    rw [F63_eq]
    unfold Nd.put
    by_cases c1 : blt k k' = true
    · have c1' : Go.Op.bytesLess k k' = true := c1
      rw [if_pos c1]
      simp (disch := (first | assumption | (simp only [Bool.and_eq_true, Bool.and_eq_false_iff, decide_eq_true_eq, decide_eq_false_iff_not, bne_iff_ne, beq_iff_eq, beq_eq_false_iff_ne, bne_eq_false_iff_eq, Bool.not_eq_true', Bool.not_eq_false', bys_length, List.length_append, List.length_cons, List.length_nil, List.length_map, List.length_drop, List.length_take, Int.natCast_add, wrap_i64_eq, wrap_u64, wrap_u8, ne_eq, not_true_eq_false, not_false_eq_true, Nat.zero_add, Nat.mul_one] <;> omega) | omega | (simp; done) | (simp; omega))) only [↓CR, MC, ↓PR, MR, isPtr_A, isNilp_node, at_nodeN, c1', q1, w1]
    · have c1' : Go.Op.bytesLess k k' = false := by simpa using c1
      rw [if_neg c1]
      by_cases c2 : blt k' k = true
      · have c2' : (k == k') = false := by simpa using (blt_ne c2).symm
        rw [if_pos c2]
        simp (disch := (first | assumption | (simp only [Bool.and_eq_true, Bool.and_eq_false_iff, decide_eq_true_eq, decide_eq_false_iff_not, bne_iff_ne, beq_iff_eq, beq_eq_false_iff_ne, bne_eq_false_iff_eq, Bool.not_eq_true', Bool.not_eq_false', bys_length, List.length_append, List.length_cons, List.length_nil, List.length_map, List.length_drop, List.length_take, Int.natCast_add, wrap_i64_eq, wrap_u64, wrap_u8, ne_eq, not_true_eq_false, not_false_eq_true, Nat.zero_add, Nat.mul_one] <;> omega) | omega | (simp; done) | (simp; omega))) only [↓CR, MC, ↓PR, MR, isPtr_A, isNilp_node, at_nodeN, c1', c2', Bool.or_false, Bool.not_false, q2, w2]
      · have e : k = k' := blt_tri (by simpa using c1) (by simpa using c2)
        subst e
        rw [if_neg c2]
        have e2 : (k == k) = true := by simp
        simp (disch := (first | assumption | (simp only [Bool.and_eq_true, Bool.and_eq_false_iff, decide_eq_true_eq, decide_eq_false_iff_not, bne_iff_ne, beq_iff_eq, beq_eq_false_iff_ne, bne_eq_false_iff_eq, Bool.not_eq_true', Bool.not_eq_false', bys_length, List.length_append, List.length_cons, List.length_nil, List.length_map, List.length_drop, List.length_take, Int.natCast_add, wrap_i64_eq, wrap_u64, wrap_u8, ne_eq, not_true_eq_false, not_false_eq_true, Nat.zero_add, Nat.mul_one] <;> omega) | omega | (simp; done) | (simp; omega))) only [↓CR, MC, ↓PR, MR, isPtr_A, isNilp_node, at_nodeN, c1', e2, Bool.or_true, Bool.not_true, isAgg_A, Bool.not_false, Bool.and_true]
        rfl
theorem least_loop (d : Nat) (h : Heap) : ∀ (l : Nd) (k v : List UInt8) (r : Nd) (x : Int) (n : Nat), l.dep < n → ∃ a b y, ∀ (Q : Res → Prop) (tg : Hid Q),
    Run (P66_0 d n (Nd.node k v l r x).A h) Q tg = Q ([(Nd.node (l.least k v).1 (l.least k v).2 a b y).A], h) := by
  intro l
  induction l with
  | nil =>
    intro k v r x n hn
    obtain ⟨n, rfl⟩ : ∃ e, n = e + 1 := ⟨n - 1, by omega⟩
    refine ⟨.nil, r, x, fun Q tg => ?_⟩
    rw [P66_0_eq]
    simp (disch := (first | assumption | (simp only [Bool.and_eq_true, Bool.and_eq_false_iff, decide_eq_true_eq, decide_eq_false_iff_not, bne_iff_ne, beq_iff_eq, beq_eq_false_iff_ne, bne_eq_false_iff_eq, Bool.not_eq_true', Bool.not_eq_false', bys_length, List.length_append, List.length_cons, List.length_nil, List.length_map, List.length_drop, List.length_take, Int.natCast_add, wrap_i64_eq, wrap_u64, wrap_u8, ne_eq, not_true_eq_false, not_false_eq_true, Nat.zero_add, Nat.mul_one] <;> omega) | omega | (simp; done) | (simp; omega))) only [↓CR, MC, ↓PR, MR, at_nodeN, A_nil, isPtr_nilp, isNilp_nilp]
    rfl
  | node k' v' l' r' x' ih _ =>
    intro k v r x n hn
    obtain ⟨n, rfl⟩ : ∃ e, n = e + 1 := ⟨n - 1, by omega⟩
    obtain ⟨a, b, y, q⟩ := ih k' v' r' x' n (by simp only [Nd.dep] at hn; omega)
    refine ⟨a, b, y, fun Q tg => ?_⟩
    rw [P66_0_eq]
    simp (disch := (first | assumption | (simp only [Bool.and_eq_true, Bool.and_eq_false_iff, decide_eq_true_eq, decide_eq_false_iff_not, bne_iff_ne, beq_iff_eq, beq_eq_false_iff_ne, bne_eq_false_iff_eq, Bool.not_eq_true', Bool.not_eq_false', bys_length, List.length_append, List.length_cons, List.length_nil, List.length_map, List.length_drop, List.length_take, Int.natCast_add, wrap_i64_eq, wrap_u64, wrap_u8, ne_eq, not_true_eq_false, not_false_eq_true, Nat.zero_add, Nat.mul_one] <;> omega) | omega | (simp; done) | (simp; omega))) only [↓CR, MC, ↓PR, MR, at_nodeN, isPtr_A, isNilp_node, q]
    rfl
theorem least_run (d : Nat) (h : Heap) (l : Nd) (k v : List UInt8) (r : Nd) (x : Int) (hl : l.dep ≤ 1000000) : ∃ a b y, ∀ (Q : Res → Prop) (tg : Hid Q),
    Run (evFn Cw (d + 1) 66 [(Nd.node k v l r x).A] h) Q tg = Q ([(Nd.node (l.least k v).1 (l.least k v).2 a b y).A], h) := by
  obtain ⟨a, b, y, q⟩ := least_loop d h l k v r x rounds (rounds_gt' (by omega))
  refine ⟨a, b, y, fun Q tg => ?_⟩
  rw [F66_eq]
  exact q Q tg
theorem without_nd : ∀ (t : Nd) (d : Nat), t.dep + 6 ≤ d → t.dep ≤ 1000000 → t.Avl → t.high ≤ 900000 → Srt t.toL → ∀ (k : List UInt8), (∃ p ∈ t.toL, p.key = k) → ∀ (h : Heap) (Q : Res → Prop) (tg : Hid Q),
    Run (evFn Cw d 52 [t.A, .str k] h) Q tg = Q ([(t.without k).A], h) := by
  intro t
  induction t with
  | nil =>
    intro d hd _ _ _ _ k hk
    obtain ⟨p, hp, _⟩ := hk
    simp [Nd.toL] at hp
  | node k' v' l r x ihl ihr =>
    intro d hd hdep ha hb hs k hk h Q tg
    obtain ⟨d, rfl⟩ : ∃ e, d = e + 4 := ⟨d - 4, by omega⟩
    obtain ⟨a1, a2, a3, a4, a5⟩ := ha
    simp only [Nd.high_node] at hb
    have n1 := a1.high_nn
    have n2 := a2.high_nn
    simp only [Nd.dep] at hd hdep
    rw [Nd.toL_node] at hs
    simp only [Nd.toL_node] at hk
    obtain ⟨s1, s2, s3, s4⟩ := hs.mid
    rw [F52_eq]
    unfold Nd.without
    by_cases c1 : blt k k' = true
    · have c1' : Go.Op.bytesLess k k' = true := c1
      rw [if_pos c1]
      have hk1 : ∃ p ∈ l.toL, p.key = k := by
        obtain ⟨p, hp, e⟩ := hk
        rcases List.mem_append.1 hp with hp | hp
        · exact ⟨p, hp, e⟩
        · rcases List.mem_cons.1 hp with rfl | hp
          · subst e; rw [blt_irr] at c1; simp at c1
          · have := blt_asym (s4 p hp)
            rw [e] at this
            rw [this] at c1; simp at c1
      obtain ⟨b1, b2, b3, b4⟩ := Nd.without_ok a1 s1 hk1
      have q1 := ihl (d + 3) (by omega) (by omega) a1 (by omega) s1 k hk1 h
      have w1 := fun (Q : Res → Prop) (tg : Hid Q) => level_run (d := d) (k := k') (v := v') (a := l) (b := r) (l := l.without k) (r := r) (x := x) (h := h) (Q := Q) (tg := tg) b1 a2 (by omega) (by omega)
      simp (disch := (first | assumption | (simp only [Bool.and_eq_true, Bool.and_eq_false_iff, decide_eq_true_eq, decide_eq_false_iff_not, bne_iff_ne, beq_iff_eq, beq_eq_false_iff_ne, bne_eq_false_iff_eq, Bool.not_eq_true', Bool.not_eq_false', bys_length, List.length_append, List.length_cons, List.length_nil, List.length_map, List.length_drop, List.length_take, Int.natCast_add, wrap_i64_eq, wrap_u64, wrap_u8, ne_eq, not_true_eq_false, not_false_eq_true, Nat.zero_add, Nat.mul_one] <;> omega) | omega | (simp; done) | (simp; omega))) only [↓CR, MC, ↓PR, MR, at_nodeN, c1', q1, w1]
    · have c1' : Go.Op.bytesLess k k' = false := by simpa using c1
      rw [if_neg c1]
      by_cases c2 : blt k' k = true
      · have c2' : (k == k') = false := by simpa using (blt_ne c2).symm
        rw [if_pos c2]
        have hk1 : ∃ p ∈ r.toL, p.key = k := by
          obtain ⟨p, hp, e⟩ := hk
          rcases List.mem_append.1 hp with hp | hp
          · have := blt_asym (s3 p hp)
            rw [e] at this
            rw [this] at c2; simp at c2
          · rcases List.mem_cons.1 hp with rfl | hp
            · subst e; rw [blt_irr] at c2; simp at c2
            · exact ⟨p, hp, e⟩
        obtain ⟨b1, b2, b3, b4⟩ := Nd.without_ok a2 s2 hk1
        have q1 := ihr (d + 3) (by omega) (by omega) a2 (by omega) s2 k hk1 h
        have w1 := fun (Q : Res → Prop) (tg : Hid Q) => level_run (d := d) (k := k') (v := v') (a := l) (b := r) (l := l) (r := r.without k) (x := x) (h := h) (Q := Q) (tg := tg) a1 b1 (by omega) (by omega)
        simp (disch := (first | assumption | (simp only [Bool.and_eq_true, Bool.and_eq_false_iff, decide_eq_true_eq, decide_eq_false_iff_not, bne_iff_ne, beq_iff_eq, beq_eq_false_iff_ne, bne_eq_false_iff_eq, Bool.not_eq_true', Bool.not_eq_false', bys_length, List.length_append, List.length_cons, List.length_nil, List.length_map, List.length_drop, List.length_take, Int.natCast_add, wrap_i64_eq, wrap_u64, wrap_u8, ne_eq, not_true_eq_false, not_false_eq_true, Nat.zero_add, Nat.mul_one] <;> omega) | omega | (simp; done) | (simp; omega))) only [↓CR, MC, ↓PR, MR, at_nodeN, c1', c2', Bool.or_false, Bool.not_false, q1, w1]
      · have e : k = k' := blt_tri (by simpa using c1) (by simpa using c2)
        subst e
        rw [if_neg c2]
        have e2 : (k == k) = true := by simp
        cases l with
        | nil =>
          simp (disch := (first | assumption | (simp only [Bool.and_eq_true, Bool.and_eq_false_iff, decide_eq_true_eq, decide_eq_false_iff_not, bne_iff_ne, beq_iff_eq, beq_eq_false_iff_ne, bne_eq_false_iff_eq, Bool.not_eq_true', Bool.not_eq_false', bys_length, List.length_append, List.length_cons, List.length_nil, List.length_map, List.length_drop, List.length_take, Int.natCast_add, wrap_i64_eq, wrap_u64, wrap_u8, ne_eq, not_true_eq_false, not_false_eq_true, Nat.zero_add, Nat.mul_one] <;> omega) | omega | (simp; done) | (simp; omega))) only [↓CR, MC, ↓PR, MR, at_nodeN, c1', e2, Bool.or_true, Bool.not_true, A_nil, isPtr_nilp, isNilp_nilp]
        | node lk lv ll lr lh =>
          cases r with
          | nil =>
            simp (disch := (first | assumption | (simp only [Bool.and_eq_true, Bool.and_eq_false_iff, decide_eq_true_eq, decide_eq_false_iff_not, bne_iff_ne, beq_iff_eq, beq_eq_false_iff_ne, bne_eq_false_iff_eq, Bool.not_eq_true', Bool.not_eq_false', bys_length, List.length_append, List.length_cons, List.length_nil, List.length_map, List.length_drop, List.length_take, Int.natCast_add, wrap_i64_eq, wrap_u64, wrap_u8, ne_eq, not_true_eq_false, not_false_eq_true, Nat.zero_add, Nat.mul_one] <;> omega) | omega | (simp; done) | (simp; omega))) only [↓CR, MC, ↓PR, MR, at_nodeN, c1', e2, Bool.or_true, Bool.not_true, isPtr_A, isNilp_node, A_nil, isPtr_nilp, isNilp_nilp]
          | node rk rv rl rr rh =>
            simp only [Nd.dep] at hd hdep
            obtain ⟨a, b, y, ql⟩ := least_run (d + 2) h rl rk rv rr rh (by omega)
            obtain ⟨rest, hrest⟩ := Nd.least_toL (t := rl) (k := rk) (v := rv) rr.toL
            have hR : (Nd.node rk rv rl rr rh).toL = ⟨(rl.least rk rv).1, (rl.least rk rv).2⟩ :: rest := hrest
            have hmem : ∃ p ∈ (Nd.node rk rv rl rr rh).toL, p.key = (rl.least rk rv).1 := ⟨_, by rw [hR]; exact List.mem_cons_self, rfl⟩
            obtain ⟨b1, b2, b3, b4⟩ := Nd.without_ok (k := (rl.least rk rv).1) a2 s2 hmem
            have q1 := ihr (d + 3) (by simp only [Nd.dep]; omega) (by simp only [Nd.dep]; omega) a2 (by omega) s2 (rl.least rk rv).1 hmem h
            have w1 := fun (Q : Res → Prop) (tg : Hid Q) => level_run (d := d) (k := (rl.least rk rv).1) (v := (rl.least rk rv).2) (a := a) (b := b) (l := .node lk lv ll lr lh) (r := (Nd.node rk rv rl rr rh).without (rl.least rk rv).1) (x := y) (h := h) (Q := Q) (tg := tg) a1 b1 (by omega) (by omega)
            simp (disch := (first | assumption | (simp only [Bool.and_eq_true, Bool.and_eq_false_iff, decide_eq_true_eq, decide_eq_false_iff_not, bne_iff_ne, beq_iff_eq, beq_eq_false_iff_ne, bne_eq_false_iff_eq, Bool.not_eq_true', Bool.not_eq_false', bys_length, List.length_append, List.length_cons, List.length_nil, List.length_map, List.length_drop, List.length_take, Int.natCast_add, wrap_i64_eq, wrap_u64, wrap_u8, ne_eq, not_true_eq_false, not_false_eq_true, Nat.zero_add, Nat.mul_one] <;> omega) | omega | (simp; done) | (simp; omega))) only [↓CR, MC, ↓PR, MR, at_nodeN, c1', e2, Bool.or_true, Bool.not_true, isPtr_A, isNilp_node, ql, q1, w1]

/-! ### Looks -/
def tellK : Option KPair → List AVal
  | none => [.str [], .str [], .bool false]
  | some p => [.str p.key, .str p.val, .bool true]
theorem told_run {d : Nat} {t : Nd} {h : Heap} {Q : Res → Prop} {tg : Hid Q} : Run (evFn Cw (d + 1) 70 [t.A] h) Q tg = Q (tellK t.kv, h) := by
  rw [F70_eq]
  cases t
  · simp (disch := (first | assumption | (simp only [Bool.and_eq_true, Bool.and_eq_false_iff, decide_eq_true_eq, decide_eq_false_iff_not, bne_iff_ne, beq_iff_eq, beq_eq_false_iff_ne, bne_eq_false_iff_eq, Bool.not_eq_true', Bool.not_eq_false', bys_length, List.length_append, List.length_cons, List.length_nil, List.length_map, List.length_drop, List.length_take, Int.natCast_add, wrap_i64_eq, wrap_u64, wrap_u8, ne_eq, not_true_eq_false, not_false_eq_true, Nat.zero_add, Nat.mul_one] <;> omega) | omega | (simp; done) | (simp; omega))) only [↓CR, MC, ↓PR, MR, A_nil, isPtr_nilp, isNilp_nilp]
    rfl
  · simp (disch := (first | assumption | (simp only [Bool.and_eq_true, Bool.and_eq_false_iff, decide_eq_true_eq, decide_eq_false_iff_not, bne_iff_ne, beq_iff_eq, beq_eq_false_iff_ne, bne_eq_false_iff_eq, Bool.not_eq_true', Bool.not_eq_false', bys_length, List.length_append, List.length_cons, List.length_nil, List.length_map, List.length_drop, List.length_take, Int.natCast_add, wrap_i64_eq, wrap_u64, wrap_u8, ne_eq, not_true_eq_false, not_false_eq_true, Nat.zero_add, Nat.mul_one] <;> omega) | omega | (simp; done) | (simp; omega))) only [↓CR, MC, ↓PR, MR, isPtr_A, isNilp_node, at_nodeN]
    rfl
theorem seek_find {s : List UInt8} {a b : List KPair} {p : KPair} (hs : Srt (a ++ p :: b)) : lseek s (a ++ p :: b) = if blt p.key s then lseek s b else (lseek s a).or (some p) := by
  obtain ⟨_, _, h3, _⟩ := hs.mid
  unfold lseek
  rw [List.find?_append, List.find?_cons]
  by_cases c : blt p.key s = true
  · rw [if_pos c]
    have : List.find? (fun q => !blt q.key s) a = none := by
      rw [List.find?_eq_none]
      intro x hx
      simp [blt_trans (h3 x hx) c]
    rw [this, c]; rfl
  · have c' : blt p.key s = false := by simpa using c
    rw [if_neg c, c']; rfl
theorem seek_loop (d : Nat) (h : Heap) (s : List UInt8) : ∀ (t best : Nd) (n : Nat), t.dep < n → Srt t.toL → ∀ (Q : Res → Prop) (tg : Hid Q),
    Run (P64_0 (d + 1) n s best.A t.A h) Q tg = Q (tellK ((lseek s t.toL).or best.kv), h) := by
  intro t
  induction t with
  | nil =>
    intro best n hn _ Q tg
    obtain ⟨n, rfl⟩ : ∃ e, n = e + 1 := ⟨n - 1, by omega⟩
    have e : (lseek s Nd.nil.toL).or best.kv = best.kv := of_eq_true (eq_self _)
    rw [P64_0_eq, e]
    cases hb : best.kv <;> simp (disch := (first | assumption | (simp only [Bool.and_eq_true, Bool.and_eq_false_iff, decide_eq_true_eq, decide_eq_false_iff_not, bne_iff_ne, beq_iff_eq, beq_eq_false_iff_ne, bne_eq_false_iff_eq, Bool.not_eq_true', Bool.not_eq_false', bys_length, List.length_append, List.length_cons, List.length_nil, List.length_map, List.length_drop, List.length_take, Int.natCast_add, wrap_i64_eq, wrap_u64, wrap_u8, ne_eq, not_true_eq_false, not_false_eq_true, Nat.zero_add, Nat.mul_one] <;> omega) | omega | (simp; done) | (simp; omega))) only [↓CR, MC, ↓PR, MR, A_nil, isPtr_nilp, isNilp_nilp, told_run, hb, tellK]
  | node k v l r x ihl ihr =>
    intro best n hn hs Q tg
    obtain ⟨n, rfl⟩ : ∃ e, n = e + 1 := ⟨n - 1, by omega⟩
    simp only [Nd.dep] at hn
    rw [Nd.toL_node] at hs ⊢
    obtain ⟨s1, s2, _, _⟩ := hs.mid
    rw [seek_find hs, P64_0_eq]
    by_cases c : blt k s = true
    · have c' : Go.Op.bytesLess k s = true := c
      rw [if_pos c]
      simp (disch := (first | assumption | (simp only [Bool.and_eq_true, Bool.and_eq_false_iff, decide_eq_true_eq, decide_eq_false_iff_not, bne_iff_ne, beq_iff_eq, beq_eq_false_iff_ne, bne_eq_false_iff_eq, Bool.not_eq_true', Bool.not_eq_false', bys_length, List.length_append, List.length_cons, List.length_nil, List.length_map, List.length_drop, List.length_take, Int.natCast_add, wrap_i64_eq, wrap_u64, wrap_u8, ne_eq, not_true_eq_false, not_false_eq_true, Nat.zero_add, Nat.mul_one] <;> omega) | omega | (simp; done) | (simp; omega))) only [↓CR, MC, ↓PR, MR, isPtr_A, isNilp_node, Bool.not_false, at_nodeN, c']
      exact ihr best n (by omega) s2 Q ⟨⟩
    · have c' : Go.Op.bytesLess k s = false := by simpa using c
      rw [if_neg c]
      simp (disch := (first | assumption | (simp only [Bool.and_eq_true, Bool.and_eq_false_iff, decide_eq_true_eq, decide_eq_false_iff_not, bne_iff_ne, beq_iff_eq, beq_eq_false_iff_ne, bne_eq_false_iff_eq, Bool.not_eq_true', Bool.not_eq_false', bys_length, List.length_append, List.length_cons, List.length_nil, List.length_map, List.length_drop, List.length_take, Int.natCast_add, wrap_i64_eq, wrap_u64, wrap_u8, ne_eq, not_true_eq_false, not_false_eq_true, Nat.zero_add, Nat.mul_one] <;> omega) | omega | (simp; done) | (simp; omega))) only [↓CR, MC, ↓PR, MR, isPtr_A, isNilp_node, Bool.not_false, at_nodeN, c']
      refine (ihl (.node k v l r x) n (by omega) s1 Q ⟨⟩).trans ?_
      cases hl : lseek s l.toL <;> rfl
end Go.Proofs.Ytbddfpakhealbaa.Wa
end

section
/- Sorted lists of pairs, by the reference; trees, by the program. -/
namespace Go.Proofs.Ytbddfpakhealbaa.Wa
open Go Go.Weave
set_option maxRecDepth 100000
set_option linter.unusedSimpArgs false
set_option linter.unusedVariables false
set_option linter.unusedSectionVars false

def prs (l : List KPair) : List AVal := l.map KPair.A
theorem prs_length (l : List KPair) : (prs l).length = l.length := by simp [prs]
theorem prs_nil : prs [] = [] := of_eq_true (eq_self _)
theorem prs_getD {l : List KPair} {i : Nat} (h : i < l.length) : (prs l).getD i AVal.undef = .agg [.str l[i].key, .str l[i].val] := by simp [prs, h, KPair.A, KPair.C]
theorem prs_snoc (l : List KPair) (k v : List UInt8) : prs l ++ [.agg [.str k, .str v]] = prs (l ++ [⟨k, v⟩]) := by simp [prs, KPair.A, KPair.C]
theorem str_beq_self (a : List UInt8) : (a == a) = true := by simp

/-! ### What is told of a pair that there may be -/
def oKey : Option KPair → List UInt8 | none => [] | some p => p.key
def oVal : Option KPair → List UInt8 | none => [] | some p => p.val
theorem tellK_eq (o : Option KPair) : tellK o = [.str (oKey o), .str (oVal o), .bool o.isSome] := by cases o <;> rfl

theorem lget_cons (k : List UInt8) (p : KPair) (l : List KPair) : lget k (p :: l) = if p.key = k then some p else lget k l := by
  unfold lget
  rw [List.find?_cons]
  by_cases h : p.key = k
  · have : (p.key == k) = true := by simp [h]
    rw [this, if_pos h]
  · have : (p.key == k) = false := by simpa using h
    rw [this, if_neg h]
theorem lseek_cons (k : List UInt8) (p : KPair) (l : List KPair) : lseek k (p :: l) = if blt p.key k then lseek k l else some p := by
  unfold lseek
  rw [List.find?_cons]
  cases h : blt p.key k <;> rfl
theorem ldel_cons (k : List UInt8) (p : KPair) (l : List KPair) : ldel k (p :: l) = if p.key = k then ldel k l else p :: ldel k l := by
  unfold ldel
  rw [List.filter_cons]
  by_cases h : p.key = k
  · rw [if_neg (by simp [h]), if_pos h]
  · rw [if_pos (by simpa using h), if_neg h]
/-- A key is found where seeking stops. -/
theorem lget_seek {k : List UInt8} : ∀ {l : List KPair}, Srt l → lget k l = if oKey (lseek k l) = k ∧ (lseek k l).isSome = true then lseek k l else none
  | [], _ => by simp [lget, lseek]
  | p :: l, hs => by
    have ⟨h1, h2⟩ := List.pairwise_cons.1 hs
    rw [lget_cons, lseek_cons]
    by_cases c : blt p.key k = true
    · rw [if_neg (blt_ne c), if_pos c]
      exact lget_seek h2
    · rw [if_neg c]
      by_cases e : p.key = k
      · rw [if_pos e, if_pos ⟨e, rfl⟩]
      · rw [if_neg e, if_neg (fun h => e h.1)]
        unfold lget
        rw [List.find?_eq_none]
        intro x hx
        have h3 : blt k p.key = true := by
          cases hh : blt k p.key
          · exact absurd (blt_tri (by simpa using c) hh) e
          · rfl
        have := blt_ne (blt_trans h3 (h1 x hx))
        simpa using this.symm
theorem lget_mem {k : List UInt8} {l : List KPair} (h : (lget k l).isSome = true) : ∃ p ∈ l, p.key = k := by
  cases hp : lget k l with
  | none => rw [hp] at h; simp at h
  | some p =>
    unfold lget at hp
    exact ⟨p, List.mem_of_find?_eq_some hp, by simpa using List.find?_some hp⟩
theorem lget_none {k : List UInt8} {l : List KPair} (h : (lget k l).isSome = false) : ∀ p ∈ l, p.key ≠ k := by
  have : lget k l = none := by cases hp : lget k l <;> simp_all
  unfold lget at this
  rw [List.find?_eq_none] at this
  intro p hp e
  exact this p hp (by simp [e])
theorem ldel_len {k : List UInt8} {l : List KPair} (hs : Srt l) (h : (lget k l).isSome = true) : (ldel k l).length + 1 = l.length := by
  obtain ⟨p, hp, e⟩ := lget_mem h
  obtain ⟨a, b, rfl⟩ := List.append_of_mem hp
  subst e
  rw [ldel_eq hs]; simp; omega
theorem lput_len_new {k v : List UInt8} : ∀ {l : List KPair}, Srt l → (lget k l).isSome = false → (lput k v l).length = l.length + 1 := by
  intro l hs h
  have h0 := lget_none h
  have : ∀ l : List KPair, (∀ p ∈ l, p.key ≠ k) → (l.filter (fun p => blt p.key k)).length + (l.filter (fun p => blt k p.key)).length = l.length := by
    intro l
    induction l with
    | nil => intro _; rfl
    | cons p l ih =>
      intro h
      have ih := ih fun q hq => h q (List.mem_cons_of_mem _ hq)
      have hp := h p List.mem_cons_self
      rw [List.filter_cons, List.filter_cons]
      by_cases c : blt p.key k = true
      · rw [if_pos c, if_neg (by rw [blt_asym c]; simp)]
        simp only [List.length_cons]; omega
      · have c2 : blt k p.key = true := by
          cases hh : blt k p.key
          · exact absurd (blt_tri (by simpa using c) hh) hp
          · rfl
        rw [if_neg c, if_pos c2]
        simp only [List.length_cons]; omega
  unfold lput
  rw [List.length_append, List.length_cons]
  have := this l h0
  omega
theorem lput_len_old {k v : List UInt8} {l : List KPair} (hs : Srt l) (h : (lget k l).isSome = true) : (lput k v l).length = l.length := by
  obtain ⟨⟨pk, pv⟩, hp, e⟩ := lget_mem h
  obtain ⟨a, b, rfl⟩ := List.append_of_mem hp
  simp only at e
  subst e
  rw [lput_eq hs]; simp

/-! ### The reference's lists -/
theorem rget31_loop (d : Nat) (f : Bool) (s : List UInt8) (h : Heap) (l : List KPair) (hl : l.length ≤ 1000000) (Q : Res → Prop) : ∀ (n i k : Nat) (tg : Hid Q), l.length = i + n → n < k →
    Run (P17_0 d k f (prs l) s i h) Q tg = Q ([.str (oVal (lget s (l.drop i))), .bool (lget s (l.drop i)).isSome], h) := by
  intro n
  induction n with
  | zero =>
    intro i k tg hi hk
    obtain ⟨k, rfl⟩ : ∃ m, k = m + 1 := ⟨k - 1, by omega⟩
    have hd : l.drop i = [] := List.drop_eq_nil_of_le (by omega)
    rw [P17_0_eq, hd]
    simp (disch := (first | assumption | (simp only [Bool.and_eq_true, Bool.and_eq_false_iff, decide_eq_true_eq, decide_eq_false_iff_not, bne_iff_ne, beq_iff_eq, beq_eq_false_iff_ne, bne_eq_false_iff_eq, Bool.not_eq_true', Bool.not_eq_false', bys_length, List.length_append, List.length_cons, List.length_nil, List.length_map, List.length_drop, List.length_take, Int.natCast_add, wrap_i64_eq, wrap_u64, wrap_u8, ne_eq, not_true_eq_false, not_false_eq_true, Nat.zero_add, Nat.mul_one] <;> omega) | omega | (simp; done) | (simp; omega))) only [↓CR, MC, ↓PR, MR, prs_length]
    rfl
  | succ n ih =>
    intro i k tg hi hk
    obtain ⟨k, rfl⟩ : ∃ m, k = m + 1 := ⟨k - 1, by omega⟩
    have h1 : i < l.length := by omega
    have e1 := succ_wrap (i := i) (by omega)
    have ih' := fun tg => ih (i + 1) k tg (by omega) (by omega)
    rw [P17_0_eq, List.drop_eq_getElem_cons h1, lget_cons]
    by_cases c : l[i].key = s
    · have c' : (l[i].key == s) = true := by simp [c]
      rw [if_pos c]
      simp (disch := (first | assumption | (simp only [Bool.and_eq_true, Bool.and_eq_false_iff, decide_eq_true_eq, decide_eq_false_iff_not, bne_iff_ne, beq_iff_eq, beq_eq_false_iff_ne, bne_eq_false_iff_eq, Bool.not_eq_true', Bool.not_eq_false', bys_length, List.length_append, List.length_cons, List.length_nil, List.length_map, List.length_drop, List.length_take, Int.natCast_add, wrap_i64_eq, wrap_u64, wrap_u8, ne_eq, not_true_eq_false, not_false_eq_true, Nat.zero_add, Nat.mul_one] <;> omega) | omega | (simp; done) | (simp; omega))) only [↓CR, MC, ↓PR, MR, prs_length, prs_getD h1, c']
      rfl
    · have c' : (l[i].key == s) = false := by simpa using c
      rw [if_neg c]
      simp (disch := (first | assumption | (simp only [Bool.and_eq_true, Bool.and_eq_false_iff, decide_eq_true_eq, decide_eq_false_iff_not, bne_iff_ne, beq_iff_eq, beq_eq_false_iff_ne, bne_eq_false_iff_eq, Bool.not_eq_true', Bool.not_eq_false', bys_length, List.length_append, List.length_cons, List.length_nil, List.length_map, List.length_drop, List.length_take, Int.natCast_add, wrap_i64_eq, wrap_u64, wrap_u8, ne_eq, not_true_eq_false, not_false_eq_true, Nat.zero_add, Nat.mul_one] <;> omega) | omega | (simp; done) | (simp; omega))) only [↓CR, MC, ↓PR, MR, prs_length, prs_getD h1, c', e1, ih']
theorem rget31_run {d : Nat} {f : Bool} {l : List KPair} {s : List UInt8} {h : Heap} {Q : Res → Prop} {tg : Hid Q} (hl : l.length ≤ 1000000) :
    Run (evFn Cw (d + 1) 17 [.sl f 3 (prs l), .str s] h) Q tg = Q ([.str (oVal (lget s l)), .bool (lget s l).isSome], h) := by
  rw [F17_eq]
  have := rget31_loop d f s h l hl Q l.length 0 rounds ⟨⟩ (by omega) (rounds_gt' (by omega))
  rw [e0] at this
  exact this
theorem rdel31_loop (d : Nat) (f : Bool) (s : List UInt8) (h : Heap) (l : List KPair) (hl : l.length ≤ 1000000) (Q : Res → Prop) : ∀ (n i k : Nat) (acc : List KPair) (tg : Hid Q), acc.length ≤ i → l.length = i + n → n < k →
    Run (P22_0 d k f (prs l) s (prs acc) i h) Q tg = Q ([.sl false 3 (prs (acc ++ ldel s (l.drop i)))], h) := by
  intro n
  induction n with
  | zero =>
    intro i k acc tg ha hi hk
    obtain ⟨k, rfl⟩ : ∃ m, k = m + 1 := ⟨k - 1, by omega⟩
    have hd : l.drop i = [] := List.drop_eq_nil_of_le (by omega)
    have hb : acc ++ ldel s [] = acc := by simp [ldel]
    rw [P22_0_eq, hd, hb]
    simp (disch := (first | assumption | (simp only [Bool.and_eq_true, Bool.and_eq_false_iff, decide_eq_true_eq, decide_eq_false_iff_not, bne_iff_ne, beq_iff_eq, beq_eq_false_iff_ne, bne_eq_false_iff_eq, Bool.not_eq_true', Bool.not_eq_false', bys_length, List.length_append, List.length_cons, List.length_nil, List.length_map, List.length_drop, List.length_take, Int.natCast_add, wrap_i64_eq, wrap_u64, wrap_u8, ne_eq, not_true_eq_false, not_false_eq_true, Nat.zero_add, Nat.mul_one] <;> omega) | omega | (simp; done) | (simp; omega))) only [↓CR, MC, ↓PR, MR, prs_length]
  | succ n ih =>
    intro i k acc tg ha hi hk
    obtain ⟨k, rfl⟩ : ∃ m, k = m + 1 := ⟨k - 1, by omega⟩
    have h1 : i < l.length := by omega
    have e1 := succ_wrap (i := i) (by omega)
    rw [P22_0_eq, List.drop_eq_getElem_cons h1, ldel_cons]
    by_cases c : l[i].key = s
    · have c' : (l[i].key == s) = true := by simp [c]
      have ih' := fun tg => ih (i + 1) k acc tg (by omega) (by omega) (by omega)
      rw [if_pos c]
      simp (disch := (first | assumption | (simp only [Bool.and_eq_true, Bool.and_eq_false_iff, decide_eq_true_eq, decide_eq_false_iff_not, bne_iff_ne, beq_iff_eq, beq_eq_false_iff_ne, bne_eq_false_iff_eq, Bool.not_eq_true', Bool.not_eq_false', bys_length, List.length_append, List.length_cons, List.length_nil, List.length_map, List.length_drop, List.length_take, Int.natCast_add, wrap_i64_eq, wrap_u64, wrap_u8, ne_eq, not_true_eq_false, not_false_eq_true, Nat.zero_add, Nat.mul_one] <;> omega) | omega | (simp; done) | (simp; omega))) only [↓CR, MC, ↓PR, MR, prs_length, prs_getD h1, c', Bool.not_true, e1, ih']
    · have c' : (l[i].key == s) = false := by simpa using c
      have ih' := fun tg => ih (i + 1) k (acc ++ [l[i]]) tg (by simp; omega) (by omega) (by omega)
      have ea : prs acc ++ [.agg [.str l[i].key, .str l[i].val]] = prs (acc ++ [l[i]]) := prs_snoc acc l[i].key l[i].val
      rw [if_neg c]
      simp (disch := (first | assumption | (simp only [Bool.and_eq_true, Bool.and_eq_false_iff, decide_eq_true_eq, decide_eq_false_iff_not, bne_iff_ne, beq_iff_eq, beq_eq_false_iff_ne, bne_eq_false_iff_eq, Bool.not_eq_true', Bool.not_eq_false', bys_length, List.length_append, List.length_cons, List.length_nil, List.length_map, List.length_drop, List.length_take, Int.natCast_add, wrap_i64_eq, wrap_u64, wrap_u8, ne_eq, not_true_eq_false, not_false_eq_true, Nat.zero_add, Nat.mul_one] <;> omega) | omega | (simp; done) | (simp; omega))) only [↓CR, MC, ↓PR, MR, prs_length, prs_getD h1, c', Bool.not_false, e1, ea, ih']
      simp
theorem rdel31_run {d : Nat} {f : Bool} {l : List KPair} {s : List UInt8} {h : Heap} {Q : Res → Prop} {tg : Hid Q} (hl : l.length ≤ 1000000) :
    Run (evFn Cw (d + 1) 22 [.sl f 3 (prs l), .str s] h) Q tg = Q ([.sl false 3 (prs (ldel s l))], h) := by
  rw [F22_eq]
  have := rdel31_loop d f s h l hl Q l.length 0 rounds [] ⟨⟩ (by simp) (by omega) (rounds_gt' (by omega))
  rw [e0, prs_nil] at this
  exact this
def insF (k v : List UInt8) : Bool → List KPair → List KPair
  | true, l => l
  | false, [] => [⟨k, v⟩]
  | false, p :: l => if blt k p.key then ⟨k, v⟩ :: p :: l else p :: insF k v false l
theorem insF_lput {k v : List UInt8} : ∀ {l : List KPair}, Srt l → (∀ p ∈ l, p.key ≠ k) → insF k v false l = lput k v l
  | [], _, _ => rfl
  | p :: l, hs, hk => by
    have ⟨h1, h2⟩ := List.pairwise_cons.1 hs
    unfold insF
    by_cases c : blt k p.key = true
    · rw [if_pos c]
      have := lput_lt (a := []) (p := p) (b := l) (k := k) (v := v) hs c
      simp only [List.nil_append] at this
      rw [this]; rfl
    · have c2 : blt p.key k = true := by
        cases hh : blt p.key k
        · exact absurd (blt_tri hh (by simpa using c)) (hk p List.mem_cons_self)
        · rfl
      rw [if_neg c]
      have := lput_gt (a := []) (p := p) (b := l) (k := k) (v := v) hs c2
      simp only [List.nil_append] at this
      rw [this, insF_lput h2 fun q hq => hk q (List.mem_cons_of_mem _ hq)]
theorem lput_ldel (k v : List UInt8) (l : List KPair) : lput k v (ldel k l) = lput k v l := by
  unfold lput ldel
  rw [List.filter_filter, List.filter_filter]
  congr 1
  · refine List.filter_congr fun x _ => ?_
    cases h : blt x.key k
    · simp
    · simpa using blt_ne h
  · congr 1
    refine List.filter_congr fun x _ => ?_
    cases h : blt k x.key
    · simp
    · simpa using (blt_ne h).symm
theorem rput31_loop (d : Nat) (s v : List UInt8) (h : Heap) (l : List KPair) (hl : l.length ≤ 1000000) (Q : Res → Prop) : ∀ (n i k : Nat) (b : Bool) (acc : List KPair) (tg : Hid Q), acc.length ≤ i + b.toNat → l.length = i + n → n < k →
    Run (P21_0 d k (prs l) s v (prs acc) b i h) Q tg = Q ([.sl false 3 (prs (acc ++ insF s v b (l.drop i)))], h) := by
  intro n
  induction n with
  | zero =>
    intro i k b acc tg ha hi hk
    obtain ⟨k, rfl⟩ : ∃ m, k = m + 1 := ⟨k - 1, by omega⟩
    have hd : l.drop i = [] := List.drop_eq_nil_of_le (by omega)
    rw [P21_0_eq, hd]
    cases b <;> simp only [Bool.toNat_false, Bool.toNat_true] at ha
    · simp (disch := (first | assumption | (simp only [Bool.and_eq_true, Bool.and_eq_false_iff, decide_eq_true_eq, decide_eq_false_iff_not, bne_iff_ne, beq_iff_eq, beq_eq_false_iff_ne, bne_eq_false_iff_eq, Bool.not_eq_true', Bool.not_eq_false', bys_length, List.length_append, List.length_cons, List.length_nil, List.length_map, List.length_drop, List.length_take, Int.natCast_add, wrap_i64_eq, wrap_u64, wrap_u8, ne_eq, not_true_eq_false, not_false_eq_true, Nat.zero_add, Nat.mul_one] <;> omega) | omega | (simp; done) | (simp; omega))) only [↓CR, MC, ↓PR, MR, prs_length, Bool.not_false, prs_snoc]
      rfl
    · have hb : acc ++ insF s v true [] = acc := by simp [insF]
      rw [hb]
      simp (disch := (first | assumption | (simp only [Bool.and_eq_true, Bool.and_eq_false_iff, decide_eq_true_eq, decide_eq_false_iff_not, bne_iff_ne, beq_iff_eq, beq_eq_false_iff_ne, bne_eq_false_iff_eq, Bool.not_eq_true', Bool.not_eq_false', bys_length, List.length_append, List.length_cons, List.length_nil, List.length_map, List.length_drop, List.length_take, Int.natCast_add, wrap_i64_eq, wrap_u64, wrap_u8, ne_eq, not_true_eq_false, not_false_eq_true, Nat.zero_add, Nat.mul_one] <;> omega) | omega | (simp; done) | (simp; omega))) only [↓CR, MC, ↓PR, MR, prs_length, Bool.not_true]
  | succ n ih =>
    intro i k b acc tg ha hi hk
    obtain ⟨k, rfl⟩ : ∃ m, k = m + 1 := ⟨k - 1, by omega⟩
    have h1 : i < l.length := by omega
    have e1 := succ_wrap (i := i) (by omega)
    have ea : ∀ acc, prs acc ++ [.agg [.str l[i].key, .str l[i].val]] = prs (acc ++ [l[i]]) := fun acc => prs_snoc acc l[i].key l[i].val
    rw [P21_0_eq, List.drop_eq_getElem_cons h1]
    cases b <;> simp only [Bool.toNat_false, Bool.toNat_true] at ha
    · unfold insF
      by_cases c : blt s l[i].key = true
      · have c1 : Go.Op.bytesLess l[i].key s = false := blt_asym c
        have c2 : (l[i].key == s) = false := by simpa using (blt_ne c).symm
        have ih' := fun tg => ih (i + 1) k true (acc ++ [⟨s, v⟩] ++ [l[i]]) tg (by simp; omega) (by omega) (by omega)
        rw [if_pos c]
        simp (disch := (first | assumption | (simp only [Bool.and_eq_true, Bool.and_eq_false_iff, decide_eq_true_eq, decide_eq_false_iff_not, bne_iff_ne, beq_iff_eq, beq_eq_false_iff_ne, bne_eq_false_iff_eq, Bool.not_eq_true', Bool.not_eq_false', bys_length, List.length_append, List.length_cons, List.length_nil, List.length_map, List.length_drop, List.length_take, Int.natCast_add, wrap_i64_eq, wrap_u64, wrap_u8, ne_eq, not_true_eq_false, not_false_eq_true, Nat.zero_add, Nat.mul_one] <;> omega) | omega | (simp; done) | (simp; omega))) only [↓CR, MC, ↓PR, MR, prs_length, prs_getD h1, Bool.not_false, c1, c2, Bool.or_false, e1, prs_snoc, ea, ih']
        simp [insF]
      · have ih' := fun tg => ih (i + 1) k false (acc ++ [l[i]]) tg (by simp; omega) (by omega) (by omega)
        rw [if_neg c]
        have c3 : (Go.Op.bytesLess l[i].key s || (l[i].key == s)) = true := by
          cases hh : blt l[i].key s
          · have := blt_tri hh (by simpa using c)
            simp [this]
          · have : Go.Op.bytesLess l[i].key s = true := hh
            simp [this]
        simp (disch := (first | assumption | (simp only [Bool.and_eq_true, Bool.and_eq_false_iff, decide_eq_true_eq, decide_eq_false_iff_not, bne_iff_ne, beq_iff_eq, beq_eq_false_iff_ne, bne_eq_false_iff_eq, Bool.not_eq_true', Bool.not_eq_false', bys_length, List.length_append, List.length_cons, List.length_nil, List.length_map, List.length_drop, List.length_take, Int.natCast_add, wrap_i64_eq, wrap_u64, wrap_u8, ne_eq, not_true_eq_false, not_false_eq_true, Nat.zero_add, Nat.mul_one] <;> omega) | omega | (simp; done) | (simp; omega))) only [↓CR, MC, ↓PR, MR, prs_length, prs_getD h1, Bool.not_false, c3, Bool.not_true, e1, ea, ih']
        simp
    · have ih' := fun tg => ih (i + 1) k true (acc ++ [l[i]]) tg (by simp; omega) (by omega) (by omega)
      simp (disch := (first | assumption | (simp only [Bool.and_eq_true, Bool.and_eq_false_iff, decide_eq_true_eq, decide_eq_false_iff_not, bne_iff_ne, beq_iff_eq, beq_eq_false_iff_ne, bne_eq_false_iff_eq, Bool.not_eq_true', Bool.not_eq_false', bys_length, List.length_append, List.length_cons, List.length_nil, List.length_map, List.length_drop, List.length_take, Int.natCast_add, wrap_i64_eq, wrap_u64, wrap_u8, ne_eq, not_true_eq_false, not_false_eq_true, Nat.zero_add, Nat.mul_one] <;> omega) | omega | (simp; done) | (simp; omega))) only [↓CR, MC, ↓PR, MR, prs_length, prs_getD h1, Bool.not_true, e1, ea, ih']
      simp [insF]
theorem rput31_run {d : Nat} {f : Bool} {l : List KPair} {s v : List UInt8} {h : Heap} {Q : Res → Prop} {tg : Hid Q} (hs : Srt l) (hl : l.length ≤ 900000) :
    Run (evFn Cw (d + 2) 21 [.sl f 3 (prs l), .str s, .str v] h) Q tg = Q ([.sl false 3 (prs (lput s v l))], h) := by
  have hlen : (ldel s l).length ≤ l.length := List.length_filter_le _ _
  have := rput31_loop (d + 1) s v h (ldel s l) (by omega) Q (ldel s l).length 0 rounds false [] ⟨⟩ (by simp) (by omega) (rounds_gt' (by omega))
  rw [e0, prs_nil, List.drop_zero, List.nil_append, insF_lput hs.del (fun p hp => by simpa using (List.mem_filter.1 hp).2), lput_ldel] at this
  rw [F21_eq]
  simp (disch := (first | assumption | (simp only [Bool.and_eq_true, Bool.and_eq_false_iff, decide_eq_true_eq, decide_eq_false_iff_not, bne_iff_ne, beq_iff_eq, beq_eq_false_iff_ne, bne_eq_false_iff_eq, Bool.not_eq_true', Bool.not_eq_false', bys_length, List.length_append, List.length_cons, List.length_nil, List.length_map, List.length_drop, List.length_take, Int.natCast_add, wrap_i64_eq, wrap_u64, wrap_u8, ne_eq, not_true_eq_false, not_false_eq_true, Nat.zero_add, Nat.mul_one] <;> omega) | omega | (simp; done) | (simp; omega))) only [↓CR, MC, ↓PR, MR, rdel31_run, this]
end Go.Proofs.Ytbddfpakhealbaa.Wa
end

section
/- Trees: what the program does with them; TreePlays. -/
namespace Go.Proofs.Ytbddfpakhealbaa.Wa
open Go Go.Weave
set_option maxRecDepth 100000
set_option linter.unusedSimpArgs false
set_option linter.unusedVariables false
set_option linter.unusedSectionVars false

def trT (t : Nd) : Weave.Obj := .cells [HCell.val t.A, HCell.val (.int .i64 t.toL.length)]
structure TOk' (t : Nd) : Prop where
  avl : t.Avl
  srt : Srt t.toL
  len : t.toL.length ≤ 31000
theorem trT_root {h : Heap} {i : Nat} {t : Nd} (hm : h.objs[i]? = some (trT t)) : h.cell? i 0 = some (HCell.val t.A) := by rw [Heap.cell_at hm]; rfl
theorem trT_n {h : Heap} {i : Nat} {t : Nd} (hm : h.objs[i]? = some (trT t)) : h.cell? i 1 = some (HCell.val (.int .i64 t.toL.length)) := by rw [Heap.cell_at hm]; rfl
theorem TOk'.put {t : Nd} (ok : TOk' t) (k v : List UInt8) (hl : t.toL.length ≤ 30999) : TOk' (t.put k v) ∧ (t.put k v).toL = lput k v t.toL := by
  have e := Nd.put_toL (k := k) (v := v) ok.srt
  refine ⟨⟨(Nd.put_avl ok.avl).1, by rw [e]; exact ok.srt.put, ?_⟩, e⟩
  rw [e]
  cases hg : (lget k t.toL).isSome
  · rw [lput_len_new ok.srt hg]; omega
  · rw [lput_len_old ok.srt hg]; omega
theorem TOk'.del {t : Nd} (ok : TOk' t) {k : List UInt8} (hk : (lget k t.toL).isSome = true) : TOk' (t.without k) ∧ (t.without k).toL = ldel k t.toL := by
  obtain ⟨a1, _, _, a4⟩ := Nd.without_ok ok.avl ok.srt (lget_mem hk)
  refine ⟨⟨a1, by rw [a4]; exact ok.srt.del, ?_⟩, a4⟩
  rw [a4]
  exact Nat.le_trans (List.length_filter_le _ _) ok.len

theorem tseek_run {d i : Nat} {t : Nd} {s : List UInt8} {h : Heap} {Q : Res → Prop} {tg : Hid Q} (ok : TOk' t) (hm : h.objs[i]? = some (trT t)) :
    Run (evFn Cw (d + 2) 64 [.obj i 0, .str s] h) Q tg = Q ([.str (oKey (lseek s t.toL)), .str (oVal (lseek s t.toL)), .bool (lseek s t.toL).isSome], h) := by
  have hl := ok.len
  have hd := Nd.dep_le t
  have := seek_loop d h s t .nil rounds (rounds_gt' (by omega)) ok.srt Q ⟨⟩
  have e : (lseek s t.toL).or Nd.nil.kv = lseek s t.toL := by cases lseek s t.toL <;> rfl
  rw [e, tellK_eq, A_nil] at this
  rw [F64_eq]
  simp (disch := (first | assumption | (simp only [Bool.and_eq_true, Bool.and_eq_false_iff, decide_eq_true_eq, decide_eq_false_iff_not, bne_iff_ne, beq_iff_eq, beq_eq_false_iff_ne, bne_eq_false_iff_eq, Bool.not_eq_true', Bool.not_eq_false', bys_length, List.length_append, List.length_cons, List.length_nil, List.length_map, List.length_drop, List.length_take, Int.natCast_add, wrap_i64_eq, wrap_u64, wrap_u8, ne_eq, not_true_eq_false, not_false_eq_true, Nat.zero_add, Nat.mul_one] <;> omega) | omega | (simp; done) | (simp; omega))) only [↓CR, MC, ↓PR, MR, trT_root hm, this]
theorem tget_run {d i : Nat} {t : Nd} {s : List UInt8} {h : Heap} {Q : Res → Prop} {tg : Hid Q} (ok : TOk' t) (hm : h.objs[i]? = some (trT t)) :
    Run (evFn Cw (d + 3) 51 [.obj i 0, .str s] h) Q tg = Q ([.str (oVal (lget s t.toL)), .bool (lget s t.toL).isSome], h) := by
  have hs := fun (Q : Res → Prop) (tg : Hid Q) => tseek_run (d := d) (s := s) (Q := Q) (tg := tg) ok hm
  rw [F51_eq, lget_seek ok.srt]
  cases h1 : (lseek s t.toL).isSome
  · rw [h1] at hs
    rw [if_neg (by simp)]
    simp (disch := (first | assumption | (simp only [Bool.and_eq_true, Bool.and_eq_false_iff, decide_eq_true_eq, decide_eq_false_iff_not, bne_iff_ne, beq_iff_eq, beq_eq_false_iff_ne, bne_eq_false_iff_eq, Bool.not_eq_true', Bool.not_eq_false', bys_length, List.length_append, List.length_cons, List.length_nil, List.length_map, List.length_drop, List.length_take, Int.natCast_add, wrap_i64_eq, wrap_u64, wrap_u8, ne_eq, not_true_eq_false, not_false_eq_true, Nat.zero_add, Nat.mul_one] <;> omega) | omega | (simp; done) | (simp; omega))) only [↓CR, MC, ↓PR, MR, hs, Bool.not_false]
    rfl
  · rw [h1] at hs
    by_cases h2 : oKey (lseek s t.toL) = s
    · have h2' : (oKey (lseek s t.toL) == s) = true := by simp [h2]
      rw [if_pos ⟨h2, rfl⟩]
      simp (disch := (first | assumption | (simp only [Bool.and_eq_true, Bool.and_eq_false_iff, decide_eq_true_eq, decide_eq_false_iff_not, bne_iff_ne, beq_iff_eq, beq_eq_false_iff_ne, bne_eq_false_iff_eq, Bool.not_eq_true', Bool.not_eq_false', bys_length, List.length_append, List.length_cons, List.length_nil, List.length_map, List.length_drop, List.length_take, Int.natCast_add, wrap_i64_eq, wrap_u64, wrap_u8, ne_eq, not_true_eq_false, not_false_eq_true, Nat.zero_add, Nat.mul_one] <;> omega) | omega | (simp; done) | (simp; omega))) only [↓CR, MC, ↓PR, MR, hs, Bool.not_true, h2']
      rw [h1]
    · have h2' : (oKey (lseek s t.toL) == s) = false := by simpa using h2
      rw [if_neg (by simp [h2])]
      simp (disch := (first | assumption | (simp only [Bool.and_eq_true, Bool.and_eq_false_iff, decide_eq_true_eq, decide_eq_false_iff_not, bne_iff_ne, beq_iff_eq, beq_eq_false_iff_ne, bne_eq_false_iff_eq, Bool.not_eq_true', Bool.not_eq_false', bys_length, List.length_append, List.length_cons, List.length_nil, List.length_map, List.length_drop, List.length_take, Int.natCast_add, wrap_i64_eq, wrap_u64, wrap_u8, ne_eq, not_true_eq_false, not_false_eq_true, Nat.zero_add, Nat.mul_one] <;> omega) | omega | (simp; done) | (simp; omega))) only [↓CR, MC, ↓PR, MR, hs, Bool.not_true, h2', Bool.not_false]
      rfl
theorem tput_run {d i : Nat} {t : Nd} {k v : List UInt8} {h : Heap} {Q : Res → Prop} {tg : Hid Q} (ok : TOk' t) (hl : t.toL.length ≤ 30999) (hm : h.objs[i]? = some (trT t)) (hd : 31010 ≤ d) :
    Run (evFn Cw d 50 [.obj i 0, .str k, .str v] h) Q tg = Q ([.str (oVal (lget k t.toL)), .bool (lget k t.toL).isSome], h.put i (trT (t.put k v))) := by
  have hdp := Nd.dep_le t
  have hh := ok.avl.high_le
  have hlen := ok.len
  obtain ⟨d, rfl⟩ : ∃ e, d = e + 4 := ⟨d - 4, by omega⟩
  have hg := fun (Q : Res → Prop) (tg : Hid Q) => tget_run (d := d) (s := k) (Q := Q) (tg := tg) ok hm
  have hp := put_nd t (d + 3) (by omega) ok.avl (by omega) k v h
  have e := (ok.put k v hl).2
  have s1 : h.setCell i 0 (HCell.val (t.put k v).A) = h.put i (.cells [HCell.val (t.put k v).A, HCell.val (.int .i64 t.toL.length)]) := by rw [Heap.set_at hm]; rfl
  have hm2 : (h.put i (.cells [HCell.val (t.put k v).A, HCell.val (.int .i64 t.toL.length)])).objs[i]? = some (.cells [HCell.val (t.put k v).A, HCell.val (.int .i64 t.toL.length)]) := Heap.put_get hm
  have c2 : (h.put i (.cells [HCell.val (t.put k v).A, HCell.val (.int .i64 t.toL.length)])).cell? i 1 = some (HCell.val (.int .i64 t.toL.length)) := by rw [Heap.cell_at hm2]; rfl
  have e1 : IntKind.i64.wrap ((t.toL.length : Int) + 1) = ((t.toL.length + 1 : Nat) : Int) := succ_wrap (by omega)
  rw [F50_eq]
  cases h1 : (lget k t.toL).isSome
  · have e2 : (t.put k v).toL.length = t.toL.length + 1 := by rw [e, lput_len_new ok.srt h1]
    have s2 : (h.put i (.cells [HCell.val (t.put k v).A, HCell.val (.int .i64 t.toL.length)])).setCell i 1 (HCell.val (.int .i64 ((t.toL.length + 1 : Nat) : Int))) = h.put i (trT (t.put k v)) := by
      rw [Heap.set_at hm2, Heap.put_put]; unfold trT; rw [e2]; rfl
    simp (disch := (first | assumption | (simp only [Bool.and_eq_true, Bool.and_eq_false_iff, decide_eq_true_eq, decide_eq_false_iff_not, bne_iff_ne, beq_iff_eq, beq_eq_false_iff_ne, bne_eq_false_iff_eq, Bool.not_eq_true', Bool.not_eq_false', bys_length, List.length_append, List.length_cons, List.length_nil, List.length_map, List.length_drop, List.length_take, Int.natCast_add, wrap_i64_eq, wrap_u64, wrap_u8, ne_eq, not_true_eq_false, not_false_eq_true, Nat.zero_add, Nat.mul_one] <;> omega) | omega | (simp; done) | (simp; omega))) only [↓CR, MC, ↓PR, MR, hg, h1, trT_root hm, hp, isAgg_A, s1, c2, e1, s2, Bool.not_false]
  · have e2 : (t.put k v).toL.length = t.toL.length := by rw [e, lput_len_old ok.srt h1]
    have s2 : h.put i (.cells [HCell.val (t.put k v).A, HCell.val (.int .i64 t.toL.length)]) = h.put i (trT (t.put k v)) := by unfold trT; rw [e2]
    rw [s2] at s1
    simp (disch := (first | assumption | (simp only [Bool.and_eq_true, Bool.and_eq_false_iff, decide_eq_true_eq, decide_eq_false_iff_not, bne_iff_ne, beq_iff_eq, beq_eq_false_iff_ne, bne_eq_false_iff_eq, Bool.not_eq_true', Bool.not_eq_false', bys_length, List.length_append, List.length_cons, List.length_nil, List.length_map, List.length_drop, List.length_take, Int.natCast_add, wrap_i64_eq, wrap_u64, wrap_u8, ne_eq, not_true_eq_false, not_false_eq_true, Nat.zero_add, Nat.mul_one] <;> omega) | omega | (simp; done) | (simp; omega))) only [↓CR, MC, ↓PR, MR, hg, h1, trT_root hm, hp, isAgg_A, s1, Bool.not_true]
theorem tdel_run {d i : Nat} {t : Nd} {k : List UInt8} {h : Heap} {Q : Res → Prop} {tg : Hid Q} (ok : TOk' t) (hm : h.objs[i]? = some (trT t)) (hd : 31010 ≤ d) :
    Run (evFn Cw d 35 [.obj i 0, .str k] h) Q tg = Q ([.str (oVal (lget k t.toL)), .bool (lget k t.toL).isSome], h.put i (trT (if (lget k t.toL).isSome then t.without k else t))) := by
  have hdp := Nd.dep_le t
  have hh := ok.avl.high_le
  have hlen := ok.len
  obtain ⟨d, rfl⟩ : ∃ e, d = e + 4 := ⟨d - 4, by omega⟩
  have hg := fun (Q : Res → Prop) (tg : Hid Q) => tget_run (d := d) (s := k) (Q := Q) (tg := tg) ok hm
  rw [F35_eq]
  cases h1 : (lget k t.toL).isSome
  · rw [if_neg (by simp), Heap.put_self' hm]
    simp (disch := (first | assumption | (simp only [Bool.and_eq_true, Bool.and_eq_false_iff, decide_eq_true_eq, decide_eq_false_iff_not, bne_iff_ne, beq_iff_eq, beq_eq_false_iff_ne, bne_eq_false_iff_eq, Bool.not_eq_true', Bool.not_eq_false', bys_length, List.length_append, List.length_cons, List.length_nil, List.length_map, List.length_drop, List.length_take, Int.natCast_add, wrap_i64_eq, wrap_u64, wrap_u8, ne_eq, not_true_eq_false, not_false_eq_true, Nat.zero_add, Nat.mul_one] <;> omega) | omega | (simp; done) | (simp; omega))) only [↓CR, MC, ↓PR, MR, hg, h1]
  · rw [if_pos rfl]
    have e := (ok.del h1).2
    have hp := without_nd t (d + 3) (by omega) (by omega) ok.avl (by omega) ok.srt k (lget_mem h1) h
    have s1 : h.setCell i 0 (HCell.val (t.without k).A) = h.put i (.cells [HCell.val (t.without k).A, HCell.val (.int .i64 t.toL.length)]) := by rw [Heap.set_at hm]; rfl
    have hm2 : (h.put i (.cells [HCell.val (t.without k).A, HCell.val (.int .i64 t.toL.length)])).objs[i]? = some (.cells [HCell.val (t.without k).A, HCell.val (.int .i64 t.toL.length)]) := Heap.put_get hm
    have c2 : (h.put i (.cells [HCell.val (t.without k).A, HCell.val (.int .i64 t.toL.length)])).cell? i 1 = some (HCell.val (.int .i64 t.toL.length)) := by rw [Heap.cell_at hm2]; rfl
    have e3 := ldel_len ok.srt h1
    have e1 : IntKind.i64.wrap ((t.toL.length : Int) - 1) = (((t.without k).toL.length : Nat) : Int) := by rw [wrap_i64_id (by omega) (by omega), e]; omega
    have s2 : (h.put i (.cells [HCell.val (t.without k).A, HCell.val (.int .i64 t.toL.length)])).setCell i 1 (HCell.val (.int .i64 (((t.without k).toL.length : Nat) : Int))) = h.put i (trT (t.without k)) := by
      rw [Heap.set_at hm2, Heap.put_put]; rfl
    simp (disch := (first | assumption | (simp only [Bool.and_eq_true, Bool.and_eq_false_iff, decide_eq_true_eq, decide_eq_false_iff_not, bne_iff_ne, beq_iff_eq, beq_eq_false_iff_ne, bne_eq_false_iff_eq, Bool.not_eq_true', Bool.not_eq_false', bys_length, List.length_append, List.length_cons, List.length_nil, List.length_map, List.length_drop, List.length_take, Int.natCast_add, wrap_i64_eq, wrap_u64, wrap_u8, ne_eq, not_true_eq_false, not_false_eq_true, Nat.zero_add, Nat.mul_one] <;> omega) | omega | (simp; done) | (simp; omega))) only [↓CR, MC, ↓PR, MR, hg, h1, trT_root hm, hp, isAgg_A, s1, c2, e1, s2]
theorem tlen_run {d i : Nat} {t : Nd} {h : Heap} {Q : Res → Prop} {tg : Hid Q} (hm : h.objs[i]? = some (trT t)) :
    Run (evFn Cw (d + 1) 38 [.obj i 0] h) Q tg = Q ([.int .i64 t.toL.length], h) := by
  rw [F38_eq]
  simp (disch := (first | assumption | (simp only [Bool.and_eq_true, Bool.and_eq_false_iff, decide_eq_true_eq, decide_eq_false_iff_not, bne_iff_ne, beq_iff_eq, beq_eq_false_iff_ne, bne_eq_false_iff_eq, Bool.not_eq_true', Bool.not_eq_false', bys_length, List.length_append, List.length_cons, List.length_nil, List.length_map, List.length_drop, List.length_take, Int.natCast_add, wrap_i64_eq, wrap_u64, wrap_u8, ne_eq, not_true_eq_false, not_false_eq_true, Nat.zero_add, Nat.mul_one] <;> omega) | omega | (simp; done) | (simp; omega))) only [↓CR, MC, ↓PR, MR, trT_n hm]
theorem tnew_run {d : Nat} {h : Heap} {Q : Res → Prop} {tg : Hid Q} : Run (evFn Cw (d + 1) 33 [] h) Q tg = Q ([.obj h.objs.length 0], h.push (trT .nil)) := by
  rw [F33_eq]
  simp (disch := (first | assumption | (simp only [Bool.and_eq_true, Bool.and_eq_false_iff, decide_eq_true_eq, decide_eq_false_iff_not, bne_iff_ne, beq_iff_eq, beq_eq_false_iff_ne, bne_eq_false_iff_eq, Bool.not_eq_true', Bool.not_eq_false', bys_length, List.length_append, List.length_cons, List.length_nil, List.length_map, List.length_drop, List.length_take, Int.natCast_add, wrap_i64_eq, wrap_u64, wrap_u8, ne_eq, not_true_eq_false, not_false_eq_true, Nat.zero_add, Nat.mul_one] <;> omega) | omega | (simp; done) | (simp; omega))) only [↓CR, MC, ↓PR, MR]
  rfl

/-! ### All of a tree -/
/-- The variable in which pairs are gathered. -/
def pvO (o : Weave.Obj) (l : List KPair) : Prop := (o = .cells [HCell.val (.sl true 3 [])] ∧ l = []) ∨ o = .cells [HCell.own 3 (prs l)]
theorem pvO.cell {o : Weave.Obj} {l : List KPair} (ho : pvO o l) {h : Heap} {i : Nat} (hm : h.objs[i]? = some o) : ∃ c, h.cell? i 0 = some c ∧ ∃ f, c.toA = .sl f 3 (prs l) := by
  rcases ho with ⟨rfl, rfl⟩ | rfl
  · exact ⟨_, by rw [Heap.cell_at hm]; rfl, true, rfl⟩
  · exact ⟨_, by rw [Heap.cell_at hm]; rfl, false, rfl⟩

/-! ### How many keys a balanced tree has at least -/
/-! ### A tree tells what a list does -/
end Go.Proofs.Ytbddfpakhealbaa.Wa
end

section
/- TreePlays. -/
namespace Go.Proofs.Ytbddfpakhealbaa.Wa
open Go Go.Weave
set_option maxRecDepth 100000
set_option linter.unusedSimpArgs false
set_option linter.unusedVariables false
set_option linter.unusedSectionVars false

def kops (l : List KOp) : List AVal := l.map fun x => KOp.A x
theorem kops_length (l : List KOp) : (kops l).length = l.length := by simp [kops]
theorem kops_getD {l : List KOp} {i : Nat} (h : i < l.length) : (kops l).getD i AVal.undef = .agg [.int .i64 l[i].kind, .str l[i].key, .str l[i].val] := by simp [kops, h, KOp.A, KOp.C]
theorem ldel_len_le (k : List UInt8) (l : List KPair) : (ldel k l).length ≤ l.length := List.length_filter_le _ _
theorem lput_len_le {k v : List UInt8} {l : List KPair} (hs : Srt l) : (lput k v l).length ≤ l.length + 1 := by
  cases h : (lget k l).isSome
  · rw [lput_len_new hs h]; omega
  · rw [lput_len_old hs h]; omega
end Go.Proofs.Ytbddfpakhealbaa.Wa
end

section
/- TreeClones. -/
namespace Go.Proofs.Ytbddfpakhealbaa.Wa
open Go Go.Weave
set_option maxRecDepth 100000
set_option linter.unusedSimpArgs false
set_option linter.unusedVariables false
set_option linter.unusedSectionVars false

/-! ### A tree that is nil -/
/-! ### Each ends when it is told -/
def cl (most : Int) : Nat → Int → Bool × Int
  | 0, c => (true, c)
  | m + 1, c => if c + 1 < most then cl most m (c + 1) else (false, c + 1)
end Go.Proofs.Ytbddfpakhealbaa.Wa
end

section
/- What the evaluator comes to in these functions. -/
namespace Go.Proofs.Ytbddfpakhealbaa.Wa
open Go Go.Weave
set_option maxRecDepth 100000
set_option linter.unusedVariables false
/- f53 strandline/cursor.New -/
theorem F53_eq (d : Nat) (i0 : Nat) (h : Heap) : evFn Cw (d + 1) 53 [(AVal.obj i0 0)] h =
  (Tr.ret ([(AVal.obj h.objs.length 0)], (Heap.push h (Go.Weave.Obj.cells ([(AVal.obj i0 0), (AVal.int .i64 0), (AVal.str [])].map HCell.val))))) := by kernel_rfl
/- f67 (*strandline/cursor.Cursor).to -/
theorem F67_eq (d : Nat) (i0 : Nat) (s1 : List UInt8) (b2 : Bool) (x3 : Int) (h : Heap) : evFn Cw (d + 1) 67 [(AVal.obj i0 0), (AVal.str s1), (AVal.bool b2), (AVal.int .i64 x3)] h =
  (optK (Heap.cell? h i0 1) fun _ =>
    (optK (Heap.cell? (Heap.setCell h i0 1 (HCell.val (AVal.int .i64 x3))) i0 2) fun _ =>
      (bif b2 then
        (optK (Heap.cell? (Heap.setCell (Heap.setCell h i0 1 (HCell.val (AVal.int .i64 x3))) i0 2 (HCell.val (AVal.str []))) i0 1) fun _ =>
          (optK (Heap.cell? (Heap.setCell (Heap.setCell (Heap.setCell h i0 1 (HCell.val (AVal.int .i64 x3))) i0 2 (HCell.val (AVal.str []))) i0 1 (HCell.val (AVal.int .i64 1))) i0 2) fun _ =>
            (Tr.ret ([(AVal.bool b2)], (Heap.setCell (Heap.setCell (Heap.setCell (Heap.setCell h i0 1 (HCell.val (AVal.int .i64 x3))) i0 2 (HCell.val (AVal.str []))) i0 1 (HCell.val (AVal.int .i64 1))) i0 2 (HCell.val (AVal.str s1)))))))
      else
        (Tr.ret ([(AVal.bool b2)], (Heap.setCell (Heap.setCell h i0 1 (HCell.val (AVal.int .i64 x3))) i0 2 (HCell.val (AVal.str [])))))))) := by kernel_rfl
/- f54 (*strandline/cursor.Cursor).Seek -/
theorem F54_eq (d : Nat) (i0 : Nat) (s1 : List UInt8) (h : Heap) : evFn Cw (d + 1) 54 [(AVal.obj i0 0), (AVal.str s1)] h =
  (optK (Heap.cell? h i0 0) fun z1 =>
    (runK (evFn Cw d 64 [(HCell.toA z1), (AVal.str s1)] h) fun r2 h2 =>
      (consK r2 fun w3 ws4 =>
        (strK w3 fun ss5 =>
          (consK ws4 fun w6 ws7 =>
            (strK w6 fun ss8 =>
              (consK ws7 fun w9 ws10 =>
                (boolK w9 fun bb11 =>
                  (nilK ws10
                    (runK (evFn Cw d 67 [(AVal.obj i0 0), (AVal.str ss5), (AVal.bool bb11), (AVal.int .i64 2)] h2) fun r12 h12 =>
                      (consK r12 fun w13 ws14 =>
                        (boolK w13 fun bb15 =>
                          (nilK ws14
                            (Tr.ret ([(AVal.bool bb15)], h12))))))))))))))) := by kernel_rfl
/- f55 (*strandline/cursor.Cursor).Next -/
noncomputable def P55_0 (d : Nat) (i0 : Nat) (s1 : List UInt8) (h : Heap) : Tr Res :=
  heldPt Cw d 55 [true, true, true, true] [] ⟨[(0, (EV.one (SV.val (AVal.obj i0 0)))), (3, (EV.one (SV.val (AVal.str s1))))], []⟩ h
theorem P55_0_eq (d : Nat) (i0 : Nat) (s1 : List UInt8) (h : Heap) : P55_0 d i0 s1 h =
  (optK (Heap.cell? h i0 0) fun z1 =>
    (runK (evFn Cw d 64 [(HCell.toA z1), (AVal.str s1)] h) fun r2 h2 =>
      (consK r2 fun w3 ws4 =>
        (strK w3 fun ss5 =>
          (consK ws4 fun w6 ws7 =>
            (strK w6 fun ss8 =>
              (consK ws7 fun w9 ws10 =>
                (boolK w9 fun bb11 =>
                  (nilK ws10
                    (runK (evFn Cw d 67 [(AVal.obj i0 0), (AVal.str ss5), (AVal.bool bb11), (AVal.int .i64 2)] h2) fun r12 h12 =>
                      (consK r12 fun w13 ws14 =>
                        (boolK w13 fun bb15 =>
                          (nilK ws14
                            (Tr.ret ([(AVal.bool bb15)], h12))))))))))))))) := (heldPt_eq _ _ _ _ _ _ _).trans (by kernel_rfl)
theorem F55_eq (d : Nat) (i0 : Nat) (h : Heap) : evFn Cw (d + 1) 55 [(AVal.obj i0 0)] h =
  (optK (Heap.cell? h i0 1) fun z1 =>
    (intK .i64 (HCell.toA z1) fun y2 =>
      (bif ((y2 : Int) == 2) then
        (Tr.ret ([(AVal.bool false)], h))
      else
        (optK (Heap.cell? h i0 1) fun z3 =>
          (intK .i64 (HCell.toA z3) fun y4 =>
            (bif ((y4 : Int) == 1) then
              (optK (Heap.cell? h i0 2) fun z5 =>
                (strK (HCell.toA z5) fun ss6 =>
                  (bif decide (ss6.length + [0].length ≤ 140737488355328) then (P55_0 d i0 (ss6 ++ [0]) h) else Tr.fail)))
            else
              (P55_0 d i0 [] h))))))) := by kernel_rfl
/- f68 (*strandline/cursor.Cursor).On -/
theorem F68_eq (d : Nat) (i0 : Nat) (h : Heap) : evFn Cw (d + 1) 68 [(AVal.obj i0 0)] h =
  (optK (Heap.cell? h i0 1) fun z1 =>
    (intK .i64 (HCell.toA z1) fun y2 =>
      (Tr.ret ([(AVal.bool ((y2 : Int) == 1))], h)))) := by kernel_rfl
/- f56 (*strandline/cursor.Cursor).Pair -/
theorem F56_eq (d : Nat) (i0 : Nat) (h : Heap) : evFn Cw (d + 1) 56 [(AVal.obj i0 0)] h =
  (runK (evFn Cw d 68 [(AVal.obj i0 0)] h) fun r1 h1 =>
    (consK r1 fun w2 ws3 =>
      (boolK w2 fun bb4 =>
        (nilK ws3
          (bif (!bb4) then
            (Tr.ret ([(AVal.agg [(AVal.str []), (AVal.str [])]), (AVal.bool false)], h1))
          else
            (optK (Heap.cell? h1 i0 0) fun z5 =>
              (optK (Heap.cell? h1 i0 2) fun z6 =>
                (strK (HCell.toA z6) fun ss7 =>
                  (runK (evFn Cw d 51 [(HCell.toA z5), (AVal.str ss7)] h1) fun r8 h8 =>
                    (consK r8 fun w9 ws10 =>
                      (strK w9 fun ss11 =>
                        (consK ws10 fun w12 ws13 =>
                          (boolK w12 fun bb14 =>
                            (nilK ws13
                              (bif (!bb14) then
                                (Tr.ret ([(AVal.agg [(AVal.str []), (AVal.str [])]), (AVal.bool false)], h8))
                              else
                                (optK (Heap.cell? h8 i0 2) fun z15 =>
                                  (strK (HCell.toA z15) fun ss16 =>
                                    (Tr.ret ([(AVal.agg [(AVal.str ss16), (AVal.str ss11)]), (AVal.bool true)], h8))))))))))))))))))) := by kernel_rfl
/- f36 strandline/cursor.Range -/
noncomputable def P36_0 (d k : Nat) (s0 : List UInt8) (x1 : Int) (l2 : List AVal) (v3 : AVal) (b4 : Bool) (h : Heap) : Tr Res :=
  loopPt Cw d 36 [true, true, true, false, true, true] [] k ⟨[(2, (EV.one (SV.val (AVal.str s0)))), (3, (EV.one (SV.val (AVal.int .i64 x1)))), (9, (EV.one (SV.own (tokOf 9 0) 3 l2))), (10, (EV.one (SV.val v3))), (11, (EV.one (SV.val (AVal.bool b4))))], []⟩ h
theorem P36_0_eq (d k : Nat) (s0 : List UInt8) (x1 : Int) (l2 : List AVal) (v3 : AVal) (b4 : Bool) (h : Heap) : P36_0 d (k + 1) s0 x1 l2 v3 b4 h =
  (bif b4 then
    (bif (decide (((l2.length : Int) : Int) < x1)) then
      (runK (evFn Cw d 56 [v3] h) fun r1 h1 =>
        (consK r1 fun w2 ws3 =>
          (aggK 2 w2 fun cc4 =>
            (consK ws3 fun w5 ws6 =>
              (boolK w5 fun bb7 =>
                (nilK ws6
                  (bif ((cc4.length == 2) && true) then
                    (bif (!(s0 == [])) then
                      (optK (cc4[0]?) fun w8 =>
                        (strK w8 fun ss9 =>
                          (bif (!(Go.Op.bytesLess ss9 s0)) then
                            (Tr.ret ([(AVal.sl false 3 l2)], h1))
                          else
                            (bif decide (0 + 2 ≤ cc4.length) then
                              (bif ((((cc4.drop 0).take 2).length == 2) && true) then
                                (bif decide ((l2.length + (1 : Nat)) * 32 ≤ 140737488355328) then
                                  (runK (evFn Cw d 55 [v3] h1) fun r10 h10 =>
                                    (consK r10 fun w11 ws12 =>
                                      (boolK w11 fun bb13 =>
                                        (nilK ws12
                                          (P36_0 d k s0 x1 (l2 ++ [(AVal.agg ((cc4.drop 0).take 2))]) v3 bb13 h10)))))
                                else
                                  Tr.fail)
                              else
                                Tr.fail)
                            else
                              Tr.fail))))
                    else
                      (bif decide (0 + 2 ≤ cc4.length) then
                        (bif ((((cc4.drop 0).take 2).length == 2) && true) then
                          (bif decide ((l2.length + (1 : Nat)) * 32 ≤ 140737488355328) then
                            (runK (evFn Cw d 55 [v3] h1) fun r14 h14 =>
                              (consK r14 fun w15 ws16 =>
                                (boolK w15 fun bb17 =>
                                  (nilK ws16
                                    (P36_0 d k s0 x1 (l2 ++ [(AVal.agg ((cc4.drop 0).take 2))]) v3 bb17 h14)))))
                          else
                            Tr.fail)
                        else
                          Tr.fail)
                      else
                        Tr.fail))
                  else
                    Tr.fail)))))))
    else
      (Tr.ret ([(AVal.sl false 3 l2)], h)))
  else
    (Tr.ret ([(AVal.sl false 3 l2)], h))) := by kernel_rfl
theorem F36_eq (d : Nat) (i0 : Nat) (s1 : List UInt8) (s2 : List UInt8) (x3 : Int) (h : Heap) : evFn Cw (d + 1) 36 [(AVal.obj i0 0), (AVal.str s1), (AVal.str s2), (AVal.int .i64 x3)] h =
  (runK (evFn Cw d 53 [(AVal.obj i0 0)] h) fun r1 h1 =>
    (consK r1 fun w2 ws3 =>
      (nilK ws3
        (runK (evFn Cw d 54 [w2, (AVal.str s1)] h1) fun r4 h4 =>
          (consK r4 fun w5 ws6 =>
            (boolK w5 fun bb7 =>
              (nilK ws6
                (P36_0 d rounds s2 x3 [] w2 bb7 h4)))))))) := by kernel_rfl
end Go.Proofs.Ytbddfpakhealbaa.Wa
end

section
/- Cursors. -/
namespace Go.Proofs.Ytbddfpakhealbaa.Wa
open Go Go.Weave
set_option maxRecDepth 100000
set_option linter.unusedSimpArgs false
set_option linter.unusedVariables false
set_option linter.unusedSectionVars false

/-! ### Neighbours in a sorted list -/
theorem blt_next : ∀ (a k : List UInt8), blt a (k ++ [0]) = !(blt k a)
  | [], [] => rfl
  | [], _ :: _ => rfl
  | a :: x, [] => by
    cases x <;> simp [blt, Go.Op.bytesLess]
  | a :: x, b :: y => by
    have ih := blt_next x y
    simp only [blt] at ih
    simp only [blt, List.cons_append, Go.Op.bytesLess, ih]
    rcases Nat.lt_trichotomy a.toNat b.toNat with h | h | h
    · have h1 : a < b := UInt8.lt_iff_toNat_lt.2 h
      have h2 : ¬ b < a := fun h' => by have := UInt8.lt_iff_toNat_lt.1 h'; omega
      have h3 : (b == a) = false := by simp only [beq_eq_false_iff_ne]; intro e; subst e; omega
      simp [h1, h2, h3]
    · have h1 : a = b := UInt8.toNat_inj.1 h
      subst h1
      simp
    · have h1 : b < a := UInt8.lt_iff_toNat_lt.2 h
      have h2 : ¬ a < b := fun h' => by have := UInt8.lt_iff_toNat_lt.1 h'; omega
      have h3 : (a == b) = false := by simp only [beq_eq_false_iff_ne]; intro e; subst e; omega
      simp [h1, h2, h3]
theorem lseek_skip {s : List UInt8} : ∀ {a b : List KPair}, (∀ p ∈ a, blt p.key s = true) → lseek s (a ++ b) = lseek s b
  | [], _, _ => rfl
  | p :: a, b, h => by
    rw [List.cons_append, lseek_cons, if_pos (h p List.mem_cons_self)]
    exact lseek_skip fun q hq => h q (List.mem_cons_of_mem _ hq)
/-- The next one. -/
theorem lseek_succ {a b : List KPair} {p : KPair} (hs : Srt (a ++ p :: b)) : lseek (p.key ++ [0]) (a ++ p :: b) = b.head? := by
  obtain ⟨_, h2, h3, h4⟩ := hs.mid
  rw [lseek_skip fun q hq => by rw [blt_next, blt_asym (h3 q hq)]; rfl, lseek_cons, if_pos (by rw [blt_next, blt_irr]; rfl)]
  cases b with
  | nil => rfl
  | cons q b =>
    rw [lseek_cons, if_neg (by rw [blt_next, h4 q List.mem_cons_self]; simp)]
    rfl
theorem lget_at {a b : List KPair} {p : KPair} (hs : Srt (a ++ p :: b)) : lget p.key (a ++ p :: b) = some p := by
  obtain ⟨_, h2, h3, h4⟩ := hs.mid
  unfold lget
  rw [List.find?_append]
  have : List.find? (fun q => q.key == p.key) a = none := by
    rw [List.find?_eq_none]
    intro x hx
    simpa using blt_ne (h3 x hx)
  rw [this]; simp

/-! ### Cursors -/
def curO (tp : AVal) (w : Int) (k : List UInt8) : Weave.Obj := .cells [HCell.val tp, HCell.val (.int .i64 w), HCell.val (.str k)]
theorem cur_t {h : Heap} {i : Nat} {tp : AVal} {w : Int} {k : List UInt8} (hm : h.objs[i]? = some (curO tp w k)) : h.cell? i 0 = some (HCell.val tp) := by rw [Heap.cell_at hm]; rfl
theorem cur_w {h : Heap} {i : Nat} {tp : AVal} {w : Int} {k : List UInt8} (hm : h.objs[i]? = some (curO tp w k)) : h.cell? i 1 = some (HCell.val (.int .i64 w)) := by rw [Heap.cell_at hm]; rfl
theorem cur_k {h : Heap} {i : Nat} {tp : AVal} {w : Int} {k : List UInt8} (hm : h.objs[i]? = some (curO tp w k)) : h.cell? i 2 = some (HCell.val (.str k)) := by rw [Heap.cell_at hm]; rfl
theorem cur_sw {h : Heap} {i : Nat} {tp : AVal} {w w' : Int} {k : List UInt8} (hm : h.objs[i]? = some (curO tp w k)) : h.setCell i 1 (HCell.val (.int .i64 w')) = h.put i (curO tp w' k) := by rw [Heap.set_at hm]; rfl
theorem cur_sk {h : Heap} {i : Nat} {tp : AVal} {w : Int} {k k' : List UInt8} (hm : h.objs[i]? = some (curO tp w k)) : h.setCell i 2 (HCell.val (.str k')) = h.put i (curO tp w k') := by rw [Heap.set_at hm]; rfl
def curTo (tp : AVal) (o : Option KPair) (e : Int) : Weave.Obj := curO tp (if o.isSome then 1 else e) (oKey o)
theorem to_run {d i : Nat} {tp : AVal} {w e : Int} {k : List UInt8} {o : Option KPair} {h : Heap} {Q : Res → Prop} {tg : Hid Q} (hm : h.objs[i]? = some (curO tp w k)) :
    Run (evFn Cw (d + 1) 67 [.obj i 0, .str (oKey o), .bool o.isSome, .int .i64 e] h) Q tg = Q ([.bool o.isSome], h.put i (curTo tp o e)) := by
  have m1 : (h.put i (curO tp e k)).objs[i]? = some (curO tp e k) := Heap.put_get hm
  have m2 : (h.put i (curO tp e [])).objs[i]? = some (curO tp e []) := Heap.put_get hm
  have m3 : (h.put i (curO tp 1 [])).objs[i]? = some (curO tp 1 []) := Heap.put_get hm
  have s1 := cur_sw (w' := e) hm
  have s2 := cur_sk (k' := []) m1
  have s3 := cur_sw (w' := 1) m2
  have s4 := cur_sk (k' := oKey o) m3
  rw [Heap.put_put] at s2 s3 s4
  rw [F67_eq]
  cases o with
  | none => simp (disch := (first | assumption | (simp only [Bool.and_eq_true, Bool.and_eq_false_iff, decide_eq_true_eq, decide_eq_false_iff_not, bne_iff_ne, beq_iff_eq, beq_eq_false_iff_ne, bne_eq_false_iff_eq, Bool.not_eq_true', Bool.not_eq_false', bys_length, List.length_append, List.length_cons, List.length_nil, List.length_map, List.length_drop, List.length_take, Int.natCast_add, wrap_i64_eq, wrap_u64, wrap_u8, ne_eq, not_true_eq_false, not_false_eq_true, Nat.zero_add, Nat.mul_one] <;> omega) | omega | (simp; done) | (simp; omega))) only [↓CR, MC, ↓PR, MR, cur_w hm, s1, cur_k m1, s2, Option.isSome_none]; rfl
  | some p => simp (disch := (first | assumption | (simp only [Bool.and_eq_true, Bool.and_eq_false_iff, decide_eq_true_eq, decide_eq_false_iff_not, bne_iff_ne, beq_iff_eq, beq_eq_false_iff_ne, bne_eq_false_iff_eq, Bool.not_eq_true', Bool.not_eq_false', bys_length, List.length_append, List.length_cons, List.length_nil, List.length_map, List.length_drop, List.length_take, Int.natCast_add, wrap_i64_eq, wrap_u64, wrap_u8, ne_eq, not_true_eq_false, not_false_eq_true, Nat.zero_add, Nat.mul_one] <;> omega) | omega | (simp; done) | (simp; omega))) only [↓CR, MC, ↓PR, MR, cur_w hm, s1, cur_k m1, s2, Option.isSome_some, cur_w m2, s3, cur_k m3, s4]; rfl

theorem cnew_run {d ti : Nat} {h : Heap} {Q : Res → Prop} {tg : Hid Q} : Run (evFn Cw (d + 1) 53 [.obj ti 0] h) Q tg = Q ([.obj h.objs.length 0], h.push (curO (.obj ti 0) 0 [])) := (at_eq (F53_eq _ _ _)).trans at_ret
theorem con_run {d i : Nat} {tp : AVal} {w : Int} {k : List UInt8} {h : Heap} {Q : Res → Prop} {tg : Hid Q} (hm : h.objs[i]? = some (curO tp w k)) :
    Run (evFn Cw (d + 1) 68 [.obj i 0] h) Q tg = Q ([.bool (w == 1)], h) := by
  rw [F68_eq]
  simp (disch := (first | assumption | (simp only [Bool.and_eq_true, Bool.and_eq_false_iff, decide_eq_true_eq, decide_eq_false_iff_not, bne_iff_ne, beq_iff_eq, beq_eq_false_iff_ne, bne_eq_false_iff_eq, Bool.not_eq_true', Bool.not_eq_false', bys_length, List.length_append, List.length_cons, List.length_nil, List.length_map, List.length_drop, List.length_take, Int.natCast_add, wrap_i64_eq, wrap_u64, wrap_u8, ne_eq, not_true_eq_false, not_false_eq_true, Nat.zero_add, Nat.mul_one] <;> omega) | omega | (simp; done) | (simp; omega))) only [↓CR, MC, ↓PR, MR, cur_w hm]
theorem cseek_run {d i ti : Nat} {t : Nd} {w : Int} {k s : List UInt8} {h : Heap} {Q : Res → Prop} {tg : Hid Q} (ok : TOk' t) (hm : h.objs[i]? = some (curO (.obj ti 0) w k)) (ht : h.objs[ti]? = some (trT t)) :
    Run (evFn Cw (d + 3) 54 [.obj i 0, .str s] h) Q tg = Q ([.bool (lseek s t.toL).isSome], h.put i (curTo (.obj ti 0) (lseek s t.toL) 2)) := by
  have r := fun (Q : Res → Prop) (tg : Hid Q) => tseek_run (d := d) (s := s) (Q := Q) (tg := tg) ok ht
  have q := fun (Q : Res → Prop) (tg : Hid Q) => to_run (d := d + 1) (e := 2) (o := lseek s t.toL) (Q := Q) (tg := tg) hm
  rw [F54_eq]
  simp (disch := (first | assumption | (simp only [Bool.and_eq_true, Bool.and_eq_false_iff, decide_eq_true_eq, decide_eq_false_iff_not, bne_iff_ne, beq_iff_eq, beq_eq_false_iff_ne, bne_eq_false_iff_eq, Bool.not_eq_true', Bool.not_eq_false', bys_length, List.length_append, List.length_cons, List.length_nil, List.length_map, List.length_drop, List.length_take, Int.natCast_add, wrap_i64_eq, wrap_u64, wrap_u8, ne_eq, not_true_eq_false, not_false_eq_true, Nat.zero_add, Nat.mul_one] <;> omega) | omega | (simp; done) | (simp; omega))) only [↓CR, MC, ↓PR, MR, cur_t hm, r, q]
theorem cnext_run {d i ti : Nat} {t : Nd} {w : Int} {k : List UInt8} {h : Heap} {Q : Res → Prop} {tg : Hid Q} (ok : TOk' t) (hm : h.objs[i]? = some (curO (.obj ti 0) w k)) (ht : h.objs[ti]? = some (trT t)) (hw : w ≠ 2) (hk : k.length ≤ 140737488351232) :
    Run (evFn Cw (d + 3) 55 [.obj i 0] h) Q tg = Q ([.bool (lseek (if w = 1 then k ++ [0] else []) t.toL).isSome], h.put i (curTo (.obj ti 0) (lseek (if w = 1 then k ++ [0] else []) t.toL) 2)) := by
  have e : (w == 2) = false := by simpa using hw
  have ez : [(0 : UInt8)].length = 1 := rfl
  have r := fun (s : List UInt8) (Q : Res → Prop) (tg : Hid Q) => tseek_run (d := d) (s := s) (Q := Q) (tg := tg) ok ht
  have q := fun (s : List UInt8) (Q : Res → Prop) (tg : Hid Q) => to_run (d := d + 1) (e := 2) (o := lseek s t.toL) (Q := Q) (tg := tg) hm
  rw [F55_eq]
  by_cases h1 : w = 1
  · have e1 : (w == 1) = true := by simp [h1]
    rw [if_pos h1]
    simp (disch := (first | assumption | (simp only [Bool.and_eq_true, Bool.and_eq_false_iff, decide_eq_true_eq, decide_eq_false_iff_not, bne_iff_ne, beq_iff_eq, beq_eq_false_iff_ne, bne_eq_false_iff_eq, Bool.not_eq_true', Bool.not_eq_false', bys_length, List.length_append, List.length_cons, List.length_nil, List.length_map, List.length_drop, List.length_take, Int.natCast_add, wrap_i64_eq, wrap_u64, wrap_u8, ne_eq, not_true_eq_false, not_false_eq_true, Nat.zero_add, Nat.mul_one] <;> omega) | omega | (simp; done) | (simp; omega))) only [↓CR, MC, ↓PR, MR, cur_w hm, e, e1, cur_k hm, ez, P55_0_eq, cur_t hm, r, q]
  · have e1 : (w == 1) = false := by simpa using h1
    rw [if_neg h1]
    simp (disch := (first | assumption | (simp only [Bool.and_eq_true, Bool.and_eq_false_iff, decide_eq_true_eq, decide_eq_false_iff_not, bne_iff_ne, beq_iff_eq, beq_eq_false_iff_ne, bne_eq_false_iff_eq, Bool.not_eq_true', Bool.not_eq_false', bys_length, List.length_append, List.length_cons, List.length_nil, List.length_map, List.length_drop, List.length_take, Int.natCast_add, wrap_i64_eq, wrap_u64, wrap_u8, ne_eq, not_true_eq_false, not_false_eq_true, Nat.zero_add, Nat.mul_one] <;> omega) | omega | (simp; done) | (simp; omega))) only [↓CR, MC, ↓PR, MR, cur_w hm, e, e1, P55_0_eq, cur_t hm, r, q]
theorem cpair_run {d i ti : Nat} {t : Nd} {w : Int} {k : List UInt8} {h : Heap} {Q : Res → Prop} {tg : Hid Q} (ok : TOk' t) (hm : h.objs[i]? = some (curO (.obj ti 0) w k)) (ht : h.objs[ti]? = some (trT t)) :
    Run (evFn Cw (d + 4) 56 [.obj i 0] h) Q tg = Q (if w = 1 ∧ (lget k t.toL).isSome = true then [.agg [.str k, .str (oVal (lget k t.toL))], .bool true] else [.agg [.str [], .str []], .bool false], h) := by
  have r := fun (Q : Res → Prop) (tg : Hid Q) => con_run (d := d + 2) (Q := Q) (tg := tg) hm
  have g := fun (Q : Res → Prop) (tg : Hid Q) => tget_run (d := d) (s := k) (Q := Q) (tg := tg) ok ht
  rw [F56_eq]
  by_cases h1 : w = 1
  · have e1 : (w == 1) = true := by simp [h1]
    cases hg : (lget k t.toL).isSome
    · rw [if_neg (by simp)]
      rw [hg] at g
      simp (disch := (first | assumption | (simp only [Bool.and_eq_true, Bool.and_eq_false_iff, decide_eq_true_eq, decide_eq_false_iff_not, bne_iff_ne, beq_iff_eq, beq_eq_false_iff_ne, bne_eq_false_iff_eq, Bool.not_eq_true', Bool.not_eq_false', bys_length, List.length_append, List.length_cons, List.length_nil, List.length_map, List.length_drop, List.length_take, Int.natCast_add, wrap_i64_eq, wrap_u64, wrap_u8, ne_eq, not_true_eq_false, not_false_eq_true, Nat.zero_add, Nat.mul_one] <;> omega) | omega | (simp; done) | (simp; omega))) only [↓CR, MC, ↓PR, MR, r, e1, Bool.not_true, cur_t hm, cur_k hm, g, Bool.not_false]
    · rw [if_pos ⟨h1, rfl⟩]
      rw [hg] at g
      simp (disch := (first | assumption | (simp only [Bool.and_eq_true, Bool.and_eq_false_iff, decide_eq_true_eq, decide_eq_false_iff_not, bne_iff_ne, beq_iff_eq, beq_eq_false_iff_ne, bne_eq_false_iff_eq, Bool.not_eq_true', Bool.not_eq_false', bys_length, List.length_append, List.length_cons, List.length_nil, List.length_map, List.length_drop, List.length_take, Int.natCast_add, wrap_i64_eq, wrap_u64, wrap_u8, ne_eq, not_true_eq_false, not_false_eq_true, Nat.zero_add, Nat.mul_one] <;> omega) | omega | (simp; done) | (simp; omega))) only [↓CR, MC, ↓PR, MR, r, e1, Bool.not_true, cur_t hm, cur_k hm, g]
  · have e1 : (w == 1) = false := by simpa using h1
    rw [if_neg (fun h => h1 h.1)]
    simp (disch := (first | assumption | (simp only [Bool.and_eq_true, Bool.and_eq_false_iff, decide_eq_true_eq, decide_eq_false_iff_not, bne_iff_ne, beq_iff_eq, beq_eq_false_iff_ne, bne_eq_false_iff_eq, Bool.not_eq_true', Bool.not_eq_false', bys_length, List.length_append, List.length_cons, List.length_nil, List.length_map, List.length_drop, List.length_take, Int.natCast_add, wrap_i64_eq, wrap_u64, wrap_u8, ne_eq, not_true_eq_false, not_false_eq_true, Nat.zero_add, Nat.mul_one] <;> omega) | omega | (simp; done) | (simp; omega))) only [↓CR, MC, ↓PR, MR, r, e1, Bool.not_false]

/-! ### Back -/
/-- What is as it was, but one object. -/
structure Heap.but (h h' : Heap) (i : Nat) : Prop where
  len : h.objs.length ≤ h'.objs.length
  old : ∀ j, j ≠ i → j < h.objs.length → h'.objs[j]? = h.objs[j]?
theorem Heap.but.get {h h' : Heap} {i j : Nat} (e : Heap.but h h' i) (hj : j ≠ i) {o : Weave.Obj} (hm : h.objs[j]? = some o) : h'.objs[j]? = some o := by rw [e.old j hj (Heap.lt_of hm)]; exact hm
/-! ### Cursors of nothing -/
/-! ### Ranges -/
def inTo (to : List UInt8) (k : List UInt8) : Bool := (to == []) || blt k to
/-- By the reference. -/
def rngR (fr to : List UInt8) (most : Int) : List KPair → List KPair → List KPair
  | [], acc => acc
  | p :: l, acc => if (acc.length : Int) < most then (if (!blt p.key fr && inTo to p.key) = true then rngR fr to most l (acc ++ [p]) else rngR fr to most l acc) else acc
/-- By a cursor. -/
def rngC (to : List UInt8) (most : Int) : List KPair → List KPair → List KPair
  | [], acc => acc
  | p :: l, acc => if (acc.length : Int) < most then (if inTo to p.key = true then rngC to most l (acc ++ [p]) else acc) else acc
theorem rngR_out {fr to : List UInt8} {most : Int} : ∀ {l acc : List KPair}, (∀ p ∈ l, inTo to p.key = false) → rngR fr to most l acc = acc
  | [], _, _ => rfl
  | p :: l, acc, h => by
    unfold rngR
    rw [h p List.mem_cons_self]
    simp only [Bool.and_false, Bool.false_eq_true, if_false]
    split
    · exact rngR_out fun q hq => h q (List.mem_cons_of_mem _ hq)
    · rfl
theorem rngR_in {fr to : List UInt8} {most : Int} : ∀ {l acc : List KPair}, Srt l → (∀ p ∈ l, blt p.key fr = false) → rngR fr to most l acc = rngC to most l acc
  | [], _, _, _ => rfl
  | p :: l, acc, hs, h => by
    have ⟨h1, h2⟩ := List.pairwise_cons.1 hs
    unfold rngR rngC
    rw [h p List.mem_cons_self]
    simp only [Bool.not_false, Bool.true_and]
    split
    · split
      · exact rngR_in h2 fun q hq => h q (List.mem_cons_of_mem _ hq)
      · rename_i c
        refine rngR_out fun q hq => ?_
        unfold inTo at c ⊢
        simp only [Bool.or_eq_true, not_or, Bool.not_eq_true] at c
        rw [c.1, Bool.false_or]
        cases hb : blt q.key to
        · rfl
        · have := blt_trans (h1 q hq) hb
          rw [this] at c; simp at c
    · rfl
theorem rngR_skip {fr to : List UInt8} {most : Int} : ∀ {a b acc : List KPair}, (∀ p ∈ a, blt p.key fr = true) → rngR fr to most (a ++ b) acc = rngR fr to most b acc
  | [], _, _, _ => rfl
  | p :: a, b, acc, h => by
    rw [List.cons_append]
    conv => lhs; unfold rngR
    rw [h p List.mem_cons_self]
    simp only [Bool.not_true, Bool.false_and, Bool.false_eq_true, if_false]
    split
    · exact rngR_skip fun q hq => h q (List.mem_cons_of_mem _ hq)
    · rename_i c
      cases b with
      | nil => rfl
      | cons q b => unfold rngR; rw [if_neg c]
theorem split_at (fr : List UInt8) : ∀ {l : List KPair}, Srt l → ∃ a b, l = a ++ b ∧ (∀ p ∈ a, blt p.key fr = true) ∧ (∀ p ∈ b, blt p.key fr = false)
  | [], _ => ⟨[], [], rfl, by simp, by simp⟩
  | p :: l, hs => by
    have ⟨h1, h2⟩ := List.pairwise_cons.1 hs
    by_cases c : blt p.key fr = true
    · obtain ⟨a, b, e, ha, hb⟩ := split_at fr h2
      exact ⟨p :: a, b, by rw [e]; rfl, fun q hq => (List.mem_cons.1 hq).elim (fun e => e ▸ c) (ha q), hb⟩
    · refine ⟨[], p :: l, rfl, by simp, fun q hq => ?_⟩
      rcases List.mem_cons.1 hq with rfl | hq
      · simpa using c
      · cases hb : blt q.key fr
        · rfl
        · exact absurd (blt_trans (h1 q hq) hb) c
/-! ### A cursor at a place -/
theorem cut_at {l : List KPair} {n : Nat} (h : n < l.length) : l = l.take n ++ l[n] :: l.drop (n + 1) := by
  rw [← List.drop_eq_getElem_cons h, List.take_append_drop]
theorem next_at' {l : List KPair} (hs : Srt l) {n : Nat} (hn : n < l.length) : lseek (l[n].key ++ [0]) l = l[n + 1]? := by
  have hc := cut_at hn
  have := lseek_succ (a := l.take n) (p := l[n]) (b := l.drop (n + 1)) (by rw [← hc]; exact hs)
  rw [← hc] at this
  rw [this, List.head?_drop]
theorem get_at {l : List KPair} (hs : Srt l) {n : Nat} (hn : n < l.length) : lget l[n].key l = some l[n] := by
  have hc := cut_at hn
  have := lget_at (a := l.take n) (p := l[n]) (b := l.drop (n + 1)) (by rw [← hc]; exact hs)
  rw [← hc] at this
  exact this
theorem curTo_some (tp : AVal) (p : KPair) (e : Int) : curTo tp (some p) e = curO tp 1 p.key := rfl
theorem isSome_some' (p : KPair) : (some p).isSome = true := rfl
theorem isSome_none' : (none : Option KPair).isSome = false := rfl
theorem crange_loop (d i ti : Nat) (to : List UInt8) (most : Int) (t : Nd) (ok : TOk' t) (hlk : ∀ p ∈ t.toL, p.key.length ≤ 140737488351232) (hti : ti ≠ i) : ∀ (n j k : Nat) (acc : List KPair) (h : Heap), t.toL.length = j + n → n < k → acc.length ≤ j →
    h.objs[i]? = some (curTo (.obj ti 0) t.toL[j]? 2) → h.objs[ti]? = some (trT t) → ∃ h', Heap.but h h' i ∧ ∀ (Q : Res → Prop) (tg : Hid Q),
      Run (P36_0 (d + 4) k to most (prs acc) (.obj i 0) t.toL[j]?.isSome h) Q tg = Q ([.sl false 3 (prs (rngC to most (t.toL.drop j) acc))], h') := by
  intro n
  induction n with
  | zero =>
    intro j k acc h hj hk ha hm ht
    obtain ⟨k, rfl⟩ : ∃ m, k = m + 1 := ⟨k - 1, by omega⟩
    have hd : t.toL.drop j = [] := List.drop_eq_nil_of_le (by omega)
    have hn : t.toL[j]? = none := List.getElem?_eq_none (by omega)
    refine ⟨h, ⟨Nat.le_refl _, fun _ _ _ => rfl⟩, fun Q tg => ?_⟩
    rw [P36_0_eq, hd, hn]
    simp (disch := (first | assumption | (simp only [Bool.and_eq_true, Bool.and_eq_false_iff, decide_eq_true_eq, decide_eq_false_iff_not, bne_iff_ne, beq_iff_eq, beq_eq_false_iff_ne, bne_eq_false_iff_eq, Bool.not_eq_true', Bool.not_eq_false', bys_length, List.length_append, List.length_cons, List.length_nil, List.length_map, List.length_drop, List.length_take, Int.natCast_add, wrap_i64_eq, wrap_u64, wrap_u8, ne_eq, not_true_eq_false, not_false_eq_true, Nat.zero_add, Nat.mul_one] <;> omega) | omega | (simp; done) | (simp; omega))) only [↓CR, MC, ↓PR, MR, isSome_none']
    rfl
  | succ n ih =>
    intro j k acc h hj hk ha hm ht
    obtain ⟨k, rfl⟩ : ∃ m, k = m + 1 := ⟨k - 1, by omega⟩
    have hlen := ok.len
    have h1 : j < t.toL.length := by omega
    have hn : t.toL[j]? = some t.toL[j] := List.getElem?_eq_getElem h1
    rw [hn, curTo_some] at hm
    rw [hn, List.drop_eq_getElem_cons h1]
    unfold rngC
    have hg := get_at ok.srt h1
    have rp := fun (Q : Res → Prop) (tg : Hid Q) => cpair_run (d := d) (Q := Q) (tg := tg) ok hm ht
    rw [hg] at rp
    simp only [isSome_some', and_self, if_true] at rp
    have ev : oVal (some t.toL[j]) = t.toL[j].val := rfl
    rw [ev] at rp
    by_cases c0 : (acc.length : Int) < most
    · have rn := fun (Q : Res → Prop) (tg : Hid Q) => cnext_run (d := d + 1) (Q := Q) (tg := tg) ok hm ht (by decide) (hlk _ (List.getElem_mem h1))
      have en := next_at' ok.srt h1
      simp only [if_true] at rn
      rw [en] at rn
      have ea : prs acc ++ [.agg [.str t.toL[j].key, .str t.toL[j].val]] = prs (acc ++ [t.toL[j]]) := prs_snoc acc t.toL[j].key t.toL[j].val
      obtain ⟨h', E, r⟩ := ih (j + 1) k (acc ++ [t.toL[j]]) (h.put i (curTo (.obj ti 0) t.toL[j + 1]? 2)) (by omega) (by omega) (by simp; omega) (Heap.put_get hm) (by rw [Heap.put_ne (Ne.symm hti)]; exact ht)
      rw [if_pos c0]
      have E' : Heap.but h h' i := ⟨by have := E.len; rw [Heap.put_len] at this; exact this, fun q hq hl => by rw [E.old q hq (by rw [Heap.put_len]; exact hl), Heap.put_ne (Ne.symm hq)]⟩
      cases c2 : (to == [])
      · unfold inTo
        rw [c2, Bool.false_or]
        cases c3 : blt t.toL[j].key to
        · have c3' : Go.Op.bytesLess t.toL[j].key to = false := c3
          refine ⟨h, ⟨Nat.le_refl _, fun _ _ _ => rfl⟩, fun Q tg => ?_⟩
          rw [P36_0_eq, if_neg (by simp)]
          simp (disch := (first | assumption | (simp only [Bool.and_eq_true, Bool.and_eq_false_iff, decide_eq_true_eq, decide_eq_false_iff_not, bne_iff_ne, beq_iff_eq, beq_eq_false_iff_ne, bne_eq_false_iff_eq, Bool.not_eq_true', Bool.not_eq_false', bys_length, List.length_append, List.length_cons, List.length_nil, List.length_map, List.length_drop, List.length_take, Int.natCast_add, wrap_i64_eq, wrap_u64, wrap_u8, ne_eq, not_true_eq_false, not_false_eq_true, Nat.zero_add, Nat.mul_one] <;> omega) | omega | (simp; done) | (simp; omega))) only [↓CR, MC, ↓PR, MR, isSome_some', prs_length, c0, rp, c2, Bool.not_false, c3']
        · have c3' : Go.Op.bytesLess t.toL[j].key to = true := c3
          refine ⟨h', E', fun Q tg => ?_⟩
          rw [P36_0_eq, if_pos rfl]
          simp (disch := (first | assumption | (simp only [Bool.and_eq_true, Bool.and_eq_false_iff, decide_eq_true_eq, decide_eq_false_iff_not, bne_iff_ne, beq_iff_eq, beq_eq_false_iff_ne, bne_eq_false_iff_eq, Bool.not_eq_true', Bool.not_eq_false', bys_length, List.length_append, List.length_cons, List.length_nil, List.length_map, List.length_drop, List.length_take, Int.natCast_add, wrap_i64_eq, wrap_u64, wrap_u8, ne_eq, not_true_eq_false, not_false_eq_true, Nat.zero_add, Nat.mul_one] <;> omega) | omega | (simp; done) | (simp; omega))) only [↓CR, MC, ↓PR, MR, isSome_some', prs_length, c0, rp, c2, Bool.not_false, c3', Bool.not_true, ea, rn, r]
      · unfold inTo
        rw [c2, Bool.true_or, if_pos rfl]
        refine ⟨h', E', fun Q tg => ?_⟩
        rw [P36_0_eq]
        simp (disch := (first | assumption | (simp only [Bool.and_eq_true, Bool.and_eq_false_iff, decide_eq_true_eq, decide_eq_false_iff_not, bne_iff_ne, beq_iff_eq, beq_eq_false_iff_ne, bne_eq_false_iff_eq, Bool.not_eq_true', Bool.not_eq_false', bys_length, List.length_append, List.length_cons, List.length_nil, List.length_map, List.length_drop, List.length_take, Int.natCast_add, wrap_i64_eq, wrap_u64, wrap_u8, ne_eq, not_true_eq_false, not_false_eq_true, Nat.zero_add, Nat.mul_one] <;> omega) | omega | (simp; done) | (simp; omega))) only [↓CR, MC, ↓PR, MR, isSome_some', prs_length, c0, rp, c2, Bool.not_true, ea, rn, r]
    · rw [if_neg c0]
      refine ⟨h, ⟨Nat.le_refl _, fun _ _ _ => rfl⟩, fun Q tg => ?_⟩
      rw [P36_0_eq]
      simp (disch := (first | assumption | (simp only [Bool.and_eq_true, Bool.and_eq_false_iff, decide_eq_true_eq, decide_eq_false_iff_not, bne_iff_ne, beq_iff_eq, beq_eq_false_iff_ne, bne_eq_false_iff_eq, Bool.not_eq_true', Bool.not_eq_false', bys_length, List.length_append, List.length_cons, List.length_nil, List.length_map, List.length_drop, List.length_take, Int.natCast_add, wrap_i64_eq, wrap_u64, wrap_u8, ne_eq, not_true_eq_false, not_false_eq_true, Nat.zero_add, Nat.mul_one] <;> omega) | omega | (simp; done) | (simp; omega))) only [↓CR, MC, ↓PR, MR, isSome_some', prs_length, c0]
theorem crange_run (d ti : Nat) (fr to : List UInt8) (most : Int) (t : Nd) (ok : TOk' t) (hlk : ∀ p ∈ t.toL, p.key.length ≤ 140737488351232) (h : Heap) (ht : h.objs[ti]? = some (trT t)) :
    ∃ h', h.ext h' ∧ ∀ (Q : Res → Prop) (tg : Hid Q), Run (evFn Cw (d + 5) 36 [.obj ti 0, .str fr, .str to, .int .i64 most] h) Q tg = Q ([.sl false 3 (prs (rngR fr to most t.toL []))], h') := by
  have hlt := Heap.lt_of ht
  have hlen := ok.len
  obtain ⟨a, b, e, ha, hb⟩ := split_at fr ok.srt
  have hbs : Srt b := by have := ok.srt; rw [e] at this; exact (List.pairwise_append.1 this).2.1
  have er : rngR fr to most t.toL [] = rngC to most (t.toL.drop a.length) [] := by
    have : t.toL.drop a.length = b := by rw [e]; simp
    rw [this, ← rngR_in hbs hb]
    conv => lhs; rw [e]
    exact rngR_skip ha
  have es : lseek fr t.toL = t.toL[a.length]? := by
    rw [e, lseek_skip ha, List.getElem?_append_right (Nat.le_refl _), Nat.sub_self]
    cases b with
    | nil => rfl
    | cons p b => rw [lseek_cons, if_neg (by rw [hb p List.mem_cons_self]; simp)]; rfl
  have E1 := Heap.ext.push h (curO (.obj ti 0) 0 [])
  have m1 := Heap.push_new h (curO (.obj ti 0) 0 [])
  have rs := fun (Q : Res → Prop) (tg : Hid Q) => cseek_run (d := d + 1) (s := fr) (Q := Q) (tg := tg) ok m1 (E1.get ht)
  rw [es] at rs
  have hal : a.length ≤ t.toL.length := by rw [e]; simp
  obtain ⟨h', E, r⟩ := crange_loop d h.objs.length ti to most t ok hlk (by omega) (t.toL.length - a.length) a.length rounds [] ((h.push (curO (.obj ti 0) 0 [])).put h.objs.length (curTo (.obj ti 0) t.toL[a.length]? 2)) (by omega) (rounds_gt' (by omega)) (by simp) (Heap.put_get m1) (by rw [Heap.put_ne (by omega)]; exact E1.get ht)
  refine ⟨h', ⟨?_, fun j hj => ?_⟩, fun Q tg => ?_⟩
  · have := E.len; rw [Heap.put_len, Heap.push_len] at this; omega
  · rw [E.old j (by omega) (by rw [Heap.put_len, Heap.push_len]; omega), Heap.put_ne (by omega), Heap.push_old hj]
  · rw [prs_nil] at r
    rw [F36_eq, er]
    simp (disch := (first | assumption | (simp only [Bool.and_eq_true, Bool.and_eq_false_iff, decide_eq_true_eq, decide_eq_false_iff_not, bne_iff_ne, beq_iff_eq, beq_eq_false_iff_ne, bne_eq_false_iff_eq, Bool.not_eq_true', Bool.not_eq_false', bys_length, List.length_append, List.length_cons, List.length_nil, List.length_map, List.length_drop, List.length_take, Int.natCast_add, wrap_i64_eq, wrap_u64, wrap_u8, ne_eq, not_true_eq_false, not_false_eq_true, Nat.zero_add, Nat.mul_one] <;> omega) | omega | (simp; done) | (simp; omega))) only [↓CR, MC, ↓PR, MR, cnew_run, rs, r]
end Go.Proofs.Ytbddfpakhealbaa.Wa
end

section
/- What the evaluator comes to in these functions. -/
namespace Go.Proofs.Ytbddfpakhealbaa.Wa
open Go Go.Weave
set_option maxRecDepth 100000
set_option linter.unusedVariables false
/- f27 strandline/table.New -/
theorem F27_eq (d : Nat) (h : Heap) : evFn Cw (d + 1) 27 [] h =
  (runK (evFn Cw d 33 [] h) fun r1 h1 =>
    (consK r1 fun w2 ws3 =>
      (nilK ws3
        (bif (((!(AVal.isAgg w2)) && true) && true) then
          (Tr.ret ([(AVal.obj h1.objs.length 0)], (Heap.push h1 (Go.Weave.Obj.cells ([w2, (AVal.int .i64 0)].map HCell.val)))))
        else
          Tr.fail)))) := by kernel_rfl
/- f23 strandline/op.Right -/
theorem F23_eq (d : Nat) (x0 : Int) (s1 : List UInt8) (s2 : List UInt8) (h : Heap) : evFn Cw (d + 1) 23 [(AVal.agg [(AVal.int .i64 x0), (AVal.str s1), (AVal.str s2)])] h =
  (bif (decide (((s1.length : Int) : Int) < 1)) then
    (Tr.ret ([(AVal.bool false)], h))
  else
    (bif (decide (((s1.length : Int) : Int) > 24)) then
      (Tr.ret ([(AVal.bool false)], h))
    else
      (bif ((x0 : Int) == 1) then
        (Tr.ret ([(AVal.bool (decide (((s2.length : Int) : Int) ≤ 128)))], h))
      else
        (bif ((x0 : Int) == 2) then (Tr.ret ([(AVal.bool (s2 == []))], h)) else (Tr.ret ([(AVal.bool false)], h)))))) := by kernel_rfl
/- f34 (*strandline/table.Table).put -/
theorem F34_eq (d : Nat) (i0 : Nat) (s1 : List UInt8) (s2 : List UInt8) (h : Heap) : evFn Cw (d + 1) 34 [(AVal.obj i0 0), (AVal.str s1), (AVal.str s2)] h =
  (optK (Heap.cell? h i0 0) fun z1 =>
    (runK (evFn Cw d 50 [(HCell.toA z1), (AVal.str s1), (AVal.str s2)] h) fun r2 h2 =>
      (consK r2 fun w3 ws4 =>
        (strK w3 fun ss5 =>
          (consK ws4 fun w6 ws7 =>
            (boolK w6 fun bb8 =>
              (nilK ws7
                (optK (Heap.cell? h2 i0 1) fun z9 =>
                  (intK .i64 (HCell.toA z9) fun y10 =>
                    (optK (Heap.cell? h2 i0 1) fun _ =>
                      (bif (!bb8) then
                        (optK (Heap.cell? (Heap.setCell h2 i0 1 (HCell.val (AVal.int .i64 (IntKind.i64.wrap (y10 + (IntKind.i64.wrap ((s2.length : Int) - (ss5.length : Int)))))))) i0 1) fun z11 =>
                          (intK .i64 (HCell.toA z11) fun y12 =>
                            (optK (Heap.cell? (Heap.setCell h2 i0 1 (HCell.val (AVal.int .i64 (IntKind.i64.wrap (y10 + (IntKind.i64.wrap ((s2.length : Int) - (ss5.length : Int)))))))) i0 1) fun _ =>
                              (Tr.ret ([], (Heap.setCell (Heap.setCell h2 i0 1 (HCell.val (AVal.int .i64 (IntKind.i64.wrap (y10 + (IntKind.i64.wrap ((s2.length : Int) - (ss5.length : Int)))))))) i0 1 (HCell.val (AVal.int .i64 (IntKind.i64.wrap (y12 + (s1.length : Int)))))))))))
                      else
                        (Tr.ret ([], (Heap.setCell h2 i0 1 (HCell.val (AVal.int .i64 (IntKind.i64.wrap (y10 + (IntKind.i64.wrap ((s2.length : Int) - (ss5.length : Int))))))))))))))))))))) := by kernel_rfl
/- f28 (*strandline/table.Table).Apply -/
noncomputable def P28_0 (d k : Nat) (i0 : Nat) (x1 : Int) (f2 : Bool) (l3 : List AVal) (x4 : Int) (x5 : Int) (h : Heap) : Tr Res :=
  loopPt Cw d 28 [true, true, false, true, true] [] k ⟨[(0, (EV.one (SV.val (AVal.obj i0 0)))), (5, (EV.one (SV.val (AVal.int .i64 x1)))), (10, (EV.one (SV.val (AVal.sl f2 4 l3)))), (11, (EV.one (SV.val (AVal.int .i64 x4)))), (12, (EV.one (SV.val (AVal.int .i64 x5))))], []⟩ h
theorem P28_0_eq (d k : Nat) (i0 : Nat) (x1 : Int) (f2 : Bool) (l3 : List AVal) (x4 : Int) (x5 : Int) (h : Heap) : P28_0 d (k + 1) i0 x1 f2 l3 x4 x5 h =
  (bif (decide ((x5 : Int) < x4)) then
    (bif (decide ((0 : Int) ≤ x5) && decide ((x5 : Int) < (l3.length : Int))) then
      (aggK 3 (l3.getD (Int.toNat x5) AVal.undef) fun cc1 =>
        (bif ((cc1.length == 3) && true) then
          (bif decide (0 + 3 ≤ cc1.length) then
            (runK (evFn Cw d 23 [(AVal.agg ((cc1.drop 0).take 3))] h) fun r2 h2 =>
              (consK r2 fun w3 ws4 =>
                (boolK w3 fun bb5 =>
                  (nilK ws4
                    (bif (!bb5) then
                      (P28_0 d k i0 x1 f2 l3 x4 (IntKind.i64.wrap (x5 + 1)) h2)
                    else
                      (optK (cc1[0]?) fun w6 =>
                        (intK .i64 w6 fun y7 =>
                          (bif ((y7 : Int) == 1) then
                            (optK (cc1[1]?) fun w8 =>
                              (strK w8 fun ss9 =>
                                (optK (cc1[2]?) fun w10 =>
                                  (strK w10 fun ss11 =>
                                    (runK (evFn Cw d 34 [(AVal.obj i0 0), (AVal.str ss9), (AVal.str ss11)] h2) fun r12 h12 =>
                                      (nilK r12
                                        (P28_0 d k i0 (IntKind.i64.wrap (x1 + 1)) f2 l3 x4 (IntKind.i64.wrap (x5 + 1)) h12)))))))
                          else
                            (optK (Heap.cell? h2 i0 0) fun z13 =>
                              (optK (cc1[1]?) fun w14 =>
                                (strK w14 fun ss15 =>
                                  (runK (evFn Cw d 35 [(HCell.toA z13), (AVal.str ss15)] h2) fun r16 h16 =>
                                    (consK r16 fun w17 ws18 =>
                                      (strK w17 fun ss19 =>
                                        (consK ws18 fun w20 ws21 =>
                                          (boolK w20 fun bb22 =>
                                            (nilK ws21
                                              (bif bb22 then
                                                (optK (Heap.cell? h16 i0 1) fun z23 =>
                                                  (intK .i64 (HCell.toA z23) fun y24 =>
                                                    (optK (cc1[1]?) fun w25 =>
                                                      (strK w25 fun ss26 =>
                                                        (optK (Heap.cell? h16 i0 1) fun _ =>
                                                          (P28_0 d k i0 (IntKind.i64.wrap (x1 + 1)) f2 l3 x4 (IntKind.i64.wrap (x5 + 1)) (Heap.setCell h16 i0 1 (HCell.val (AVal.int .i64 (IntKind.i64.wrap (y24 - (IntKind.i64.wrap ((ss26.length : Int) + (ss19.length : Int))))))))))))))
                                              else
                                                (P28_0 d k i0 (IntKind.i64.wrap (x1 + 1)) f2 l3 x4 (IntKind.i64.wrap (x5 + 1)) h16)))))))))))))))))))
          else
            Tr.fail)
        else
          Tr.fail))
    else
      Tr.fail)
  else
    (Tr.ret ([(AVal.int .i64 x1)], h))) := by kernel_rfl
theorem F28_eq (d : Nat) (i0 : Nat) (f1 : Bool) (l2 : List AVal) (h : Heap) : evFn Cw (d + 1) 28 [(AVal.obj i0 0), (AVal.sl f1 4 l2)] h =
  (P28_0 d rounds i0 0 f1 l2 (l2.length : Int) 0 h) := by kernel_rfl
/- f37 (*strandline/table.Table).tree -/
theorem F37_eq (d : Nat) (i0 : Nat) (h : Heap) : evFn Cw (d + 1) 37 [(AVal.obj i0 0)] h =
  (optK (Heap.cell? h i0 0) fun z1 =>
    (Tr.ret ([(HCell.toA z1)], h))) := by kernel_rfl
/- f30 (*strandline/table.Table).Len -/
theorem F30_eq (d : Nat) (i0 : Nat) (h : Heap) : evFn Cw (d + 1) 30 [(AVal.obj i0 0)] h =
  (runK (evFn Cw d 37 [(AVal.obj i0 0)] h) fun r1 h1 =>
    (consK r1 fun w2 ws3 =>
      (nilK ws3
        (runK (evFn Cw d 38 [w2] h1) fun r4 h4 =>
          (consK r4 fun w5 ws6 =>
            (intK .i64 w5 fun y7 =>
              (nilK ws6
                (Tr.ret ([(AVal.int .i64 y7)], h4))))))))) := by kernel_rfl
/- f29 (*strandline/table.Table).Range -/
theorem F29_eq (d : Nat) (i0 : Nat) (s1 : List UInt8) (s2 : List UInt8) (x3 : Int) (h : Heap) : evFn Cw (d + 1) 29 [(AVal.obj i0 0), (AVal.str s1), (AVal.str s2), (AVal.int .i64 x3)] h =
  (runK (evFn Cw d 37 [(AVal.obj i0 0)] h) fun r1 h1 =>
    (consK r1 fun w2 ws3 =>
      (nilK ws3
        (runK (evFn Cw d 36 [w2, (AVal.str s1), (AVal.str s2), (AVal.int .i64 x3)] h1) fun r4 h4 =>
          (consK r4 fun w5 ws6 =>
            (slOK 3 w5 fun es7 =>
              (nilK ws6
                (Tr.ret ([(AVal.sl false 3 es7)], h4))))))))) := by kernel_rfl
/- f19 (*strandline/table.Table).Pairs -/
theorem F19_eq (d : Nat) (i0 : Nat) (h : Heap) : evFn Cw (d + 1) 19 [(AVal.obj i0 0)] h =
  (runK (evFn Cw d 30 [(AVal.obj i0 0)] h) fun r1 h1 =>
    (consK r1 fun w2 ws3 =>
      (intK .i64 w2 fun y4 =>
        (nilK ws3
          (runK (evFn Cw d 29 [(AVal.obj i0 0), (AVal.str []), (AVal.str []), (AVal.int .i64 y4)] h1) fun r5 h5 =>
            (consK r5 fun w6 ws7 =>
              (slOK 3 w6 fun es8 =>
                (nilK ws7
                  (Tr.ret ([(AVal.sl false 3 es8)], h5)))))))))) := by kernel_rfl
/- f20 strandline/strandlineref10.Right -/
theorem F20_eq (d : Nat) (x0 : Int) (s1 : List UInt8) (s2 : List UInt8) (h : Heap) : evFn Cw (d + 1) 20 [(AVal.agg [(AVal.int .i64 x0), (AVal.str s1), (AVal.str s2)])] h =
  (bif (((s1.length : Int) : Int) == 0) then
    (Tr.ret ([(AVal.bool false)], h))
  else
    (bif (decide (((s1.length : Int) : Int) > 24)) then
      (Tr.ret ([(AVal.bool false)], h))
    else
      (bif (decide (((s2.length : Int) : Int) > 128)) then
        (Tr.ret ([(AVal.bool false)], h))
      else
        (bif ((x0 : Int) == 1) then
          (Tr.ret ([(AVal.bool true)], h))
        else
          (bif ((x0 : Int) == 2) then (Tr.ret ([(AVal.bool (s2 == []))], h)) else (Tr.ret ([(AVal.bool false)], h))))))) := by kernel_rfl
/- f11 strandline/strandlineref33.Apply -/
noncomputable def P11_0 (d k : Nat) (f0 : Bool) (l1 : List AVal) (f2 : Bool) (l3 : List AVal) (x4 : Int) (x5 : Int) (h : Heap) : Tr Res :=
  loopPt Cw d 11 [true, true, false, true, true] [] k ⟨[(0, (EV.one (SV.val (AVal.sl f0 3 l1)))), (1, (EV.one (SV.val (AVal.sl f2 4 l3)))), (6, (EV.one (SV.val (AVal.int .i64 x4)))), (7, (EV.one (SV.val (AVal.int .i64 x5))))], []⟩ h
theorem P11_0_eq (d k : Nat) (f0 : Bool) (l1 : List AVal) (f2 : Bool) (l3 : List AVal) (x4 : Int) (x5 : Int) (h : Heap) : P11_0 d (k + 1) f0 l1 f2 l3 x4 x5 h =
  (bif (decide ((x5 : Int) < (l3.length : Int))) then
    (bif (decide ((0 : Int) ≤ x5) && decide ((x5 : Int) < (l3.length : Int))) then
      (aggK 3 (l3.getD (Int.toNat x5) AVal.undef) fun cc1 =>
        (runK (evFn Cw d 20 [(AVal.agg cc1)] h) fun r2 h2 =>
          (consK r2 fun w3 ws4 =>
            (boolK w3 fun bb5 =>
              (nilK ws4
                (bif (!bb5) then
                  (P11_0 d k f0 l1 f2 l3 x4 (IntKind.i64.wrap (x5 + 1)) h2)
                else
                  (bif (decide ((0 : Int) ≤ x5) && decide ((x5 : Int) < (l3.length : Int))) then
                    (optK ((AVal.cells (l3.getD (Int.toNat x5) AVal.undef))[0]?) fun w6 =>
                      (intK .i64 w6 fun y7 =>
                        (bif ((y7 : Int) == 1) then
                          (bif (decide ((0 : Int) ≤ x5) && decide ((x5 : Int) < (l3.length : Int))) then
                            (optK ((AVal.cells (l3.getD (Int.toNat x5) AVal.undef))[1]?) fun w8 =>
                              (strK w8 fun ss9 =>
                                (bif (decide ((0 : Int) ≤ x5) && decide ((x5 : Int) < (l3.length : Int))) then
                                  (optK ((AVal.cells (l3.getD (Int.toNat x5) AVal.undef))[2]?) fun w10 =>
                                    (strK w10 fun ss11 =>
                                      (runK (evFn Cw d 21 [(AVal.sl f0 3 l1), (AVal.str ss9), (AVal.str ss11)] h2) fun r12 h12 =>
                                        (consK r12 fun w13 ws14 =>
                                          (slOK 3 w13 fun es15 =>
                                            (nilK ws14
                                              (P11_0 d k false es15 f2 l3 (IntKind.i64.wrap (x4 + 1)) (IntKind.i64.wrap (x5 + 1)) h12)))))))
                                else
                                  Tr.fail)))
                          else
                            Tr.fail)
                        else
                          (bif (decide ((0 : Int) ≤ x5) && decide ((x5 : Int) < (l3.length : Int))) then
                            (optK ((AVal.cells (l3.getD (Int.toNat x5) AVal.undef))[1]?) fun w16 =>
                              (strK w16 fun ss17 =>
                                (runK (evFn Cw d 22 [(AVal.sl f0 3 l1), (AVal.str ss17)] h2) fun r18 h18 =>
                                  (consK r18 fun w19 ws20 =>
                                    (slOK 3 w19 fun es21 =>
                                      (nilK ws20
                                        (P11_0 d k false es21 f2 l3 (IntKind.i64.wrap (x4 + 1)) (IntKind.i64.wrap (x5 + 1)) h18)))))))
                          else
                            Tr.fail))))
                  else
                    Tr.fail)))))))
    else
      Tr.fail)
  else
    (Tr.ret ([(AVal.sl f0 3 l1), (AVal.int .i64 x4)], h))) := by kernel_rfl
theorem F11_eq (d : Nat) (f0 : Bool) (l1 : List AVal) (f2 : Bool) (l3 : List AVal) (h : Heap) : evFn Cw (d + 1) 11 [(AVal.sl f0 3 l1), (AVal.sl f2 4 l3)] h =
  (P11_0 d rounds f0 l1 f2 l3 0 0 h) := by kernel_rfl
noncomputable def P11n_0 (d k : Nat) (v0 : AVal) (f1 : Bool) (l2 : List AVal) (x3 : Int) (x4 : Int) (h : Heap) : Tr Res :=
  loopPt Cw d 11 [true, true, false, true, true] [] k ⟨[(0, (EV.one (SV.val v0))), (1, (EV.one (SV.val (AVal.sl f1 4 l2)))), (6, (EV.one (SV.val (AVal.int .i64 x3)))), (7, (EV.one (SV.val (AVal.int .i64 x4))))], []⟩ h
theorem P11n_0_eq (d k : Nat) (v0 : AVal) (f1 : Bool) (l2 : List AVal) (x3 : Int) (x4 : Int) (h : Heap) : P11n_0 d (k + 1) v0 f1 l2 x3 x4 h =
  (bif (decide ((x4 : Int) < (l2.length : Int))) then
    (bif (decide ((0 : Int) ≤ x4) && decide ((x4 : Int) < (l2.length : Int))) then
      (aggK 3 (l2.getD (Int.toNat x4) AVal.undef) fun cc1 =>
        (runK (evFn Cw d 20 [(AVal.agg cc1)] h) fun r2 h2 =>
          (consK r2 fun w3 ws4 =>
            (boolK w3 fun bb5 =>
              (nilK ws4
                (bif (!bb5) then
                  (P11n_0 d k v0 f1 l2 x3 (IntKind.i64.wrap (x4 + 1)) h2)
                else
                  (bif (decide ((0 : Int) ≤ x4) && decide ((x4 : Int) < (l2.length : Int))) then
                    (optK ((AVal.cells (l2.getD (Int.toNat x4) AVal.undef))[0]?) fun w6 =>
                      (intK .i64 w6 fun y7 =>
                        (bif ((y7 : Int) == 1) then
                          (bif (decide ((0 : Int) ≤ x4) && decide ((x4 : Int) < (l2.length : Int))) then
                            (optK ((AVal.cells (l2.getD (Int.toNat x4) AVal.undef))[1]?) fun w8 =>
                              (strK w8 fun ss9 =>
                                (bif (decide ((0 : Int) ≤ x4) && decide ((x4 : Int) < (l2.length : Int))) then
                                  (optK ((AVal.cells (l2.getD (Int.toNat x4) AVal.undef))[2]?) fun w10 =>
                                    (strK w10 fun ss11 =>
                                      (runK (evFn Cw d 21 [v0, (AVal.str ss9), (AVal.str ss11)] h2) fun r12 h12 =>
                                        (consK r12 fun w13 ws14 =>
                                          (slOK 3 w13 fun es15 =>
                                            (nilK ws14
                                              (P11n_0 d k (AVal.sl false 3 es15) f1 l2 (IntKind.i64.wrap (x3 + 1)) (IntKind.i64.wrap (x4 + 1)) h12)))))))
                                else
                                  Tr.fail)))
                          else
                            Tr.fail)
                        else
                          (bif (decide ((0 : Int) ≤ x4) && decide ((x4 : Int) < (l2.length : Int))) then
                            (optK ((AVal.cells (l2.getD (Int.toNat x4) AVal.undef))[1]?) fun w16 =>
                              (strK w16 fun ss17 =>
                                (runK (evFn Cw d 22 [v0, (AVal.str ss17)] h2) fun r18 h18 =>
                                  (consK r18 fun w19 ws20 =>
                                    (slOK 3 w19 fun es21 =>
                                      (nilK ws20
                                        (P11n_0 d k (AVal.sl false 3 es21) f1 l2 (IntKind.i64.wrap (x3 + 1)) (IntKind.i64.wrap (x4 + 1)) h18)))))))
                          else
                            Tr.fail))))
                  else
                    Tr.fail)))))))
    else
      Tr.fail)
  else
    (Tr.ret ([v0, (AVal.int .i64 x3)], h))) := by kernel_rfl
theorem F11n_eq (d : Nat) (f0 : Bool) (l1 : List AVal) (h : Heap) : evFn Cw (d + 1) 11 [(AVal.sl true 0 []), (AVal.sl f0 4 l1)] h =
  (P11n_0 d rounds (AVal.sl true 0 []) f0 l1 0 0 h) := by kernel_rfl
end Go.Proofs.Ytbddfpakhealbaa.Wa
end
