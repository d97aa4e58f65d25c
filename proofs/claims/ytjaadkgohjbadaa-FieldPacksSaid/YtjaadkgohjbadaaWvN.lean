/- append, conversions, maps that are made. -/
import Derived.Test.YtjaadkgohjbadaaWvM
namespace Go.Weave
open Go.Lib
variable {P : Program} {w : World} {R : Type} {Q : R → Prop}

theorem bif_fail {b : Bool} {t : Tr R} (h : (bif b then .fail else t).All Q) : b = false ∧ t.All Q := by
  cases b
  · exact ⟨rfl, h⟩
  · exact h.elim

theorem appendK_ok {base : Bs} {S : Sc} {fr : Fr} {a : Act} {ts : List TypeId} {tr : TypeId} {dst : Option Nat} {vx vy : Value} {x y : EV} {K : Fr → Heap → Tr R} (r : Rel base S fr a w) (hko : KeysOk P S.H)
    (hd : ∀ d, dst = some d → d < a.tmps.size) (rx : RepE S vx x) (ry : RepE S vy y) (h : (appendK P ts dst x y fr S.H K).All Q) :
    ∃ v w' S' fr', (Builtin.append_ ts.toArray tr #[vx, vy]).run P w = .ok v w' ∧ Pres base S.c S.β S'.c S'.β ∧ Rel base S' fr' (a.put dst v) w' ∧ KeysOk P S'.H ∧ (∀ d b, look d fr.boxes = some b → (∃ b', look d fr'.boxes = some b') ∧ S'.lam d = S.lam d ∧ S'.c.w.heap[S.lam d]? = S.c.w.heap[S.lam d]?) ∧ (K fr' S'.H).All Q := by
  unfold appendK at h
  split at h
  · rename_i t ty d
    split at h
    · exact h.elim
    · rename_i e dy hni ht hty
      have h1 := all_optK h
      clear h
      obtain ⟨ys, hys, h⟩ := h1
      split at h
      · rename_i s
        have rs : RepS S vx s := rx
        split at h
        · rename_i full sz es hA
          have h1 := all_bif h
          clear h
          obtain ⟨hb, h⟩ := h1
          simp only [Bool.and_eq_true, decide_eq_true_eq] at hb
          obtain ⟨⟨⟨hel, hsz⟩, hby⟩, hmax⟩ := hb
          have rA : Rep S.c vx (.sl full (shp P e) es) := (RepS.toA rs hA).slEmpty hsz
          have hsrc := appendSrc_ok (P := P) hel ry hys
          have hni' : ∀ k, dy ≠ .int k := fun k e => hni k (by rw [e])
          have hd' := hd d rfl
          split at h
          · -- owned here
            rename_i g z es'
            have hfin := h
            clear h
            obtain ⟨hb, h⟩ := bif_fail hfin
            simp only [Bool.or_eq_false_iff, Bool.not_eq_false'] at hb
            have hzz := eq_of_beq hb.1
            have r1 := r.strip g
            have hO : OwnAt S.c (S.β (.tok g)) (shp P e) vx := by rw [← hzz]; exact rs.2
            obtain ⟨v, w', S', e1, e2, e3, e4, e5, e6⟩ := append_core (S := { S with β := upd S.β (.tok g) none, bx := (fr.mapS (SV.strip g)).boxes }) (tr := tr) r1 hd' ht hty hni' hel hby hmax rA hO
              (fun b hb' => ⟨fun o ho => by
                by_cases ee : o = .tok g
                · subst ee; simp [upd] at ho
                · simp only at ho
                  rw [upd_ne ee] at ho
                  exact ee (r.own.inj _ _ _ ho hb'), r.tokbase g b hb'⟩) hsrc hb.2
            refine ⟨v, w', S', _, e1, Pres.mk e2.le e2.size e2.same e2.io, e4, by rw [e3]; exact hko, fun dd bb hbb => ⟨⟨_, by simp only [Fr.set]; rw [show look dd (fr.mapS (SV.strip g)).boxes = (look dd fr.boxes).map (Box.mapS (SV.strip g)) from look_map _ _ _, hbb]; rfl⟩, by rw [e5], (e6 dd _ (by rw [show look dd (fr.mapS (SV.strip g)).boxes = (look dd fr.boxes).map (Box.mapS (SV.strip g)) from look_map _ _ _, hbb]; rfl))⟩, by rw [e3]; exact h⟩
          · -- lent by a managed cell
            rename_i id off z es'
            have hfin0 := h
            clear h
            obtain ⟨hb, h⟩ := bif_fail hfin0
            unfold lentK at h
            split at h
            · rename_i sz' es'' hcell
              have hfin := h
              clear h
              obtain ⟨hb1, h⟩ := all_bif hfin
              have hzz := eq_of_beq hb1
              obtain ⟨cs, ho, hcs⟩ := heap_cell hcell
              obtain ⟨hlt, hgd⟩ := getElem?_getD (d := HCell.val .undef) hcs
              obtain ⟨xs, el, hg, hx, hh⟩ := r.heap.obj id _ ho
              have hv : xs.getD off undef = vx := by
                have h1 := rs.2.2 _ hcell
                rw [cellsAt hg (by omega)] at h1
                simpa using h1
              have hH := hh off hlt
              rw [hgd, hv] at hH
              have hO : OwnAt S.c (S.β (.cell id off)) (shp P e) vx := by rw [← hzz]; exact hH.2
              let β' : Owner → Option Nat := upd S.β (.cell id off) none
              let H' : Heap := S.H.setCell id off (.val (.sl false (shp P e) es))
              have hH' : H' = ⟨S.H.objs.set id (.cells (cs.set off (.val (.sl false (shp P e) es))))⟩ := by simp [H', Heap.setCell, ho]
              have hid : id < S.H.objs.length := (List.getElem?_eq_some_iff.1 ho).1
              have hrel : HRel S.c β' H' := {
                n := by rw [hH']; simpa using r.heap.n
                obj := fun i o hi => by
                  rw [hH'] at hi
                  simp only at hi
                  by_cases ee : i = id
                  · subst ee
                    rw [List.getElem?_set_self hid] at hi
                    simp only [Option.some.injEq] at hi
                    subst hi
                    refine ⟨xs, el, hg, by simpa using hx, fun j hj => ?_⟩
                    rw [List.length_set] at hj
                    by_cases e5 : j = off
                    · subst e5
                      have e6 : (cs.set j (HCell.val (.sl false (shp P e) es))).getD j (.val .undef) = .val (.sl false (shp P e) es) := by
                        simp only [List.getD_eq_getElem?_getD]
                        rw [List.getElem?_set_self hlt]
                        rfl
                      rw [e6, hv]
                      exact ⟨rA.weakSl, rfl⟩
                    · have e6 : (cs.set off (HCell.val (.sl false (shp P e) es))).getD j (.val .undef) = cs.getD j (.val .undef) := by
                        simp only [List.getD_eq_getElem?_getD]
                        rw [List.getElem?_set_ne (Ne.symm e5)]
                      rw [e6]
                      have e7 : β' (.cell i j) = S.β (.cell i j) := upd_ne (fun h => by cases h; exact e5 rfl)
                      rw [e7]
                      exact hh j hj
                  · rw [List.getElem?_set_ne (Ne.symm ee)] at hi
                    have := r.heap.obj i o hi
                    unfold ObjOK at this ⊢
                    cases o with
                    | cells hs =>
                      obtain ⟨ys', el', h1, h2, h3⟩ := this
                      exact ⟨ys', el', h1, h2, fun j hj => by
                        have e7 : β' (.cell i j) = S.β (.cell i j) := upd_ne (fun h => by cases h; exact ee rfl)
                        rw [e7]; exact h3 j hj⟩
                    | map kt es ck => exact this
                κ := r.heap.κ
                inj := r.heap.inj }
              have hdr : ∀ o b, β' o = some b → S.β o = some b := fun o b h => by
                by_cases ee : o = .cell id off
                · subst ee; simp [β', upd] at h
                · simp only [β'] at h; rwa [upd_ne ee] at h
              have r1 := r.unbor H' β' (fun _ => upd_ne (fun h => by cases h)) hrel (r.own.drop _) (fun b hm => r.mgd b (by
                rcases hm with hm | ⟨i, j, hm⟩
                · exact .inl hm
                · exact .inr ⟨i, j, hdr _ _ hm⟩))
              obtain ⟨v, w', S', e1, e2, e3, e4, e5, e6⟩ := append_core (S := { S with H := H', β := β', bx := (fr.mapS SV.unbor).boxes }) (tr := tr) r1 hd' ht hty hni' hel hby hmax rA hO
                (fun b hb' => ⟨fun o ho' => by
                  have h1 := hdr o b ho'
                  have h2 := r.own.inj _ _ _ h1 hb'
                  subst h2
                  simp [β', upd] at ho', r.mgd b (.inr ⟨id, off, hb'⟩)⟩) hsrc hb
              exact ⟨v, w', S', _, e1, Pres.mk e2.le e2.size e2.same e2.io, e4, by rw [e3]; simp only; rw [hH']; exact hko.set, fun dd bb hbb => ⟨⟨_, by simp only [Fr.set]; rw [show look dd (fr.mapS SV.unbor).boxes = (look dd fr.boxes).map (Box.mapS SV.unbor) from look_map _ _ _, hbb]; rfl⟩, by rw [e5], (e6 dd _ (by rw [show look dd (fr.mapS SV.unbor).boxes = (look dd fr.boxes).map (Box.mapS SV.unbor) from look_map _ _ _, hbb]; rfl))⟩, by rw [e3]; exact h⟩
            · rename_i sz' es'' hcell
              obtain ⟨cs, ho, hcs⟩ := heap_cell hcell
              obtain ⟨hlt, hgd⟩ := getElem?_getD (d := HCell.val .undef) hcs
              obtain ⟨xs, el, hg, hx, hh⟩ := r.heap.obj id _ ho
              have hv : xs.getD off undef = vx := by
                have h1 := rs.2.2 _ hcell
                rw [cellsAt hg (by omega)] at h1
                simpa using h1
              have hH := hh off hlt
              rw [hgd, hv] at hH
              have hO : OwnAt S.c none (shp P e) vx := by
                rcases (Rep.slInv hH.1) with ⟨x0, rfl, _⟩ | ⟨b, o, cap, rfl, hat⟩
                · cases x0 <;> simp [OwnAt]
                · exact .inl (hat.hfull rfl).symm
              have r1 := r.unbor S.H S.β (fun _ => rfl) r.heap r.own r.mgd
              obtain ⟨v, w', S', e1, e2, e3, e4, e5, e6⟩ := append_core (S := { S with bx := (fr.mapS SV.unbor).boxes }) (tr := tr) r1 hd' ht hty hni' hel hby hmax rA hO (fun b hb' => by cases hb') hsrc hb
              exact ⟨v, w', S', _, e1, Pres.mk e2.le e2.size e2.same e2.io, e4, by rw [e3]; exact hko, fun dd bb hbb => ⟨⟨_, by simp only [Fr.set]; rw [show look dd (fr.mapS SV.unbor).boxes = (look dd fr.boxes).map (Box.mapS SV.unbor) from look_map _ _ _, hbb]; rfl⟩, by rw [e5], (e6 dd _ (by rw [show look dd (fr.mapS SV.unbor).boxes = (look dd fr.boxes).map (Box.mapS SV.unbor) from look_map _ _ _, hbb]; rfl))⟩, by rw [e3]; exact h⟩
            · exact h.elim
          · have hfin := h
            clear h
            obtain ⟨hfull, h⟩ := all_bif hfin
            obtain ⟨hb, h⟩ := bif_fail h
            have hO : OwnAt S.c none (shp P e) vx := by
              rcases rA.slInv with ⟨x0, rfl, _⟩ | ⟨b, o, cap, rfl, hat⟩
              · cases x0 <;> simp [OwnAt]
              · exact .inl (hat.hfull hfull).symm
            obtain ⟨v, w', S', e1, e2, e3, e4, e5, e6⟩ := append_core (tr := tr) r hd' ht hty hni' hel hby hmax rA hO (fun b hb' => by cases hb') hsrc hb
            exact ⟨v, w', S', _, e1, e2, e4, by rw [e3]; exact hko, fun dd bb hbb => ⟨⟨_, hbb⟩, by rw [e5], e6 dd _ hbb⟩, by rw [e3]; exact h⟩
        · exact h.elim
      · exact h.elim
    · exact h.elim
  · exact h.elim

/-! ### Conversions -/
theorem toBytes_ok {es : List AVal} {s : List UInt8} (h : toBytes es = some s) : es.length = s.length ∧ ∀ j, j < s.length → ∃ n : Int, es.getD j .undef = .int .u8 n ∧ s.getD j 0 = UInt8.ofNat n.toNat := by
  have hm := optAll_some h
  have hl : es.length = s.length := by have := congrArg List.length hm; simpa using this
  refine ⟨hl, fun j hj => ?_⟩
  have h1 := congrArg (·[j]?) hm
  simp only [List.getElem?_map] at h1
  rw [List.getElem?_eq_getElem hj, List.getElem?_eq_getElem (by omega)] at h1
  simp only [Option.map_some, Option.some.injEq] at h1
  have e1 : es.getD j .undef = es[j] := by have : j < es.length := by omega
                                           simp [this]
  have e2 : s.getD j 0 = s[j] := by simp [hj]
  rw [e1, e2]
  generalize es[j] = v at h1
  cases v <;> simp [toByte] at h1
  rename_i k n
  cases k <;> simp at h1
  exact ⟨n, rfl, h1.2.symm⟩

theorem push_bytes (ns : List Int) : ∀ s : ByteArray, (ns.foldl (fun r n => r.push (UInt8.ofNat n.toNat)) s).data.toList = s.data.toList ++ ns.map fun n => UInt8.ofNat n.toNat := by
  induction ns with
  | nil => intro s; simp
  | cons n ns ih => intro s; simp only [List.foldl_cons, ih, List.map_cons]; simp [ByteArray.push]

theorem convK_ok {base : Bs} {S : Sc} {fr : Fr} {a : Act} {src dst : TypeId} {vx : Value} {x : AVal} {K : AVal → Tr R} (r : Rel base S fr a w) (rx : Rep S.c vx x) (h : (convK P src dst x K).All Q) :
    ∃ v w' S' a', (convert src dst vx).run P w = .ok v w' ∧ Pres base S.c S.β S'.c S'.β ∧ Rel base S' fr a w' ∧ S'.H = S.H ∧ ((∃ e, P.underlying dst = some (.slice e)) ∨ S' = S) ∧ Rep S'.c v a' ∧ (K a').All Q := by
  unfold convK at h
  split at h
  · rename_i ds k n hs hd
    cases rx
    exact ⟨_, w, S, _, by cases ds <;> simp [convert, run_underlying hs, run_underlying hd, Conv.intToInt], Pres.refl _ _ _ _, r, rfl, .inr rfl, .int _ _, h⟩
  · rename_i ds s hs hd
    obtain ⟨b, rfl, rfl⟩ := Rep.strInv rx
    exact ⟨_, w, S, _, by cases ds <;> simp [convert, run_underlying hs, run_underlying hd], Pres.refl _ _ _ _, r, rfl, .inr rfl, .str b, h⟩
  · rename_i e full sz es hs hd
    split at h
    · rename_i he
      obtain ⟨s, hts, h⟩ := all_optK h
      obtain ⟨hl, hj⟩ := toBytes_ok hts
      rcases rx.slInv with ⟨x0, rfl, h0⟩ | ⟨b, off, cap, rfl, hat⟩
      · subst h0
        have : s = [] := by rw [← List.length_eq_zero_iff]; simpa using hl.symm
        subst this
        refine ⟨.string .empty, w, S, .str [], ?_, Pres.refl _ _ _ _, r, rfl, .inr rfl, ?_, h⟩
        · cases x0 with
          | none => simp [convert, run_underlying hs, run_underlying hd, run_underlying he, Conv.bytesToString]
          | some ad =>
            have := run_bytesToString (P := P) w ad 0 0 [] (by rfl)
            rw [run_convert_bytes_string (P := P) w src dst e _ _ _ hs he hd]; exact this
        · exact .str ByteArray.empty
      · obtain ⟨_, _, lim, f, hk, hlm, hok, hc, hr⟩ := hat
        have hcnt : 0 < es.length → cnt sz = 1 := fun hpos => by
          have h1 := hok (es.getD 0 .undef) (by simp [hpos])
          obtain ⟨n, hn, _⟩ := hj 0 (by omega)
          rw [hn] at h1
          have := h1.2.1
          simpa [AVal.cells] using this.symm
        let ns : List Int := es.map AVal.toInt
        have hns : ∀ j, j < es.length → es.getD j .undef = .int .u8 (ns.getD j 0) := fun j hjj => by
          obtain ⟨n, hn, _⟩ := hj j (by omega)
          have : ns.getD j 0 = n := by
            have e1 : ns.getD j 0 = (es.getD j .undef).toInt := by simp [ns, hjj]
            rw [e1, hn]; rfl
          rw [this]; exact hn
        have hload : (loadCells ⟨b, off, none⟩ es.length).run P w = .ok (ns.map (Value.int .u8)).toArray w := by
          have := run_loadCells (P := P) w ⟨b, off, none⟩ es.length (fun j => .int .u8 (ns.getD j 0)) (fun j hjj => by
            rw [add_at]
            have hc1 := hcnt (by omega)
            rw [hc1] at hc hr
            have h1 := hc j 0 hjj (by omega)
            have h2 := hr j 0 hjj (by omega)
            rw [hns j hjj] at h2
            simp only [AVal.cells, List.getD_cons_zero] at h2
            generalize f j 0 = v at h1 h2
            cases h2
            rw [← r.w, ← h1]
            congr 2
            omega)
          rw [this]
          congr 2
          apply List.ext_getElem?
          intro j
          by_cases hjj : j < es.length
          · simp [hjj, ns]
          · simp [hjj, ns]
        have hrun := run_bytesToString (P := P) w ⟨b, off, none⟩ es.length cap ns hload
        refine ⟨_, w, S, .str s, by rw [run_convert_bytes_string (P := P) w src dst e _ _ _ hs he hd]; exact hrun, Pres.refl _ _ _ _, r, rfl, .inr rfl, ?_, h⟩
        have e1 : (ns.foldl (fun r n => r.push (UInt8.ofNat n.toNat)) ByteArray.empty).data.toList = s := by
          rw [push_bytes]
          have h0 : ByteArray.empty.data.toList = [] := rfl
          rw [h0, List.nil_append]
          apply List.ext_getElem?
          intro j
          by_cases hjj : j < s.length
          · obtain ⟨n, hn, hs'⟩ := hj j hjj
            have hje : j < es.length := by omega
            have h4 : j < ns.length := by simpa [ns] using hje
            have e2 : ns[j] = n := by
              have h3 := hns j hje
              rw [hn] at h3
              simp only [AVal.int.injEq, true_and] at h3
              have : ns.getD j 0 = ns[j] := by simp [h4]
              rw [← this, ← h3]
            have e3 : s[j] = UInt8.ofNat n.toNat := by
              have : s.getD j 0 = s[j] := by simp [hjj]
              rw [← this, hs']
            rw [List.getElem?_map, List.getElem?_eq_getElem h4, List.getElem?_eq_getElem hjj, e2, e3]
            rfl
          · have h4 : ¬ j < ns.length := by simpa [ns] using (by omega : ¬ j < es.length)
            rw [List.getElem?_map, List.getElem?_eq_none (by omega), List.getElem?_eq_none (by omega)]
            rfl
        rw [← e1]
        exact .str _
    · exact h.elim
  · rename_i e s hs hd
    split at h
    · rename_i he
      obtain ⟨b, rfl, rfl⟩ := Rep.strInv rx
      have hrun := run_convert_string_bytes (P := P) w src dst e b hs hd he
      have hsz : S.c.w.heap.size = w.heap.size := by rw [r.w]
      have r1 := r.alloc (.cells (bytesCells w e b) e ((bytesCells w e b).size, (bytesCells w e b).size + 1)) (some b.size)
      have hheap : (bytesWorld w e b).heap = (w.alloc (.cells (bytesCells w e b) e ((bytesCells w e b).size, (bytesCells w e b).size + 1))).heap := by
        apply Array.ext_getElem?
        intro i
        by_cases hi : i < w.heap.size
        · rw [bytesWorld_at_old w e b i hi, alloc_old hi]
        · by_cases hi2 : i = w.heap.size
          · subst hi2; rw [bytesWorld_at_new, alloc_new]
          · rw [Array.getElem?_eq_none (by rw [bytesWorld_size]; omega), Array.getElem?_eq_none (by simp; omega)]
      obtain ⟨r2, p2⟩ := r1.sameHeap (w' := bytesWorld w e b) hheap ⟨rfl, rfl⟩
      have p1 := Pres.alloc (β := S.β) (o := .cells (bytesCells w e b) e ((bytesCells w e b).size, (bytesCells w e b).size + 1)) (k := some b.size) r.own.lim r.baseLe
      refine ⟨_, _, S.withC { S.c.alloc (.cells (bytesCells w e b) e ((bytesCells w e b).size, (bytesCells w e b).size + 1)) (some b.size) with w := bytesWorld w e b }, _, hrun, Pres.mk (Ctx.le_trans p1.le p2.le) (Nat.le_trans p1.size p2.size) (fun b hb => ⟨(p2.same b hb).1.trans (p1.same b hb).1, (p2.same b hb).2.trans (p1.same b hb).2⟩) ⟨p2.io.1.trans p1.io.1, p2.io.2.trans p1.io.2⟩, r2, rfl, .inl ⟨_, hd⟩, ?_, h⟩
      have hcells : Flat S.c (bytesCells w e b) 0 (b.data.toList.map ofByte) := by
        have hf := bytes_flat S.c b
        have hsz2 : (bytesCells w e b).size = b.size + (grownCap w b.size 0 e - b.size) := by simp [bytesCells]
        refine ⟨by rw [hsz2]; simp [cnt], hf.ok, fun i j hi hj => ?_⟩
        have hi' : i < b.data.size := by simpa using hi
        have h0 := hf.rep i j hi hj
        have hj0 : j = 0 := by simp [cnt] at hj; omega
        subst hj0
        have hidx : i * cnt 0 + 0 = i := by simp [cnt]
        rw [hidx] at h0 ⊢
        have e1 : (bytesCells w e b).getD i undef = (b.data.map fun x => Value.int .u8 x.toNat).getD i undef := by
          simp only [bytesCells, Array.getD_eq_getD_getElem?]
          rw [Array.getElem?_append_left (by simpa using hi')]
        rw [e1]
        exact h0
      have hlen : (b.data.toList.map ofByte).length = b.size := by simp
      have := Flat.rep_slice (c := { S.c.alloc (.cells (bytesCells w e b) e ((bytesCells w e b).size, (bytesCells w e b).size + 1)) (some b.size) with w := bytesWorld w e b }) (b := w.heap.size) (cap := grownCap w b.size 0 e) (lim := b.size) (full := false)
        (el := e) (fz := ((bytesCells w e b).size, (bytesCells w e b).size + 1)) (hcells.mono (Ctx.le_trans p1.le p2.le)) (by simp only; exact bytesWorld_at_new w e b) (by simp only [Ctx.alloc]; rw [if_pos hsz.symm]) (by simp [cnt])
        (by rw [hlen]; unfold grownCap Question.cut; exact Nat.le_add_right _ _) (by simp)
      rw [hlen] at this
      exact this
    · exact h.elim
  · exact h.elim
end Go.Weave
