/- One operation, where a slice may be the frame's own. -/
import Derived.Test.YtjaadkgohjbadaaWvQx
namespace Go.Weave
variable {P : Program} {w : World}

section
variable {C : Cfg} {A : Ann} {call : FuncId → List AVal → Heap → Tr Res} {c0 : Ctx} {base : Bs} {S : Sc} {fr : Fr} {a : Act} {o : Oper} {Q : Res → Prop} {K : Fr → Heap → Tr Res} {next : Act → World → Prop} {Qx : Exit → Act → World → Prop}

def GoesX (C : Cfg) (base : Bs) (S : Sc) (a : Act) (Q : Res → Prop) (K : Fr → Heap → Tr Res) (next : Act → World → Prop) : Prop :=
  ∀ S' fr' a' w', Pres base S.c S.β S'.c S'.β → Rel base S' fr' a' w' → KeysOk C.P S'.H → a'.tmps.size = a.tmps.size → (K fr' S'.H).All Q → next a' w'

theorem oldX_ok (hC : CallOK C call c0) (hle : c0.le S.c) (r : Rel base S fr a w) (hko : KeysOk C.P S.H) (hd : ∀ d, o.dst = some d → d < a.tmps.size) (xs : List Operand)
    (h : (frzL xs fr fun fr => opK C A call o fr S.H K).All Q) (hn : GoesX C base S a Q K next) : o.wp C.P a w next Qx := by
  obtain ⟨S1, fr1, e1, p1, r1, h⟩ := frzL_ok xs r h
  rw [← e1] at h
  exact opK_ok hC (Ctx.le_trans hle p1.le) r1 (by rw [e1]; exact hko) hd h (fun S' fr' a' w' p r k hs _ hk => hn S' fr' a' w' (p1.trans p) r k hs hk)

theorem opX_ok (hC : CallOK C call c0) (hle : c0.le S.c) (r : Rel base S fr a w) (hko : KeysOk C.P S.H) (hd : ∀ d, o.dst = some d → d < a.tmps.size) (h : (opX C A call o fr S.H K).All Q)
    (hn : GoesX C base S a Q K next) : o.wp C.P a w next Qx := by
  have hE := eval_opnd r
  have hK : (frzL (opsOf o.op) fr fun fr => opK C A call o fr S.H K).All Q → o.wp C.P a w next Qx := fun h => oldX_ok hC hle r hko hd _ h hn
  have hmv : ∀ xs : List Operand, (frzL xs fr fun fr => opK C A call o fr S.H K).All Q → o.wp C.P a w next Qx := fun xs h => oldX_ok hC hle r hko hd xs h hn
  have p0 : Pres base S.c S.β S.c S.β := Pres.refl _ _ _ _
  unfold opX at h
  simp only at h
  split at h
  · rename_i x ho
    cases hb : thawAt A o.dst <;> simp only [hb, cond_true, cond_false] at h
    · exact hmv [] h
    · exact hmv _ h
  · rename_i x ho
    cases hb : thawAt A o.dst <;> simp only [hb, cond_true, cond_false] at h
    · exact hmv [] h
    · exact hmv _ h
  · rename_i t len parts ho
    split at h
    · rename_i d hdst
      cases hb : A.xs.contains d <;> simp only [hb, cond_true, cond_false] at h
      · exact hK h
      · have hp : RepP S (parts.map fun p => (p.1, a.eval p.2)).toList (parts.toList.map fun p => (p.1, fr.opnd p.2)) := by simpa using repP_map r parts.toList
        obtain ⟨xs, e, out, hrun, hF, hl, hsz, h⟩ := buildSlice_run (w := w) hp h
        simp only at h
        cases hg : fr.any (SV.hasLoc d) <;> simp only [hg, cond_true, cond_false] at h
        · obtain ⟨S', e1, p1, r1, el1, es1, eb1⟩ := r.newBox0 (d := d) (el := e) (b := .arr (shp C.P e) out) (xs := xs) (len, len) hg ⟨hF, hl.symm, by rw [hl]; exact Nat.le_refl _, by rw [hsz]; exact Nat.le_refl _⟩
          unfold Oper.wp execOp
          simp only [ho]
          rw [upon_v hrun, hdst]
          refine hn S' _ _ _ p1 (r1.put (dst := some d) (e := .one (.lsl d)) (fun d' h => hd d' (by rw [hdst]; exact h)) ⟨?_, ?_⟩) (by rw [e1]; exact hko) put_size (by rw [e1]; exact h)
          · rw [eb1]; simp only [Fr.setBox]; rw [look_ins]; simp
          · rw [el1, es1]
        · exact h.elim
    · exact hK h
  · rename_i t x ho
    split at h
    · rename_i d off hx
      split at h
      · rename_i sz es hbx
        have hx' := hE x
        rw [hx] at hx'
        obtain ⟨_, ev⟩ : _ ∧ a.eval x = _ := hx'
        have hh := all_bif h
        clear h
        obtain ⟨hb, h⟩ := hh
        simp only [Bool.and_eq_true, decide_eq_true_eq, beq_iff_eq] at hb
        obtain ⟨⟨⟨hel, rfl⟩, hal⟩, hlt⟩ := hb
        obtain ⟨hpos, hcnt⟩ := elOk_spec hel
        obtain ⟨xs, el, hg, hF, _⟩ := r.box d _ hbx
        rw [r.w] at hg
        obtain ⟨du, hu⟩ := und_of_coerce h
        obtain ⟨h1, h2⟩ := hF.load hel hlt (mul_div hal hpos)
        obtain ⟨a', ra, _, _, h⟩ := coerce_ok h2 h
        unfold Oper.wp execOp
        simp only [ho]
        rw [ev, upon_v (loadAt_row hu hg h1)]
        exact hn S _ _ _ p0 (r.put (e := .one (.val a')) hd ra) hko put_size h
      · exact hK h
    · exact hK h
  · rename_i t x y ho
    split at h
    · rename_i d off hx
      split at h
      · rename_i sz es hbx
        have hx' := hE x
        rw [hx] at hx'
        obtain ⟨_, ev⟩ : _ ∧ a.eval x = _ := hx'
        obtain ⟨v, hv, h⟩ := all_optK h
        obtain ⟨hb, h⟩ := all_bif h
        simp only [Bool.and_eq_true, decide_eq_true_eq, beq_iff_eq] at hb
        obtain ⟨⟨⟨⟨hel, rfl⟩, hal⟩, hlt⟩, hsh⟩ := hb
        obtain ⟨hpos, hcnt⟩ := elOk_spec hel
        have ry := RepE.toA (hE y) hv
        have hok := okEl_of hel ry hsh
        have rc := Rep.cells ry
        obtain ⟨xs, el, hg, hF, hs1, hs2, hs3⟩ := r.box d _ hbx
        rw [r.w] at hg
        have hmul := mul_div hal hpos
        have hle1 : (divC off (szOf C.P t) + 1) * szOf C.P t ≤ es.length * szOf C.P t := Nat.mul_le_mul_right _ hlt
        rw [Nat.succ_mul, hmul] at hle1
        have hlen := hF.len
        rw [hcnt] at hlen
        obtain ⟨ys, hys, hrun⟩ := run_storeVar (P := C.P) (w := w) (t := t) (v := a.eval y) (off := off) hpos (by rw [rc.1, hok.2.1, hcnt]) rc.ones hg (by omega)
        have hP := hF.put (i := divC off (szOf C.P t)) (v := v) (zs := ys) (ys := (a.eval y).cells) hlt hok rc (by rw [hcnt, hmul]; exact hys)
        obtain ⟨S', e1, p1, r1⟩ := r.writeBox (b' := .arr (shp C.P t) (es.set (divC off (szOf C.P t)) v)) (xs' := ys) hbx hg ⟨hP.1, by simpa using hs1, by simpa using hs2, by rw [hP.2]; exact hs3⟩
        unfold Oper.wp execOp
        simp only [ho]
        rw [ev, upon_u hrun]
        exact hn S' _ _ _ p1 (r1.put hd repE_undef) (by rw [e1]; exact hko) put_size (by rw [e1]; exact h)
      · exact hK h
    · exact hK h
  · rename_i t x i ho
    split at h
    · rename_i d hx
      split at h
      · rename_i e sz es hu hbx
        have hh0 := intOf_ok h
        clear h
        obtain ⟨k, n, hi, h⟩ := hh0
        have hvi := hE i
        rw [hi] at hvi
        obtain rfl' := repE_int hvi
        have hh := all_bif h
        clear h
        obtain ⟨hb, h⟩ := hh
        simp only [Bool.and_eq_true, decide_eq_true_eq, beq_iff_eq] at hb
        obtain ⟨⟨hel, rfl⟩, h0, h1⟩ := hb
        obtain ⟨hpos, hcnt⟩ := elOk_spec hel
        have hx' := globE hC.1 hle r x
        rw [hx] at hx'
        obtain ⟨hs, ev⟩ : _ ∧ a.eval x = _ := hx'
        obtain ⟨xs, el, hg, hF, hs1, hs2, hs3⟩ := r.box d _ hbx
        have h1' : n < ((S.sh d).1 : Int) := by rw [hs1]; exact h1
        have hrun : (Instr.indexAt t (a.eval x) (a.eval i)).run C.P w = .ok (.pointer (some ⟨S.lam d, mulC n.toNat (szOf C.P e), none⟩)) w := by
          rw [ev, rfl', mulC_eq]
          simp [Instr.indexAt, asIntOf, run_underlying hu, h0, h1', run_size0 hpos, add_at]
        unfold Oper.wp execOp
        simp only [ho]
        rw [upon_v hrun]
        exact hn S _ _ _ p0 (r.put (e := .one (.loc d (mulC n.toNat (szOf C.P e)))) hd ⟨hs, rfl⟩) hko put_size h
      · exact h.elim
    · exact hK h
  · rename_i s t x ho
    split at h
    · rename_i d hx
      split at h
      · rename_i e _ sz es hs ht hbx
        split at h
        · rename_i he
          obtain ⟨hst, h⟩ := all_bif h
          have hst' : s = t := by simpa using hst
          have hx' := hE x
          rw [hx] at hx'
          obtain ⟨_, ev⟩ : _ ∧ a.eval x = _ := hx'
          obtain ⟨xs, el, hg, hF, hs1, hs2, hs3⟩ := r.box d _ hbx
          rw [r.w] at hg
          obtain ⟨w', hrun, hw', hio⟩ := run_mark (P := C.P) (len := (S.sh d).1) (cap := (S.sh d).2) hs hst' he hg
          obtain ⟨S', e1, p1, r1, hrep⟩ := r.unbox hbx hg hw' hio
          unfold Oper.wp execOp
          simp only [ho]
          rw [ev, upon_v hrun]
          exact hn S' _ _ _ p1 (r1.put (e := .one (.val (.sl false sz es))) hd hrep) (by rw [e1]; exact hko) put_size (by rw [e1]; exact h)
        · exact h.elim
      · exact hK h
    · exact hK h
  · rename_i c ho
    split at h
    · rename_i hc
      split at h
      · rename_i t ts d l ht hx
        split at h
        · rename_i e sz es hu hbx
          obtain ⟨v, vs, hv, hr, _⟩ := args_cons r hx
          obtain ⟨_, rfl⟩ : _ ∧ v = _ := hr
          obtain ⟨xs, el, hg, hF, hs1, hs2, hs3⟩ := r.box d _ hbx
          have hrun : (do let d ← resolve a.eval c o.type; invoke d.target d.args : Sem Next).run C.P w = .ok (.value (.int .i64 (es.length : Int))) w := by
            have ht' : c.argTypes = (t :: ts).toArray := by rw [← ht]
            have hl : (Builtin.len_ (t :: ts).toArray o.type (Value.slice (some ⟨S.lam d, 0, none⟩) (S.sh d).1 (S.sh d).2 :: vs).toArray).run C.P w = .ok (.int .i64 (es.length : Int)) w := by
              simp [Builtin.len_, run_underlying hu, goInt, hs1]
            simp [resolve, hc, invoke, builtin, hv, ht', hl]
          unfold Oper.wp execOp
          simp only [ho]
          rw [hrun, Oper.upon_value]
          exact hn S _ _ _ p0 (r.put (e := .one (.val (.int .i64 (es.length : Int)))) hd (Rep.int _ _)) hko put_size h
        · exact h.elim
      · exact hK h
    · rename_i hc
      split at h
      · rename_i t ty d y s ht hx hdst
        split at h
        · exact h.elim
        · rename_i e dy hbx hni ht2 hty hlk
          obtain ⟨ys, hys, h⟩ := all_optK h
          obtain ⟨hb, h⟩ := all_bif h
          simp only [Bool.and_eq_true, decide_eq_true_eq, beq_iff_eq] at hb
          obtain ⟨⟨⟨hel, rfl⟩, hby⟩, hmax⟩ := hb
          obtain ⟨v, vs, hv, hr, hl, hr2⟩ := args_cons r hx
          have hl1 : vs.length = 1 := by simpa using hl
          match vs, hl1 with
          | [u], _ =>
            have hru : RepE S u y := by simpa using hr2 0 (by simp)
            obtain ⟨z, w', S', hz, p1, e1, r1⟩ := appendArr_ok (tr := o.type) r (hd s hdst) ht2 hty (fun k e => hni k (by rw [e])) hel hby hmax hlk hr (appendSrc_ok (P := C.P) hel hru hys)
            have hrun : (do let d ← resolve a.eval c o.type; invoke d.target d.args : Sem Next).run C.P w = .ok (.value z) w' := by
              have ht' : c.argTypes = c.argTypes.toList.toArray := rfl
              have hz' : (Builtin.append_ c.argTypes o.type #[v, u]).run C.P w = .ok z w' := by rw [ht', ht]; exact hz
              simp [resolve, hc, invoke, builtin, hv, hz']
            unfold Oper.wp execOp
            simp only [ho]
            rw [hrun, Oper.upon_value, hdst]
            exact hn S' _ _ _ p1 r1 (by rw [e1]; exact hko) put_size (by rw [e1]; exact h)
        · exact h.elim
      · exact hK h
    · exact hK h
  · exact hK h
end
end Go.Weave
