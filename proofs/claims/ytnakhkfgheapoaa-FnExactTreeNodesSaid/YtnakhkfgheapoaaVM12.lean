import Derived.Test.YtnakhkfgheapoaaVM11
/-! The whole: by induction on the rounds. -/
set_option linter.all false
namespace Go.VM
open Go Go.RowKit
variable {H H' HF : Heap} {ι ι' : Inj} {v c x y d s : Value} {B frz : Nat} {w0 w w' : World} {t t' : Env} {a : Act}

def outIs : Out → Exit → Prop
  | .normal, .normal => True
  | .ret, .ret => True
  | .exit i, .exit j => i = j
  | _, _ => False
def QPost (P : Program) (B : Nat) (w0 : World) (frz : Nat) (H : Heap) (ι : Inj) (o : Out) (t' : Env) (H' : Heap) (sz : Nat) (e : Exit) (a' : Act) (w' : World) : Prop :=
  outIs o e ∧ Post P B w0 frz H ι t' H' sz a' w'

def ExecOk (C : Ctx) (k : Nat) : Prop :=
  ∀ frz c t H o t' H', vexecF C k frz c t H = some (o, t', H') → ∀ n, dstOk n c = true → ∀ B w0 ι (a : Act) w, Rel C.P B w0 frz ι H w → frz ≤ H.length →
    ERel C.P H ι t a.tmps → a.defers = [] → n ≤ a.tmps.size → c.wp C.P (QPost C.P B w0 frz H ι o t' H' a.tmps.size) a w
/-- a region that draws its order -/
def DrawOk (C : Ctx) : Prop :=
  ∀ (id : Nat) (ops : Array Oper) (call : Nat → Calling) (frz : Nat), drawOk C ops = true → (∀ f, CallOk C.P (call f) f) → (∀ f, CallKeeps f (call f)) →
    (∀ f f' g l H, C.mode g ≠ 2 → call f g l H = call f' g l H) →
    ∀ (t : Env) (H : Heap) (t' : Env) (H' : Heap) (ι : Inj) (a : Act) (w : World) (B : Nat) (w0 : World), vops C.P frz (call frz) ops ops.toList t H = some (t', H') →
    Rel C.P B w0 frz ι H w → frz ≤ H.length → ERel C.P H ι t a.tmps → a.defers = [] → (∀ o ∈ ops.toList, ∀ d, o.dst = some d → d < a.tmps.size) →
    (Code.region id ops true).wp C.P (QPost C.P B w0 frz H ι .normal t' H' a.tmps.size) a w

theorem Post.trans {P : Program} {H1 : Heap} {a1 : Act} {ι1 : Inj} {sz : Nat} {a2 : Act} {w2 : World} (h1 : Ext H ι H1 ι1) (hsz : a1.tmps.size = sz)
    (h : Post P B w0 frz H1 ι1 t' H' a1.tmps.size a2 w2) : Post P B w0 frz H ι t' H' sz a2 w2 := by
  obtain ⟨p1, p2, ι2, p3, p4, p5⟩ := h
  exact ⟨p1, p2.trans hsz, ι2, h1.trans p3, p4, p5⟩

theorem fnOk_spec {fn : Func} {c : Code} (h : fnOk fn c = true) : dstOk fn.ntmps c = true ∧ (fn.name == "runtime.NumGoroutine") = false := by
  simp [fnOk] at h; exact ⟨h.1, by simpa using h.2⟩

theorem finish_ok {C : Ctx} {g : Nat} {fn : Func} {tF : Env} {ιF : Inj} {wF : World} {aF : Act} (hmode : C.mode g = 0 → frz ≤ H.length)
    (R : Rel C.P B w0 frz ι H w) (EF : Ext H ι HF ιF) (hkeep : C.mode g ≠ 2 → Keeps H.length H HF)
    (RF2 : C.mode g = 2 → Rel C.P B w0 frz ιF HF wF) (RF : C.mode g ≠ 2 → Rel C.P w.heap.size w H.length ιF HF wF) (E : ERel C.P HF ιF tF aF.tmps)
    (h : vfinish C g fn H tF HF = some (v, H')) : ∃ c ι', (results fn aF.tmps).run C.P wF = .ok c wF ∧ VRel C.P H' ι' v c ∧ Ext H ι H' ι' ∧ Rel C.P B w0 frz ι' H' wF := by
  unfold vfinish at h
  split at h
  · rename_i vs hvs
    by_cases h2 : C.mode g = 2
    · obtain ⟨c, hr, hv⟩ := results_ok (RF2 h2) E hvs
      rw [if_neg (by omega)] at h
      cases h
      exact ⟨c, ιF, hr, hv, EF, RF2 h2⟩
    · obtain ⟨c, hr, hv⟩ := results_ok (RF h2) E hvs
      have K := hkeep h2
      split at h
      · rename_i h0
        split at h
        · rename_i v1 ids hp
          cases h
          obtain ⟨G, o⟩ := pack_ok EF K hv hp
          exact ⟨c, _, hr, o ids (List.prefix_refl _) G, packExt, pack_rel EF K R (RF h2) G⟩
        · cases h
      · cases h
        have hB := R.hB
        refine ⟨c, ιF, hr, hv, EF, ?_⟩
        -- rows that were there are the caller's; the new ones lie in blocks of their own
        have RFF := RF h2
        refine ⟨R.below.trans (RFF.below.mono hB), by have := RFF.below.size; omega, RFF.row, fun id l r hl hr' hf => ?_⟩
        by_cases hid : id < H.length
        · obtain ⟨e1, e2⟩ := inj_old EF K hid
          rw [e2] at hl
          rw [e1] at hr'
          obtain ⟨q1, ⟨cs, q2, q3⟩, q4⟩ := R.own id l r hl hr' hf
          have hb := (R.row id l hl).1
          refine ⟨q1, ⟨cs, by rw [RFF.below.block _ hb]; exact q2, q3⟩, fun id' l' hl' hbb => ?_⟩
          by_cases hid' : id' < H.length
          · exact q4 id' l' (by rw [← (inj_old EF K hid').2]; exact hl') hbb
          · obtain ⟨_, r', hr2, _⟩ := RFF.row id' l' hl'
            have := (RFF.own id' l' r' hl' hr2 (by omega)).1
            omega
        · obtain ⟨q1, q2, q4⟩ := RFF.own id l r hl hr' (by omega)
          exact ⟨by omega, q2, q4⟩
  · cases h

theorem call_ok {C : Ctx} {k : Nat} (hex : ExecOk C k) (frz : Nat) : CallOk C.P (vcallWith C (vexecF C k) frz) frz := by
  intro g l H v H' h hf
  unfold vcallWith at h
  split at h
  · rename_i fn hfn
    split at h
    · rename_i body hbody
      split at h
      · rename_i hok
        obtain ⟨hdst, hname⟩ := fnOk_spec hok
        refine ⟨⟨fn, hfn, by rw [hbody]; rfl, hname⟩, fun B w0 ι w cl R L => ?_⟩
        have hfr : (if C.mode g = 2 then frz else H.length) ≤ H.length := by split <;> omega
        have E0 : ERel C.P H ι (argEnv l) (cl.toArray ++ Array.replicate (fn.ntmps - cl.toArray.size) undef) := by
          intro x
          have e : (cl.toArray ++ Array.replicate (fn.ntmps - cl.toArray.size) undef).getD x undef = cl.getD x undef := by
            simp only [Array.getD_eq_getD_getElem?, List.getD_eq_getElem?_getD]
            by_cases hx : x < cl.length
            · rw [Array.getElem?_append_left (by simpa using hx)]; simp
            · rw [Array.getElem?_append_right (by simp; omega)]
              rw [List.getElem?_eq_none (by omega)]
              simp only [Array.getElem?_replicate]
              split <;> rfl
          rw [e]
          simp only [argEnv, List.getD_eq_getElem?_getD]
          by_cases hx : x < l.length
          · have hx' : x < cl.length := by rw [← L.1]; exact hx
            rw [List.getElem?_eq_getElem hx, List.getElem?_eq_getElem hx']
            exact L.2 x _ _ (List.getElem?_eq_getElem hx) (List.getElem?_eq_getElem hx')
          · rw [List.getElem?_eq_none (by omega), List.getElem?_eq_none (by rw [← L.1]; omega)]
            exact VRel.undef
        have key : ∀ o tF HF, (o = .normal ∨ o = .ret) → vexecF C k (if C.mode g = 2 then frz else H.length) body (argEnv l) H = some (o, tF, HF) → vfinish C g fn H tF HF = some (v, H') →
            Calls C.P g cl.toArray w fun e w' => ∃ c ι', e = .returned c ∧ VRel C.P H' ι' v c ∧ Ext H ι H' ι' ∧ Rel C.P B w0 frz ι' H' w' := by
          intro o tF HF ho hexec hfin
          have hkeep := vexec_keeps C k _ _ _ _ _ _ _ hfr hexec
          by_cases hm : C.mode g = 2
          · rw [if_pos hm] at hexec hkeep
            have hwp := hex _ _ _ _ _ _ _ hexec fn.ntmps hdst B w0 ι { tmps := cl.toArray ++ Array.replicate (fn.ntmps - cl.toArray.size) undef, defers := [] } w R hf E0 rfl (by simp; omega)
            refine calls_of_wp hfn hbody (wp_mono hwp fun e a' w' hq => ?_)
            obtain ⟨h1, hd, _, ιF, EF, RF, EE⟩ := hq
            obtain ⟨c, ι', g1, g2, g3, g4⟩ := finish_ok (B := B) (w0 := w0) (frz := frz) (w := w) (fun h0 => by omega) R EF (fun h0 => absurd hm h0) (fun _ => RF) (fun h0 => absurd hm h0) EE hfin
            rcases ho with rfl | rfl <;> cases e <;> simp only [outIs] at h1 <;> exact ⟨hd, c, g1, c, ι', rfl, g2, g3, g4⟩
          · rw [if_neg hm] at hexec hkeep
            have hwp := hex _ _ _ _ _ _ _ hexec fn.ntmps hdst w.heap.size w ι { tmps := cl.toArray ++ Array.replicate (fn.ntmps - cl.toArray.size) undef, defers := [] } w R.freeze (Nat.le_refl _) E0 rfl (by simp; omega)
            refine calls_of_wp hfn hbody (wp_mono hwp fun e a' w' hq => ?_)
            obtain ⟨h1, hd, _, ιF, EF, RF, EE⟩ := hq
            obtain ⟨c, ι', g1, g2, g3, g4⟩ := finish_ok (B := B) (w0 := w0) (frz := frz) (w := w) (fun _ => hf) R EF (fun _ => hkeep) (fun h0 => absurd h0 hm) (fun _ => RF) EE hfin
            rcases ho with rfl | rfl <;> cases e <;> simp only [outIs] at h1 <;> exact ⟨hd, c, g1, c, ι', rfl, g2, g3, g4⟩
        split at h
        · rename_i tF HF hexec; exact key .normal tF HF (.inl rfl) hexec h
        · rename_i tF HF hexec; exact key .ret tF HF (.inr rfl) hexec h
        · cases h
      · cases h
    · cases h
  · cases h

theorem exec_ok (C : Ctx) (hdraw : DrawOk C) : ∀ k, ExecOk C k := by
  intro k
  induction k using Nat.strongRecOn with
  | _ k ih =>
  cases k with
  | zero => intro frz c t H o t' H' h; simp [vexecF] at h
  | succ k =>
    have ihk := ih k (Nat.lt_succ_self k)
    intro frz c t H o t' H' h n hdst B w0 ι a w R hf E hd hn
    cases c <;> simp only [vexecF] at h <;> try (cases h; done)
    case skip => cases h; exact wp_skip ⟨trivial, hd, rfl, ι, Ext.refl _ _, R, E⟩
    case label => cases h; exact wp_label ⟨trivial, hd, rfl, ι, Ext.refl _ _, R, E⟩
    case ret => cases h; exact wp_ret ⟨trivial, hd, rfl, ι, Ext.refl _ _, R, E⟩
    case exit => cases h; exact wp_exit ⟨rfl, hd, rfl, ι, Ext.refl _ _, R, E⟩
    case seq c1 c2 =>
      simp only [dstOk, Bool.and_eq_true] at hdst
      split at h
      · rename_i t1 H1 h1
        have k1 := vexec_keeps C k _ _ _ _ _ _ _ hf h1
        refine wp_seq (wp_mono (ihk _ _ _ _ _ _ _ h1 n hdst.1 B w0 ι a w R hf E hd hn) fun e a1 w1 hq => ?_)
        obtain ⟨g1, gd, gs, ι1, g2, g3, g4⟩ := hq
        cases e <;> simp only [outIs] at g1
        refine wp_mono (ihk _ _ _ _ _ _ _ h n hdst.2 B w0 ι1 a1 w1 g3 (Nat.le_trans hf k1.1) g4 gd (by omega)) fun e2 a2 w2 hq2 => ⟨hq2.1, hq2.2.trans g2 gs⟩
      · rename_i hno
        refine wp_seq (wp_mono (ihk _ _ _ _ _ _ _ h n hdst.1 B w0 ι a w R hf E hd hn) fun e a1 w1 hq => ?_)
        cases o with
        | normal => exact absurd h (hno _ _)
        | ret => cases e <;> first | exact hq | exact absurd hq.1 (by simp [outIs])
        | exit i => cases e <;> first | exact hq | exact absurd hq.1 (by simp [outIs])
    case cond x0 c1 c2 =>
      simp only [dstOk, Bool.and_eq_true] at hdst
      have hx := ev_act E x0
      split at h
      · rename_i hb
        rw [hb] at hx
        generalize hc : a.eval x0 = cc at hx
        cases hx
        exact wp_cond_true hc (ihk _ _ _ _ _ _ _ h n hdst.1 B w0 ι a w R hf E hd hn)
      · rename_i hb
        rw [hb] at hx
        generalize hc : a.eval x0 = cc at hx
        cases hx
        exact wp_cond_false hc (ihk _ _ _ _ _ _ _ h n hdst.2 B w0 ι a w R hf E hd hn)
      · cases h
    case block id body =>
      simp only [dstOk] at hdst
      split at h
      · rename_i id' t1 H1 h1
        refine wp_block (wp_mono (ihk _ _ _ _ _ _ _ h1 n hdst B w0 ι a w R hf E hd hn) fun e a1 w1 hq => ?_)
        have hq1 := hq.1
        cases e <;> simp only [outIs] at hq1
        subst hq1
        simp only [Exit.inBlock]
        split at h
        · rename_i hid; cases h; rw [if_pos hid]; exact ⟨trivial, hq.2⟩
        · rename_i hid; cases h; rw [if_neg hid]; exact ⟨rfl, hq.2⟩
      · rename_i hno
        refine wp_block (wp_mono (ihk _ _ _ _ _ _ _ h n hdst B w0 ι a w R hf E hd hn) fun e a1 w1 hq => ?_)
        have hq1 := hq.1
        cases o with
        | normal => cases e <;> simp only [outIs] at hq1; exact hq
        | ret => cases e <;> simp only [outIs] at hq1; exact hq
        | exit i => exact absurd h (hno _ _ _)
    case loop body =>
      classical
      have hloop : vexecF C (k + 1) frz (.loop body) t H = some (o, t', H') := by simp only [vexecF]; exact h
      clear h
      let I0 : Nat → Act → World → Prop := fun j a1 w1 => j ≤ k + 1 ∧ ∃ t1 H1 ι1, vexecF C j frz (.loop body) t1 H1 = some (o, t', H') ∧ Ext H ι H1 ι1 ∧ Rel C.P B w0 frz ι1 H1 w1 ∧ ERel C.P H1 ι1 t1 a1.tmps ∧
        a1.defers = [] ∧ a1.tmps.size = a.tmps.size
      have hdec : ∀ a1 w1, (∃ j, I0 j a1 w1) → ∃ j, I0 j a1 w1 ∧ ∀ i, I0 i a1 w1 → j ≤ i := by
        intro a1 w1 ⟨j, hj⟩
        induction j using Nat.strongRecOn with
        | _ j ihj =>
          by_cases hm : ∃ i, i < j ∧ I0 i a1 w1
          · obtain ⟨i, hi, hI⟩ := hm; exact ihj i hi hI
          · exact ⟨j, hj, fun i hi => Nat.le_of_not_lt fun hlt => hm ⟨i, hlt, hi⟩⟩
      let μ : Act → World → Nat := fun a1 w1 => if hh : ∃ j, I0 j a1 w1 then Classical.choose (hdec a1 w1 hh) else 0
      refine wp_loop (fun a1 w1 => ∃ j, I0 j a1 w1) μ ⟨k + 1, Nat.le_refl _, t, H, ι, hloop, Ext.refl _ _, R, E, hd, rfl⟩ fun a1 w1 hI => ?_
      have hμ : μ a1 w1 = Classical.choose (hdec a1 w1 hI) := by simp only [μ]; rw [dif_pos hI]
      obtain ⟨⟨hjk, t1, H1, ι1, hex, e1, R1, E1, hd1, hs1⟩, hmin⟩ := Classical.choose_spec (hdec a1 w1 hI)
      rw [← hμ] at hjk hex hmin
      generalize μ a1 w1 = j at *
      cases j with
      | zero => simp [vexecF] at hex
      | succ j =>
        simp only [vexecF] at hex
        have hfr1 : frz ≤ H1.length := Nat.le_trans hf e1.len
        have ihj := ih j (by omega)
        split at hex
        · rename_i t2 H2 h2
          refine wp_mono (ihj _ _ _ _ _ _ _ h2 n (by simpa [dstOk] using hdst) B w0 ι1 a1 w1 R1 hfr1 E1 hd1 (by omega)) fun e a2 w2 hq => ?_
          obtain ⟨g1, gd, gs, ι2, g2, g3, g4⟩ := hq
          cases e <;> simp only [outIs] at g1
          have hI2 : I0 j a2 w2 := ⟨by omega, t2, H2, ι2, hex, e1.trans g2, g3, g4, gd, by omega⟩
          refine ⟨⟨j, hI2⟩, ?_⟩
          have h3 : μ a2 w2 = Classical.choose (hdec a2 w2 ⟨j, hI2⟩) := by simp only [μ]; rw [dif_pos ⟨j, hI2⟩]
          have h4 := (Classical.choose_spec (hdec a2 w2 ⟨j, hI2⟩)).2 j hI2
          omega
        · rename_i hno
          refine wp_mono (ihj _ _ _ _ _ _ _ hex n (by simpa [dstOk] using hdst) B w0 ι1 a1 w1 R1 hfr1 E1 hd1 (by omega)) fun e a2 w2 hq => ?_
          have hq1 := hq.1
          have hq2 : QPost C.P B w0 frz H ι o t' H' a.tmps.size e a2 w2 := ⟨hq.1, hq.2.trans e1 hs1⟩
          cases o with
          | normal => exact absurd hex (hno _ _)
          | ret => cases e <;> simp only [outIs] at hq1; exact hq2
          | exit i => cases e <;> simp only [outIs] at hq1; exact hq2
    case region id ops draw =>
      split at h
      · rename_i hdr
        split at h
        · rename_i t1 H1 h1
          cases h
          have hdst' : ∀ o ∈ ops.toList, ∀ d, o.dst = some d → d < a.tmps.size := fun o ho d hd' => Nat.lt_of_lt_of_le (dstOk_region hdst o ho d hd') hn
          cases draw with
          | false =>
            exact wp_region_list (vops_ok (call_ok ihk frz) (vcall_keeps (vexec_keeps C k)) ops.toList t H ι a w h1 R hf E hd hdst' fun a' w' hp => ⟨trivial, hp⟩)
          | true =>
            exact hdraw id ops (vcallWith C (vexecF C k)) frz (hdr rfl) (fun f => call_ok ihk f) (fun _ => vcall_keeps (vexec_keeps C k))
              (fun f f' g l H hm => by unfold vcallWith; simp only [if_neg hm]) t H _ _ ι a w B w0 h1 R hf E hd hdst'
        · cases h
      · cases h
end Go.VM
