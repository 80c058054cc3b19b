/- Texts of a proof, joined. -/
import Derived.Orders
import Derived.Deep.Slices
import Derived.ChangeArms
import Derived.WideShapes
import Derived.Test.YtglfimnjnnfdlaaDoorKM0
/-! The whole: by induction on the rounds. -/
set_option linter.all false
namespace Go.VM
open Go Go.RowKit
variable {H H' HF : Heap} {ι ι' : Inj} {v c x y d s : Value} {B frz : Nat} {w0 w w' : World} {t t' : Env} {a : Act}

def outIs : Out → Exit → Prop
  | .normal, .normal => True
  | .ret, .ret => True
  | .exit i, .exit j => i = j
  | _, _ => False
def QPost (P : Program) (B : Nat) (w0 : World) (frz : Nat) (H : Heap) (ι : Inj) (o : Out) (t' : Env) (H' : Heap) (sz : Nat) (e : Exit) (a' : Act) (w' : World) : Prop :=
  outIs o e ∧ Post P B w0 frz H ι t' H' sz a' w'

def ExecOk (C : Ctx) (k : Nat) : Prop :=
  ∀ frz c t H o t' H', vexecF C k frz c t H = some (o, t', H') → ∀ n, dstOk n c = true → ∀ B w0 ι (a : Act) w, Rel C.P B w0 frz ι H w → frz ≤ H.length →
    ERel C.P H ι t a.tmps → a.defers = [] → n ≤ a.tmps.size → c.wp C.P (QPost C.P B w0 frz H ι o t' H' a.tmps.size) a w
/-- a region that draws its order -/
def DrawOk (C : Ctx) : Prop :=
  ∀ (id : Nat) (ops : Array Oper) (call : Nat → Calling) (frz : Nat), (∀ f, CallOk C.P (call f) f) → (∀ f, CallKeeps f (call f)) →
    (∀ f f' g l H, C.mode g ≠ 2 → call f g l H = call f' g l H) →
    ∀ (t : Env) (H : Heap) (t' : Env) (H' : Heap) (ι : Inj) (a : Act) (w : World) (B : Nat) (w0 : World), vregion C frz (call frz) ops true t H = some (t', H') →
    Rel C.P B w0 frz ι H w → frz ≤ H.length → ERel C.P H ι t a.tmps → a.defers = [] → (∀ o ∈ ops.toList, ∀ d, o.dst = some d → d < a.tmps.size) →
    (Code.region id ops true).wp C.P (QPost C.P B w0 frz H ι .normal t' H' a.tmps.size) a w

theorem Post.trans {P : Program} {H1 : Heap} {a1 : Act} {ι1 : Inj} {sz : Nat} {a2 : Act} {w2 : World} (h1 : Ext H ι H1 ι1) (hsz : a1.tmps.size = sz)
    (h : Post P B w0 frz H1 ι1 t' H' a1.tmps.size a2 w2) : Post P B w0 frz H ι t' H' sz a2 w2 := by
  obtain ⟨p1, p2, ι2, p3, p4, p5⟩ := h
  exact ⟨p1, p2.trans hsz, ι2, h1.trans p3, p4, p5⟩

theorem fnOk_spec {fn : Func} {c : Code} (h : fnOk fn c = true) : dstOk fn.ntmps c = true ∧ (fn.name == "runtime.NumGoroutine") = false := by
  simp [fnOk] at h; exact ⟨h.1, by simpa using h.2⟩

theorem finish_ok {C : Ctx} {g : Nat} {fn : Func} {tF : Env} {ιF : Inj} {wF : World} {aF : Act} (hmode : C.mode g = 0 → frz ≤ H.length)
    (R : Rel C.P B w0 frz ι H w) (EF : Ext H ι HF ιF) (hkeep : C.mode g ≠ 2 → Keeps H.length H HF)
    (RF2 : C.mode g = 2 → Rel C.P B w0 frz ιF HF wF) (RF : C.mode g ≠ 2 → Rel C.P w.heap.size w H.length ιF HF wF) (E : ERel C.P HF ιF tF aF.tmps)
    (h : vfinish C g fn H tF HF = some (v, H')) : ∃ c ι', (results fn aF.tmps).run C.P wF = .ok c wF ∧ VRel C.P H' ι' v c ∧ Ext H ι H' ι' ∧ Rel C.P B w0 frz ι' H' wF := by
  unfold vfinish at h
  split at h
  · rename_i vs hvs
    by_cases h2 : C.mode g = 2
    · obtain ⟨c, hr, hv⟩ := results_ok (RF2 h2) E hvs
      rw [if_neg (by omega)] at h
      cases h
      exact ⟨c, ιF, hr, hv, EF, RF2 h2⟩
    · obtain ⟨c, hr, hv⟩ := results_ok (RF h2) E hvs
      have K := hkeep h2
      split at h
      · rename_i h0
        split at h
        · rename_i v1 ids hp
          cases h
          obtain ⟨G, o⟩ := pack_ok EF K hv hp
          exact ⟨c, _, hr, o ids (List.prefix_refl _) G, packExt, pack_rel EF K R (RF h2) G⟩
        · cases h
      · cases h
        have hB := R.hB
        refine ⟨c, ιF, hr, hv, EF, ?_⟩
        -- rows that were there are the caller's; the new ones lie in blocks of their own
        have RFF := RF h2
        refine ⟨R.below.trans (RFF.below.mono hB), by have := RFF.below.size; omega, RFF.row, fun id l r hl hr' hf => ?_, R.gl⟩
        by_cases hid : id < H.length
        · obtain ⟨e1, e2⟩ := inj_old EF K hid
          rw [e2] at hl
          rw [e1] at hr'
          obtain ⟨q1, ⟨cs, q2, q3⟩, q4⟩ := R.own id l r hl hr' hf
          have hb := (R.row id l hl).1
          refine ⟨q1, ⟨cs, by rw [RFF.below.block _ hb]; exact q2, q3⟩, fun id' l' hl' hbb => ?_⟩
          by_cases hid' : id' < H.length
          · exact q4 id' l' (by rw [← (inj_old EF K hid').2]; exact hl') hbb
          · obtain ⟨_, r', hr2, _⟩ := RFF.row id' l' hl'
            have := (RFF.own id' l' r' hl' hr2 (by omega)).1
            omega
        · obtain ⟨q1, q2, q4⟩ := RFF.own id l r hl hr' (by omega)
          exact ⟨by omega, q2, q4⟩
  · cases h

theorem call_ok {C : Ctx} {k : Nat} (hex : ExecOk C k) (frz : Nat) : CallOk C.P (vcallWith C (vexecF C k) frz) frz := by
  intro g l H v H' h hf
  unfold vcallWith at h
  split at h
  · rename_i fn hfn
    split at h
    · rename_i body hbody
      split at h
      · rename_i hok
        obtain ⟨hdst, hname⟩ := fnOk_spec hok
        refine ⟨⟨fn, hfn, by rw [hbody]; rfl, hname⟩, fun B w0 ι w cl R L => ?_⟩
        have hfr : (if C.mode g = 2 then frz else H.length) ≤ H.length := by split <;> omega
        have E0 : ERel C.P H ι (argEnv l) (cl.toArray ++ Array.replicate (fn.ntmps - cl.toArray.size) undef) := by
          intro x
          have e : (cl.toArray ++ Array.replicate (fn.ntmps - cl.toArray.size) undef).getD x undef = cl.getD x undef := by
            simp only [Array.getD_eq_getD_getElem?, List.getD_eq_getElem?_getD]
            by_cases hx : x < cl.length
            · rw [Array.getElem?_append_left (by simpa using hx)]; simp
            · rw [Array.getElem?_append_right (by simp; omega)]
              rw [List.getElem?_eq_none (by omega)]
              simp only [Array.getElem?_replicate]
              split <;> rfl
          rw [e]
          simp only [argEnv, List.getD_eq_getElem?_getD]
          by_cases hx : x < l.length
          · have hx' : x < cl.length := by rw [← L.1]; exact hx
            rw [List.getElem?_eq_getElem hx, List.getElem?_eq_getElem hx']
            exact L.2 x _ _ (List.getElem?_eq_getElem hx) (List.getElem?_eq_getElem hx')
          · rw [List.getElem?_eq_none (by omega), List.getElem?_eq_none (by rw [← L.1]; omega)]
            exact VRel.undef
        have key : ∀ o tF HF, (o = .normal ∨ o = .ret) → vexecF C k (if C.mode g = 2 then frz else H.length) body (argEnv l) H = some (o, tF, HF) → vfinish C g fn H tF HF = some (v, H') →
            Calls C.P g cl.toArray w fun e w' => ∃ c ι', e = .returned c ∧ VRel C.P H' ι' v c ∧ Ext H ι H' ι' ∧ Rel C.P B w0 frz ι' H' w' := by
          intro o tF HF ho hexec hfin
          have hkeep := vexec_keeps C k _ _ _ _ _ _ _ hfr hexec
          by_cases hm : C.mode g = 2
          · rw [if_pos hm] at hexec hkeep
            have hwp := hex _ _ _ _ _ _ _ hexec fn.ntmps hdst B w0 ι { tmps := cl.toArray ++ Array.replicate (fn.ntmps - cl.toArray.size) undef, defers := [] } w R hf E0 rfl (by simp; omega)
            refine calls_of_wp hfn hbody (wp_mono hwp fun e a' w' hq => ?_)
            obtain ⟨h1, hd, _, ιF, EF, RF, EE⟩ := hq
            obtain ⟨c, ι', g1, g2, g3, g4⟩ := finish_ok (B := B) (w0 := w0) (frz := frz) (w := w) (fun h0 => by omega) R EF (fun h0 => absurd hm h0) (fun _ => RF) (fun h0 => absurd hm h0) EE hfin
            rcases ho with rfl | rfl <;> cases e <;> simp only [outIs] at h1 <;> exact ⟨hd, c, g1, c, ι', rfl, g2, g3, g4⟩
          · rw [if_neg hm] at hexec hkeep
            have hwp := hex _ _ _ _ _ _ _ hexec fn.ntmps hdst w.heap.size w ι { tmps := cl.toArray ++ Array.replicate (fn.ntmps - cl.toArray.size) undef, defers := [] } w R.freeze (Nat.le_refl _) E0 rfl (by simp; omega)
            refine calls_of_wp hfn hbody (wp_mono hwp fun e a' w' hq => ?_)
            obtain ⟨h1, hd, _, ιF, EF, RF, EE⟩ := hq
            obtain ⟨c, ι', g1, g2, g3, g4⟩ := finish_ok (B := B) (w0 := w0) (frz := frz) (w := w) (fun _ => hf) R EF (fun _ => hkeep) (fun h0 => absurd h0 hm) (fun _ => RF) EE hfin
            rcases ho with rfl | rfl <;> cases e <;> simp only [outIs] at h1 <;> exact ⟨hd, c, g1, c, ι', rfl, g2, g3, g4⟩
        split at h
        · rename_i tF HF hexec; exact key .normal tF HF (.inl rfl) hexec h
        · rename_i tF HF hexec; exact key .ret tF HF (.inr rfl) hexec h
        · cases h
      · cases h
    · cases h
  · cases h

theorem exec_ok (C : Ctx) (hdraw : DrawOk C) : ∀ k, ExecOk C k := by
  intro k
  induction k using Nat.strongRecOn with
  | _ k ih =>
  cases k with
  | zero => intro frz c t H o t' H' h; simp [vexecF] at h
  | succ k =>
    have ihk := ih k (Nat.lt_succ_self k)
    intro frz c t H o t' H' h n hdst B w0 ι a w R hf E hd hn
    cases c <;> simp only [vexecF] at h <;> try (cases h; done)
    case skip => cases h; exact wp_skip ⟨trivial, hd, rfl, ι, Ext.refl _ _, R, E⟩
    case label => cases h; exact wp_label ⟨trivial, hd, rfl, ι, Ext.refl _ _, R, E⟩
    case ret => cases h; exact wp_ret ⟨trivial, hd, rfl, ι, Ext.refl _ _, R, E⟩
    case exit => cases h; exact wp_exit ⟨rfl, hd, rfl, ι, Ext.refl _ _, R, E⟩
    case seq c1 c2 =>
      simp only [dstOk, Bool.and_eq_true] at hdst
      split at h
      · rename_i t1 H1 h1
        have k1 := vexec_keeps C k _ _ _ _ _ _ _ hf h1
        refine wp_seq (wp_mono (ihk _ _ _ _ _ _ _ h1 n hdst.1 B w0 ι a w R hf E hd hn) fun e a1 w1 hq => ?_)
        obtain ⟨g1, gd, gs, ι1, g2, g3, g4⟩ := hq
        cases e <;> simp only [outIs] at g1
        refine wp_mono (ihk _ _ _ _ _ _ _ h n hdst.2 B w0 ι1 a1 w1 g3 (Nat.le_trans hf k1.1) g4 gd (by omega)) fun e2 a2 w2 hq2 => ⟨hq2.1, hq2.2.trans g2 gs⟩
      · rename_i hno
        refine wp_seq (wp_mono (ihk _ _ _ _ _ _ _ h n hdst.1 B w0 ι a w R hf E hd hn) fun e a1 w1 hq => ?_)
        cases o with
        | normal => exact absurd h (hno _ _)
        | ret => cases e <;> first | exact hq | exact absurd hq.1 (by simp [outIs])
        | exit i => cases e <;> first | exact hq | exact absurd hq.1 (by simp [outIs])
    case cond x0 c1 c2 =>
      simp only [dstOk, Bool.and_eq_true] at hdst
      have hx := ev_act E x0
      split at h
      · rename_i hb
        rw [hb] at hx
        generalize hc : a.eval x0 = cc at hx
        cases hx
        exact wp_cond_true hc (ihk _ _ _ _ _ _ _ h n hdst.1 B w0 ι a w R hf E hd hn)
      · rename_i hb
        rw [hb] at hx
        generalize hc : a.eval x0 = cc at hx
        cases hx
        exact wp_cond_false hc (ihk _ _ _ _ _ _ _ h n hdst.2 B w0 ι a w R hf E hd hn)
      · cases h
    case block id body =>
      simp only [dstOk] at hdst
      split at h
      · rename_i id' t1 H1 h1
        refine wp_block (wp_mono (ihk _ _ _ _ _ _ _ h1 n hdst B w0 ι a w R hf E hd hn) fun e a1 w1 hq => ?_)
        have hq1 := hq.1
        cases e <;> simp only [outIs] at hq1
        subst hq1
        simp only [Exit.inBlock]
        split at h
        · rename_i hid; cases h; rw [if_pos hid]; exact ⟨trivial, hq.2⟩
        · rename_i hid; cases h; rw [if_neg hid]; exact ⟨rfl, hq.2⟩
      · rename_i hno
        refine wp_block (wp_mono (ihk _ _ _ _ _ _ _ h n hdst B w0 ι a w R hf E hd hn) fun e a1 w1 hq => ?_)
        have hq1 := hq.1
        cases o with
        | normal => cases e <;> simp only [outIs] at hq1; exact hq
        | ret => cases e <;> simp only [outIs] at hq1; exact hq
        | exit i => exact absurd h (hno _ _ _)
    case loop body =>
      classical
      have hloop : vexecF C (k + 1) frz (.loop body) t H = some (o, t', H') := by simp only [vexecF]; exact h
      clear h
      let I0 : Nat → Act → World → Prop := fun j a1 w1 => j ≤ k + 1 ∧ ∃ t1 H1 ι1, vexecF C j frz (.loop body) t1 H1 = some (o, t', H') ∧ Ext H ι H1 ι1 ∧ Rel C.P B w0 frz ι1 H1 w1 ∧ ERel C.P H1 ι1 t1 a1.tmps ∧
        a1.defers = [] ∧ a1.tmps.size = a.tmps.size
      have hdec : ∀ a1 w1, (∃ j, I0 j a1 w1) → ∃ j, I0 j a1 w1 ∧ ∀ i, I0 i a1 w1 → j ≤ i := by
        intro a1 w1 ⟨j, hj⟩
        induction j using Nat.strongRecOn with
        | _ j ihj =>
          by_cases hm : ∃ i, i < j ∧ I0 i a1 w1
          · obtain ⟨i, hi, hI⟩ := hm; exact ihj i hi hI
          · exact ⟨j, hj, fun i hi => Nat.le_of_not_lt fun hlt => hm ⟨i, hlt, hi⟩⟩
      let μ : Act → World → Nat := fun a1 w1 => if hh : ∃ j, I0 j a1 w1 then Classical.choose (hdec a1 w1 hh) else 0
      refine wp_loop (fun a1 w1 => ∃ j, I0 j a1 w1) μ ⟨k + 1, Nat.le_refl _, t, H, ι, hloop, Ext.refl _ _, R, E, hd, rfl⟩ fun a1 w1 hI => ?_
      have hμ : μ a1 w1 = Classical.choose (hdec a1 w1 hI) := by simp only [μ]; rw [dif_pos hI]
      obtain ⟨⟨hjk, t1, H1, ι1, hex, e1, R1, E1, hd1, hs1⟩, hmin⟩ := Classical.choose_spec (hdec a1 w1 hI)
      rw [← hμ] at hjk hex hmin
      generalize μ a1 w1 = j at *
      cases j with
      | zero => simp [vexecF] at hex
      | succ j =>
        simp only [vexecF] at hex
        have hfr1 : frz ≤ H1.length := Nat.le_trans hf e1.len
        have ihj := ih j (by omega)
        split at hex
        · rename_i t2 H2 h2
          refine wp_mono (ihj _ _ _ _ _ _ _ h2 n (by simpa [dstOk] using hdst) B w0 ι1 a1 w1 R1 hfr1 E1 hd1 (by omega)) fun e a2 w2 hq => ?_
          obtain ⟨g1, gd, gs, ι2, g2, g3, g4⟩ := hq
          cases e <;> simp only [outIs] at g1
          have hI2 : I0 j a2 w2 := ⟨by omega, t2, H2, ι2, hex, e1.trans g2, g3, g4, gd, by omega⟩
          refine ⟨⟨j, hI2⟩, ?_⟩
          have h3 : μ a2 w2 = Classical.choose (hdec a2 w2 ⟨j, hI2⟩) := by simp only [μ]; rw [dif_pos ⟨j, hI2⟩]
          have h4 := (Classical.choose_spec (hdec a2 w2 ⟨j, hI2⟩)).2 j hI2
          omega
        · rename_i hno
          refine wp_mono (ihj _ _ _ _ _ _ _ hex n (by simpa [dstOk] using hdst) B w0 ι1 a1 w1 R1 hfr1 E1 hd1 (by omega)) fun e a2 w2 hq => ?_
          have hq1 := hq.1
          have hq2 : QPost C.P B w0 frz H ι o t' H' a.tmps.size e a2 w2 := ⟨hq.1, hq.2.trans e1 hs1⟩
          cases o with
          | normal => exact absurd hex (hno _ _)
          | ret => cases e <;> simp only [outIs] at hq1; exact hq2
          | exit i => cases e <;> simp only [outIs] at hq1; exact hq2
    case region id ops draw =>
      split at h
      · rename_i t1 H1 h1
        cases h
        have hdst' : ∀ o ∈ ops.toList, ∀ d, o.dst = some d → d < a.tmps.size := fun o ho d hd' => Nat.lt_of_lt_of_le (dstOk_region hdst o ho d hd') hn
        cases draw with
        | false =>
            by_cases hnr : nilReg ops = true
            · have h1 : put t (nilDst ops) (.slice none 0 1) = t' ∧ H = H' := by simpa [-nilReg_eq, -nilDst_eq, vregion, hnr] using h1
              obtain ⟨rfl, rfl⟩ := h1
              exact wp_region_list (nil_reg hnr t H ι a w R E hd hdst' fun a' w' hp => ⟨trivial, hp⟩)
            have hnr : nilReg ops = false := by cases hh : nilReg ops; rfl; exact absurd hh hnr
            have h1 : vops C.P frz (vcallWith C (vexecF C k) frz) ops ops.toList t H = some (t', H') := by simpa [-nilReg_eq, -nilDst_eq, vregion, plan, hnr] using h1
            exact wp_region_list (vops_ok (call_ok ihk frz) (vcall_keeps (vexec_keeps C k)) ops.toList t H ι a w h1 R hf E hd hdst' fun a' w' hp => ⟨trivial, hp⟩)
        | true =>
            exact hdraw id ops (vcallWith C (vexecF C k)) frz (fun f => call_ok ihk f) (fun _ => vcall_keeps (vexec_keeps C k))
              (fun f f' g l H hm => by unfold vcallWith; simp only [if_neg hm]) t H _ _ ι a w B w0 h1 R hf E hd hdst'
      · cases h
end Go.VM
/-! A drawn region under other numbers. -/
set_option linter.all false
namespace Go.VM
open Go
section
variable {P : Program} {md : Region.Mode} {Q : Exit → Act → World → Prop} {ops : Array Oper} {pl : List Nat} {n : Nat}
theorem permA_get (hn : ops.size = n) (h1 : pl.length = n) (h3 : ∀ i, i ∈ pl ↔ i < n) (i : Nat) : (permA pl ops)[pl.idxOf i]? = (ops[i]?).map (renO pl) := by
  by_cases hi : i < n
  · have hm := (h3 i).2 hi
    have hk := List.idxOf_lt_length_of_mem hm
    have e : pl[pl.idxOf i] = i := List.getElem_idxOf hk
    unfold permA
    rw [List.getElem?_toArray, List.getElem?_map, List.getElem?_eq_getElem hk, e]
    have ho : ops[i]? = some ops[i] := Array.getElem?_eq_getElem (by omega)
    simp [ho]
  · have hk : pl.idxOf i = pl.length := List.idxOf_eq_length fun h => hi ((h3 i).1 h)
    rw [hk, Array.getElem?_eq_none (by simp [permA]), Array.getElem?_eq_none (by omega)]
    rfl
theorem permA_size (hn : ops.size = n) (h1 : pl.length = n) : (permA pl ops).size = n := by simp [permA, h1]
theorem renO_wp (o : Oper) (a : Act) (w : World) (K : Act → World → Prop) : (renO pl o).wp P a w K Q = o.wp P a w K Q := by
  obtain ⟨dst, op, ty, pos, after, guard⟩ := o; rfl
theorem renO_asks (o : Oper) (a : Act) (w : World) : (renO pl o).asks P a w = o.asks P a w := by
  obtain ⟨dst, op, ty, pos, after, guard⟩ := o; rfl
theorem perm_yielded (hn : ops.size = n) (h1 : pl.length = n) (h3 : ∀ i, i ∈ pl ↔ i < n) (tmps : Array Value) (j : Nat) : yielded (permA pl ops) tmps (pl.idxOf j) = yielded ops tmps j := by
  unfold yielded
  rw [permA_get hn h1 h3]
  cases ops[j]? <;> rfl
theorem perm_wanted (hn : ops.size = n) (h1 : pl.length = n) (h3 : ∀ i, i ∈ pl ↔ i < n) (tmps : Array Value) (o : Oper) : Region.wanted (renO pl o) (yielded (permA pl ops) tmps) = Region.wanted o (yielded ops tmps) := by
  obtain ⟨dst, op, ty, pos, after, guard⟩ := o
  cases guard with
  | none => rfl
  | some g =>
    show (yielded (permA pl ops) tmps (pl.idxOf g.1) == some g.2) = (yielded ops tmps g.1 == some g.2)
    rw [perm_yielded hn h1 h3]
theorem perm_ready (hn : ops.size = n) (h1 : pl.length = n) (h3 : ∀ i, i ∈ pl ↔ i < n) {listed listed' : Array Bool} (hl : ∀ i, listed'[pl.idxOf i]? = listed[i]?) {i : Nat} (hi : i < n) :
    pl.idxOf i ∈ Region.ready md (permA pl ops) listed' ↔ i ∈ Region.ready md ops listed := by
  have hk := List.idxOf_lt_length_of_mem ((h3 i).2 hi)
  have hd : ∀ j b, listed'.getD (pl.idxOf j) b = listed.getD j b := fun j b => by simp only [Array.getD_eq_getD_getElem?, hl]
  have ho : ops[i]? = some ops[i] := Array.getElem?_eq_getElem (by omega)
  have ha : ((renO pl ops[i]).after.all fun e => !Region.binds md e || listed'.getD e.on false) = (ops[i].after.all fun e => !Region.binds md e || listed.getD e.on false) := by
    show ((renE pl ops[i].after).all fun e => !Region.binds md e || listed'.getD e.on false) = _
    unfold renE
    rw [Array.all_map]
    congr 1
    funext e
    show (!Region.binds md e || listed'.getD (pl.idxOf e.on) false) = _
    rw [hd]
  unfold Region.ready
  rw [List.mem_filter, List.mem_filter, List.mem_range, List.mem_range, permA_get hn h1 h3, permA_size hn h1, hd, ho]
  simp only [Option.map_some, Option.getD_some, ha]
  constructor
  · rintro ⟨_, h⟩; exact ⟨by omega, h⟩
  · rintro ⟨_, h⟩; exact ⟨by omega, h⟩
theorem wpAny_perm (hn : ops.size = n) (h1 : pl.length = n) (h2 : pl.Nodup) (h3 : ∀ i, i ∈ pl ↔ i < n) : ∀ (fuel : Nat) (listed listed' : Array Bool) (a : Act) (w : World), listed.size = n → listed'.size = n → (∀ i, listed'[pl.idxOf i]? = listed[i]?) →
    wpAny P md (permA pl ops) Q fuel listed' a w → wpAny P md ops Q fuel listed a w := by
  have hnil : ∀ (listed listed' : Array Bool), (∀ i, listed'[pl.idxOf i]? = listed[i]?) → Region.ready md ops listed = [] → Region.ready md (permA pl ops) listed' = [] := by
    intro listed listed' hl h
    cases hr : Region.ready md (permA pl ops) listed' with
    | nil => rfl
    | cons k l =>
      have hk : k ∈ Region.ready md (permA pl ops) listed' := by rw [hr]; simp
      have hkn : k < n := by
        have := (List.mem_filter.1 hk).1
        rw [List.mem_range, permA_size hn h1] at this; exact this
      have hkl : k < pl.length := by omega
      have e : pl.idxOf pl[k] = k := h2.idxOf_getElem k hkl
      have hm : pl[k] < n := (h3 _).1 (List.getElem_mem hkl)
      rw [← e] at hk
      have := (perm_ready hn h1 h3 hl hm).1 hk
      rw [h] at this; cases this
  intro fuel
  induction fuel with
  | zero =>
    intro listed listed' a w _ _ hl h
    refine ⟨?_, h.2⟩
    cases hr : Region.ready md ops listed with
    | nil => rfl
    | cons i l =>
      have hi : i ∈ Region.ready md ops listed := by rw [hr]; simp
      have hin : i < n := by
        have := (List.mem_filter.1 hi).1
        rw [List.mem_range, hn] at this; exact this
      have := (perm_ready hn h1 h3 hl hin).2 hi
      rw [h.1] at this; cases this
  | succ fuel ih =>
    intro listed listed' a w hs hs' hl h
    refine ⟨fun hr => h.1 (hnil _ _ hl hr), fun i hi => ?_⟩
    have hin : i < n := by
      have := (List.mem_filter.1 hi).1
      rw [List.mem_range, hn] at this; exact this
    have hop := h.2 _ ((perm_ready hn h1 h3 hl hin).2 hi)
    have hK : ∀ a' w', wpAny P md (permA pl ops) Q fuel (listed'.setIfInBounds (pl.idxOf i) true) a' w' → wpAny P md ops Q fuel (listed.setIfInBounds i true) a' w' := by
      intro a' w' h'
      refine ih _ _ a' w' (by simpa using hs) (by simpa using hs') (fun j => ?_) h'
      by_cases hj : j = i
      · subst hj
        have hk := List.idxOf_lt_length_of_mem ((h3 j).2 hin)
        rw [Array.getElem?_setIfInBounds_self, Array.getElem?_setIfInBounds_self, if_pos (by omega), if_pos (by omega)]
      · have hne : pl.idxOf j ≠ pl.idxOf i := fun e => by
          have hm := (h3 i).2 hin
          by_cases hjn : j < n
          · have hk := List.idxOf_lt_length_of_mem ((h3 j).2 hjn)
            have g1 : pl[pl.idxOf j] = j := List.getElem_idxOf hk
            have g2 : pl[pl.idxOf i]'(List.idxOf_lt_length_of_mem hm) = i := List.getElem_idxOf _
            have : pl[pl.idxOf j] = pl[pl.idxOf i]'(List.idxOf_lt_length_of_mem hm) := by congr 1
            exact hj (by rw [← g1, this, g2])
          · have := List.idxOf_eq_length (l := pl) (a := j) fun h => hjn ((h3 j).1 h)
            have := List.idxOf_lt_length_of_mem hm
            omega
        rw [Array.getElem?_setIfInBounds_ne (Ne.symm hne), Array.getElem?_setIfInBounds_ne (Ne.symm hj), hl]
    unfold wpOp at hop ⊢
    rw [permA_get hn h1 h3] at hop
    cases ho : ops[i]? with
    | none => rw [ho] at hop; exact hK _ _ hop
    | some o =>
      rw [ho] at hop
      simp only [Option.map_some] at hop ⊢
      rw [perm_wanted hn h1 h3] at hop
      split
      · rename_i hw
        simp only [hw, if_true] at hop
        rw [renO_wp, renO_asks] at hop
        exact hop.imp (Oper.wp_mono hK) _root_.id
      · rename_i hw
        simp only [hw] at hop
        exact hK _ _ hop
end
theorem filter_both {α : Type} (f : α → Bool) : ∀ l : List α, (l.filter f).length + (l.filter fun x => !f x).length = l.length
  | [] => rfl
  | x :: l => by
    have := filter_both f l
    cases h : f x <;> simp [List.filter_cons, h] <;> omega
theorem aheadP_ok (ops : Array Oper) : (aheadP ops).length = ops.size ∧ (aheadP ops).Nodup ∧ ∀ i, i ∈ aheadP ops ↔ i < ops.size := by
  unfold aheadP
  generalize (stuck (bmasks ops.toList []) ops.toList 0 0) = s
  refine ⟨?_, ?_, fun i => ?_⟩
  · rw [List.length_append, filter_both (fun i => !s.testBit i), List.length_range]
  · refine List.nodup_append.2 ⟨List.nodup_range.filter _, List.nodup_range.filter _, fun a ha b hb e => ?_⟩
    subst e
    have h1 := (List.mem_filter.1 ha).2
    have h2 := (List.mem_filter.1 hb).2
    simp at h1 h2
    rw [h1] at h2; cases h2
  · rw [List.mem_append, List.mem_filter, List.mem_filter, List.mem_range]
    cases s.testBit i <;> simp
end Go.VM
/-! Regions that draw their order: what the machine says in the text's order holds in any. -/
set_option linter.all false
namespace Go.VM
open Go Go.RowKit
variable {P : Program} {H H' HF : Heap} {ι ι' : Inj} {v c x y d s : Value} {B frz : Nat} {w0 w w' : World} {t t' : Env} {a : Act}

theorem VRel.grow (h : ∀ id l, ι id = some l → ι' id = some l) (hv : VRel P H ι v c) : VRel P H ι' v c := by
  induction hv with
  | int => exact .int _ _
  | bool => exact .bool _
  | str => exact .str _
  | nilFunc => exact .nilFunc
  | nilPtr => exact .nilPtr
  | nilSl => exact .nilSl
  | noSl => exact .noSl
  | trueNil => exact .trueNil
  | ptr hr hg hl => exact .ptr hr hg (h _ _ hl)
  | stalePtr hr hg hlt h1 => exact .stalePtr hr hg hlt h1
  | sl hr hg hl hlen hcap => exact .sl hr hg (h _ _ hl) hlen hcap
  | slZero hr hg hl => exact .slZero hr hg (h _ _ hl)
  | staleSl hr hg hlt h1 => exact .staleSl hr hg hlt h1
  | glob => exact .glob
  | func hf hc _ _ i1 i2 => exact .func hf hc i1 i2
  | agg hc _ ih => exact .agg hc ih
  | tuple hc _ ih => exact .tuple hc ih
  | dead h1 => exact .dead h1
  | bot => exact .bot

/-- an operation that looks at no row: in any world -/
theorem pure_ok (E : ERel P H ι t a.tmps) {call : Calling} (o : Oper) (hp : pureB o.op = true) (h : vop P frz call o.op t H = some (v, H')) (w : World) :
    H' = H ∧ ∃ c, (execOp a.eval o).run P w = .ok (.value c) w ∧ VRel P H ι v c := by
  obtain ⟨dst, op, type, pos, after, guard⟩ := o
  have same : ∀ {s : Sem Value} {v : Value}, (∃ c, s.run P w = .ok c w ∧ VRel P H ι v c) → ∃ c, ((do pure (.value (← s)) : Sem Next).run P w = .ok (.value c) w) ∧ VRel P H ι v c :=
    fun ⟨c, h1, h2⟩ => ⟨c, by rw [Sem.run_bind, h1]; rfl, h2⟩
  cases op <;> simp only [pureB] at hp <;> simp only [vop] at h <;> try (cases hp; done)
  case move x => cases h; exact ⟨rfl, _, rfl, ev_act E x⟩
  case assign x => cases h; exact ⟨rfl, _, rfl, ev_act E x⟩
  case pick c0 x y =>
    have hc := ev_act E c0
    split at h
    · rename_i hb; rw [hb] at hc; cases h
      generalize hcc : a.eval c0 = cc at hc
      cases hc
      exact ⟨rfl, _, by simp [execOp, hcc, asBool], ev_act E x⟩
    · rename_i hb; rw [hb] at hc; cases h
      generalize hcc : a.eval c0 = cc at hc
      cases hc
      exact ⟨rfl, _, by simp [execOp, hcc, asBool], ev_act E y⟩
    · cases h
  case build ty parts => obtain ⟨v', h1, h2⟩ := omap h; cases h2; exact ⟨rfl, same (build_ok (prel_act E parts) h1)⟩
  case nilCheck x =>
    have hx := ev_act E x
    split at h
    · rename_i ad hb
      split at h
      · rename_i r hr; cases h
        rw [hb] at hx
        obtain ⟨l, hl, hc⟩ := hx.ptr_inv hr
        rw [hc] at hx
        exact ⟨rfl, _, by simp only [execOp, hc]; rfl, hx⟩
      · cases h
    · cases h
  case binOp op ty x y yt =>
    obtain ⟨v', h1, h2⟩ := omap h; cases h2
    by_cases hq : isNilC y = true
    · rw [hq] at h1
      cases isNilC_eq hq
      obtain ⟨⟨c', g1, g2⟩, b, n, k, hc⟩ := nilq_ok (w := w) (ev_act E x) h1
      have hg : (eqGuard op ty x (.const (.slice none 0 0)) (a.eval x) (a.eval (.const (.slice none 0 0)))).run P w = .ok () w := by
        rw [hc]; cases op <;> rfl
      have g1 : (Go.binOp op ty (a.eval x) (a.eval (.const (.slice none 0 0)))).run P w = .ok c' w := g1
      exact ⟨rfl, c', by simp only [execOp, Sem.run_bind, hg, Result.andThen_ok, g1]; rfl, g2⟩
    have hq' : isNilC y = false := by cases hh : isNilC y; rfl; exact absurd hh hq
    rw [hq'] at h1
    simp only at h1
    obtain ⟨c', g1, g2⟩ := bin_ok (w := w) (ev_act E x) (ev_act E y) h1
    have hg : (eqGuard op ty x y (a.eval x) (a.eval y)).run P w = .ok () w := by
      unfold eqGuard
      have hx := ev_act E x
      have hy := ev_act E y
      generalize a.eval x = cx at *
      generalize a.eval y = cy at *
      unfold vbin at h1
      split at h1
      · rename_i e1 e2; rw [e1] at hx; rw [e2] at hy; cases hx; cases hy; cases op <;> rfl
      · rename_i e1 e2; rw [e1] at hx; rw [e2] at hy; cases hx; cases hy; cases op <;> rfl
      · rename_i e1 e2; rw [e1] at hx; rw [e2] at hy; cases hx; cases hy; cases op <;> rfl
      · rename_i e1 e2; rw [e1] at hx; rw [e2] at hy; cases hx; cases hy
        split at h1
        · rename_i ks hn
          have hg := fun (p q : Array Value) => run_eqGuard_agg w .eql ty x y p q (flatN_guard hn)
          unfold eqGuard at hg
          exact hg _ _
        · rename_i ks hn
          have hg := fun (p q : Array Value) => run_eqGuard_agg w .neq ty x y p q (flatN_guard hn)
          unfold eqGuard at hg
          exact hg _ _
        · cases h1
      · cases h1
    exact ⟨rfl, c', by simp only [execOp, Sem.run_bind, hg, Result.andThen_ok, g1]; rfl, g2⟩
  case unOp op ty x => obtain ⟨v', h1, h2⟩ := omap h; cases h2; exact ⟨rfl, same (un_ok (ev_act E x) h1)⟩
  case makeFunc fn first captured =>
    cases h
    refine ⟨rfl, .func fn (first.map a.eval) (captured.map a.eval), rfl, .func (by simp) (by simp) (fun i x y hx hy => ?_) (fun i x y hx hy => ?_)⟩
    · simp only [Array.getElem?_map] at hx hy
      cases hl : first[i]? with
      | none => rw [hl] at hx; cases hx
      | some z => rw [hl] at hx hy; cases hx; cases hy; exact ev_act E z
    · simp only [Array.getElem?_map] at hx hy
      cases hl : captured[i]? with
      | none => rw [hl] at hx; cases hx
      | some z => rw [hl] at hx hy; cases hx; cases hy; exact ev_act E z
  case slice ty x lo hi mx =>
    cases mx with
    | none => obtain ⟨v', h1, h2⟩ := omap h; cases h2; exact ⟨rfl, same (slice_ok (ev_act E x) (orel_act E lo) (orel_act E hi) h1)⟩
    | some m => cases h
  case fieldAddr ty x f => obtain ⟨v', h1, h2⟩ := omap h; cases h2; exact ⟨rfl, same (fieldAddr_ok (ev_act E x) h1)⟩
  case field ty x f => obtain ⟨v', h1, h2⟩ := omap h; cases h2; exact ⟨rfl, same (field_ok (ev_act E x) h1)⟩
  case indexAddr ty x i => obtain ⟨v', h1, h2⟩ := omap h; cases h2; exact ⟨rfl, same (indexAddr_ok (ev_act E x) (ev_act E i) h1)⟩
  case index ty x i => obtain ⟨v', h1, h2⟩ := omap h; cases h2; exact ⟨rfl, same (index_ok (ev_act E x) (ev_act E i) h1)⟩
  case extract x i =>
    have hx := ev_act E x
    split at h
    · rename_i vs hb
      obtain ⟨v', h1, h2⟩ := omap h; cases h2
      rw [hb] at hx
      generalize hcc : a.eval x = cc at hx
      cases hx with
      | tuple hs hrel =>
        rename_i cs'
        have hlt : i < cs'.size := by have := (Array.getElem?_eq_some_iff.1 h1).1; omega
        exact ⟨rfl, cs'[i], by simp [execOp, hcc, Instr.extract, hlt], hrel i _ _ h1 (Array.getElem?_eq_getElem hlt)⟩
    · cases h
  case call c0 =>
    obtain ⟨callee, args, argTypes⟩ := c0
    have L : LRel P H ι (args.toList.map (ev t)) (args.map a.eval).toList := by
      have := LRel.of_map (P := P) (H := H) (ι := ι) args.toList (ev t) a.eval (fun x _ => ev_act E x)
      simpa using this
    split at hp
    · simp only at h
      rename_i hcal
      simp only at hcal
      subst hcal
      simp only [vbuiltin] at h
      generalize hl : args.toList.map (ev t) = l at *
      generalize hcs : args.map a.eval = cs at *
      split at h
      · rename_i ht
        obtain ⟨v', h1, h2⟩ := omap h
        cases h2
        obtain ⟨c, cs', hc, hx, _⟩ := L.cons_inv
        have := len_ok (P := P) (w := w) (ty := type) (ts := argTypes) (cs := cs) (by rw [← Array.getElem?_toList, ht]; rfl) (by rw [← Array.getElem?_toList, hc]; rfl) hx h1
        refine ⟨rfl, ?_⟩
        obtain ⟨c', g1, g2⟩ := same this
        exact ⟨c', by simp only [execOp, resolve]; rw [← hcs] at g1; exact g1, g2⟩
      · cases h
    · simp only at h
      rename_i hcal
      simp only at hcal
      subst hcal
      simp only [vbuiltin] at h
      generalize hl : args.toList.map (ev t) = l at *
      generalize hcs : args.map a.eval = cs at *
      split at h
      · obtain ⟨v', h1, h2⟩ := omap h
        cases h2
        obtain ⟨c, cs', hc, hx, L1⟩ := L.cons_inv
        have := fold_ok (P := P) (w := w) max2_ok _ _ _ _ hx L1 h1
        refine ⟨rfl, ?_⟩
        have h3 : ∃ c, (Builtin.max_ argTypes type cs).run P w = .ok c w ∧ VRel P H ι v c := by simp only [Builtin.max_, hc]; exact this
        obtain ⟨c', g1, g2⟩ := same h3
        exact ⟨c', by simp only [execOp, resolve]; rw [← hcs] at g1; exact g1, g2⟩
      · cases h
    · simp only at h
      rename_i hcal
      simp only at hcal
      subst hcal
      simp only [vbuiltin] at h
      generalize hl : args.toList.map (ev t) = l at *
      generalize hcs : args.map a.eval = cs at *
      split at h
      · obtain ⟨v', h1, h2⟩ := omap h
        cases h2
        obtain ⟨c, cs', hc, hx, L1⟩ := L.cons_inv
        have := fold_ok (P := P) (w := w) min2_ok _ _ _ _ hx L1 h1
        refine ⟨rfl, ?_⟩
        have h3 : ∃ c, (Builtin.min_ argTypes type cs).run P w = .ok c w ∧ VRel P H ι v c := by simp only [Builtin.min_, hc]; exact this
        obtain ⟨c', g1, g2⟩ := same h3
        exact ⟨c', by simp only [execOp, resolve]; rw [← hcs] at g1; exact g1, g2⟩
      · cases h
    · cases hp

theorem vop_congr {call : Calling} {o : Op} (h : ∀ x ∈ o.operands, ev t x = ev t' x) : vop P frz call o t H = vop P frz call o t' H := by
  have pairs : ∀ ps : Array (Nat × Operand), (∀ x ∈ ps.map (·.2), ev t x = ev t' x) → (ps.toList.map fun x => (x.1, ev t x.2)) = (ps.toList.map fun x => (x.1, ev t' x.2)) := fun ps hp =>
    List.map_congr_left fun p hm => by rw [hp p.2 (Array.mem_map.2 ⟨p, by simpa using hm, rfl⟩)]
  cases o <;> simp only [Op.operands] at h <;> simp only [vop]
  case build t ps => rw [pairs ps fun x hx => h x (by simpa using hx)]
  case buildSlice t n ps => rw [pairs ps fun x hx => h x (by simpa using hx)]
  case makeFunc fn first captured =>
    rw [Array.map_congr_left (xs := first) fun x hx => h x (by simp [hx]), Array.map_congr_left (xs := captured) fun x hx => h x (by simp [hx])]
  case call c =>
    have hargs : c.args.toList.map (ev t) = c.args.toList.map (ev t') := List.map_congr_left fun x hx => h x (by simp [Call.operands]; right; simpa using hx)
    rw [hargs]
    split
    · rfl
    · rename_i f hf
      rw [h f (by simp [Call.operands, hf])]
    · rfl
  case slice t x lo hi mx => cases mx <;> cases lo <;> cases hi <;> simp_all
  all_goals (first | rfl | (simp_all; done))
theorem vguard_congr {ops : Array Oper} {o : Oper} (h : ∀ d, d ∈ o.looksAt ops → t d = t' d) : vguard ops o t = vguard ops o t' := by
  unfold vguard
  cases hg : o.guard with
  | none => rfl
  | some gw =>
    obtain ⟨j, want⟩ := gw
    simp only []
    cases hd : (ops[j]?).bind (·.dst) with
    | none => rfl
    | some d => simp only []; rw [h d (by simp [Oper.looksAt, hg, hd])]
end Go.VM
/-! Regions that draw their order: slots, masks, stages. -/
set_option linter.all false
namespace Go.VM
open Go Go.RowKit
variable {P : Program} {H H' HF : Heap} {ι ι' : Inj} {v c x y d s : Value} {B frz : Nat} {w0 w w' : World} {t t' : Env} {a : Act}

/-- slots, where only what S tells has been done -/
def envS (ops : Array Oper) (e0 : Env) (vs : Nat → Value) (S : Nat → Bool) : Nat → Env
  | 0 => e0
  | i + 1 => if S i = true then (match ops[i]? with | some o => put (envS ops e0 vs S i) o.dst (vs i) | none => envS ops e0 vs S i) else envS ops e0 vs S i

section
variable {ops : Array Oper} {e0 : Env} {vs vs' : Nat → Value} {S S' : Nat → Bool}
theorem put_at (t : Env) (d : Option Tmp) (v : Value) (x : Nat) : put t d v x = if d = some x then v else t x := by
  cases d with
  | none => simp [put]
  | some d =>
    simp only [put, upd, Option.some.injEq]
    by_cases h : x = d
    · rw [if_pos h, if_pos h.symm]
    · rw [if_neg h, if_neg (Ne.symm h)]
theorem envS_agree {x : Nat} : ∀ n, (∀ j, j < n → ∀ o, ops[j]? = some o → o.dst = some x → S j = S' j ∧ (S j = true → vs j = vs' j)) → envS ops e0 vs S n x = envS ops e0 vs' S' n x
  | 0, _ => rfl
  | n + 1, h => by
    have ih := envS_agree (x := x) n fun j hj => h j (by omega)
    simp only [envS]
    cases ho : ops[n]? with
    | none => simp only []; split <;> split <;> exact ih
    | some o =>
      simp only []
      by_cases hd : o.dst = some x
      · obtain ⟨h1, h2⟩ := h n (by omega) o ho hd
        rw [← h1]
        by_cases hs : S n = true
        · simp only [hs, if_true, put_at, hd, h2 hs]
        · simp only [hs]; exact ih
      · have e1 : ∀ (b : Bool) (e : Env) (u : Value), (if b = true then put e o.dst u else e) x = e x := fun b e u => by
          by_cases hb : b = true
          · rw [if_pos hb, put_at, if_neg hd]
          · rw [if_neg hb]
        rw [e1, e1]; exact ih
theorem envS_above {x m : Nat} : ∀ k, (∀ j, m ≤ j → j < m + k → S j = true → ∀ o, ops[j]? = some o → o.dst ≠ some x) → envS ops e0 vs S (m + k) x = envS ops e0 vs S m x
  | 0, _ => rfl
  | k + 1, h => by
    have ih := envS_above (x := x) (m := m) k fun j h1 h2 => h j h1 (by omega)
    rw [← ih, ← Nat.add_assoc]
    simp only [envS]
    split
    · rename_i hs
      cases ho : ops[m + k]? with
      | none => rfl
      | some o => simp only []; rw [put_at, if_neg (h (m + k) (by omega) (by omega) hs o ho)]
    · rfl
theorem envS_at {i : Nat} {o : Oper} {x : Nat} (hs : S i = true) (ho : ops[i]? = some o) (hd : o.dst = some x) : envS ops e0 vs S (i + 1) x = vs i := by
  simp only [envS, hs, if_true, ho, put_at, hd]
end

/-- the machine's run of a region, told by the turn -/
structure Run (P : Program) (frz : Nat) (call : Calling) (ops : Array Oper) (E : Op → Op) (l : List Oper) (Ts : Nat → Env) (Hs : Nat → Heap) (vs : Nat → Value) : Prop where
  step : ∀ i o, l[i]? = some o → ∃ b, vguard ops o (Ts i) = some b ∧ (b = true → vop P frz call (E o.op) (Ts i) (Hs i) = some (vs i, Hs (i + 1))) ∧ (b = false → vs i = undef ∧ Hs (i + 1) = Hs i) ∧
    Ts (i + 1) = put (Ts i) o.dst (vs i)
theorem run_of_vops {call : Calling} {ops : Array Oper} (E : Op → Op) : ∀ (l : List Oper) (t : Env) (H : Heap), vops P frz call ops (l.map fun o => { o with op := E o.op }) t H = some (t', H') →
    ∃ Ts Hs vs, Run P frz call ops E l Ts Hs vs ∧ Ts 0 = t ∧ Hs 0 = H ∧ Ts l.length = t' ∧ Hs l.length = H'
  | [], t, H, h => by
    simp [vops] at h
    exact ⟨fun _ => t, fun _ => H, fun _ => undef, ⟨by simp⟩, rfl, rfl, h.1, h.2⟩
  | o :: l, t, H, h => by
    have key : ∀ b v1 H1, vguard ops o t = some b → (b = true → vop P frz call (E o.op) t H = some (v1, H1)) → (b = false → v1 = undef ∧ H1 = H) → vops P frz call ops (l.map fun o => { o with op := E o.op }) (put t o.dst v1) H1 = some (t', H') →
        ∃ Ts Hs vs, Run P frz call ops E (o :: l) Ts Hs vs ∧ Ts 0 = t ∧ Hs 0 = H ∧ Ts (o :: l).length = t' ∧ Hs (o :: l).length = H' := by
      intro b v1 H1 hb h1 h2 h3
      obtain ⟨Ts, Hs, vs, R, e1, e2, e3, e4⟩ := run_of_vops E l _ _ h3
      refine ⟨fun | 0 => t | i + 1 => Ts i, fun | 0 => H | i + 1 => Hs i, fun | 0 => v1 | i + 1 => vs i, ⟨fun i q hq => ?_⟩, rfl, rfl, e3, e4⟩
      cases i with
      | zero => simp at hq; subst hq; exact ⟨b, hb, fun hh => by show vop P frz call (E o.op) t H = some (v1, Hs 0); rw [e2]; exact h1 hh, fun hh => by show v1 = undef ∧ Hs 0 = H; rw [e2]; exact h2 hh, e1⟩
      | succ i => exact R.step i q (by simpa using hq)
    simp only [List.map_cons, vops] at h
    have hge : vguard ops { o with op := E o.op } t = vguard ops o t := rfl
    rw [hge] at h
    split at h
    · rename_i hg
      split at h
      · rename_i v1 H1 h1; exact key true v1 H1 hg (fun _ => h1) (fun h => by cases h) h
      · cases h
    · rename_i hg; exact key false undef H hg (fun h => by cases h) (fun _ => ⟨rfl, rfl⟩) h
    · cases h

theorem pure_heap {call : Calling} {o : Op} (hp : pureB o = true) (h : vop P frz call o t H = some (v, H')) : H' = H := by
  cases o <;> simp only [pureB] at hp <;> simp only [vop] at h <;> try (cases hp; done)
  case move => cases h; rfl
  case assign => cases h; rfl
  case pick => split at h <;> cases h <;> rfl
  case nilCheck =>
    split at h
    · split at h
      · cases h; rfl
      · cases h
    · cases h
  case makeFunc => cases h; rfl
  case slice ty x lo hi mx =>
    cases mx with
    | none => obtain ⟨_, _, h2⟩ := omap h; cases h2; rfl
    | some => cases h
  case extract =>
    split at h
    · obtain ⟨_, _, h2⟩ := omap h; cases h2; rfl
    · cases h
  case call c0 =>
    obtain ⟨callee, args, argTypes⟩ := c0
    split at hp
    · rename_i hcal; simp only at hcal; subst hcal
      simp only [vbuiltin] at h
      split at h
      · obtain ⟨_, _, h2⟩ := omap h; cases h2; rfl
      · cases h
    · rename_i hcal; simp only at hcal; subst hcal
      simp only [vbuiltin] at h
      split at h
      · obtain ⟨_, _, h2⟩ := omap h; cases h2; rfl
      · cases h
    · rename_i hcal; simp only at hcal; subst hcal
      simp only [vbuiltin] at h
      split at h
      · obtain ⟨_, _, h2⟩ := omap h; cases h2; rfl
      · cases h
    · cases hp
  all_goals (obtain ⟨_, _, h2⟩ := omap h; cases h2; rfl)
theorem look_iff {H : Heap} {a : Addr} {r : Row} (h : look H a = some r) : H[a.block]? = some r ∧ a.spot = some r.gen := by
  unfold look at h
  split at h
  · rename_i r' hr
    split at h
    · rename_i hs; cases h; exact ⟨hr, hs⟩
    · cases h
  · cases h
theorem look_back {a : Addr} {r' : Row} {l : Loc} (e : Ext H ι H' ι') (h1 : look H a ≠ none) (hr' : H'[a.block]? = some r') (hg' : a.spot = some r'.gen) (hl : ι' a.block = some l) : ∃ r, H[a.block]? = some r ∧ a.spot = some r.gen ∧ ι a.block = some l ∧ r.elem = r'.elem := by
  obtain ⟨r, hr⟩ := Option.ne_none_iff_exists'.1 h1
  obtain ⟨k1, k2⟩ := look_iff hr
  obtain ⟨r2, g1, g2, g3, g4⟩ := e _ _ k1
  rw [hr'] at g1; cases g1
  have hgen : r'.gen = r.gen := by rw [k2] at hg'; exact (Option.some.inj hg').symm
  exact ⟨r, k1, k2, by rw [← g4 hgen]; exact hl, g2.symm⟩
theorem stale_live {a : Addr} {r : Row} {g : Nat} (h1 : look H a ≠ none) (hr : H[a.block]? = some r) (hg : a.spot = some g) (h : g < r.gen) : False := by
  obtain ⟨r2, h2⟩ := Option.ne_none_iff_exists'.1 h1
  obtain ⟨k1, k2⟩ := look_iff h2
  rw [hr] at k1; cases k1
  rw [hg] at k2
  have := Option.some.inj k2; omega
/-- what is live at both ends stood for the same ahead -/
theorem VRel.back1 (e : Ext H ι H' ι') (h : VRel P H' ι' v c) (l : live1 H v) (l' : live1 H' v) : VRel P H ι v c := by
  cases h with
  | int k n => exact .int k n
  | bool b => exact .bool b
  | str s => exact .str s
  | nilFunc => exact .nilFunc
  | nilPtr => exact .nilPtr
  | nilSl => exact .nilSl
  | noSl => exact .noSl
  | trueNil => exact .trueNil
  | ptr hr hg hl => obtain ⟨r, k1, k2, k3, _⟩ := look_back e l hr hg hl; exact .ptr k1 k2 k3
  | stalePtr hr hg h h1 => exact (stale_live l' hr hg h).elim
  | sl hr hg hl hlen hcap => obtain ⟨r, k1, k2, k3, k4⟩ := look_back e l hr hg hl; exact .sl k1 k2 k3 hlen (fun hk => by rw [k4]; exact hcap hk)
  | slZero hr hg hl => obtain ⟨r, k1, k2, k3, _⟩ := look_back e l hr hg hl; exact .slZero k1 k2 k3
  | staleSl hr hg h h1 => exact (stale_live l' hr hg h).elim
  | func => exact l.elim
  | agg => exact l.elim
  | tuple => exact l.elim
  | dead h1 => exact .dead h1
  | bot => exact .bot
  | glob => exact .glob
theorem VRel.back (e : Ext H ι H' ι') (h : VRel P H' ι' v c) (l : live H v) (l' : live H' v) : VRel P H ι v c := by
  cases h with
  | agg hc h =>
    refine .agg hc fun i x y hx hy => ?_
    have hm := List.mem_of_getElem? (a := x) (l := Array.toList _) (i := i) (by rw [← hx]; exact Array.getElem?_toList)
    exact (h i x y hx hy).back1 e (l x hm) (l' x hm)
  | int k n => exact .int k n
  | bool b => exact .bool b
  | str s => exact .str s
  | nilFunc => exact .nilFunc
  | nilPtr => exact .nilPtr
  | nilSl => exact .nilSl
  | noSl => exact .noSl
  | trueNil => exact .trueNil
  | ptr hr hg hl => obtain ⟨r, k1, k2, k3, _⟩ := look_back e l hr hg hl; exact .ptr k1 k2 k3
  | stalePtr hr hg h h1 => exact (stale_live l' hr hg h).elim
  | sl hr hg hl hlen hcap => obtain ⟨r, k1, k2, k3, k4⟩ := look_back e l hr hg hl; exact .sl k1 k2 k3 hlen (fun hk => by rw [k4]; exact hcap hk)
  | slZero hr hg hl => obtain ⟨r, k1, k2, k3, _⟩ := look_back e l hr hg hl; exact .slZero k1 k2 k3
  | staleSl hr hg h h1 => exact (stale_live l' hr hg h).elim
  | func => exact l.elim
  | tuple => exact l.elim
  | dead h1 => exact .dead h1
  | bot => exact .bot
  | glob => exact .glob
theorem wrow_app (v : Value) (H : Heap) (wl : List Wat) : wrow v H wl = wrow v H [] ++ wl := by
  unfold wrow; split
  · split <;> rfl
  · split <;> rfl
  · rfl
theorem wgrow_app (b : Bool) (o : Op) (t : Env) (v : Value) (H : Heap) (wl : List Wat) : wgrow b o t v H wl = wgrow b o t v H [] ++ wl := by
  unfold wgrow; split
  · rfl
  · exact wrow_app v H wl
  · exact wrow_app v H wl
  · rfl
theorem wcut_sub {b : Bool} {wl : List Wat} {x : Wat} (h : x ∈ wcut b wl) : x ∈ wl := by
  cases b
  · exact h
  · cases h
/-- what may come late gives the same -/
def Watched (P : Program) (ops : Array Oper) (E : Op → Op) (fl cut : Nat → Bool) (Ts : Nat → Env) (Hs : Nat → Heap) (vs : Nat → Value) : Prop :=
  ∀ j q, fl j = true → ops[j]? = some q → q.guard = none → ∀ h, j < h → h ≤ ops.size → (∀ c, j < c → c < h → cut c = false) → Wok P (Hs h) (wgrow true (E q.op) (Ts j) (vs j) (Hs (j + 1)) [])
theorem run_of_vopsW {call : Calling} {ops : Array Oper} {fl : List Nat × List Nat} (E : Op → Op) : ∀ (l : List Oper) (n : Nat) (wl : List Wat) (t : Env) (H : Heap), vopsW P frz call ops fl n wl (l.map fun o => { o with op := E o.op }) t H = some (t', H') → Wok P H wl →
    ∃ Ts Hs vs, Run P frz call ops E l Ts Hs vs ∧ Ts 0 = t ∧ Hs 0 = H ∧ Ts l.length = t' ∧ Hs l.length = H' ∧ (∀ h, h ≤ l.length → (∀ c, c < h → fl.2.contains (n + c) = false) → Wok P (Hs h) wl) ∧
      ∀ j q, fl.1.contains (n + j) = true → l[j]? = some q → q.guard = none → ∀ h, j < h → h ≤ l.length → (∀ c, j < c → c < h → fl.2.contains (n + c) = false) → Wok P (Hs h) (wgrow true (E q.op) (Ts j) (vs j) (Hs (j + 1)) [])
  | [], n, wl, t, H, h, hw => by
    simp [vopsW] at h
    exact ⟨fun _ => t, fun _ => H, fun _ => undef, ⟨by simp⟩, rfl, rfl, h.1, h.2, fun _ _ _ => hw, by simp⟩
  | o :: l, n, wl, t, H, h, hw => by
    have key : ∀ b v1 H1 wl1, vguard ops o t = some b → (b = true → vop P frz call (E o.op) t H = some (v1, H1)) → (b = false → v1 = undef ∧ H1 = H) → vopsW P frz call ops fl (n + 1) wl1 (l.map fun o => { o with op := E o.op }) (put t o.dst v1) H1 = some (t', H') →
        Wok P H1 wl1 → (fl.2.contains n = false → ∀ x ∈ wl, x ∈ wl1) → (b = true → fl.1.contains n = true → ∀ x ∈ wgrow true (E o.op) t v1 H1 [], x ∈ wl1) →
        ∃ Ts Hs vs, Run P frz call ops E (o :: l) Ts Hs vs ∧ Ts 0 = t ∧ Hs 0 = H ∧ Ts (o :: l).length = t' ∧ Hs (o :: l).length = H' ∧ (∀ h, h ≤ (o :: l).length → (∀ c, c < h → fl.2.contains (n + c) = false) → Wok P (Hs h) wl) ∧
          ∀ j q, fl.1.contains (n + j) = true → (o :: l)[j]? = some q → q.guard = none → ∀ h, j < h → h ≤ (o :: l).length → (∀ c, j < c → c < h → fl.2.contains (n + c) = false) → Wok P (Hs h) (wgrow true (E q.op) (Ts j) (vs j) (Hs (j + 1)) []) := by
      intro b v1 H1 wl1 hb h1 h2 h3 hw1 hsub hnew
      obtain ⟨Ts, Hs, vs, R, e1, e2, e3, e4, e5, e6⟩ := run_of_vopsW E l _ _ _ _ h3 hw1
      refine ⟨fun | 0 => t | i + 1 => Ts i, fun | 0 => H | i + 1 => Hs i, fun | 0 => v1 | i + 1 => vs i, ⟨fun i q hq => ?_⟩, rfl, rfl, e3, e4, fun h hh hc => ?_, fun j q hf hq hg h hj hh hc => ?_⟩
      · cases i with
        | zero => simp at hq; subst hq; exact ⟨b, hb, fun hh => by show vop P frz call (E o.op) t H = some (v1, Hs 0); rw [e2]; exact h1 hh, fun hh => by show v1 = undef ∧ Hs 0 = H; rw [e2]; exact h2 hh, e1⟩
        | succ i => exact R.step i q (by simpa using hq)
      · cases h with
        | zero => exact hw
        | succ h => exact fun x hx => e5 h (by simpa using hh) (fun c hlt => by rw [← hc (c + 1) (by omega)]; congr 1; omega) x (hsub (hc 0 (by omega)) x hx)
      · cases j with
        | zero =>
          simp at hq; subst hq
          have hbt : b = true := by simpa [vguard, hg] using hb.symm
          have hm := hnew hbt hf
          cases h with
          | zero => omega
          | succ h =>
            show Wok P (Hs h) (wgrow true (E o.op) t v1 (Hs 0) [])
            rw [e2]
            exact fun x hx => e5 h (by simpa using hh) (fun c hlt => by rw [← hc (c + 1) (by omega) (by omega)]; congr 1; omega) x (hm x hx)
        | succ j =>
          cases h with
          | zero => omega
          | succ h => exact e6 j q (by rw [← hf]; congr 1; omega) (by simpa using hq) hg h (by omega) (by simpa using hh) (fun c h1 h2 => by rw [← hc (c + 1) (by omega) (by omega)]; congr 1; omega)
    simp only [List.map_cons, vopsW] at h
    have hge : vguard ops { o with op := E o.op } t = vguard ops o t := rfl
    rw [hge] at h
    split at h
    · rename_i hg
      split at h
      · rename_i v1 H1 h1
        split at h
        · rename_i hw1
          have hw1 : Wok P H1 (wgrow (fl.1.contains n) (E o.op) t v1 H1 (wcut (fl.2.contains n) wl)) := by
            rcases hw1 with hp | hw1
            · have hH := pure_heap hp h1
              have hgr : wgrow (fl.1.contains n) (E o.op) t v1 H1 (wcut (fl.2.contains n) wl) = wcut (fl.2.contains n) wl := by
                unfold wgrow
                split
                · rename_i hop; simp only [hop] at hp; simp [pureB] at hp
                · rename_i hop; simp only [hop] at hp; simp [pureB] at hp
                · rename_i hop; simp only [hop] at hp; simp [pureB] at hp
                · rfl
              rw [hgr, hH]; exact fun x hx => hw x (wcut_sub hx)
            · exact hw1
          refine key true v1 H1 _ hg (fun _ => h1) (fun h => by cases h) h hw1 (fun hc x hx => ?_) (fun _ hf x hx => ?_)
          · rw [wgrow_app, hc]; exact List.mem_append_right _ hx
          · rw [wgrow_app, hf]; exact List.mem_append_left _ hx
        · cases h
      · cases h
    · rename_i hg; exact key false undef H _ hg (fun h => by cases h) (fun _ => ⟨rfl, rfl⟩) h hw (fun _ x hx => hx) (fun hh => by cases hh)
    · cases h

/-- what has been done holds what it stands behind -/
def Down (ops : Array Oper) (S : Nat → Bool) : Prop := ∀ j o, ops[j]? = some o → S j = true → ∀ e ∈ o.after, Region.binds .any e = true → S e.on = true
theorem bmask_bit {prev : List Nat} (o : Oper) {i : Nat} (h : (bmask prev o).testBit i = true) : ∃ e ∈ o.after, Region.binds .any e = true ∧ (e.on = i ∨ (prev.getD e.on 0).testBit i = true) := by
  have key : ∀ (l : List Edge) (s : Nat), (l.foldl (fun s e => if Region.binds .any e = true then s ||| 2 ^ e.on ||| prev.getD e.on 0 else s) s).testBit i = true →
      s.testBit i = true ∨ ∃ e ∈ l, Region.binds .any e = true ∧ (e.on = i ∨ (prev.getD e.on 0).testBit i = true) := by
    intro l
    induction l with
    | nil => intro s h; exact .inl h
    | cons e l ih =>
      intro s h
      simp only [List.foldl_cons] at h
      rcases ih _ h with h1 | ⟨e', h1, h2⟩
      · split at h1
        · rename_i hb
          rw [Nat.testBit_or, Nat.testBit_or, Bool.or_eq_true, Bool.or_eq_true] at h1
          rcases h1 with (h1 | h1) | h1
          · exact .inl h1
          · exact .inr ⟨e, by simp, hb, .inl (by rw [Nat.testBit_two_pow] at h1; simpa using h1)⟩
          · exact .inr ⟨e, by simp, hb, .inr h1⟩
        · exact .inl h1
      · exact .inr ⟨e', by simp [h1], h2⟩
  rcases key o.after.toList 0 h with h1 | ⟨e, h1, h2⟩
  · simp at h1
  · exact ⟨e, by simpa using h1, h2⟩
theorem bmasks_down {ops : Array Oper} {S : Nat → Bool} (hd : Down ops S) : ∀ (l : List Oper) (acc : List Nat), (∀ r, l[r]? = ops[acc.length + r]?) →
    (∀ j m, acc[j]? = some m → S j = true → ∀ i, m.testBit i = true → S i = true) → ∀ j m, (bmasks l acc)[j]? = some m → S j = true → ∀ i, m.testBit i = true → S i = true
  | [], acc, _, h => h
  | o :: l, acc, hl, h => by
    simp only [bmasks]
    refine bmasks_down hd l _ (fun r => ?_) fun j m hj hs i hi => ?_
    · have := hl (r + 1); simp at this; rw [this]; congr 1; simp; omega
    · by_cases hlt : j < acc.length
      · rw [List.getElem?_append_left hlt] at hj; exact h j m hj hs i hi
      · have hje : j = acc.length := by have := (List.getElem?_eq_some_iff.1 hj).1; simp at this; omega
        subst hje
        rw [List.getElem?_append_right (Nat.le_refl _)] at hj
        simp at hj
        subst hj
        obtain ⟨e, he, hb, h1⟩ := bmask_bit o hi
        have ho : ops[acc.length]? = some o := by have := hl 0; simpa using this.symm
        have hse := hd acc.length o ho hs e he hb
        rcases h1 with rfl | h1
        · exact hse
        · rw [List.getD_eq_getElem?_getD] at h1
          cases hq : acc[e.on]? with
          | none => rw [hq] at h1; simp at h1
          | some m => rw [hq] at h1; exact h _ m hq hse i h1
theorem masks_down {ops : Array Oper} {S : Nat → Bool} (hd : Down ops S) {i j : Nat} (hs : S i = true) (h : ((bmasks ops.toList []).getD i 0).testBit j = true) : S j = true := by
  rw [List.getD_eq_getElem?_getD] at h
  cases hq : (bmasks ops.toList [])[i]? with
  | none => rw [hq] at h; simp at h
  | some m => rw [hq] at h; exact bmasks_down hd ops.toList [] (by simp) (by simp) i m hq hs j h

/-- what ends a watch stands behind all that may come late -/
def CutOk (ops : Array Oper) (fl cut : Nat → Bool) : Prop := ∀ c o, cut c = true → ops[c]? = some o →
  pureB o.op = false ∧ fl c = false ∧ ∀ j, j < c → fl j = true → ((bmasks ops.toList []).getD c 0).testBit j = true
theorem nocut {ops : Array Oper} {fl cut S : Nat → Bool} {i h : Nat} (Cu : CutOk ops fl cut) (hD : Down ops S) (hf : fl i = true) (hns : S i = false) (hh : h ≤ ops.size)
    (hal : ∀ c q, c < h → ops[c]? = some q → pureB q.op = false → fl c = false → S c = true) : ∀ c, i < c → c < h → cut c = false := by
  intro c h1 h2
  cases hc : cut c with
  | false => rfl
  | true =>
    have ho : ops[c]? = some ops[c] := Array.getElem?_eq_getElem (by omega)
    obtain ⟨g1, g2, g3⟩ := Cu c _ hc ho
    have := masks_down hD (hal c _ h2 ho g1 g2) (g3 i h1 hf)
    rw [hns] at this; cases this
theorem firstWriter_spec {mode : Nat → Nat} : ∀ (l : List Oper) (k : Nat), k ≤ firstWriter mode l k ∧ firstWriter mode l k ≤ k + l.length ∧
    (∀ r o, l[r]? = some o → k + r < firstWriter mode l k → writerB mode o.op = false)
  | [], k => ⟨Nat.le_refl _, by simp [firstWriter], by simp⟩
  | o :: l, k => by
    simp only [firstWriter]
    split
    · exact ⟨Nat.le_refl _, by simp, fun r q _ h => by omega⟩
    · rename_i hw
      obtain ⟨h1, h2, h3⟩ := firstWriter_spec (mode := mode) l (k + 1)
      refine ⟨by omega, by simp; omega, fun r q hq h => ?_⟩
      cases r with
      | zero => simp at hq; subst hq; simpa using hw
      | succ r => exact h3 r q (by simpa using hq) (by omega)

/-- an append to a slice that an operation of the region made of no elements -/
def AppE (E : Op → Op) (ops : Array Oper) (i : Nat) (op : Op) : Prop :=
  ∃ c x r, op = .call c ∧ c.callee = .builtin .append ∧ c.args.toList = .tmp x :: r ∧ ∃ j q, j < i ∧ ops[j]? = some q ∧ q.dst = some x ∧ q.guard = none ∧ E q.op = .move (.const (.slice none 0 0)) ∧
    ∀ k q', k < i → k ≠ j → ops[k]? = some q' → q'.dst ≠ some x
/-- what drawOk says -/
structure Drawn (mode : Nat → Nat) (E : Op → Op) (ops : Array Oper) (p : Nat) (fl : Nat → Bool) : Prop where
  back : ∀ (i : Nat) (o : Oper), ops[i]? = some o → ∀ e ∈ o.after, Region.binds .any e = true → e.on < i
  tmp : ∀ (i j : Nat) (o q : Oper), ops[i]? = some o → ops[j]? = some q → j < i → ((bmasks ops.toList []).getD i 0).testBit j = true ∨ q.apart ops o = true
  heap : ∀ (i j : Nat) (o q : Oper), ops[i]? = some o → ops[j]? = some q → j < i → p ≤ i → pureB q.op = true ∨ fl j = true ∨ ((bmasks ops.toList []).getD i 0).testBit j = true
  nowr : ∀ (i : Nat) (o : Oper), ops[i]? = some o → i < p → writerB mode o.op = false ∨ AppE E ops i o.op
  ple : p ≤ ops.size
  flo : ∀ (j : Nat) (q : Oper), ops[j]? = some q → fl j = true → q.guard = none ∧ ((∃ ty a, q.op = .load ty a) ∨ ((∃ ty l c, q.op = .makeSlice ty l c) ∨ ∃ ty, q.op = .alloc ty))
theorem firstWriterE_spec {C : Ctx} {ops : Array Oper} : ∀ (l : List Oper) (k : Nat), k ≤ firstWriterE C ops l k ∧ firstWriterE C ops l k ≤ k + l.length ∧
    (∀ r o, l[r]? = some o → k + r < firstWriterE C ops l k → writerB C.mode o.op = false ∨ appE C.P ops (k + r) o.op = true)
  | [], k => ⟨Nat.le_refl _, by simp [firstWriterE], by simp⟩
  | o :: l, k => by
    simp only [firstWriterE]
    split
    · exact ⟨Nat.le_refl _, by simp, fun r q _ h => by omega⟩
    · rename_i hw
      obtain ⟨h1, h2, h3⟩ := firstWriterE_spec (C := C) (ops := ops) l (k + 1)
      refine ⟨by omega, by simp; omega, fun r q hq h => ?_⟩
      cases r with
      | zero =>
        simp at hq; subst hq
        cases hwb : writerB C.mode o.op with
        | false => exact .inl rfl
        | true =>
          right
          cases ha : appE C.P ops k o.op with
          | true => first | exact ha | rfl
          | false => exact absurd ⟨hwb, ha⟩ hw
      | succ r => have := h3 r q (by simpa using hq) (by omega); rwa [show k + 1 + r = k + (r + 1) by omega] at this
theorem appE_spec {P : Program} {ops : Array Oper} {i : Nat} {op : Op} (h : appE P ops i op = true) : AppE (empOp P) ops i op := by
  unfold appE at h
  split at h
  · rename_i c
    split at h
    · rename_i x r hc ha
      unfold freshE at h
      obtain ⟨j, hj, hh⟩ := List.any_eq_true.1 h
      split at hh
      · rename_i q hq
        simp only [Bool.and_eq_true, decide_eq_true_eq] at hh
        obtain ⟨⟨⟨h1, h2⟩, h3⟩, h4⟩ := hh
        refine ⟨c, x, r, rfl, hc, ha, j, q, by simpa using hj, hq, h1, by simpa using h3, by simp [empOp, h2], fun k q' hk hkj hq' => ?_⟩
        have := List.all_eq_true.1 h4 k (by simpa using hk)
        simpa [hkj, hq'] using this
      · cases hh
    · cases h
  · cases h
theorem drawn_of {C : Ctx} {ops : Array Oper} (h : drawOk C ops = true) : Drawn C.mode id ops (firstWriter C.mode ops.toList 0) (fun _ => false) := by
  unfold drawOk at h
  rw [List.all_eq_true] at h
  have hi : ∀ i o, ops[i]? = some o → (o.after.toList.all fun e => !Region.binds .any e || decide (e.on < i)) = true ∧ ∀ j q, ops[j]? = some q → j < i →
      (((bmasks ops.toList []).getD i 0).testBit j || q.apart ops o) = true ∧ (decide (i < firstWriter C.mode ops.toList 0) || pureB q.op || ((bmasks ops.toList []).getD i 0).testBit j) = true := by
    intro i o ho
    have hlt := (Array.getElem?_eq_some_iff.1 ho).1
    have := h i (by simpa using hlt)
    simp only [ho, Bool.and_eq_true] at this
    refine ⟨this.1, fun j q hq hj => ?_⟩
    have h2 := List.all_eq_true.1 this.2 j (by simpa using hj)
    simp only [hq, Bool.and_eq_true] at h2
    exact h2
  obtain ⟨f1, f2, f3⟩ := firstWriter_spec (mode := C.mode) ops.toList 0
  refine ⟨fun i o ho e he hb => ?_, fun i j o q ho hq hj => ?_, fun i j o q ho hq hj hp => ?_, fun i o ho hp => ?_, by simpa using f2, fun _ _ _ h => by cases h⟩
  · have := List.all_eq_true.1 (hi i o ho).1 e (by simpa using he); simpa [hb] using this
  · have := ((hi i o ho).2 j q hq hj).1; simpa using this
  · have := ((hi i o ho).2 j q hq hj).2
    simp only [Bool.or_eq_true, decide_eq_true_eq] at this
    rcases this with (h1 | h1) | h1
    · omega
    · exact .inl h1
    · exact .inr (.inr h1)
  · exact .inl (f3 i o (by simpa using ho) (by omega))

theorem drawn_ofE {C : Ctx} {ops : Array Oper} (h : drawOkE C ops = true) : Drawn C.mode (empOp C.P) ops (firstWriterE C ops ops.toList 0) (fun _ => false) := by
  unfold drawOkE at h
  rw [List.all_eq_true] at h
  have hi : ∀ i o, ops[i]? = some o → (o.after.toList.all fun e => !Region.binds .any e || decide (e.on < i)) = true ∧ ∀ j q, ops[j]? = some q → j < i →
      (((bmasks ops.toList []).getD i 0).testBit j || q.apart ops o) = true ∧ (decide (i < firstWriterE C ops ops.toList 0) || pureB q.op || ((bmasks ops.toList []).getD i 0).testBit j) = true := by
    intro i o ho
    have hlt := (Array.getElem?_eq_some_iff.1 ho).1
    have := h i (by simpa using hlt)
    simp only [ho, Bool.and_eq_true] at this
    refine ⟨this.1, fun j q hq hj => ?_⟩
    have h2 := List.all_eq_true.1 this.2 j (by simpa using hj)
    simp only [hq, Bool.and_eq_true] at h2
    exact h2
  obtain ⟨f1, f2, f3⟩ := firstWriterE_spec (C := C) (ops := ops) ops.toList 0
  refine ⟨fun i o ho e he hb => ?_, fun i j o q ho hq hj => ?_, fun i j o q ho hq hj hp => ?_, fun i o ho hp => ?_, by simpa using f2, fun _ _ _ h => by cases h⟩
  · have := List.all_eq_true.1 (hi i o ho).1 e (by simpa using he); simpa [hb] using this
  · have := ((hi i o ho).2 j q hq hj).1; simpa using this
  · have := ((hi i o ho).2 j q hq hj).2
    simp only [Bool.or_eq_true, decide_eq_true_eq] at this
    rcases this with (h1 | h1) | h1
    · omega
    · exact .inl h1
    · exact .inr (.inr h1)
  · have := f3 i o (by simpa using ho) (by omega)
    rcases this with h1 | h1
    · exact .inl h1
    · rw [Nat.zero_add] at h1; exact .inr (appE_spec h1)

theorem drawn_ofF {C : Ctx} {ops : Array Oper} (h : drawOkF C ops = true) : Drawn C.mode (empOp C.P) ops (firstWriterE C ops ops.toList 0) (fun j => (floats C ops).contains j) := by
  unfold drawOkF at h
  rw [List.all_eq_true] at h
  have hi : ∀ i o, ops[i]? = some o → (o.after.toList.all fun e => !Region.binds .any e || decide (e.on < i)) = true ∧ ∀ j q, ops[j]? = some q → j < i →
      (((bmasks ops.toList []).getD i 0).testBit j || q.apart ops o) = true ∧ (decide (i < firstWriterE C ops ops.toList 0) || pureB q.op || (floats C ops).contains j || ((bmasks ops.toList []).getD i 0).testBit j) = true := by
    intro i o ho
    have hlt := (Array.getElem?_eq_some_iff.1 ho).1
    have := h i (by simpa using hlt)
    simp only [ho, Bool.and_eq_true] at this
    refine ⟨this.1, fun j q hq hj => ?_⟩
    have h2 := List.all_eq_true.1 this.2 j (by simpa using hj)
    simp only [hq, Bool.and_eq_true] at h2
    exact h2
  obtain ⟨f1, f2, f3⟩ := firstWriterE_spec (C := C) (ops := ops) ops.toList 0
  refine ⟨fun i o ho e he hb => ?_, fun i j o q ho hq hj => ?_, fun i j o q ho hq hj hp => ?_, fun i o ho hp => ?_, by simpa using f2, fun j q hq hf => ?_⟩
  · have := List.all_eq_true.1 (hi i o ho).1 e (by simpa using he); simpa [hb] using this
  · have := ((hi i o ho).2 j q hq hj).1; simpa using this
  · have := ((hi i o ho).2 j q hq hj).2
    simp only [Bool.or_eq_true, decide_eq_true_eq] at this
    rcases this with ((h1 | h1) | h1) | h1
    · omega
    · exact .inl h1
    · exact .inr (.inl h1)
    · exact .inr (.inr h1)
  · have := f3 i o (by simpa using ho) (by omega)
    rcases this with h1 | h1
    · exact .inl h1
    · rw [Nat.zero_add] at h1; exact .inr (appE_spec h1)
  · have hm := List.contains_iff_mem.1 hf
    unfold floats at hm
    have := (List.mem_filter.1 hm).2
    unfold floatB at this
    rw [hq] at this
    simp only at this
    split at this
    · rename_i ty a e1 e2; exact ⟨e2, .inl ⟨ty, a, e1⟩⟩
    · rename_i ty l c e1 e2; exact ⟨e2, .inr (.inl ⟨ty, l, c, e1⟩)⟩
    · rename_i ty e1 e2; exact ⟨e2, .inr (.inr ⟨ty, e1⟩)⟩
    · cases this

theorem cut_ok {C : Ctx} {ops : Array Oper} : CutOk ops (fun j => (floatsC C ops).1.contains j) (fun j => (floatsC C ops).2.contains j) := by
  intro c o hc ho
  have hm := (List.mem_filter.1 (List.contains_iff_mem.1 hc)).2
  unfold cutB at hm
  rw [ho] at hm
  simp only [Bool.and_eq_true, Bool.not_eq_true', List.all_eq_true] at hm
  obtain ⟨⟨⟨h1, h2⟩, _⟩, h3⟩ := hm
  refine ⟨h1, h2, fun j hj hf => ?_⟩
  have := h3 j (List.contains_iff_mem.1 hf)
  simp only [Bool.or_eq_true, decide_eq_true_eq] at this
  rcases this with g | g
  · omega
  · exact g
theorem nonwriter_frz {mode : Nat → Nat} {call : Nat → Calling} (hc : ∀ f f' g l H, mode g ≠ 2 → call f g l H = call f' g l H) {o : Op} (hw : writerB mode o = false) (f f' : Nat) :
    vop P f (call f) o t H = vop P f' (call f') o t H := by
  cases o <;> simp only [writerB] at hw <;> try (cases hw; done)
  case call c0 =>
    obtain ⟨callee, args, argTypes⟩ := c0
    cases callee with
    | builtin b => cases b <;> simp only [vop, vbuiltin] <;> simp at hw
    | value g =>
      cases g with
      | func g =>
        have hm : mode g ≠ 2 := by simpa using hw
        simp only [vop, ev]
        exact hc f f' g _ H hm
      | _ => simp at hw
    | invoke => simp at hw
  case slice ty x lo hi mx => cases mx <;> rfl
  all_goals rfl
end Go.VM
/-! Regions that draw their order: the proof over all orders. -/
set_option linter.all false
namespace Go.VM
open Go Go.RowKit

section
variable {C : Ctx} {E : Op → Op} {ops : Array Oper} {call : Nat → Calling} {frz p : Nat} {fl : Nat → Bool} {B : Nat} {w0 : World} {Ts : Nat → Env} {Hs : Nat → Heap} {vs : Nat → Value} {e0 : Env} {ι0 : Inj} {N : Nat}

/-- where a region stands, when what S tells has been done -/
structure Inv (C : Ctx) (ops : Array Oper) (frz p : Nat) (fl : Nat → Bool) (B : Nat) (w0 : World) (Ts : Nat → Env) (Hs : Nat → Heap) (vs : Nat → Value) (e0 : Env) (ι0 : Inj) (N : Nat)
    (S : Nat → Bool) (a : Act) (w : World) (cs : Nat → Value) (I : Nat → Inj) (h : Nat) : Prop where
  defers : a.defers = []
  size : a.tmps.size = N
  slot : ∀ x, a.tmps.getD x undef = envS ops e0 cs S ops.size x
  i0 : I 0 = ι0
  ph : p ≤ h
  hn : h ≤ ops.size
  chain : ∀ j, j < h → Ext (Hs j) (I j) (Hs (j + 1)) (I (j + 1))
  done : ∀ j, j < ops.size → S j = true → j < h
  val : ∀ j, j < ops.size → S j = true → VRel C.P (Hs (j + 1)) (I (j + 1)) (vs j) (cs j)
  stage : (h = p ∧ (∀ j, j ≤ p → Rel C.P B w0 frz (I j) (Hs j) w) ∧ ∀ j, j < p → S j = false → ∀ m id, (Hs j).length ≤ id → id < (Hs (j + 1)).length → I m id = none) ∨
    ((∀ j o, j < h → ops[j]? = some o → pureB o.op = false → fl j = false → S j = true) ∧ Rel C.P B w0 frz (I h) (Hs h) w ∧
      ∀ j, j < h → fl j = true → S j = false → ∀ m, j < m → m ≤ h → ∀ id, (Hs j).length ≤ id → id < (Hs (j + 1)).length → I m id = none)

variable (R : Run C.P frz (call frz) ops E ops.toList Ts Hs vs) (hT0 : ∀ x, VRel C.P (Hs 0) ι0 (Ts 0 x) (e0 x)) (he0 : ∀ x, N ≤ x → e0 x = undef)
  (hdst : ∀ (i : Nat) (o : Oper), ops[i]? = some o → ∀ d, o.dst = some d → d < N)
  (hE : ∀ op, E op = op ∨ (empB C.P op = true ∧ E op = .move (.const (.slice none 0 0)))) (D : Drawn C.mode E ops p fl) (hfr : frz ≤ (Hs 0).length)
  (hcall : ∀ f, CallOk C.P (call f) f) (hkeep : ∀ f, CallKeeps f (call f)) (hind : ∀ f f' g l H, C.mode g ≠ 2 → call f g l H = call f' g l H)

include R in
theorem Ts_env : ∀ i, i ≤ ops.size → ∀ x, Ts i x = envS ops (Ts 0) vs (fun _ => true) i x
  | 0, _, _ => rfl
  | i + 1, hi, x => by
    have ih := Ts_env i (by omega)
    have ho : ops[i]? = some ops[i] := Array.getElem?_eq_getElem (by omega)
    obtain ⟨b, _, _, _, h4⟩ := R.step i ops[i] (by simp)
    rw [h4]
    simp only [envS, ho, if_true]
    rw [put_at, put_at, ih x]
include R hkeep hfr in
theorem Hs_keep : ∀ i, i ≤ ops.size → Keeps frz (Hs 0) (Hs i)
  | 0, _ => Keeps.refl _ _
  | i + 1, hi => by
    have ih := Hs_keep i (by omega)
    have ho : ops[i]? = some ops[i] := Array.getElem?_eq_getElem (by omega)
    obtain ⟨b, _, h2, h3, _⟩ := R.step i ops[i] (by simp)
    cases b with
    | true => exact ih.trans (vop_keeps (hkeep frz) (Nat.le_trans hfr ih.1) (h2 rfl))
    | false => rw [(h3 rfl).2]; exact ih
include R D hind hE in
theorem pre_frz {i : Nat} {o : Oper} (ho : ops[i]? = some o) (hi : i < p) (f' : Nat) (H : Heap) : vop C.P frz (call frz) (E o.op) (Ts i) H = vop C.P f' (call f') (E o.op) (Ts i) H := by
  rcases hE o.op with e | ⟨_, e⟩
  · rw [e]
    rcases D.nowr i o ho hi with hw | ⟨c, x, r, hop, hcal, harg, j, q, hj, hq, hd, hg, hEq, huniq⟩
    · exact nonwriter_frz hind hw frz f'
    · have hlt : i < ops.size := (Array.getElem?_eq_some_iff.1 ho).1
      have hx : Ts i x = .slice none 0 0 := by
        rw [Ts_env R i (by omega) x, show i = (j + 1) + (i - (j + 1)) by omega]
        rw [envS_above _ fun k h1 h2 _ q' hq' => huniq k q' (by omega) (by omega) hq']
        rw [envS_at rfl hq hd]
        obtain ⟨b, hb, h2, _, _⟩ := R.step j q (by simpa using hq)
        have hbt : b = true := by simpa [vguard, hg] using hb.symm
        have := h2 hbt
        rw [hEq] at this
        simp [vop, ev] at this
        exact this.1.symm
      obtain ⟨callee, args, argTypes⟩ := c
      simp only at hcal harg
      subst hcal
      rw [hop]
      simp only [vop, vbuiltin, harg, List.map_cons, ev, hx]
      split
      · rename_i s0 y0 _ hl
        simp only [List.cons.injEq] at hl
        rw [← hl.1]
        unfold vappend vappendX vappS
        split
        · rfl
        · split <;> rfl
      · rfl
  · rw [e]; rfl
include R D hkeep hind hE in
/-- ahead of the first writer nothing that is there changes -/
theorem Hs_pre (i : Nat) (hi : i < p) : Keeps (Hs i).length (Hs i) (Hs (i + 1)) := by
  have hlt : i < ops.size := Nat.lt_of_lt_of_le hi D.ple
  have ho : ops[i]? = some ops[i] := Array.getElem?_eq_getElem hlt
  obtain ⟨b, _, h2, h3, _⟩ := R.step i ops[i] (by simp)
  cases b with
  | true =>
    have := h2 rfl
    rw [pre_frz R hE D hind ho hi (Hs i).length] at this
    exact vop_keeps (hkeep _) (Nat.le_refl _) this
  | false => rw [(h3 rfl).2]; exact Keeps.refl _ _
include R D hkeep hind hE in
theorem Hs_pre_le : ∀ k i, i + k ≤ p → Keeps (Hs i).length (Hs i) (Hs (i + k))
  | 0, i, _ => Keeps.refl _ _
  | k + 1, i, h => by
    have ih := Hs_pre_le k i (by omega)
    have h1 := Hs_pre R hE D hkeep hind (i + k) (by omega)
    exact ih.trans ⟨h1.1, fun id g1 g2 => h1.2 id g2 g2⟩

theorem Ext.keeps {ι : Inj} {H H' : Heap} (k : Keeps H.length H H') : Ext H ι H' ι := fun id r hr => by
  have hid := (List.getElem?_eq_some_iff.1 hr).1
  exact ⟨r, by rw [k.2 id hid hid]; exact hr, rfl, Nat.le_refl _, fun _ => rfl⟩
theorem Rel.keeps {P : Program} {ι : Inj} {H H' : Heap} {w : World} (R : Rel P B w0 frz ι H w) (k : Keeps H.length H H') : Rel P B w0 frz ι H' w :=
  ⟨R.below, R.hB, fun id l hl => by
    obtain ⟨g1, r, g2, g3⟩ := R.row id l hl
    have hid := R.lt hl
    exact ⟨g1, r, by rw [k.2 id hid hid]; exact g2, g3.mono (Ext.keeps k)⟩, fun id l r hl hr hf => by
    have hid := R.lt hl
    rw [k.2 id hid hid] at hr; exact R.own id l r hl hr hf, R.gl⟩
/-- a row that is there gets its place -/
theorem Rel.place {P : Program} {ι : Inj} {H : Heap} {w : World} (R : Rel P B w0 frz ι H w) {id0 : Nat} (hn : ι id0 = none) (cs : List Value) (cs' : Array Value) (e : TypeId) (hr0 : H[id0]? = some ⟨cs, 0, e⟩) (hlen : cs.length ≤ cs'.size)
    (hrel : ∀ (i : Nat) (v : Value), cs[i]? = some v → ∃ c, cs'[i]? = some c ∧ ∀ ι', VRel P H ι' v c) :
    Rel P B w0 frz (ι.at id0 ⟨w.heap.size, 0, cs'.size⟩) H (w.alloc (.cells cs' e)) := by
  have hB := R.hB
  have hgrow : ∀ id l, ι id = some l → (ι.at id0 ⟨w.heap.size, 0, cs'.size⟩) id = some l := fun id l hl => by
    have : id ≠ id0 := fun h => by rw [h, hn] at hl; cases hl
    simpa [Inj.at, this] using hl
  refine ⟨R.below.alloc R.hB _, by simp; omega, ?_, ?_, R.gl⟩
  · intro id l hl
    by_cases hid : id = id0
    · subst hid
      simp [Inj.at] at hl
      subst hl
      refine ⟨by simp, ⟨cs, 0, e⟩, hr0, hlen, fun i v hv => ?_⟩
      obtain ⟨c, hc, hv'⟩ := hrel i v hv
      exact ⟨c, by simp [Loc.at, hc], hv' _⟩
    · simp [Inj.at, hid] at hl
      obtain ⟨h1, r, hr, hra⟩ := R.row id l hl
      refine ⟨by simp; omega, r, hr, ?_⟩
      have h2 : RowAt P H (ι.at id0 ⟨w.heap.size, 0, cs'.size⟩) w r.cells l := ⟨hra.1, fun i v hv => by
        obtain ⟨c, q1, q2⟩ := hra.2 i v hv; exact ⟨c, q1, q2.grow hgrow⟩⟩
      exact h2.world fun a ha => World.cell?_alloc_lt _ _ _ (by omega)
  · intro id l r hl hr hfr
    by_cases hid : id = id0
    · subst hid
      simp [Inj.at] at hl
      subst hl
      rw [hr0] at hr; cases hr
      refine ⟨hB, ⟨cs', heap_alloc_new _ _, by simp⟩, fun id' l' hl' hb => ?_⟩
      by_cases hid' : id' = id
      · exact hid'
      · simp [Inj.at, hid'] at hl'
        have := (R.row id' l' hl').1
        simp at hb; omega
    · simp [Inj.at, hid] at hl
      obtain ⟨h1, ⟨cs1, h2, h3⟩, h4⟩ := R.own id l r hl hr hfr
      have hlb := (R.row id l hl).1
      refine ⟨h1, ⟨cs1, by rw [Below.heap_alloc _ _ _ hlb]; exact h2, h3⟩, fun id' l' hl' hb => ?_⟩
      by_cases hid' : id' = id0
      · subst hid'
        simp [Inj.at] at hl'
        subst hl'
        simp at hb; omega
      · simp [Inj.at, hid'] at hl'
        exact h4 id' l' hl' hb
theorem chain_le {I : Nat → Inj} {h : Nat} (hc : ∀ j, j < h → Ext (Hs j) (I j) (Hs (j + 1)) (I (j + 1))) : ∀ k i, i + k ≤ h → Ext (Hs i) (I i) (Hs (i + k)) (I (i + k))
  | 0, _, _ => Ext.refl _ _
  | k + 1, i, hk => (chain_le hc k i (by omega)).trans (hc (i + k) (by omega))

variable {S : Nat → Bool} {a : Act} {w : World} {cs : Nat → Value} {I : Nat → Inj} {h : Nat}

include hT0 in
/-- slots ahead of operation i, as far as done -/
theorem Inv.env (V : Inv C ops frz p fl B w0 Ts Hs vs e0 ι0 N S a w cs I h) : ∀ i, i ≤ h → ∀ x, VRel C.P (Hs i) (I i) (envS ops (Ts 0) vs S i x) (envS ops e0 cs S i x)
  | 0, _, x => by rw [V.i0]; exact hT0 x
  | i + 1, hi, x => by
    have ih := (V.env i (by omega) x).mono (V.chain i (by omega))
    have hn := V.hn
    simp only [envS]
    split
    · rename_i hs
      have ho : ops[i]? = some ops[i] := Array.getElem?_eq_getElem (by omega)
      simp only [ho, put_at]
      split
      · exact V.val i (by omega) hs
      · exact ih
    · exact ih

theorem looks_operand {o : Oper} {x : Nat} (hx : Operand.tmp x ∈ o.op.operands) : x ∈ o.looksAt ops :=
  List.mem_append_left _ (List.mem_filterMap.2 ⟨.tmp x, by simpa using hx, rfl⟩)

include R D hT0 he0 hdst hE in
/-- what operation i sees -/
theorem Inv.sees (V : Inv C ops frz p fl B w0 Ts Hs vs e0 ι0 N S a w cs I h) (hD : Down ops S) {i : Nat} {o : Oper} (ho : ops[i]? = some o) (hns : S i = false)
    (hrdy : ∀ e ∈ o.after, Region.binds .any e = true → S e.on = true) (hih : i ≤ h) :
    ∃ (t1 : Env) (a1 : Act), ERel C.P (Hs i) (I i) t1 a1.tmps ∧ (∀ call f H, vop C.P f call (E o.op) (Ts i) H = vop C.P f call (E o.op) t1 H) ∧ (∀ cs b, o.op ≠ .select cs b → True) ∧
      ((∀ cs b, o.op ≠ .select cs b) → execOp a.eval o = execOp a1.eval o) ∧
      (∀ b, vguard ops o (Ts i) = some b → Region.wanted o (yielded ops a.tmps) = b) ∧
      (∀ x, o.dst = some x → ∀ j q, i < j → ops[j]? = some q → S j = true → q.dst ≠ some x) := by
  have hlt : i < ops.size := (Array.getElem?_eq_some_iff.1 ho).1
  -- with i itself done the set still is closed
  have hD' : Down ops (fun j => S j || (j == i)) := by
    intro j q hq hs e he hb
    simp only [Bool.or_eq_true, beq_iff_eq] at hs ⊢
    rcases hs with hs | rfl
    · exact .inl (hD j q hq hs e he hb)
    · rw [ho] at hq; cases hq; exact .inl (hrdy e he hb)
  have hearly : ∀ j q, j < i → ops[j]? = some q → S j = true ∨ q.apart ops o = true := by
    intro j q hj hq
    rcases D.tmp i j o q ho hq hj with h1 | h1
    · have := masks_down hD' (i := i) (by simp) h1
      simp only [Bool.or_eq_true, beq_iff_eq] at this
      rcases this with h2 | h2
      · exact .inl h2
      · omega
    · exact .inr h1
  have hlate : ∀ j q, i < j → ops[j]? = some q → S j = true → o.apart ops q = true := by
    intro j q hj hq hs
    rcases D.tmp j i q o hq ho hj with h1 | h1
    · have := masks_down hD hs h1
      rw [hns] at this; cases this
    · exact h1
  have hV : ∀ x, x ∈ o.looksAt ops → Ts i x = envS ops (Ts 0) vs S i x := by
    intro x hx
    rw [Ts_env R i (by omega) x]
    refine envS_agree i fun j hj q hq hd => ?_
    rcases hearly j q hj hq with h1 | h1
    · exact ⟨h1.symm, fun _ => rfl⟩
    · exact absurd hx ((Oper.apart_spec h1).1 x hd)
  have hC : ∀ x, x ∈ o.looksAt ops → a.tmps.getD x undef = envS ops e0 cs S i x := by
    intro x hx
    rw [V.slot x, show ops.size = i + (ops.size - i) by omega]
    refine envS_above _ fun j h1 h2 hs q hq hd => ?_
    have hne : j ≠ i := fun e => by rw [e, hns] at hs; cases hs
    exact (Oper.apart_spec (hlate j q (by omega) hq hs)).2.2 x hd hx
  have hbig : ∀ x, N ≤ x → envS ops e0 cs S i x = undef := by
    intro x hx
    have := envS_above (ops := ops) (e0 := e0) (vs := cs) (S := S) (x := x) (m := 0) i (fun j _ _ _ q hq hd => absurd (hdst j q hq x hd) (Nat.not_lt.2 hx))
    rw [Nat.zero_add] at this
    rw [this]; exact he0 x hx
  let a1 : Act := ⟨(List.range N).toArray.map fun x => envS ops e0 cs S i x, []⟩
  have ha1 : ∀ x, a1.tmps.getD x undef = envS ops e0 cs S i x := by
    intro x
    simp only [a1, Array.getD_eq_getD_getElem?]
    by_cases hx : x < N
    · simp [hx]
    · rw [hbig x (by omega)]; simp [hx]
  refine ⟨envS ops (Ts 0) vs S i, a1, fun x => by rw [ha1 x]; exact V.env hT0 i hih x, fun call f H => ?_, fun _ _ _ => trivial, fun hsel => ?_, fun b hb => ?_, fun x hx j q hj hq hs => ?_⟩
  · rcases hE o.op with e | ⟨_, e⟩
    · rw [e]
      refine vop_congr fun y hy => ?_
      cases y with
      | tmp x => exact hV x (looks_operand hy)
      | _ => rfl
    · rw [e]; rfl
  · refine execOp_congr o hsel fun y hy => ?_
    cases y with
    | tmp x => show a.tmps.getD x undef = a1.tmps.getD x undef; rw [ha1 x]; exact hC x (looks_operand hy)
    | _ => rfl
  · refine guard_ok' (P := C.P) (H := Hs i) (ι := I i) (t := Ts i) (fun j want d hg hd => ?_) hb
    have hx : d ∈ o.looksAt ops := by simp [Oper.looksAt, hg, hd]
    rw [hV d hx, hC d hx]
    exact V.env hT0 i hih d
  · exact fun hd => (Oper.apart_spec (hlate j q hj hq hs)).2.1 x hx hd
end
end Go.VM
/-! Regions that draw their order: one operation, and the end. -/
set_option linter.all false
namespace Go.VM
open Go Go.RowKit

section
variable {C : Ctx} {E : Op → Op} {ops : Array Oper} {call : Nat → Calling} {frz p : Nat} {fl : Nat → Bool} {B : Nat} {w0 : World} {Ts : Nat → Env} {Hs : Nat → Heap} {vs : Nat → Value} {e0 : Env} {ι0 : Inj} {N : Nat}
variable {S : Nat → Bool} {a : Act} {w w' : World} {cs : Nat → Value} {I I' : Nat → Inj} {h h' : Nat} {i : Nat} {o : Oper} {c : Value}

def setS (S : Nat → Bool) (i : Nat) : Nat → Bool := fun j => S j || (j == i)
theorem setS_of {j : Nat} (h : S j = true) : setS S i j = true := by simp [setS, h]
theorem setS_self : setS S i i = true := by simp [setS]
theorem setS_false {j : Nat} (h : setS S i j = false) : S j = false ∧ j ≠ i := by simp [setS] at h; exact h

theorem Inv.next (V : Inv C ops frz p fl B w0 Ts Hs vs e0 ι0 N S a w cs I h) (ho : ops[i]? = some o) (hns : S i = false) (hdst : ∀ d, o.dst = some d → d < N)
    (hlate : ∀ x, o.dst = some x → ∀ j q, i < j → ops[j]? = some q → S j = true → q.dst ≠ some x)
    (hI0 : I' 0 = ι0) (hph : p ≤ h') (hn' : h' ≤ ops.size) (chain' : ∀ j, j < h' → Ext (Hs j) (I' j) (Hs (j + 1)) (I' (j + 1))) (hi : i < h') (hh : h ≤ h')
    (hval : ∀ j, j < ops.size → S j = true → VRel C.P (Hs (j + 1)) (I' (j + 1)) (vs j) (cs j)) (hnew : VRel C.P (Hs (i + 1)) (I' (i + 1)) (vs i) c)
    (hst : (h' = p ∧ (∀ j, j ≤ p → Rel C.P B w0 frz (I' j) (Hs j) w') ∧ ∀ j, j < p → setS S i j = false → ∀ m id, (Hs j).length ≤ id → id < (Hs (j + 1)).length → I' m id = none) ∨
      ((∀ j o, j < h' → ops[j]? = some o → pureB o.op = false → fl j = false → setS S i j = true) ∧ Rel C.P B w0 frz (I' h') (Hs h') w' ∧
        ∀ j, j < h' → fl j = true → setS S i j = false → ∀ m, j < m → m ≤ h' → ∀ id, (Hs j).length ≤ id → id < (Hs (j + 1)).length → I' m id = none)) :
    Inv C ops frz p fl B w0 Ts Hs vs e0 ι0 N (setS S i) (a.put o.dst c) w' (fun j => if j = i then c else cs j) I' h' := by
  have hlt : i < ops.size := (Array.getElem?_eq_some_iff.1 ho).1
  refine ⟨by rw [Act.put_defers]; exact V.defers, by rw [Act.put_size]; exact V.size, fun x => ?_, hI0, hph, hn', chain', fun j hj hs => ?_, fun j hj hs => ?_, hst⟩
  · by_cases hd : o.dst = some x
    · have hxN := hdst x hd
      have e1 : (a.put o.dst c).tmps.getD x undef = c := by
        rw [hd]; simp [Act.put, Array.getD_eq_getD_getElem?, V.size, hxN]
      rw [e1, show ops.size = (i + 1) + (ops.size - (i + 1)) by omega]
      rw [envS_above _ fun j h1 h2 hs q hq => ?_]
      · rw [envS_at setS_self ho hd]; simp
      · have hs' : S j = true := by simp [setS] at hs; rcases hs with h3 | h3; exact h3; omega
        exact hlate x hd j q (by omega) hq hs'
    · have e1 : (a.put o.dst c).tmps.getD x undef = a.tmps.getD x undef := by
        cases hq : o.dst with
        | none => rfl
        | some d =>
          have hne : d ≠ x := fun e => hd (by rw [hq, e])
          simp only [Act.put, Array.getD_eq_getD_getElem?]
          rw [Array.getElem?_setIfInBounds_ne hne]
      rw [e1, V.slot x]
      refine envS_agree _ fun j hj q hq hdq => ?_
      have hne : j ≠ i := fun e => by rw [e, ho] at hq; cases hq; exact hd hdq
      exact ⟨by simp [setS, hne], fun _ => by simp [hne]⟩
  · by_cases hji : j = i
    · omega
    · have hs' : S j = true := by simp [setS] at hs; rcases hs with h3 | h3; exact h3; exact absurd h3 hji
      have := V.done j hj hs'; omega
  · by_cases hji : j = i
    · subst hji; simpa using hnew
    · have hs' : S j = true := by simp [setS] at hs; rcases hs with h3 | h3; exact h3; exact absurd h3 hji
      simp only [if_neg hji]; exact hval j hj hs'

/-- rows only come from h to m -/
theorem Inv.adv (V : Inv C ops frz p fl B w0 Ts Hs vs e0 ι0 N S a w cs I h) {m : Nat} (hm : h ≤ m) (hmn : m ≤ ops.size) (hsame : ∀ j, h ≤ j → j < m → Keeps (Hs j).length (Hs j) (Hs (j + 1)))
    (hall : ∀ j o, j < m → ops[j]? = some o → pureB o.op = false → fl j = false → S j = true) :
    ∃ I', Inv C ops frz p fl B w0 Ts Hs vs e0 ι0 N S a w cs I' m ∧ (∀ j, j ≤ h → I' j = I j) ∧ Rel C.P B w0 frz (I' m) (Hs m) w ∧
      ∀ j, j < m → fl j = true → S j = false → ∀ k, j < k → k ≤ m → ∀ id, (Hs j).length ≤ id → id < (Hs (j + 1)).length → I' k id = none := by
  have hHs : ∀ k j, h ≤ j → j + k ≤ m → Keeps (Hs j).length (Hs j) (Hs (j + k)) := by
    intro k
    induction k with
    | zero => intro j _ _; exact Keeps.refl _ _
    | succ k ih =>
      intro j hj hk
      have h1 := hsame (j + k) (by omega) (by omega)
      exact (ih j hj (by omega)).trans ⟨h1.1, fun id _ g2 => h1.2 id g2 g2⟩
  have hR : Rel C.P B w0 frz (I h) (Hs h) w := by
    rcases V.stage with ⟨h1, h2, _⟩ | ⟨_, h2, _⟩
    · subst h1; exact h2 h (Nat.le_refl _)
    · exact h2
  have hun : ∀ j, j < h → fl j = true → S j = false → ∀ k, j < k → k ≤ h → ∀ id, (Hs j).length ≤ id → id < (Hs (j + 1)).length → I k id = none := by
    rcases V.stage with ⟨h1, _, h3⟩ | ⟨_, _, h3⟩
    · subst h1; exact fun j hj _ hs k _ _ id g1 g2 => h3 j hj hs k id g1 g2
    · exact h3
  have hHm : Keeps (Hs h).length (Hs h) (Hs m) := by have := hHs (m - h) h (Nat.le_refl _) (by omega); rwa [show h + (m - h) = m by omega] at this
  have hIm : (fun j => if j ≤ h then I j else I h) m = I h := by
    by_cases hmh : m ≤ h
    · have : m = h := by omega
      subst this; simp
    · simp [hmh]
  have hRm : Rel C.P B w0 frz ((fun j => if j ≤ h then I j else I h) m) (Hs m) w := by rw [hIm]; exact hR.keeps hHm
  have hunm : ∀ j, j < m → fl j = true → S j = false → ∀ k, j < k → k ≤ m → ∀ id, (Hs j).length ≤ id → id < (Hs (j + 1)).length → (fun j => if j ≤ h then I j else I h) k id = none := by
    intro j hj hf hs k h1 h2 id g1 g2
    by_cases hjh : j < h
    · show (if k ≤ h then I k else I h) id = none
      by_cases hkh : k ≤ h
      · rw [if_pos hkh]; exact hun j hjh hf hs k h1 hkh id g1 g2
      · rw [if_neg hkh]; exact hun j hjh hf hs h hjh (Nat.le_refl _) id g1 g2
    · show (if k ≤ h then I k else I h) id = none
      rw [if_neg (by omega)]
      have h3 := (hHs (j - h) h (Nat.le_refl _) (by omega)).1
      rw [show h + (j - h) = j by omega] at h3
      cases hl : I h id with
      | none => rfl
      | some l => have := hR.lt hl; omega
  refine ⟨fun j => if j ≤ h then I j else I h, ⟨V.defers, V.size, V.slot, by simpa using V.i0, Nat.le_trans V.ph hm, hmn, fun j hj => ?_, fun j hj hs => Nat.lt_of_lt_of_le (V.done j hj hs) hm, fun j hj hs => ?_,
    .inr ⟨hall, hRm, hunm⟩⟩, fun j hj => by simp [hj], hRm, hunm⟩
  · by_cases hjh : j < h
    · simp only [if_pos (show j ≤ h by omega), if_pos (show j + 1 ≤ h by omega)]; exact V.chain j hjh
    · have e1 := hsame j (by omega) hj
      have e2 : (if j ≤ h then I j else I h) = I h := by
        by_cases hjj : j ≤ h
        · have : j = h := by omega
          subst this; simp
        · simp [hjj]
      simp only [if_neg (show ¬ j + 1 ≤ h by omega), e2]
      exact Ext.keeps e1
  · have := V.done j hj hs
    simp only [if_pos (show j + 1 ≤ h by omega)]; exact V.val j hj hs

variable (R : Run C.P frz (call frz) ops E ops.toList Ts Hs vs) (hT0 : ∀ x, VRel C.P (Hs 0) ι0 (Ts 0 x) (e0 x)) (he0 : ∀ x, N ≤ x → e0 x = undef)
  (hdst : ∀ (i : Nat) (o : Oper), ops[i]? = some o → ∀ d, o.dst = some d → d < N)
  (hE : ∀ op, E op = op ∨ (empB C.P op = true ∧ E op = .move (.const (.slice none 0 0)))) (D : Drawn C.mode E ops p fl) (hfr : frz ≤ (Hs 0).length)
  (hcall : ∀ f, CallOk C.P (call f) f) (hkeep : ∀ f, CallKeeps f (call f)) (hind : ∀ f f' g l H, C.mode g ≠ 2 → call f g l H = call f' g l H)

include hE in
theorem pure_same {op : Op} (hp : pureB op = true) : E op = op := by
  rcases hE op with e | ⟨hb, _⟩
  · exact e
  · cases op <;> simp [empB] at hb <;> simp [pureB] at hp
include R hE in
theorem still_of {j : Nat} {q : Oper} (hq : ops[j]? = some q) (hp : pureB q.op = true) : Hs (j + 1) = Hs j := by
  obtain ⟨b, _, h2, h3, _⟩ := R.step j q (by simpa using hq)
  cases b with
  | true => have := h2 rfl; rw [pure_same hE hp] at this; exact pure_heap hp this
  | false => exact (h3 rfl).2

/-- ahead of the first writer: rows of operation i come in between -/
theorem pre_family {ι' : Inj} (hpre : ∀ k i, i + k ≤ p → Keeps (Hs i).length (Hs i) (Hs (i + k))) (hip : i < p)
    (hst : ∀ j, j ≤ p → Rel C.P B w0 frz (I j) (Hs j) w) (hun : ∀ m id, (Hs i).length ≤ id → id < (Hs (i + 1)).length → I m id = none) (hchain : ∀ j, j < p → Ext (Hs j) (I j) (Hs (j + 1)) (I (j + 1)))
    (E : Ext (Hs i) (I i) (Hs (i + 1)) ι') (R' : Rel C.P w.heap.size w (Hs i).length ι' (Hs (i + 1)) w') :
    let I' : Nat → Inj := fun j id => if j ≤ i then I j id else if (Hs i).length ≤ id ∧ id < (Hs (i + 1)).length then ι' id else I j id
    (∀ j, j < p → Ext (Hs j) (I' j) (Hs (j + 1)) (I' (j + 1))) ∧ (∀ j, j ≤ p → Rel C.P B w0 frz (I' j) (Hs j) w') ∧ (∀ j id l, I j id = some l → I' j id = some l) ∧
    Ext (Hs (i + 1)) ι' (Hs (i + 1)) (I' (i + 1)) := by
  intro I'
  have hlen : (Hs i).length ≤ (Hs (i + 1)).length := (hpre 1 i (by omega)).1
  -- same rows, same generations
  have hsame : ∀ {j k id : Nat} {r : Row}, j + k ≤ p → (Hs j)[id]? = some r → (Hs (j + k))[id]? = some r := by
    intro j k id r hjk hr
    have hlt := (List.getElem?_eq_some_iff.1 hr).1
    rw [(hpre k j hjk).2 id hlt hlt]; exact hr
  have hgrow : ∀ j id l, I j id = some l → I' j id = some l := by
    intro j id l hl
    simp only [I']
    split
    · exact hl
    · split
      · rename_i hr; rw [hun j id hr.1 hr.2] at hl; cases hl
      · exact hl
  have hIeq : ∀ j id, j < p → id < (Hs j).length → I (j + 1) id = I j id := by
    intro j id hj hid
    obtain ⟨r', h1, _, _, h4⟩ := hchain j hj id _ (List.getElem?_eq_getElem hid)
    have := hsame (j := j) (k := 1) (by omega) (List.getElem?_eq_getElem hid)
    rw [this] at h1; cases h1
    exact h4 rfl
  have chain' : ∀ j, j < p → Ext (Hs j) (I' j) (Hs (j + 1)) (I' (j + 1)) := by
    intro j hj id r hr
    have hid := (List.getElem?_eq_some_iff.1 hr).1
    refine ⟨r, hsame (k := 1) (by omega) hr, rfl, Nat.le_refl _, fun _ => ?_⟩
    simp only [I']
    by_cases h1 : j + 1 ≤ i
    · rw [if_pos h1, if_pos (show j ≤ i by omega)]; exact hIeq j id hj hid
    · rw [if_neg h1]
      by_cases h2 : j ≤ i
      · have : j = i := by omega
        subst this
        rw [if_pos (Nat.le_refl _), if_neg (show ¬ ((Hs j).length ≤ id ∧ id < (Hs (j + 1)).length) by omega)]; exact hIeq _ id hj hid
      · rw [if_neg h2]
        split
        · rfl
        · exact hIeq j id hj hid
  have Enew : Ext (Hs (i + 1)) ι' (Hs (i + 1)) (I' (i + 1)) := by
    intro id r hr
    have hid := (List.getElem?_eq_some_iff.1 hr).1
    refine ⟨r, hr, rfl, Nat.le_refl _, fun _ => ?_⟩
    simp only [I']
    rw [if_neg (show ¬ i + 1 ≤ i by omega)]
    by_cases h1 : (Hs i).length ≤ id
    · rw [if_pos ⟨h1, hid⟩]
    · rw [if_neg (show ¬ ((Hs i).length ≤ id ∧ id < (Hs (i + 1)).length) by omega), hIeq i id hip (by omega)]
      obtain ⟨r', g1, _, _, g4⟩ := E id _ (List.getElem?_eq_getElem (show id < (Hs i).length by omega))
      have := hsame (j := i) (k := 1) (by omega) (List.getElem?_eq_getElem (show id < (Hs i).length by omega))
      have e1 := Option.some.inj (this.symm.trans g1)
      exact (g4 (by rw [← e1])).symm
  have hle : ∀ k j, j + k ≤ p → Ext (Hs j) (I' j) (Hs (j + k)) (I' (j + k)) := fun k j hk => chain_le (h := p) chain' k j hk
  refine ⟨chain', fun j hj => ?_, hgrow, Enew⟩
  have Rj := hst j hj
  by_cases hji : j ≤ i
  · have : I' j = I j := by funext id; simp only [I', if_pos hji]
    rw [this]; exact Rj.of_below R'.below
  · have hBw := Rj.hB
    have hsz := R'.below.size
    have cases' : ∀ {id : Nat} {l : Loc}, I' j id = some l → ((Hs i).length ≤ id ∧ id < (Hs (i + 1)).length ∧ ι' id = some l) ∨ I j id = some l := by
      intro id l hl
      simp only [I', if_neg hji] at hl
      split at hl
      · rename_i hr; exact .inl ⟨hr.1, hr.2, hl⟩
      · exact .inr hl
    have hrow : ∀ {id : Nat} {r : Row}, (Hs (i + 1))[id]? = some r → (Hs j)[id]? = some r := by
      intro id r hr
      have := hsame (j := i + 1) (k := j - (i + 1)) (by omega) hr
      rwa [show i + 1 + (j - (i + 1)) = j by omega] at this
    refine ⟨Rj.below.trans (R'.below.mono hBw), by omega, fun id l hl => ?_, fun id l r hl hr hf => ?_, Rj.gl⟩
    · rcases cases' hl with ⟨h1, h2, h3⟩ | h3
      · obtain ⟨g1, r, g2, g3⟩ := R'.row id l h3
        refine ⟨g1, r, hrow g2, g3.1, fun k v hv => ?_⟩
        obtain ⟨c, q1, q2⟩ := g3.2 k v hv
        have := (q2.mono Enew).mono (hle (j - (i + 1)) (i + 1) (by omega))
        rw [show i + 1 + (j - (i + 1)) = j by omega] at this
        exact ⟨c, q1, this⟩
      · obtain ⟨g1, r, g2, g3⟩ := Rj.row id l h3
        refine ⟨by omega, r, g2, g3.1, fun k v hv => ?_⟩
        obtain ⟨c, q1, q2⟩ := g3.2 k v hv
        exact ⟨c, by rw [R'.below.cell (by simpa [Loc.at] using g1)]; exact q1, q2.grow (hgrow j)⟩
    · rcases cases' hl with ⟨h1, h2, h3⟩ | h3
      · obtain ⟨_, r', g2, _⟩ := R'.row id l h3
        have := hrow g2
        rw [this] at hr; cases hr
        obtain ⟨q1, q2, q3⟩ := R'.own id l _ h3 g2 h1
        refine ⟨by omega, q2, fun id' l' hl' hb => ?_⟩
        rcases cases' hl' with ⟨_, _, k3⟩ | k3
        · exact q3 id' l' k3 hb
        · have := (Rj.row id' l' k3).1; omega
      · obtain ⟨q1, ⟨cs', q2, q2'⟩, q3⟩ := Rj.own id l r h3 hr hf
        have hlb := (Rj.row id l h3).1
        refine ⟨q1, ⟨cs', by rw [R'.below.block _ hlb]; exact q2, q2'⟩, fun id' l' hl' hb => ?_⟩
        rcases cases' hl' with ⟨k1, k2, k3⟩ | k3
        · obtain ⟨_, r', g2, _⟩ := R'.row id' l' k3
          have := (R'.own id' l' r' k3 g2 k1).1
          omega
        · exact q3 id' l' k3 hb
end
end Go.VM
/-! Regions that draw their order: all orders. -/
set_option linter.all false
namespace Go.VM
open Go Go.RowKit

section
variable {C : Ctx} {E : Op → Op} {ops : Array Oper} {call : Nat → Calling} {frz p : Nat} {fl : Nat → Bool} {B : Nat} {w0 : World} {Ts : Nat → Env} {Hs : Nat → Heap} {vs : Nat → Value} {e0 : Env} {ι0 : Inj} {N : Nat}
variable {S : Nat → Bool} {a : Act} {w w' : World} {cs : Nat → Value} {I I' : Nat → Inj} {h h' : Nat} {i : Nat} {o : Oper} {c : Value}

def Stands (C : Ctx) (ops : Array Oper) (frz p : Nat) (fl : Nat → Bool) (B : Nat) (w0 : World) (Ts : Nat → Env) (Hs : Nat → Heap) (vs : Nat → Value) (e0 : Env) (ι0 : Inj) (N : Nat) (S : Nat → Bool) (a : Act) (w : World) : Prop :=
  ∃ cs I h, Inv C ops frz p fl B w0 Ts Hs vs e0 ι0 N S a w cs I h

/-- an operation without rows -/
theorem Inv.light (V : Inv C ops frz p fl B w0 Ts Hs vs e0 ι0 N S a w cs I h) (ho : ops[i]? = some o) (hns : S i = false) (hdst : ∀ d, o.dst = some d → d < N)
    (hlate : ∀ x, o.dst = some x → ∀ j q, i < j → ops[j]? = some q → S j = true → q.dst ≠ some x)
    (hle : i ≤ h) (htail : h = i → (∀ j o, j < i → ops[j]? = some o → pureB o.op = false → fl j = false → S j = true) ∧ Rel C.P B w0 frz (I i) (Hs i) w ∧
      ∀ j, j < i → fl j = true → S j = false → ∀ m, j < m → m ≤ i → ∀ id, (Hs j).length ≤ id → id < (Hs (j + 1)).length → I m id = none)
    (hsame : Hs (i + 1) = Hs i) (hv : VRel C.P (Hs i) (I i) (vs i) c) : Stands C ops frz p fl B w0 Ts Hs vs e0 ι0 N (setS S i) (a.put o.dst c) w := by
  have hlt : i < ops.size := (Array.getElem?_eq_some_iff.1 ho).1
  by_cases hih : i < h
  · refine ⟨_, I, h, V.next ho hns hdst hlate V.i0 V.ph V.hn V.chain hih (Nat.le_refl _) V.val (hv.mono (V.chain i hih)) ?_⟩
    rcases V.stage with ⟨e, r, u⟩ | ⟨al, r, u⟩
    · exact .inl ⟨e, r, fun j hj hs => u j hj (setS_false hs).1⟩
    · exact .inr ⟨fun j q h1 h2 h3 h4 => setS_of (al j q h1 h2 h3 h4), r, fun j hj hf hs => u j hj hf (setS_false hs).1⟩
  · have hei : h = i := by omega
    obtain ⟨al, r, u⟩ := htail hei
    subst hei
    refine ⟨_, fun j => if j ≤ h then I j else I h, h + 1, V.next ho hns hdst hlate (by simpa using V.i0) (by have := V.ph; omega) (by omega) (fun j hj => ?_) (by omega) (by omega) (fun j hj hs => ?_) ?_ ?_⟩
    · by_cases hjh : j < h
      · simp only [if_pos (show j ≤ h by omega), if_pos (show j + 1 ≤ h by omega)]; exact V.chain j hjh
      · have : j = h := by omega
        subst this
        simp only [Nat.le_refl, if_true, if_neg (show ¬ j + 1 ≤ j by omega), hsame]
        exact Ext.refl _ _
    · have := V.done j hj hs
      simp only [if_pos (show j + 1 ≤ h by omega)]; exact V.val j hj hs
    · simp only [if_neg (show ¬ h + 1 ≤ h by omega), hsame]; exact hv
    · refine .inr ⟨fun j q h1 h2 h3 h4 => ?_, ?_, fun j hj hf hs m h1 h2 id g1 g2 => ?_⟩
      · by_cases hjh : j < h
        · exact setS_of (al j q hjh h2 h3 h4)
        · have : j = h := by omega
          subst this; exact setS_self
      · simp only [if_neg (show ¬ h + 1 ≤ h by omega), hsame]; exact r
      · obtain ⟨s1, s2⟩ := setS_false hs
        show (if m ≤ h then I m else I h) id = none
        by_cases hmh : m ≤ h
        · rw [if_pos hmh]; exact u j (by omega) hf s1 m h1 hmh id g1 g2
        · rw [if_neg hmh]; exact u j (by omega) hf s1 h (by omega) (Nat.le_refl _) id g1 g2

variable (R : Run C.P frz (call frz) ops E ops.toList Ts Hs vs) (hT0 : ∀ x, VRel C.P (Hs 0) ι0 (Ts 0 x) (e0 x)) (he0 : ∀ x, N ≤ x → e0 x = undef)
  (hdst : ∀ (i : Nat) (o : Oper), ops[i]? = some o → ∀ d, o.dst = some d → d < N)
  (hE : ∀ op, E op = op ∨ (empB C.P op = true ∧ E op = .move (.const (.slice none 0 0)))) (D : Drawn C.mode E ops p fl) (hfr : frz ≤ (Hs 0).length)
  (hcall : ∀ f, CallOk C.P (call f) f) (hkeep : ∀ f, CallKeeps f (call f)) (hind : ∀ f f' g l H, C.mode g ≠ 2 → call f g l H = call f' g l H)
include hE in
theorem oper_okE {B : Nat} {w0 w : World} {frz : Nat} {H H' : Heap} {ι : Inj} {v : Value} {t : Env} {a a1 : Act} (Rl : Rel C.P B w0 frz ι H w) (hf0 : frz ≤ H.length) (Er : ERel C.P H ι t a.tmps) {call : Calling} (hcall : CallOk C.P call frz) (o : Oper)
    (heq : execOp a1.eval o = execOp a.eval o) (h : vop C.P frz call (E o.op) t H = some (v, H')) {next : Act → World → Prop} {Q : Exit → Act → World → Prop}
    (hn : ∀ c w' ι', VRel C.P H' ι' v c → Ext H ι H' ι' → Rel C.P B w0 frz ι' H' w' → next (a1.put o.dst c) w') : o.wp C.P a1 w next Q := by
  rcases hE o.op with e | ⟨hb, e⟩
  · rw [e] at h; exact oper_ok' Rl hf0 Er hcall o heq h hn
  · rw [e] at h
    simp [vop, ev] at h
    obtain ⟨rfl, rfl⟩ := h
    obtain ⟨dst, op, type, pos, after, guard⟩ := o
    unfold empB at hb
    split at hb
    · rename_i ty ps hop
      simp only [Bool.and_eq_true, decide_eq_true_eq] at hb
      obtain ⟨h1, h2⟩ := hb
      have hps : ps = #[] := Array.eq_empty_of_size_eq_zero h1
      subst hps
      simp only at hop
      subst hop
      split at h2
      · rename_i e' n' he
        obtain ⟨z, hz⟩ := Option.isSome_iff_exists.1 h2
        obtain ⟨c, w', hr, hv, hR⟩ := empty_ok Rl he hz
        unfold Oper.wp
        rw [heq]
        have hrun : (execOp a.eval ⟨dst, .buildSlice ty 0 #[], type, pos, after, guard⟩).run C.P w = .ok (.value c) w' := by
          simp only [execOp]
          rw [Sem.run_bind]
          simp [hr]
        rw [hrun]
        exact hn c w' ι hv (Ext.refl _ _) hR
      · cases h2
    · cases hb
include hE in
theorem float_same {op : Op} {ty : TypeId} {x : Operand} (hop : op = .load ty x) : E op = op := by
  rcases hE op with e | ⟨hb, _⟩
  · exact e
  · rw [hop] at hb; simp [empB] at hb
include hE in
theorem float_same' {op : Op} (hop : (∃ ty l c, op = .makeSlice ty l c) ∨ ∃ ty, op = .alloc ty) : E op = op := by
  rcases hE op with e | ⟨hb, _⟩
  · exact e
  · rcases hop with ⟨ty, l, c, hop⟩ | ⟨ty, hop⟩ <;> · rw [hop] at hb; simp [empB] at hb
include R hE in
theorem float_still {j : Nat} {q : Oper} (hq : ops[j]? = some q) {ty : TypeId} {x : Operand} (hop : q.op = .load ty x) : Hs (j + 1) = Hs j := by
  obtain ⟨b, hb, h2, h3, _⟩ := R.step j q (by simpa using hq)
  cases b with
  | true =>
    have := h2 rfl
    rw [float_same hE hop, hop] at this
    simp only [vop] at this
    obtain ⟨_, _, h5⟩ := omap this
    have h6 := congrArg Prod.snd h5
    exact h6.symm
  | false => exact (h3 rfl).2
include R hE D in
theorem float_keeps {j : Nat} {q : Oper} (hq : ops[j]? = some q) (hf : fl j = true) : Keeps (Hs j).length (Hs j) (Hs (j + 1)) := by
  obtain ⟨_, hop | hop⟩ := D.flo j q hq hf
  · obtain ⟨ty, x, hop⟩ := hop
    rw [float_still R hE hq hop]; exact Keeps.refl _ _
  · obtain ⟨b, hb, h2, h3, _⟩ := R.step j q (by simpa using hq)
    cases b with
    | true =>
      have := h2 rfl
      rw [float_same' hE hop] at this
      rcases hop with ⟨ty, x, y, hop⟩ | ⟨ty, hop⟩
      · rw [hop] at this
        simp only [vop] at this
        exact vmake_keeps this
      · rw [hop] at this
        simp only [vop] at this
        split at this
        · have h6 : Hs j ++ _ = Hs (j + 1) := congrArg Prod.snd (Option.some.inj this)
          rw [← h6]; exact Keeps.app _ _ _
        · cases this
    | false => rw [(h3 rfl).2]; exact Keeps.refl _ _
theorem make_shape {P : Program} {H0 H1 : Heap} {t : TypeId} {x y v : Value} (h : vmake P H0 t x y = some (v, H1)) : ∃ r, H1[H0.length]? = some r ∧ (∃ n, v = .slice (some ⟨H0.length, 0, some 0⟩) n 0) ∧ H1.length = H0.length + 1 := by
  unfold vmake at h
  repeat' split at h
  all_goals first | (cases h; exact ⟨_, List.getElem?_concat_length, ⟨_, rfl⟩, by simp⟩) | cases h
/-- what makeSlice does does not look at rows -/
theorem make_late {P : Program} {H0 H1 H : Heap} {ι1 ι : Inj} {t : TypeId} {x y v c d : Value} {B frz : Nat} {w0 w : World} (R : Rel P B w0 frz ι H w) (hx : VRel P H0 ι1 x c) (hy : VRel P H0 ι1 y d) (h : vmake P H0 t x y = some (v, H1))
    (hn : ι H0.length = none) (hr : H[H0.length]? = H1[H0.length]?) :
    ∃ c' w' loc, (Instr.makeSlice t c d).run P w = .ok c' w' ∧ Rel P B w0 frz (ι.at H0.length loc) H w' ∧ H1.length = H0.length + 1 ∧ ∀ ι', ι' H0.length = some loc → VRel P H1 ι' v c' := by
  unfold vmake at h
  split at h
  · rename_i kl l kc c0
    cases hx; cases hy
    split at h
    · rename_i e n he
      obtain ⟨hu, i, z, hi, hsz, hp, hb, hz, hzs⟩ := eltp_spec he
      split at h
      · rename_i z1 hz1
        obtain ⟨i', z', hi', hz', hzz, hlit⟩ := tzero_spec hz1
        rw [hi] at hi'; cases hi'
        rw [hz] at hz'; cases hz'
        split at h
        · rename_i hc
          cases h
          subst hsz
          have hrun := run_make (P := P) w t e i z hu hi hz kl kc l c0 hc.1 hc.2.1 (by
            have h1 : (i.bytes : Int) * c0 ≤ 65536 * 1073741824 := by
              have : (i.bytes : Int) ≤ 65536 := by omega
              exact Int.mul_le_mul this hc.2.2 (by omega) (by omega)
            omega) (by omega)
          have hzl : z1.length = i.size := by rw [← hzz]; simpa using hzs
          have hmul : l.toNat * i.size ≤ c0.toNat * i.size := Nat.mul_le_mul_right _ (by omega)
          have RR := R.place hn (List.replicate l.toNat z1).flatten (madeCells z.cells (c0.toNat * i.size)) e (by rw [hr]; simp) (by rw [length_flatten_replicate, size_madeCells, hzl]; exact hmul) (fun j v hj => by
            have hlt := (List.getElem?_eq_some_iff.1 hj).1
            rw [length_flatten_replicate] at hlt
            rw [getElem?_flatten_replicate _ _ _ hlt] at hj
            refine ⟨v, ?_, fun ι' => .lit (hlit v (List.mem_of_getElem? hj))⟩
            rw [madeCells_get _ _ _ (by rw [hzl] at hlt; omega) (by omega), ← hj, ← hzz]; simp)
          refine ⟨_, _, _, hrun, RR, by simp, fun ι' hl => ?_⟩
          exact .sl (r := ⟨(List.replicate l.toNat z1).flatten, 0, e⟩) (l := ⟨w.heap.size, 0, _⟩) (by simp) rfl hl (by omega) (fun _ => by simp [cellsOf_of hi, size_madeCells])
        · cases h
      · cases h
    · cases h
  · cases h
/-- what an allocation does does not look at rows -/
theorem alloc_late {P : Program} {H1 H : Heap} {id0 : Nat} {ι : Inj} {t : TypeId} {z : List Value} {B frz : Nat} {w0 w : World} (R : Rel P B w0 frz ι H w) (h : tzero P t = some z)
    (hn : ι id0 = none) (hr : H[id0]? = some ⟨z, 0, t⟩) (h1 : H1[id0]? = some ⟨z, 0, t⟩) :
    ∃ c' w' loc, (Instr.alloc t true (.tuple #[])).run P w = .ok c' w' ∧ Rel P B w0 frz (ι.at id0 loc) H w' ∧ ∀ ι', ι' id0 = some loc → VRel P H1 ι' (.pointer (some ⟨id0, 0, some 0⟩)) c' := by
  obtain ⟨i, z', hi, hz, hzz, hlit⟩ := tzero_spec h
  have RR := R.place hn z z'.cells t hr (by rw [← hzz]; simp) (fun j v hj => ⟨v, by rw [← hzz] at hj; simpa using hj, fun ι' => .lit (hlit v (List.mem_of_getElem? hj))⟩)
  refine ⟨.pointer (some ⟨w.heap.size, 0, none⟩), _, _, by simp [Instr.alloc, zeroValue, typeInfo, hi, hz, newVar, newRow], RR, fun ι' hl => ?_⟩
  have := VRel.ptr (P := P) (H := H1) (ι := ι') (a := ⟨id0, 0, some 0⟩) (r := ⟨z, 0, t⟩) (l := ⟨w.heap.size, 0, z'.cells.size⟩) h1 rfl hl
  simpa [Loc.at] using this
theorem makes_shape {P : Program} {frz : Nat} {call : Calling} {op : Op} {t : Env} {H0 H1 : Heap} {v : Value} (hop : (∃ ty l c, op = .makeSlice ty l c) ∨ ∃ ty, op = .alloc ty) (h : vop P frz call op t H0 = some (v, H1)) :
    ∃ r, H1[H0.length]? = some r ∧ H1.length = H0.length + 1 ∧ ∀ t' wl, Wat.row H0.length r ∈ wgrow true op t' v H1 wl := by
  rcases hop with ⟨ty, x, y, rfl⟩ | ⟨ty, rfl⟩
  · simp only [vop] at h
    obtain ⟨vh, vr, ⟨vn, vv⟩, vlen⟩ := make_shape h
    exact ⟨vh, vr, vlen, fun t' wl => by simp [wgrow, wrow, vv, vr]⟩
  · simp only [vop] at h
    split at h
    · cases h
      exact ⟨_, List.getElem?_concat_length, by simp, fun t' wl => by simp [wgrow, wrow, newp]⟩
    · cases h
theorem makes_late {P : Program} {frz' : Nat} {call : Calling} {o : Oper} {t : Env} {a : Act} {H0 H1 H : Heap} {ι1 ι : Inj} {v : Value} {B frz : Nat} {w0 w : World} (R : Rel P B w0 frz ι H w) (E : ERel P H0 ι1 t a.tmps)
    (hop : (∃ ty l c, o.op = .makeSlice ty l c) ∨ ∃ ty, o.op = .alloc ty) (h : vop P frz' call o.op t H0 = some (v, H1)) (hn : ι H0.length = none) (hr : H[H0.length]? = H1[H0.length]?) :
    ∃ c' w' loc, (execOp a.eval o).run P w = .ok (.value c') w' ∧ Rel P B w0 frz (ι.at H0.length loc) H w' ∧ H1.length = H0.length + 1 ∧ ∀ ι', ι' H0.length = some loc → VRel P H1 ι' v c' := by
  obtain ⟨dst, op, type, pos, after, guard⟩ := o
  simp only at hop h
  rcases hop with ⟨ty, x, y, rfl⟩ | ⟨ty, rfl⟩
  · simp only [vop] at h
    obtain ⟨c, w', loc, k1, k2, k3, k4⟩ := make_late R (ev_ok E x a.defers) (ev_ok E y a.defers) h hn hr
    refine ⟨c, w', loc, ?_, k2, k3, k4⟩
    simp only [execOp, Sem.run_bind]
    rw [show (Instr.makeSlice ty (a.eval x) (a.eval y)).run P w = .ok c w' from k1]; rfl
  · simp only [vop] at h
    split at h
    · rename_i z hz
      cases h
      rw [List.getElem?_concat_length] at hr
      obtain ⟨c, w', loc, k1, k2, k4⟩ := alloc_late (H1 := H0 ++ [⟨z, 0, ty⟩]) R hz hn hr List.getElem?_concat_length
      refine ⟨c, w', loc, ?_, k2, by simp, k4⟩
      simp only [execOp, Sem.run_bind]
      rw [k1]; rfl
    · cases h
/-- where a row comes late -/
theorem late_family {id0 : Nat} {loc : Loc} (hih : i < h) (hlen : (Hs i).length = id0) (hlen1 : (Hs (i + 1)).length = id0 + 1) (V : Inv C ops frz p fl B w0 Ts Hs vs e0 ι0 N S a w cs I h)
    (hun : ∀ j, j < h → fl j = true → S j = false → ∀ m, j < m → m ≤ h → ∀ id, (Hs j).length ≤ id → id < (Hs (j + 1)).length → I m id = none) (hfi : fl i = true) (hns : S i = false) :
    let I' : Nat → Inj := fun m => if m ≤ i then I m else (I m).at id0 loc
    (∀ j, j < h → Ext (Hs j) (I' j) (Hs (j + 1)) (I' (j + 1))) ∧ (∀ m, m ≤ h → ∀ id l, I m id = some l → I' m id = some l) ∧
    ∀ j, j < h → fl j = true → setS S i j = false → ∀ m, j < m → m ≤ h → ∀ id, (Hs j).length ≤ id → id < (Hs (j + 1)).length → I' m id = none := by
  intro I'
  refine ⟨fun j hj k r hr => ?_, fun m hm id l hl => ?_, fun j hj hf hs m h1 h2 id g1 g2 => ?_⟩
  · obtain ⟨r', q1, q2, q3, q4⟩ := V.chain j hj k r hr
    refine ⟨r', q1, q2, q3, fun hg => ?_⟩
    have q5 := q4 hg
    have hk := (List.getElem?_eq_some_iff.1 hr).1
    simp only [I']
    by_cases h1 : j + 1 ≤ i
    · rw [if_pos h1, if_pos (show j ≤ i by omega)]; exact q5
    · rw [if_neg h1]
      by_cases h2 : j ≤ i
      · have : j = i := by omega
        subst this
        rw [if_pos h2]
        simp only [Inj.at, if_neg (show ¬ k = id0 by omega)]; exact q5
      · rw [if_neg h2]
        simp only [Inj.at]
        split
        · rfl
        · exact q5
  · simp only [I']
    by_cases h1 : m ≤ i
    · rw [if_pos h1]; exact hl
    · rw [if_neg h1]
      have : id ≠ id0 := fun e => by
        rw [hun i hih hfi hns m (by omega) hm id (by omega) (by omega)] at hl; cases hl
      simpa [Inj.at, this] using hl
  · obtain ⟨s1, s2⟩ := setS_false hs
    have q := hun j hj hf s1 m h1 h2 id g1 g2
    simp only [I']
    by_cases h3 : m ≤ i
    · rw [if_pos h3]; exact q
    · rw [if_neg h3]
      have : id ≠ id0 := fun e => by
        rcases Nat.lt_or_gt_of_ne s2 with hji | hji
        · have := (chain_le V.chain (i - (j + 1)) (j + 1) (by omega)).len
          rw [show j + 1 + (i - (j + 1)) = i by omega] at this; omega
        · have := (chain_le V.chain (j - (i + 1)) (i + 1) (by omega)).len
          rw [show i + 1 + (j - (i + 1)) = j by omega] at this; omega
      simpa [Inj.at, this] using q
variable {cut : Nat → Bool} (Wt : Watched C.P ops E fl cut Ts Hs vs) (Cu : CutOk ops fl cut)
include R hT0 he0 hdst D hfr hcall hkeep hind hE Wt Cu

theorem inv_step {Q : Exit → Act → World → Prop} {K : Act → World → Prop} (V0 : Stands C ops frz p fl B w0 Ts Hs vs e0 ι0 N S a w) (hD : Down ops S) (ho : ops[i]? = some o) (hns : S i = false)
    (hrdy : ∀ e ∈ o.after, Region.binds .any e = true → S e.on = true) (hK : ∀ a' w', Stands C ops frz p fl B w0 Ts Hs vs e0 ι0 N (setS S i) a' w' → K a' w') : wpOp C.P ops Q i K a w := by
  obtain ⟨cs, I, h, V⟩ := V0
  have hlt : i < ops.size := (Array.getElem?_eq_some_iff.1 ho).1
  unfold wpOp
  rw [ho]
  simp only []
  obtain ⟨b, hb, h2, h3, h4⟩ := R.step i o (by simpa using ho)
  have hadv : ∃ I1 h1, Inv C ops frz p fl B w0 Ts Hs vs e0 ι0 N S a w cs I1 h1 ∧ i ≤ h1 ∧
      (h1 = i → (∀ j o, j < i → ops[j]? = some o → pureB o.op = false → fl j = false → S j = true) ∧ Rel C.P B w0 frz (I1 i) (Hs i) w ∧
        ∀ j, j < i → fl j = true → S j = false → ∀ m, j < m → m ≤ i → ∀ id, (Hs j).length ≤ id → id < (Hs (j + 1)).length → I1 m id = none) := by
    by_cases hih : i < h
    · exact ⟨I, h, V, by omega, fun e => by omega⟩
    · have hD' : Down ops (fun j => S j || (j == i)) := by
        intro j q hq hs e he hbb
        simp only [Bool.or_eq_true, beq_iff_eq] at hs ⊢
        rcases hs with hs | rfl
        · exact .inl (hD j q hq hs e he hbb)
        · rw [ho] at hq; cases hq; exact .inl (hrdy e he hbb)
      have hph := V.ph
      have hall : ∀ j q, j < i → ops[j]? = some q → pureB q.op = false → fl j = false → S j = true := by
        intro j q hj hq hp hf
        rcases D.heap i j o q ho hq hj (by omega) with g | g | g
        · rw [hp] at g; cases g
        · rw [hf] at g; cases g
        · have := masks_down hD' (i := i) (by simp) g
          simp only [Bool.or_eq_true, beq_iff_eq] at this
          rcases this with g2 | g2
          · exact g2
          · omega
      obtain ⟨I1, V1, _, r1, u1⟩ := V.adv (m := i) (by omega) (by omega) (fun j h1 h2 => by
        have hq : ops[j]? = some ops[j] := Array.getElem?_eq_getElem (by omega)
        cases hp : pureB (ops[j]).op with
        | true => rw [still_of R hE hq hp]; exact Keeps.refl _ _
        | false =>
          cases hf : fl j with
          | true => exact float_keeps R hE D hq hf
          | false =>
            have := V.done j (by omega) (hall j _ h2 hq hp hf)
            omega) hall
      exact ⟨I1, i, V1, Nat.le_refl _, fun _ => ⟨hall, r1, u1⟩⟩
  obtain ⟨I1, h1, V1, hle, htail⟩ := hadv
  obtain ⟨t1, a1, E1, hvop, _, hexec, hwant, hlate⟩ := V1.sees R hT0 he0 hdst hE D hD ho hns hrdy hle
  have hd := hdst i o ho
  cases b with
  | false =>
    rw [if_neg (by rw [hwant false hb]; simp)]
    obtain ⟨g1, g2⟩ := h3 rfl
    exact hK _ _ (V1.light ho hns hd hlate hle htail g2 (by rw [g1]; exact VRel.undef))
  | true =>
    rw [if_pos (hwant true hb)]
    refine .inl ?_
    have hv := h2 rfl
    have hsel : ∀ cs b, o.op ≠ .select cs b := fun cs b e => by
      rcases hE o.op with e1 | ⟨e1, _⟩
      · rw [e1, e] at hv; simp [vop] at hv
      · rw [e] at e1; simp [empB] at e1
    have heq := hexec hsel
    by_cases hp : pureB o.op = true
    · have hv1 := hv
      rw [hvop, pure_same hE hp] at hv1
      obtain ⟨g1, c, g2, g3⟩ := pure_ok E1 o hp hv1 w
      unfold Oper.wp
      rw [heq, g2]
      exact hK _ _ (V1.light ho hns hd hlate hle htail g1 g3)
    · have hp' : pureB o.op = false := by simpa using hp
      by_cases hih : i < h1
      · -- ahead of the first writer
        rcases V1.stage with ⟨e, r, u⟩ | ⟨al, r2, un⟩
        · have hip : i < p := by omega
          have hv1 := hv
          rw [pre_frz R hE D hind ho hip (Hs i).length, hvop] at hv1
          refine oper_okE hE (r i (by omega)).freeze (Nat.le_refl _) E1 (hcall _) o heq hv1 fun c w' ι' q1 q2 q3 => ?_
          have hpre := Hs_pre_le R hE D hkeep hind
          obtain ⟨f1, f2, f3, f4⟩ := pre_family hpre hip r (u i hip hns) (fun j hj => V1.chain j (by omega)) q2 q3
          refine hK _ _ ⟨_, _, h1, V1.next ho hns hd hlate ?_ V1.ph V1.hn (fun j hj => f1 j (by omega)) hih (Nat.le_refl _) (fun j hj hs => (V1.val j hj hs).grow (f3 (j + 1))) (q1.mono f4) (.inl ⟨e, f2, fun j hj hs m id g1 g2 => ?_⟩)⟩
          · show (fun id => if 0 ≤ i then I1 0 id else _) = ι0
            simp only [Nat.zero_le, if_true]; exact V1.i0
          · obtain ⟨s1, s2⟩ := setS_false hs
            have u1 := u j hj s1 m id g1 g2
            show (if m ≤ i then I1 m id else if (Hs i).length ≤ id ∧ id < (Hs (i + 1)).length then ι' id else I1 m id) = none
            split
            · exact u1
            · split
              · rename_i hr
                rcases Nat.lt_or_gt_of_ne s2 with hji | hji
                · have := (hpre (i - (j + 1)) (j + 1) (by omega)).1
                  rw [show j + 1 + (i - (j + 1)) = i by omega] at this
                  omega
                · have := (hpre (j - (i + 1)) (i + 1) (by omega)).1
                  rw [show i + 1 + (j - (i + 1)) = j by omega] at this
                  omega
              · exact u1
        · cases hf : fl i with
          | false => have := al i o hih ho hp' hf; rw [hns] at this; cases this
          | true =>
            obtain ⟨hg, hop | hop⟩ := D.flo i o ho hf
            rotate_left
            · -- a slice made late
              have hEo : E o.op = o.op := float_same' hE hop
              have hv1 := hv
              rw [hvop, hEo] at hv1
              have hw1 := Wt i o hf ho hg h1 hih V1.hn (nocut Cu hD hf hns V1.hn (fun c q z1 z2 z3 z4 => al c q z1 z2 z3 z4))
              obtain ⟨vh, vr, vlen, vw⟩ := makes_shape hop hv1
              have hw2 : (Hs h1)[(Hs i).length]? = (Hs (i + 1))[(Hs i).length]? := by
                rw [hEo] at hw1
                rw [vr]
                have := hw1 (.row (Hs i).length vh) (vw _ _)
                exact this
              have hnone : I1 h1 (Hs i).length = none := un i hih hf hns h1 hih (Nat.le_refl _) _ (Nat.le_refl _) (by omega)
              obtain ⟨c, w', loc, k5, k2, k3, k4⟩ := makes_late (a := a1) r2 E1 hop hv1 hnone hw2
              obtain ⟨f1, f2, f3⟩ := late_family (loc := loc) hih rfl k3 V1 un hf hns
              unfold Oper.wp
              rw [heq, k5]
              refine hK _ _ ⟨_, _, h1, V1.next ho hns hd hlate ?_ V1.ph V1.hn f1 hih (Nat.le_refl _) (fun j hj hs => (V1.val j hj hs).grow (f2 (j + 1) (by have := V1.done j hj hs; omega))) (k4 _ ?_) (.inr ⟨fun j q g1 g2 g3 g4 => setS_of (al j q g1 g2 g3 g4), ?_, f3⟩)⟩
              · show (if 0 ≤ i then I1 0 else _) = ι0
                rw [if_pos (Nat.zero_le _)]; exact V1.i0
              · show (if i + 1 ≤ i then I1 (i + 1) else (I1 (i + 1)).at (Hs i).length loc) (Hs i).length = some loc
                rw [if_neg (by omega)]; simp [Inj.at]
              · rw [if_neg (show ¬ h1 ≤ i by omega)]; exact k2
            -- a load that comes late
            obtain ⟨ty, x, hop⟩ := hop
            have hEo : E o.op = o.op := float_same hE hop
            have hwl : ∀ h, i < h → h ≤ h1 → vload C.P (Hs h) ty (ev (Ts i) x) = some (vs i) ∧ live (Hs h) (vs i) := fun h q1 q2 => by
              have := Wt i o hf ho hg h q1 (by have := V1.hn; omega) (nocut Cu hD hf hns (by have := V1.hn; omega) (fun c q z1 z2 z3 z4 => al c q (by omega) z2 z3 z4))
              rw [hEo, hop] at this
              exact this (.ld ty (ev (Ts i) x) (vs i)) (by simp [wgrow])
            obtain ⟨g1, g2⟩ := hwl h1 hih (Nat.le_refl _)
            obtain ⟨_, g3⟩ := hwl (i + 1) (by omega) (by omega)
            have hst := float_still R hE ho hop
            rw [hst] at g3
            have ext := chain_le V1.chain (h1 - i) i (by omega)
            rw [show i + (h1 - i) = h1 by omega] at ext
            have hvl : vload C.P (Hs h1) ty (ev t1 x) = some (vs i) := by
              have := hvop (call frz) frz (Hs h1)
              rw [hEo, hop] at this
              simp only [vop, g1, Option.map_some] at this
              cases hz : vload C.P (Hs h1) ty (ev t1 x) with
              | none => rw [hz] at this; cases this
              | some z => rw [hz] at this; simp at this; rw [this]
            obtain ⟨c, k1, k2⟩ := load_ok r2 (ev_ok (E1.mono ext) x a1.defers) hvl
            have k3 : (execOp a1.eval o).run C.P w = .ok (.value c) w := by
              obtain ⟨dst, op, type, pos, after, guard⟩ := o
              simp only at hop
              subst hop
              simp only [execOp, Sem.run_bind]
              rw [show (Instr.loadAt ty (a1.eval x)).run C.P w = .ok c w from k1]; rfl
            unfold Oper.wp
            rw [heq, k3]
            exact hK _ _ (V1.light ho hns hd hlate hle htail hst (k2.back ext g3 g2))
      · have hei : h1 = i := by omega
        obtain ⟨al, r, un⟩ := htail hei
        subst hei
        have hv1 := hv
        rw [hvop] at hv1
        have hfi : frz ≤ (Hs h1).length := Nat.le_trans hfr (Hs_keep R hfr hkeep h1 V1.hn).1
        refine oper_okE hE r hfi E1 (hcall _) o heq hv1 fun c w' ι' q1 q2 q3 => ?_
        refine hK _ _ ⟨_, fun j => if j ≤ h1 then I1 j else ι', h1 + 1, V1.next ho hns hd hlate (by simpa using V1.i0) (by have := V1.ph; omega) (by omega) (fun j hj => ?_) (by omega) (by omega) (fun j hj hs => ?_) ?_ (.inr ⟨fun j q g1 g2 g3 g4 => ?_, ?_, fun j hj hf hs m g1 g2 id g3 g4 => ?_⟩)⟩
        · by_cases hjh : j < h1
          · simp only [if_pos (show j ≤ h1 by omega), if_pos (show j + 1 ≤ h1 by omega)]; exact V1.chain j hjh
          · have : j = h1 := by omega
            subst this
            simp only [Nat.le_refl, if_true, if_neg (show ¬ j + 1 ≤ j by omega)]
            exact q2
        · have := V1.done j hj hs
          simp only [if_pos (show j + 1 ≤ h1 by omega)]; exact V1.val j hj hs
        · simp only [if_neg (show ¬ h1 + 1 ≤ h1 by omega)]; exact q1
        · by_cases hjh : j < h1
          · exact setS_of (al j q hjh g2 g3 g4)
          · have : j = h1 := by omega
            subst this; exact setS_self
        · simp only [if_neg (show ¬ h1 + 1 ≤ h1 by omega)]; exact q3
        · obtain ⟨s1, s2⟩ := setS_false hs
          have hjh : j < h1 := by omega
          show (if m ≤ h1 then I1 m else ι') id = none
          by_cases hmh : m ≤ h1
          · rw [if_pos hmh]; exact un j hjh hf s1 m g1 hmh id g3 g4
          · rw [if_neg hmh]
            have hn0 := un j hjh hf s1 h1 hjh (Nat.le_refl _) id g3 g4
            have hq : ops[j]? = some ops[j] := Array.getElem?_eq_getElem (by omega)
            obtain ⟨hg, hop | hop⟩ := D.flo j _ hq hf
            · obtain ⟨ty, x, hop⟩ := hop
              rw [float_still R hE hq hop] at g4; omega
            · have hEo : E (ops[j]).op = (ops[j]).op := float_same' hE hop
              obtain ⟨b', hb', k2, k3, _⟩ := R.step j ops[j] (by simp)
              have hbt : b' = true := by simpa [vguard, hg] using hb'.symm
              have hvj := k2 hbt
              rw [hEo] at hvj
              obtain ⟨vh, vr, vlen, vw⟩ := makes_shape hop hvj
              have hid : id = (Hs j).length := by omega
              have hD' : Down ops (fun j => S j || (j == h1)) := by
                intro j' q' hq' hs' e he' hbb'
                simp only [Bool.or_eq_true, beq_iff_eq] at hs' ⊢
                rcases hs' with hs' | hs'
                · exact .inl (hD j' q' hq' hs' e he' hbb')
                · rw [hs', ho] at hq'; cases hq'; exact .inl (hrdy e he' hbb')
              have hw : ∀ h, j < h → h ≤ h1 + 1 → (Hs h)[(Hs j).length]? = some vh := fun h z1 z2 => by
                have := Wt j _ hf hq hg h z1 (by omega) (nocut Cu hD' hf (by simp [s1]; omega) (by omega) (fun c q z3 z4 z5 z6 => by
                  by_cases hch : c < h1
                  · simp [al c q hch z4 z5 z6]
                  · simp; right; omega))
                rw [hEo] at this
                exact this (.row (Hs j).length vh) (vw _ _)
              subst hid
              obtain ⟨r', z1, _, _, z4⟩ := q2 _ _ (hw h1 hjh (by omega))
              rw [hw (h1 + 1) (by omega) (by omega)] at z1
              cases z1
              rw [z4 rfl]; exact hn0

omit he0 hdst D hfr hcall hkeep hind hE Wt Cu in
theorem inv_end (V0 : Stands C ops frz p fl B w0 Ts Hs vs e0 ι0 N S a w) (hall : ∀ j, j < ops.size → S j = true) : Post C.P B w0 frz (Hs 0) ι0 (Ts ops.size) (Hs ops.size) N a w := by
  obtain ⟨cs, I, h, V⟩ := V0
  have hh : h = ops.size := by
    have := V.hn
    rcases Nat.eq_zero_or_pos ops.size with h0 | h0
    · omega
    · have := V.done (ops.size - 1) (by omega) (hall _ (by omega)); omega
  subst hh
  refine ⟨V.defers, V.size, I ops.size, ?_, ?_, fun x => ?_⟩
  · have := chain_le V.chain ops.size 0 (by omega)
    rw [Nat.zero_add, V.i0] at this; exact this
  · rcases V.stage with ⟨e, r, _⟩ | ⟨_, r, _⟩
    · exact r _ (by omega)
    · exact r
  · rw [V.slot x, Ts_env R ops.size (Nat.le_refl _) x]
    have := V.env hT0 ops.size (Nat.le_refl _) x
    rwa [envS_agree (S' := fun _ => true) (vs' := vs) ops.size (fun j hj _ _ _ => ⟨hall j hj, fun _ => rfl⟩)] at this

theorem any_ok {Q : Exit → Act → World → Prop} (hQ : ∀ a w, Post C.P B w0 frz (Hs 0) ι0 (Ts ops.size) (Hs ops.size) N a w → Q .normal a w) : ∀ (fuel : Nat) (listed : Array Bool) (a : Act) (w : World), listed.size = ops.size →
    ((List.range ops.size).filter fun i => !listed.getD i false).length ≤ fuel → Stands C ops frz p fl B w0 Ts Hs vs e0 ι0 N (fun j => listed.getD j false) a w → Down ops (fun j => listed.getD j false) →
    wpAny C.P .any ops Q fuel listed a w := by
  intro fuel
  have hget : ∀ (listed : Array Bool) i, listed.size = ops.size → i < ops.size → listed.getD i true = listed.getD i false := by
    intro listed i hs hi
    simp only [Array.getD_eq_getD_getElem?, Array.getElem?_eq_getElem (show i < listed.size by omega), Option.getD_some]
  have hready : ∀ (listed : Array Bool), listed.size = ops.size → Region.ready .any ops listed = [] → ∀ j, j < ops.size → listed.getD j false = true := by
    intro listed hs hr j
    induction j using Nat.strongRecOn with
    | _ j ih =>
      intro hj
      cases hl : listed.getD j false with
      | true => rfl
      | false =>
        have ho : ops[j]? = some ops[j] := Array.getElem?_eq_getElem hj
        have hm : j ∈ Region.ready .any ops listed := by
          unfold Region.ready
          rw [List.mem_filter]
          refine ⟨by simpa using hj, ?_⟩
          simp only [hget listed j hs hj, hl, ho, Bool.not_false, Bool.true_and, Option.map_some, Option.getD_some, Array.all_eq_true_iff_forall_mem]
          intro e he
          cases hb : Region.binds .any e with
          | false => simp
          | true =>
            have := ih e.on (D.back j _ ho e he hb) (by have := D.back j _ ho e he hb; omega)
            simp [this]
        rw [hr] at hm; cases hm
  induction fuel with
  | zero =>
    intro listed a w hs hf V hD
    have hnone : ∀ j, j < ops.size → listed.getD j false = true := by
      intro j hj
      cases hl : listed.getD j false with
      | true => rfl
      | false =>
        have : j ∈ (List.range ops.size).filter fun i => !listed.getD i false := by rw [List.mem_filter]; exact ⟨by simpa using hj, by rw [hl]; rfl⟩
        have h0 : ((List.range ops.size).filter fun i => !listed.getD i false) = [] := List.eq_nil_of_length_eq_zero (by omega)
        rw [h0] at this; cases this
    refine ⟨?_, hQ _ _ (inv_end R hT0 V hnone)⟩
    unfold Region.ready
    rw [List.filter_eq_nil_iff]
    intro j hj
    have hj' : j < ops.size := by simpa using hj
    rw [hget listed j hs hj', hnone j hj']; simp
  | succ fuel ih =>
    intro listed a w hs hf V hD
    refine ⟨fun hr => hQ _ _ (inv_end R hT0 V (hready listed hs hr)), fun i hi => ?_⟩
    unfold Region.ready at hi
    rw [List.mem_filter] at hi
    have hlt : i < ops.size := by simpa using hi.1
    have ho : ops[i]? = some ops[i] := Array.getElem?_eq_getElem hlt
    have h2 := hi.2
    simp only [hget listed i hs hlt, ho, Option.map_some, Option.getD_some, Bool.and_eq_true, Array.all_eq_true_iff_forall_mem] at h2
    have hns : listed.getD i false = false := by simpa using h2.1
    have hS : (fun j => (listed.setIfInBounds i true).getD j false) = setS (fun j => listed.getD j false) i := by
      funext j
      simp only [setS, Array.getD_eq_getD_getElem?]
      by_cases hji : j = i
      · subst hji; simp [hs, hlt]
      · rw [Array.getElem?_setIfInBounds_ne (Ne.symm hji)]; simp [hji]
    have hrdy : ∀ e ∈ (ops[i]).after, Region.binds .any e = true → listed.getD e.on false = true := fun e he hb => by
      have := h2.2 e he; simpa [hb] using this
    refine inv_step R hT0 he0 hdst hE D hfr hcall hkeep hind Wt Cu V hD ho hns hrdy fun a' w' V' => ?_
    refine ih _ _ _ (by simpa using hs) ?_ (by rw [hS]; exact V') ?_
    · have hfe : ((List.range ops.size).filter fun j => !(listed.setIfInBounds i true).getD j false) = ((List.range ops.size).filter fun j => !listed.getD j false).filter fun j => !(j == i) := by
        rw [List.filter_filter]
        apply List.filter_congr
        intro j _
        have := congrFun hS j
        rw [this]; simp [setS, Bool.and_comm]
      rw [hfe]
      have hmem : i ∈ (List.range ops.size).filter fun j => !listed.getD j false := by rw [List.mem_filter]; exact ⟨by simpa using hlt, by rw [hns]; rfl⟩
      have : (((List.range ops.size).filter fun j => !listed.getD j false).filter fun j => !(j == i)).length < ((List.range ops.size).filter fun j => !listed.getD j false).length := by
        rw [List.length_filter_lt_length_iff_exists]
        exact ⟨i, hmem, by simp⟩
      omega
    · rw [hS]
      intro j q hq hsj e he hb
      simp only [setS, Bool.or_eq_true, beq_iff_eq] at hsj ⊢
      rcases hsj with g | rfl
      · exact .inl (hD j q hq g e he hb)
      · rw [ho] at hq; cases hq; exact .inl (hrdy e he hb)
end

theorem drawOk_holds (C : Ctx) (hm : C.P.follows .mixedOrders = true) : DrawOk C := by
  intro id ops0 call frz hcall hkeep hind t H t' H' ι a w B w0 hv Rl hf E hd hdst
  have key : ∃ (ops : Array Oper) (F : Op → Op) (p : Nat) (fl cut : Nat → Bool) (Ts : Nat → Env) (Hs : Nat → Heap) (vs : Nat → Value), (∀ op, F op = op ∨ (empB C.P op = true ∧ F op = .move (.const (.slice none 0 0)))) ∧ Drawn C.mode F ops p fl ∧
      Run C.P frz (call frz) ops F ops.toList Ts Hs vs ∧ Ts 0 = t ∧ Hs 0 = H ∧ Ts ops.toList.length = t' ∧ Hs ops.toList.length = H' ∧ Watched C.P ops F fl cut Ts Hs vs ∧ CutOk ops fl cut ∧ (ops = ops0 ∨ ops = permA (aheadP ops0) ops0) := by
    have hem : ∀ op, empOp C.P op = op ∨ (empB C.P op = true ∧ empOp C.P op = .move (.const (.slice none 0 0))) := fun op => by
      unfold empOp
      split
      · rename_i hb; exact .inr ⟨hb, rfl⟩
      · exact .inl rfl
    unfold vregion at hv
    simp only [Bool.not_true, Bool.false_and] at hv
    split at hv
    · rename_i l hpl
      have key1 : ∃ (F : Op → Op) (p : Nat), l = ops0.toList.map (fun o => { o with op := F o.op }) ∧ (∀ op, F op = op ∨ (empB C.P op = true ∧ F op = .move (.const (.slice none 0 0)))) ∧ Drawn C.mode F ops0 p (fun _ => false) := by
        simp only [plan, if_true] at hpl
        split at hpl
        · rename_i hok
          cases hpl
          exact ⟨_root_.id, _, by simp, fun op => .inl rfl, drawn_of hok⟩
        · split at hpl
          · rename_i hok
            cases hpl
            exact ⟨empOp C.P, _, rfl, hem, drawn_ofE hok⟩
          · cases hpl
      obtain ⟨F, p, rfl, hF, D⟩ := key1
      obtain ⟨Ts, Hs, vs, R, e1, e2, e3, e4⟩ := run_of_vops F _ _ _ hv
      exact ⟨ops0, F, p, _, fun _ => false, Ts, Hs, vs, hF, D, R, e1, e2, e3, e4, (fun _ _ h => by cases h), (fun _ _ h => by cases h), .inl rfl⟩
    · split at hv
      · rename_i hok
        obtain ⟨Ts, Hs, vs, R, e1, e2, e3, e4, _, e6⟩ := run_of_vopsW (empOp C.P) _ _ _ _ _ hv (fun _ h => by cases h)
        exact ⟨aheads C ops0, empOp C.P, _, _, _, Ts, Hs, vs, hem, drawn_ofF hok, R, e1, e2, e3, e4, fun j q hf hq hg h h1 h2 hc => e6 j q (by rw [Nat.zero_add]; exact hf) (by simpa using hq) hg h h1 (by simpa using h2) (fun c z1 z2 => by rw [Nat.zero_add]; exact hc c z1 z2), cut_ok, by
          unfold aheads
          split
          · exact .inl rfl
          · exact .inr rfl⟩
      · cases hv
  obtain ⟨ops, F, p, fl, cut, Ts, Hs, vs, hF, D, R, e1, e2, e3, e4, Wt, Cu, hop⟩ := key
  have hsz : ops.toList.length = ops.size := by simp
  rw [hsz] at e3 e4
  subst e1; subst e2; subst e3; subst e4
  refine wp_region_any hm ?_
  have hs0 : ops.size = ops0.size := by
    rcases hop with rfl | rfl
    · rfl
    · exact permA_size rfl (aheadP_ok ops0).1
  have hdst' : ∀ o ∈ ops.toList, ∀ d, o.dst = some d → d < a.tmps.size := by
    rcases hop with rfl | rfl
    · exact hdst
    · intro o ho d hd
      simp only [permA, List.mem_map] at ho
      obtain ⟨i, hi, rfl⟩ := ho
      have hlt := ((aheadP_ok ops0).2.2 i).1 hi
      have e : ops0.getD i default = ops0[i] := by simp [Array.getD_eq_getD_getElem?, hlt]
      rw [e] at hd
      exact hdst ops0[i] (by simp) d hd
  have back : ∀ Q w, wpAny C.P .any ops Q ops.size (Array.replicate ops.size false) a w → wpAny C.P .any ops0 Q ops0.size (Array.replicate ops0.size false) a w := by
    intro Q w h
    rcases hop with rfl | rfl
    · exact h
    · obtain ⟨h1, h2, h3⟩ := aheadP_ok ops0
      rw [hs0] at h
      refine wpAny_perm rfl h1 h2 h3 _ _ _ _ _ (by simp) (by simp) (fun i => ?_) h
      by_cases hi : i < ops0.size
      · have := List.idxOf_lt_length_of_mem ((h3 i).2 hi)
        rw [Array.getElem?_eq_getElem (by simp; omega), Array.getElem?_eq_getElem (by simp; omega)]; simp
      · have := List.idxOf_eq_length (l := aheadP ops0) (a := i) fun h => hi ((h3 i).1 h)
        rw [Array.getElem?_eq_none (by simp; omega), Array.getElem?_eq_none (by simp; omega)]
  refine back _ _ ?_
  replace hdst := hdst'
  have hw : ({ w with drawn := w.drawn + 1 } : World) = w.drew := rfl
  rw [hw]
  have hEq : ∀ x, VRel C.P (Hs 0) ι (Ts 0 x) ((fun x => a.tmps.getD x undef) x) := E
  have hkl := Hs_pre_le R hF D hkeep hind
  have Rd := Rl.drew
  refine any_ok R hEq (N := a.tmps.size) (fun x hx => by simp [Array.getD_eq_getD_getElem?, hx]) (fun i o ho d hd' => hdst o (List.mem_of_getElem? (by simpa using ho)) d hd') hF D hf hcall hkeep hind Wt Cu
    (B := B) (w0 := w0) (fun a w hp => ⟨trivial, hp⟩) ops.size _ a w.drew (by simp) ?_ ?_ ?_
  · exact Nat.le_trans (List.length_filter_le _ _) (by simp)
  · -- nothing has been done: each stage's rows are the first's
    refine ⟨fun _ => undef, fun j id => if id < (Hs 0).length then ι id else none, _, ⟨hd, rfl, fun x => ?_, ?_, Nat.le_refl _, D.ple, fun j hj => ?_, fun j hj hs => ?_, fun j hj hs => ?_, .inl ⟨rfl, fun j hj => ?_, fun j hj _ m id h1 h2 => ?_⟩⟩⟩
    · rw [envS_agree (S' := fun _ => false) (vs' := fun _ => undef) ops.size (fun j hj _ _ _ => ⟨by simp [Array.getD_eq_getD_getElem?, hj], fun _ => rfl⟩)]
      have := envS_above (ops := ops) (e0 := fun x => a.tmps.getD x undef) (vs := fun _ => undef) (S := fun _ => false) (x := x) (m := 0) ops.size (fun j _ _ hs => by cases hs)
      rw [Nat.zero_add] at this; rw [this]; rfl
    · funext id
      by_cases hid : id < (Hs 0).length
      · rw [if_pos hid]
      · rw [if_neg hid]
        cases hl : ι id with
        | none => rfl
        | some l => exact absurd (Rl.lt hl) hid
    · intro id r hr
      have h1 := hkl 1 j (by omega)
      have hid := (List.getElem?_eq_some_iff.1 hr).1
      exact ⟨r, by rw [h1.2 id hid hid]; exact hr, rfl, Nat.le_refl _, fun _ => rfl⟩
    · simp [Array.getD_eq_getD_getElem?, hj] at hs
    · simp [Array.getD_eq_getD_getElem?, hj] at hs
    · have hI : (fun id => if id < (Hs 0).length then ι id else none) = ι := by
        funext id
        by_cases hid : id < (Hs 0).length
        · rw [if_pos hid]
        · rw [if_neg hid]
          cases hl : ι id with
          | none => rfl
          | some l => exact absurd (Rl.lt hl) hid
      rw [hI]
      have hk := hkl j 0 (by omega)
      rw [Nat.zero_add] at hk
      have hEx : Ext (Hs 0) ι (Hs j) ι := fun id r hr => by
        have hid := (List.getElem?_eq_some_iff.1 hr).1
        exact ⟨r, by rw [hk.2 id hid hid]; exact hr, rfl, Nat.le_refl _, fun _ => rfl⟩
      refine ⟨Rd.below, Rd.hB, fun id l hl => ?_, fun id l r hl hr hf' => ?_, Rd.gl⟩
      · obtain ⟨g1, r, g2, g3⟩ := Rd.row id l hl
        have hid := (List.getElem?_eq_some_iff.1 g2).1
        exact ⟨g1, r, by rw [hk.2 id hid hid]; exact g2, g3.mono hEx⟩
      · have hid := Rd.lt hl
        rw [hk.2 id hid hid] at hr
        exact Rd.own id l r hl hr hf'
    · have := (hkl j 0 (by omega)).1
      rw [Nat.zero_add] at this
      show (if id < (Hs 0).length then ι id else none) = none
      rw [if_neg (by omega)]
  · intro j q hq hs
    have hj := (Array.getElem?_eq_some_iff.1 hq).1
    simp [Array.getD_eq_getD_getElem?, hj] at hs
end Go.VM
/-! The machine without rounds: the limit, and its equations. -/
set_option linter.all false
namespace Go.VM
open Go
variable {H H' : Heap} {v : Value} {frz : Nat} {t t' : Env} {C : Ctx}

section
variable {α : Type}
open Classical in
noncomputable def lim (f : Nat → Option α) : Option α := if h : ∃ k r, f k = some r then f (Classical.choose h) else none
theorem lim_iff {f : Nat → Option α} (hm : ∀ k r, f k = some r → f (k + 1) = some r) {r : α} : lim f = some r ↔ ∃ k, f k = some r := by
  have hle : ∀ k j r, f k = some r → f (k + j) = some r := by
    intro k j r h
    induction j with
    | zero => exact h
    | succ j ih => exact hm _ _ ih
  have huniq : ∀ k j r s, f k = some r → f j = some s → r = s := by
    intro k j r s h1 h2
    have a := hle k j r h1
    have b := hle j k s h2
    rw [Nat.add_comm j k, a] at b; cases b; rfl
  constructor
  · intro h
    unfold lim at h
    split at h
    · exact ⟨_, h⟩
    · cases h
  · rintro ⟨k, h⟩
    unfold lim
    have hex : ∃ k r, f k = some r := ⟨k, r, h⟩
    rw [dif_pos hex]
    obtain ⟨s, hs⟩ := Classical.choose_spec hex
    rw [hs, huniq _ _ _ _ hs h]
end

def CLe (c1 c2 : Calling) : Prop := ∀ g l H r, c1 g l H = some r → c2 g l H = some r
def ELe (e1 e2 : Nat → Code → Env → Heap → Option (Out × Env × Heap)) : Prop := ∀ frz c t H r, e1 frz c t H = some r → e2 frz c t H = some r

theorem vop_mono {c1 c2 : Calling} (h : CLe c1 c2) {o : Op} {r : Value × Heap} (hr : vop C.P frz c1 o t H = some r) : vop C.P frz c2 o t H = some r := by
  cases o <;> first | exact hr | skip
  case slice ty x lo hi mx => cases mx <;> exact hr
  simp only [vop] at hr ⊢
  split
  · rename_i b hb; rw [hb] at hr; exact hr
  · rename_i f hf
    rw [hf] at hr
    simp only at hr
    split
    · rename_i g a b hg; rw [hg] at hr; exact h _ _ _ _ hr
    · rename_i hno
      split at hr
      · rename_i g a b hg; exact absurd hg (hno _ _ _)
      · cases hr
  · rename_i m hm; rw [hm] at hr; exact hr
theorem vops_mono {c1 c2 : Calling} (h : CLe c1 c2) {ops : Array Oper} : ∀ (l : List Oper) (t : Env) (H : Heap) {r : Env × Heap}, vops C.P frz c1 ops l t H = some r → vops C.P frz c2 ops l t H = some r
  | [], _, _, _, hr => hr
  | o :: l, t, H, r, hr => by
    simp only [vops] at hr ⊢
    split at hr
    · split at hr
      · rename_i hv; rw [vop_mono h hv]; exact vops_mono h l _ _ hr
      · cases hr
    · exact vops_mono h l _ _ hr
    · cases hr
theorem vopsW_mono {c1 c2 : Calling} (h : CLe c1 c2) {ops : Array Oper} {fl : List Nat × List Nat} : ∀ (l : List Oper) (n : Nat) (wl : List Wat) (t : Env) (H : Heap) {r : Env × Heap}, vopsW C.P frz c1 ops fl n wl l t H = some r → vopsW C.P frz c2 ops fl n wl l t H = some r
  | [], _, _, _, _, _, hr => by simpa [vopsW] using hr
  | o :: l, n, wl, t, H, r, hr => by
    simp only [vopsW] at hr ⊢
    split at hr
    · split at hr
      · rename_i hv
        rw [vop_mono h hv]
        split at hr
        · rename_i hw
          simp only [hw, if_true]; exact vopsW_mono h l _ _ _ _ hr
        · cases hr
      · cases hr
    · exact vopsW_mono h l _ _ _ _ hr
    · cases hr
theorem vregion_mono {c1 c2 : Calling} (h : CLe c1 c2) {ops : Array Oper} {draw : Bool} {r : Env × Heap} (hr : vregion C frz c1 ops draw t H = some r) : vregion C frz c2 ops draw t H = some r := by
  unfold vregion at hr ⊢
  split at hr
  · exact hr
  split at hr
  · exact vops_mono h _ _ _ hr
  · split at hr
    · rename_i hw; simp only [hw, if_true]; exact vopsW_mono h _ _ _ _ _ hr
    · cases hr
theorem vcall_mono {e1 e2 : Nat → Code → Env → Heap → Option (Out × Env × Heap)} (h : ELe e1 e2) : CLe (vcallWith C e1 frz) (vcallWith C e2 frz) := by
  intro g l H r hr
  unfold vcallWith at hr ⊢
  split at hr
  · split at hr
    · rename_i fn hfn _ body hb
      split at hr
      · rename_i hok
        simp only [hok, if_true]
        split at hr
        · rename_i he; rw [h _ _ _ _ _ he]; exact hr
        · rename_i he; rw [h _ _ _ _ _ he]; exact hr
        · cases hr
      · cases hr
    · cases hr
  · cases hr
section
variable {k : Nat} {c1 c2 : Code}
theorem F_seq : vexecF C (k + 1) frz (.seq c1 c2) t H = match vexecF C k frz c1 t H with | some (.normal, t', H') => vexecF C k frz c2 t' H' | r => r := by rw [vexecF]; rfl
theorem F_cond {x : Operand} : vexecF C (k + 1) frz (.cond x c1 c2) t H = match ev t x with | .bool true => vexecF C k frz c1 t H | .bool false => vexecF C k frz c2 t H | _ => none := by rw [vexecF]; rfl
theorem F_block {id : Nat} : vexecF C (k + 1) frz (.block id c1) t H = match vexecF C k frz c1 t H with
      | some (.exit id', t', H') => if id' = id then some (.normal, t', H') else some (.exit id', t', H')
      | r => r := by rw [vexecF]; rfl
theorem F_loop : vexecF C (k + 1) frz (.loop c1) t H = match vexecF C k frz c1 t H with | some (.normal, t', H') => vexecF C k frz (.loop c1) t' H' | r => r := by rw [vexecF]; rfl
theorem F_region {id : Nat} {ops : Array Oper} {draw : Bool} : vexecF C (k + 1) frz (.region id ops draw) t H = match vregion C frz (vcallWith C (vexecF C k) frz) ops draw t H with
        | some (t', H') => some (.normal, t', H')
        | none => none := by rw [vexecF]; rfl
end
theorem vexec_mono (C : Ctx) : ∀ k, ELe (vexecF C k) (vexecF C (k + 1))
  | 0 => fun _ _ _ _ _ h => by simp [vexecF] at h
  | k + 1 => fun frz c t H r h => by
    have ih := vexec_mono C k
    cases c
    case seq a b =>
      rw [F_seq] at h ⊢
      split at h
      · rename_i h1; rw [ih _ _ _ _ _ h1]; exact ih _ _ _ _ _ h
      · rename_i hno
        rw [ih _ _ _ _ _ h]
        obtain ⟨o, t1, H1⟩ := r
        cases o with
        | normal => exact absurd h (hno _ _)
        | ret => rfl
        | exit => rfl
    case cond x a b =>
      rw [F_cond] at h ⊢
      split at h
      · exact ih _ _ _ _ _ h
      · exact ih _ _ _ _ _ h
      · cases h
    case block id b =>
      rw [F_block] at h ⊢
      split at h
      · rename_i h1; rw [ih _ _ _ _ _ h1]; exact h
      · rename_i hno
        rw [ih _ _ _ _ _ h]
        obtain ⟨o, t1, H1⟩ := r
        cases o with
        | normal => rfl
        | ret => rfl
        | exit => exact absurd h (hno _ _ _)
    case loop b =>
      rw [F_loop] at h ⊢
      split at h
      · rename_i h1; rw [ih _ _ _ _ _ h1]; exact ih _ _ _ _ _ h
      · rename_i hno
        rw [ih _ _ _ _ _ h]
        obtain ⟨o, t1, H1⟩ := r
        cases o with
        | normal => exact absurd h (hno _ _)
        | ret => rfl
        | exit => rfl
    case region id ops draw =>
      rw [F_region] at h ⊢
      split at h
      · rename_i h1; rw [vregion_mono (vcall_mono ih) h1]; exact h
      · cases h
    all_goals (simp only [vexecF] at h ⊢; first | exact h | cases h)

noncomputable def vexec (C : Ctx) (frz : Nat) (c : Code) (t : Env) (H : Heap) : Option (Out × Env × Heap) := lim fun k => vexecF C k frz c t H
noncomputable def vcall (C : Ctx) (frz : Nat) : Calling := fun g l H => lim fun k => vcallWith C (vexecF C k) frz g l H

theorem vexec_iff {c : Code} {r : Out × Env × Heap} : vexec C frz c t H = some r ↔ ∃ k, vexecF C k frz c t H = some r := lim_iff fun k _ h => vexec_mono C k _ _ _ _ _ h
theorem vcall_iff {g : Nat} {l : List Value} {r : Value × Heap} : vcall C frz g l H = some r ↔ ∃ k, vcallWith C (vexecF C k) frz g l H = some r :=
  lim_iff fun k _ h => vcall_mono (vexec_mono C k) _ _ _ _ h
theorem vexecF_le {k j : Nat} (hkj : k ≤ j) : ELe (vexecF C k) (vexecF C j) := by
  obtain ⟨d, rfl⟩ := Nat.exists_eq_add_of_le hkj
  intro frz c t H r h
  induction d with
  | zero => exact h
  | succ d ih => exact vexec_mono C _ _ _ _ _ _ (ih (Nat.le_add_right _ _))
theorem vexecF_vexec (k : Nat) : ELe (vexecF C k) (vexec C) := fun _ _ _ _ _ h => vexec_iff.2 ⟨k, h⟩

theorem vop_cont {o : Op} {r : Value × Heap} (h : vop C.P frz (vcall C frz) o t H = some r) : ∃ k, vop C.P frz (vcallWith C (vexecF C k) frz) o t H = some r := by
  cases o <;> first | exact ⟨0, h⟩ | skip
  case slice ty x lo hi mx => cases mx <;> exact ⟨0, h⟩
  simp only [vop] at h ⊢
  split at h
  · exact ⟨0, h⟩
  · split at h
    · exact vcall_iff.1 h
    · cases h
  · cases h
theorem vops_cont {ops : Array Oper} : ∀ (l : List Oper) (t : Env) (H : Heap) {r : Env × Heap}, vops C.P frz (vcall C frz) ops l t H = some r → ∃ k, vops C.P frz (vcallWith C (vexecF C k) frz) ops l t H = some r
  | [], _, _, _, h => ⟨0, h⟩
  | o :: l, t, H, r, h => by
    simp only [vops] at h ⊢
    split at h
    · split at h
      · rename_i hv
        obtain ⟨k1, h1⟩ := vop_cont hv
        obtain ⟨k2, h2⟩ := vops_cont l _ _ h
        refine ⟨max k1 k2, ?_⟩
        rw [vop_mono (vcall_mono (vexecF_le (Nat.le_max_left k1 k2))) h1]
        exact vops_mono (vcall_mono (vexecF_le (Nat.le_max_right k1 k2))) _ _ _ h2
      · cases h
    · exact vops_cont l _ _ h
    · cases h

theorem vopsW_cont {ops : Array Oper} {fl : List Nat × List Nat} : ∀ (l : List Oper) (n : Nat) (wl : List Wat) (t : Env) (H : Heap) {r : Env × Heap}, vopsW C.P frz (vcall C frz) ops fl n wl l t H = some r → ∃ k, vopsW C.P frz (vcallWith C (vexecF C k) frz) ops fl n wl l t H = some r
  | [], _, _, _, _, _, h => ⟨0, by simpa [vopsW] using h⟩
  | o :: l, n, wl, t, H, r, h => by
    simp only [vopsW] at h ⊢
    split at h
    · split at h
      · rename_i hv
        split at h
        · rename_i hw
          obtain ⟨k1, h1⟩ := vop_cont hv
          obtain ⟨k2, h2⟩ := vopsW_cont l _ _ _ _ h
          refine ⟨max k1 k2, ?_⟩
          rw [vop_mono (vcall_mono (vexecF_le (Nat.le_max_left k1 k2))) h1]
          simp only [hw, if_true]
          exact vopsW_mono (vcall_mono (vexecF_le (Nat.le_max_right k1 k2))) _ _ _ _ _ h2
        · cases h
      · cases h
    · exact vopsW_cont l _ _ _ _ h
    · cases h
theorem vregion_cont {ops : Array Oper} {draw : Bool} {r : Env × Heap} (h : vregion C frz (vcall C frz) ops draw t H = some r) : ∃ k, vregion C frz (vcallWith C (vexecF C k) frz) ops draw t H = some r := by
  unfold vregion at h ⊢
  split at h
  · exact ⟨0, h⟩
  split at h
  · exact vops_cont _ _ _ h
  · split at h
    · rename_i hw; simp only [hw, if_true]; exact vopsW_cont _ _ _ _ _ h
    · cases h

theorem opt_ext {α : Type} {x y : Option α} (h : ∀ r, x = some r ↔ y = some r) : x = y := by
  cases x with
  | none => cases y with
    | none => rfl
    | some b => exact absurd ((h b).2 rfl) (by simp)
  | some a => exact ((h a).1 rfl).symm

/-- what comes next, where the text goes on -/
def andThen (r : Option (Out × Env × Heap)) (f : Env → Heap → Option (Out × Env × Heap)) : Option (Out × Env × Heap) :=
  match r with
  | some (.normal, t, H) => f t H
  | r => r
def atBlock (id : Nat) (r : Option (Out × Env × Heap)) : Option (Out × Env × Heap) :=
  match r with
  | some (.exit id', t, H) => if id' = id then some (.normal, t, H) else some (.exit id', t, H)
  | r => r
def vcond {α : Type} (v : Value) (x y : Option α) : Option α :=
  match v with
  | .bool true => x
  | .bool false => y
  | _ => none

theorem vexec_skip : vexec C frz .skip t H = some (.normal, t, H) := vexec_iff.2 ⟨1, rfl⟩
theorem vexec_label {l : Nat} : vexec C frz (.label l) t H = some (.normal, t, H) := vexec_iff.2 ⟨1, rfl⟩
theorem vexec_ret : vexec C frz .ret t H = some (.ret, t, H) := vexec_iff.2 ⟨1, rfl⟩
theorem vexec_exit {id : Nat} : vexec C frz (.exit id) t H = some (.exit id, t, H) := vexec_iff.2 ⟨1, rfl⟩
theorem vexec_seq {a b : Code} : vexec C frz (.seq a b) t H = andThen (vexec C frz a t H) fun t' H' => vexec C frz b t' H' := by
  apply opt_ext
  intro r
  constructor
  · intro h
    obtain ⟨k, hk⟩ := vexec_iff.1 h
    cases k with
    | zero => simp [vexecF] at hk
    | succ k =>
      simp only [vexecF] at hk
      split at hk
      · rename_i h1; rw [vexec_iff.2 ⟨k, h1⟩]; exact vexec_iff.2 ⟨k, hk⟩
      · rename_i hno
        rw [vexec_iff.2 ⟨k, hk⟩]
        obtain ⟨o, t1, H1⟩ := r
        cases o with
        | normal => exact absurd hk (hno _ _)
        | ret => rfl
        | exit => rfl
  · intro h
    unfold andThen at h
    split at h
    · rename_i h1
      obtain ⟨k1, h1⟩ := vexec_iff.1 h1
      obtain ⟨k2, h2⟩ := vexec_iff.1 h
      refine vexec_iff.2 ⟨max k1 k2 + 1, ?_⟩
      simp only [vexecF]
      rw [vexecF_le (Nat.le_max_left k1 k2) _ _ _ _ _ h1]
      exact vexecF_le (Nat.le_max_right k1 k2) _ _ _ _ _ h2
    · rename_i hno
      obtain ⟨k, hk⟩ := vexec_iff.1 h
      refine vexec_iff.2 ⟨k + 1, ?_⟩
      simp only [vexecF]
      rw [hk]
      obtain ⟨o, t1, H1⟩ := r
      cases o with
      | normal => exact absurd h (hno _ _)
      | ret => rfl
      | exit => rfl
theorem vexec_cond {x : Operand} {a b : Code} : vexec C frz (.cond x a b) t H = vcond (ev t x) (vexec C frz a t H) (vexec C frz b t H) := by
  apply opt_ext
  intro r
  constructor
  · intro h
    obtain ⟨k, hk⟩ := vexec_iff.1 h
    cases k with
    | zero => simp [vexecF] at hk
    | succ k =>
      simp only [vexecF] at hk
      split at hk
      · rename_i hb; rw [hb]; exact vexec_iff.2 ⟨k, hk⟩
      · rename_i hb; rw [hb]; exact vexec_iff.2 ⟨k, hk⟩
      · cases hk
  · intro h
    unfold vcond at h
    split at h
    · rename_i hb; obtain ⟨k, hk⟩ := vexec_iff.1 h; exact vexec_iff.2 ⟨k + 1, by simp only [vexecF, hb]; exact hk⟩
    · rename_i hb; obtain ⟨k, hk⟩ := vexec_iff.1 h; exact vexec_iff.2 ⟨k + 1, by simp only [vexecF, hb]; exact hk⟩
    · cases h
theorem vexec_block {id : Nat} {b : Code} : vexec C frz (.block id b) t H = atBlock id (vexec C frz b t H) := by
  apply opt_ext
  intro r
  constructor
  · intro h
    obtain ⟨k, hk⟩ := vexec_iff.1 h
    cases k with
    | zero => simp [vexecF] at hk
    | succ k =>
      simp only [vexecF] at hk
      split at hk
      · rename_i h1; rw [vexec_iff.2 ⟨k, h1⟩]; exact hk
      · rename_i hno
        rw [vexec_iff.2 ⟨k, hk⟩]
        obtain ⟨o, t1, H1⟩ := r
        cases o with
        | normal => rfl
        | ret => rfl
        | exit => exact absurd hk (hno _ _ _)
  · intro h
    unfold atBlock at h
    split at h
    · rename_i h1
      obtain ⟨k, hk⟩ := vexec_iff.1 h1
      exact vexec_iff.2 ⟨k + 1, by simp only [vexecF, hk]; exact h⟩
    · rename_i hno
      obtain ⟨k, hk⟩ := vexec_iff.1 h
      refine vexec_iff.2 ⟨k + 1, ?_⟩
      simp only [vexecF]
      rw [hk]
      obtain ⟨o, t1, H1⟩ := r
      cases o with
      | normal => rfl
      | ret => rfl
      | exit => exact absurd h (hno _ _ _)
theorem vexec_loop {b : Code} : vexec C frz (.loop b) t H = andThen (vexec C frz b t H) fun t' H' => vexec C frz (.loop b) t' H' := by
  apply opt_ext
  intro r
  constructor
  · intro h
    obtain ⟨k, hk⟩ := vexec_iff.1 h
    cases k with
    | zero => simp [vexecF] at hk
    | succ k =>
      simp only [vexecF] at hk
      split at hk
      · rename_i h1; rw [vexec_iff.2 ⟨k, h1⟩]; exact vexec_iff.2 ⟨k, hk⟩
      · rename_i hno
        rw [vexec_iff.2 ⟨k, hk⟩]
        obtain ⟨o, t1, H1⟩ := r
        cases o with
        | normal => exact absurd hk (hno _ _)
        | ret => rfl
        | exit => rfl
  · intro h
    unfold andThen at h
    split at h
    · rename_i h1
      obtain ⟨k1, h1⟩ := vexec_iff.1 h1
      obtain ⟨k2, h2⟩ := vexec_iff.1 h
      refine vexec_iff.2 ⟨max k1 k2 + 1, ?_⟩
      simp only [vexecF]
      rw [vexecF_le (Nat.le_max_left k1 k2) _ _ _ _ _ h1]
      exact vexecF_le (Nat.le_max_right k1 k2) _ _ _ _ _ h2
    · rename_i hno
      obtain ⟨k, hk⟩ := vexec_iff.1 h
      refine vexec_iff.2 ⟨k + 1, ?_⟩
      simp only [vexecF]
      rw [hk]
      obtain ⟨o, t1, H1⟩ := r
      cases o with
      | normal => exact absurd h (hno _ _)
      | ret => rfl
      | exit => rfl
def asNormal (r : Option (Env × Heap)) : Option (Out × Env × Heap) := match r with | some (t, H) => some (.normal, t, H) | none => none
theorem vexec_region {id : Nat} {ops : Array Oper} {draw : Bool} : vexec C frz (.region id ops draw) t H = asNormal (vregion C frz (vcall C frz) ops draw t H) := by
  apply opt_ext
  intro r
  constructor
  · intro h
    obtain ⟨k, hk⟩ := vexec_iff.1 h
    cases k with
    | zero => simp [vexecF] at hk
    | succ k =>
      rw [F_region] at hk
      split at hk
      · rename_i h1
        rw [vregion_mono (fun g l H r h => vcall_iff.2 ⟨k, h⟩) h1]; exact hk
      · cases hk
  · intro h
    unfold asNormal at h
    split at h
    · rename_i h1
      obtain ⟨k, hk⟩ := vregion_cont h1
      exact vexec_iff.2 ⟨k + 1, by rw [F_region]; rw [hk]; exact h⟩
    · cases h
theorem vcall_eq {g : Nat} {l : List Value} : vcall C frz g l H = vcallWith C (vexec C) frz g l H := by
  apply opt_ext
  intro r
  constructor
  · intro h
    obtain ⟨k, hk⟩ := vcall_iff.1 h
    exact vcall_mono (vexecF_vexec k) _ _ _ _ hk
  · intro h
    unfold vcallWith at h
    split at h
    · rename_i fn hfn
      split at h
      · rename_i body hb
        split at h
        · rename_i hok
          split at h
          · rename_i he
            obtain ⟨k, hk⟩ := vexec_iff.1 he
            exact vcall_iff.2 ⟨k, by unfold vcallWith; simp only [hfn, hb, hok, if_true, hk]; exact h⟩
          · rename_i he
            obtain ⟨k, hk⟩ := vexec_iff.1 he
            exact vcall_iff.2 ⟨k, by unfold vcallWith; simp only [hfn, hb, hok, if_true, hk]; exact h⟩
          · cases h
        · cases h
      · cases h
    · cases h
/-- soundness of a call -/
theorem vcall_sound (hdraw : DrawOk C) : CallOk C.P (vcall C frz) frz := fun g l H v H' h hf => by
  obtain ⟨k, hk⟩ := vcall_iff.1 h
  exact call_ok (exec_ok C hdraw k) frz g l H v H' hk hf
end Go.VM
/-! Running texts by rewriting. -/
set_option linter.all false
namespace Go.VM
open Go
variable {P : Program} {H H' L : Heap} {v w x y : Value} {frz : Nat} {t t' : Env} {C : Ctx} {α : Type}

def vret (C : Ctx) (g : Nat) (fn : Func) (H : Heap) (r : Option (Out × Env × Heap)) : Option (Value × Heap) :=
  match r with
  | some (.normal, t', H') => vfinish C g fn H t' H'
  | some (.ret, t', H') => vfinish C g fn H t' H'
  | _ => none
theorem vcall_enter {g : Nat} {l : List Value} {fn : Func} {body : Code} (hf : C.P.funcs[g]? = some fn) (hb : fn.body = some body) (hok : fnOk fn body = true) :
    vcall C frz g l H = vret C g fn H (vexec C (if C.mode g = 2 then frz else H.length) body (argEnv l) H) := by
  rw [vcall_eq]; unfold vcallWith; simp only [hf, hb, hok, if_true]; rfl

/-- a test, and what is needed: what stands behind them is not looked at before they are decided -/
def vif (b : Bool) (x y : Option α) : Option α := match b with | true => x | false => y
def vneed (p : Prop) [Decidable p] (x : Option α) : Option α := if p then x else none
@[congr] theorem vif_congr {b b' : Bool} {x y : Option α} (h : b = b') : vif b x y = vif b' x y := by rw [h]
@[congr] theorem vneed_congr {p p' : Prop} [Decidable p] [Decidable p'] {x : Option α} (h : p = p') : vneed p x = vneed p' x := by subst h; unfold vneed; split <;> rfl
@[simp] theorem vif_true (x y : Option α) : vif true x y = x := rfl
@[simp] theorem vif_false (x y : Option α) : vif false x y = y := rfl
@[simp] theorem vneed_true (x : Option α) : vneed True x = x := rfl
@[simp] theorem vneed_false (x : Option α) : vneed False x = none := rfl
@[simp] theorem vif_not (b : Bool) (x y : Option α) : vif (!b) x y = vif b y x := by cases b <;> rfl
theorem vif_eq {b : Bool} {x y z : Option α} (h1 : b = true → x = z) (h2 : b = false → y = z) : vif b x y = z := by cases b; exact h2 rfl; exact h1 rfl
theorem vneed_eq {p : Prop} [Decidable p] {x z : Option α} (h : p) (h1 : x = z) : vneed p x = z := by unfold vneed; rw [if_pos h, h1]
@[simp] theorem ite_need (p : Prop) [Decidable p] (x : Option α) : (if p then x else none) = vneed p x := rfl
@[simp] theorem map_need {β : Type} (p : Prop) [Decidable p] (x : Option α) (f : α → β) : (vneed p x).map f = vneed p (x.map f) := by unfold vneed; split <;> rfl
@[simp] theorem map_vif {β : Type} (p : Bool) (x y : Option α) (f : α → β) : (vif p x y).map f = vif p (x.map f) (y.map f) := by cases p <;> rfl

@[simp] theorem upd_same (t : Env) (d : Nat) (v : Value) : upd t d v d = v := by simp [upd]
@[simp] theorem upd_ne (t : Env) (d : Nat) (v : Value) (x : Nat) (h : x ≠ d) : upd t d v x = t x := by simp [upd, h]
@[simp] theorem put_some (t : Env) (d : Nat) (v : Value) : put t (some d) v = upd t d v := rfl
@[simp] theorem put_none (t : Env) (v : Value) : put t none v = t := rfl
attribute [simp] ev vlit
@[simp] theorem argEnv_zero (a : Value) (l : List Value) : argEnv (a :: l) 0 = a := rfl
@[simp] theorem argEnv_succ (a : Value) (l : List Value) (n : Nat) : argEnv (a :: l) (n + 1) = argEnv l n := rfl

section
variable (call : Calling)
@[simp] theorem vop_move (x : Operand) : vop P frz call (.move x) t H = some (ev t x, H) := rfl
@[simp] theorem vop_assign (x : Operand) : vop P frz call (.assign x) t H = some (ev t x, H) := rfl
def vpick (c a b : Value) : Option Value := match c with | .bool true => some a | .bool false => some b | _ => none
@[simp] theorem vpick_bool (c : Bool) (a b : Value) : vpick (.bool c) a b = some (if c = true then a else b) := by cases c <;> rfl
@[simp] theorem vop_pick (c a b : Operand) : vop P frz call (.pick c a b) t H = (vpick (ev t c) (ev t a) (ev t b)).map (·, H) := by
  simp only [vop, vpick]; generalize ev t c = cc; cases cc <;> first | rfl | (rename_i b; cases b <;> rfl)
@[simp] theorem vop_load (ty : TypeId) (a : Operand) : vop P frz call (.load ty a) t H = (vload P H ty (ev t a)).map (·, H) := rfl
@[simp] theorem vop_store (ty : TypeId) (a x : Operand) : vop P frz call (.store ty a x) t H = (vstore P frz H ty (ev t x) (ev t a)).map (undef, ·) := rfl
@[simp] theorem vop_binOp (op : BinOp) (ty ty' : TypeId) (x : Operand) (y : Nat) : vop P frz call (.binOp op ty x (.tmp y) ty') t H = (vbin P op ty (ev t x) (t y)).map (·, H) := rfl
@[simp] theorem vop_binOp_i (op : BinOp) (ty ty' : TypeId) (x : Operand) (k : IntKind) (n : Int) : vop P frz call (.binOp op ty x (.const (.int k n)) ty') t H = (vbin P op ty (ev t x) (.int k n)).map (·, H) := rfl
@[simp] theorem vop_binOp_b (op : BinOp) (ty ty' : TypeId) (x : Operand) (n : Bool) : vop P frz call (.binOp op ty x (.const (.bool n)) ty') t H = (vbin P op ty (ev t x) (.bool n)).map (·, H) := rfl
@[simp] theorem vop_binOp_s (op : BinOp) (ty ty' : TypeId) (x : Operand) (n : ByteArray) : vop P frz call (.binOp op ty x (.const (.string n)) ty') t H = (vbin P op ty (ev t x) (.string n)).map (·, H) := rfl
@[simp] theorem vop_binOp_n (op : BinOp) (ty ty' : TypeId) (x : Operand) : vop P frz call (.binOp op ty x (.const (.slice none 0 0)) ty') t H = (vnilq P H op ty (ev t x)).map (·, H) := rfl
@[simp] theorem vop_unOp (op : UnOp) (ty : TypeId) (x : Operand) : vop P frz call (.unOp op ty x) t H = (vun op (ev t x)).map (·, H) := rfl
@[simp] theorem vop_convert (s d : TypeId) (x : Operand) : vop P frz call (.convert s d x) t H = vneed ((P.underlying s).isSome = true) ((vconv P s d H (ev t x)).map (·, H)) := rfl
@[simp] theorem vop_fieldAddr (s : TypeId) (x : Operand) (f : Nat) : vop P frz call (.fieldAddr s x f) t H = (vfieldAddr P H s f (ev t x)).map (·, H) := rfl
@[simp] theorem vop_field (s : TypeId) (x : Operand) (f : Nat) : vop P frz call (.field s x f) t H = (vfield P s f (ev t x)).map (·, H) := rfl
@[simp] theorem vop_indexAddr (s : TypeId) (x i : Operand) : vop P frz call (.indexAddr s x i) t H = (vindexAddr P H s (ev t x) (ev t i)).map (·, H) := rfl
@[simp] theorem vop_index (s : TypeId) (x i : Operand) : vop P frz call (.index s x i) t H = (vindex P s (ev t x) (ev t i)).map (·, H) := rfl
@[simp] theorem vop_makeSlice (s : TypeId) (x i : Operand) : vop P frz call (.makeSlice s x i) t H = vmake P H s (ev t x) (ev t i) := rfl
@[simp] theorem vop_slice (s : TypeId) (x : Operand) (lo hi : Option Operand) : vop P frz call (.slice s x lo hi none) t H = (vslice P H s (lo.map (ev t)) (hi.map (ev t)) (ev t x)).map (·, H) := rfl
@[simp] theorem vop_makeFunc (fn : Fn) (f c : Array Operand) : vop P frz call (.makeFunc fn f c) t H = some (.func fn (f.map (ev t)) (c.map (ev t)), H) := rfl
@[simp] theorem vop_alloc (e : TypeId) : vop P frz call (.alloc e) t H = (tzero P e).map fun z => (newp H, H ++ [⟨z, 0, e⟩]) := by
  simp only [vop]; cases tzero P e <;> rfl
@[simp] theorem vop_box (e : TypeId) (x : Operand) : vop P frz call (.box e x) t H = vneed (ones (ev t x).cells.toList = true) (some (newp H, H ++ [⟨(ev t x).cells.toList, 0, e⟩])) := rfl
@[simp] theorem vop_build (ty : TypeId) (parts : Array (Nat × Operand)) : vop P frz call (.build ty parts) t H = (vbuild P ty (parts.toList.map fun x => (x.1, ev t x.2))).map (·, H) := rfl
@[simp] theorem vop_buildSlice (ty : TypeId) (n : Nat) (parts : Array (Nat × Operand)) : vop P frz call (.buildSlice ty n parts) t H = vbuildSlice P H ty n (parts.toList.map fun x => (x.1, ev t x.2)) := rfl
@[simp] theorem vop_builtin (b : Builtin) (args : Array Operand) (ts : Array TypeId) : vop P frz call (.call ⟨.builtin b, args, ts⟩) t H = vbuiltin P frz H b ts.toList (args.toList.map (ev t)) := rfl
@[simp] theorem vop_func (g : Nat) (args : Array Operand) (ts : Array TypeId) : vop P frz call (.call ⟨.value (.func g), args, ts⟩) t H = call g (args.toList.map (ev t)) H := by
  simp [vop]
def vclos (call : Calling) (f : Value) (args : List Value) (H : Heap) : Option (Value × Heap) := match f with
  | .func (.func g) first captured => call g (first.toList ++ args ++ captured.toList) H
  | _ => none
@[simp] theorem vop_closure (x : Tmp) (args : Array Operand) (ts : Array TypeId) : vop P frz call (.call ⟨.value (.tmp x), args, ts⟩) t H = vclos call (t x) (args.toList.map (ev t)) H := rfl
@[simp] theorem vclos_func (g : Nat) (f c : Array Value) (args : List Value) : vclos call (.func (.func g) f c) args H = call g (f.toList ++ args ++ c.toList) H := rfl
def vextract (i : Nat) (v : Value) : Option Value := match v with | .tuple vs => vs[i]? | _ => none
@[simp] theorem vextract_tuple (vs : Array Value) (i : Nat) : vextract i (.tuple vs) = vs[i]? := rfl
@[simp] theorem vop_extract (x : Operand) (i : Nat) : vop P frz call (.extract x i) t H = (vextract i (ev t x)).map (·, H) := by
  simp only [vop, vextract]; generalize ev t x = cc; cases cc <;> rfl
def vnil (H : Heap) (v : Value) : Option Value := match v with | .pointer (some a) => (match look H a with | some _ => some (.pointer (some a)) | none => none) | _ => none
@[simp] theorem vop_nilCheck (x : Operand) : vop P frz call (.nilCheck x) t H = (vnil H (ev t x)).map (·, H) := by
  simp only [vop, vnil]; generalize ev t x = cc
  cases cc with
  | pointer a => cases a with
    | none => rfl
    | some a => simp only []; cases look H a <;> rfl
  | _ => rfl
end

@[simp] theorem vun_not (b : Bool) : vun .not (.bool b) = some (.bool !b) := rfl
@[simp] theorem vun_neg (k : IntKind) (n : Int) : vun .neg (.int k n) = some (.int k (k.wrap (0 - n))) := rfl
section
variable (ty : TypeId) (k : IntKind) (a b : Int)
@[simp] theorem vbin_agg_eql (xs ys : Array Value) (ty : TypeId) : vbin P .eql ty (.agg xs) (.agg ys) = match flatN P ty with | some ks => (cseq ks xs.toList ys.toList).map .bool | none => none := by
  simp only [vbin]; cases flatN P ty <;> rfl
@[simp] theorem vbin_agg_neq (xs ys : Array Value) (ty : TypeId) : vbin P .neq ty (.agg xs) (.agg ys) = match flatN P ty with | some ks => (cseq ks xs.toList ys.toList).map (fun b => .bool (!b)) | none => none := by
  simp only [vbin]; cases flatN P ty <;> rfl
attribute [simp] cseq ceq
@[simp] theorem vbin_add : vbin P .add ty (.int k a) (.int k b) = some (.int k (k.wrap (a + b))) := by simp [vbin, iarith]
@[simp] theorem vbin_sub : vbin P .sub ty (.int k a) (.int k b) = some (.int k (k.wrap (a - b))) := by simp [vbin, iarith]
@[simp] theorem vbin_mul : vbin P .mul ty (.int k a) (.int k b) = some (.int k (k.wrap (a * b))) := by simp [vbin, iarith]
@[simp] theorem vbin_quo : vbin P .quo ty (.int k a) (.int k b) = vneed (b ≠ 0) (some (.int k (k.wrap (a.tdiv b)))) := by simp only [vbin, iarith, if_true, vneed]; by_cases h : b = 0 <;> simp [h]
@[simp] theorem vbin_rem : vbin P .rem ty (.int k a) (.int k b) = vneed (b ≠ 0) (some (.int k (a.tmod b))) := by simp only [vbin, iarith, if_true, vneed]; by_cases h : b = 0 <;> simp [h]
@[simp] theorem vbin_eql : vbin P .eql ty (.int k a) (.int k b) = some (.bool (decide (a = b))) := by simp [vbin, icmp]
@[simp] theorem vbin_neq : vbin P .neq ty (.int k a) (.int k b) = some (.bool (!decide (a = b))) := by simp [vbin, icmp]
@[simp] theorem vbin_lss : vbin P .lss ty (.int k a) (.int k b) = some (.bool (decide (a < b))) := by simp [vbin, icmp]
@[simp] theorem vbin_leq : vbin P .leq ty (.int k a) (.int k b) = some (.bool (decide (a ≤ b))) := by simp [vbin, icmp]
@[simp] theorem vbin_gtr : vbin P .gtr ty (.int k a) (.int k b) = some (.bool (decide (b < a))) := by simp [vbin, icmp]
@[simp] theorem vbin_geq : vbin P .geq ty (.int k a) (.int k b) = some (.bool (decide (b ≤ a))) := by simp [vbin, icmp]
end

theorem look_of {a : Addr} {r : Row} (h : H[a.block]? = some r) (hg : a.spot = some r.gen) : look H a = some r := by simp [look, h, hg]
/-- rows by their number -/
@[simp] theorem get_push (H : Heap) (r : Row) : (H ++ [r])[H.length]? = some r := by simp
theorem get_push_lt {i : Nat} {r r' : Row} (h : H[i]? = some r) : (H ++ [r'])[i]? = some r := by
  rw [List.getElem?_append_left (List.getElem?_eq_some_iff.1 h).1]; exact h
end Go.VM
/-! Running texts by rewriting: a stack of what is left to do; what isn't decided stands still. -/
set_option linter.all false
namespace Go.VM
open Go
variable {P : Program} {H H' L : Heap} {v w x y : Value} {t t' : Env} {C : Ctx} {α : Type}

inductive Itm where
  | code (c : Code)
  | ops (all : Array Oper) (l : List Oper)
  | opsW (all : Array Oper) (fl : List Nat × List Nat) (n : Nat) (wl : List Wat) (l : List Oper)
  | blk (id : Nat)
  | again (c : Code)

/-- a call's frame: what stays while it runs -/
structure Frm where
  C : Ctx
  frz : Nat
  g : Nat
  rs : List ResultVar
  H0 : Heap

noncomputable def unw (F : Frm) : List Itm → Out → Env → Heap → Option (Out × Env × Heap)
  | [], o, t, H => some (o, t, H)
  | .code c :: k, .normal, t, H => match vexec F.C F.frz c t H with
    | some (o, t', H') => unw F k o t' H'
    | none => none
  | .ops all l :: k, .normal, t, H => match vops F.C.P F.frz (vcall F.C F.frz) all l t H with
    | some (t', H') => unw F k .normal t' H'
    | none => none
  | .opsW all fl n wl l :: k, .normal, t, H => match vopsW F.C.P F.frz (vcall F.C F.frz) all fl n wl l t H with
    | some (t', H') => unw F k .normal t' H'
    | none => none
  | .again c :: k, .normal, t, H => match vexec F.C F.frz (.loop c) t H with
    | some (o, t', H') => unw F k o t' H'
    | none => none
  | .blk id :: k, .exit i, t, H => if i = id then unw F k .normal t H else unw F k (.exit i) t H
  | _ :: k, o, t, H => unw F k o t H
/-- a call ends -/
def vfin (F : Frm) (t' : Env) (H' : Heap) : Option (Value × Heap) :=
  match vresults F.C.P t' H' F.rs with
  | some vs => if F.C.mode F.g = 0 then
      match pack F.H0.length H' (joined vs) with
      | some (v, ids) => some (v, F.H0 ++ packed F.H0.length H' ids)
      | none => none
      else some (joined vs, H')
  | none => none
def vend (F : Frm) (r : Option (Out × Env × Heap)) : Option (Value × Heap) :=
  match r with
  | some (.normal, t', H') => vfin F t' H'
  | some (.ret, t', H') => vfin F t' H'
  | _ => none
noncomputable def go (F : Frm) (k : List Itm) (o : Out) (t : Env) (H : Heap) : Option (Value × Heap) := vend F (unw F k o t H)

theorem vcall_go {frz : Nat} {g : Nat} {l : List Value} {fn : Func} {body : Code} {rs : List ResultVar} (hf : C.P.funcs[g]? = some fn) (hb : fn.body = some body) (hok : fnOk fn body = true) (hrs : fn.results.toList = rs) :
    vcall C frz g l H = go ⟨C, if C.mode g = 2 then frz else H.length, g, rs, H⟩ [.code body] .normal (argEnv l) H := by
  rw [vcall_enter hf hb hok]
  subst hrs
  simp only [go, unw]
  cases vexec C (if C.mode g = 2 then frz else H.length) body (argEnv l) H with
  | none => rfl
  | some r => rfl

variable (F : Frm) (k : List Itm) (a b : Code)

@[simp] theorem go_nil : go F [] .normal t H = vfin F t H := rfl
theorem unw_ret : ∀ k, unw F k .ret t H = some (.ret, t, H)
  | [] => rfl
  | .code _ :: k => unw_ret k
  | .ops _ _ :: k => unw_ret k
  | .opsW _ _ _ _ _ :: k => unw_ret k
  | .again _ :: k => unw_ret k
  | .blk _ :: k => unw_ret k
@[simp] theorem go_ret : go F k .ret t H = vfin F t H := by simp only [go, unw_ret]; rfl
@[simp] theorem go_exit_code (i : Nat) : go F (.code a :: k) (.exit i) t H = go F k (.exit i) t H := rfl
@[simp] theorem go_exit_ops (i : Nat) (all : Array Oper) (l : List Oper) : go F (.ops all l :: k) (.exit i) t H = go F k (.exit i) t H := rfl
@[simp] theorem go_exit_opsW (i : Nat) (all : Array Oper) (fl : List Nat × List Nat) (n : Nat) (wl : List Wat) (l : List Oper) : go F (.opsW all fl n wl l :: k) (.exit i) t H = go F k (.exit i) t H := rfl
@[simp] theorem go_exit_again (i : Nat) : go F (.again a :: k) (.exit i) t H = go F k (.exit i) t H := rfl
@[simp] theorem go_exit_blk (i id : Nat) : go F (.blk id :: k) (.exit i) t H = if i = id then go F k .normal t H else go F k (.exit i) t H := by
  simp only [go, unw]; split <;> rfl
@[simp] theorem go_blk (id : Nat) : go F (.blk id :: k) .normal t H = go F k .normal t H := rfl
@[simp] theorem go_c_ret : go F (.code .ret :: k) .normal t H = vfin F t H := by
  simp only [go, unw, vexec_ret, unw_ret]; rfl
@[simp] theorem go_skip : go F (.code .skip :: k) .normal t H = go F k .normal t H := by simp only [go, unw, vexec_skip]
@[simp] theorem go_label (l : Nat) : go F (.code (.label l) :: k) .normal t H = go F k .normal t H := by simp only [go, unw, vexec_label]
@[simp] theorem go_exit (i : Nat) : go F (.code (.exit i) :: k) .normal t H = go F k (.exit i) t H := by simp only [go, unw, vexec_exit]
@[simp] theorem go_seq : go F (.code (.seq a b) :: k) .normal t H = go F (.code a :: .code b :: k) .normal t H := by
  simp only [go, unw, vexec_seq]
  cases vexec F.C F.frz a t H with
  | none => rfl
  | some r =>
    obtain ⟨o, t1, H1⟩ := r
    cases o <;> rfl
@[simp] theorem go_block (id : Nat) : go F (.code (.block id a) :: k) .normal t H = go F (.code a :: .blk id :: k) .normal t H := by
  simp only [go, unw, vexec_block]
  cases vexec F.C F.frz a t H with
  | none => rfl
  | some r =>
    obtain ⟨o, t1, H1⟩ := r
    cases o with
    | normal => rfl
    | ret => rfl
    | exit i => by_cases h : i = id <;> simp [atBlock, unw, h]
/-- one round of a loop -/
theorem go_loop : go F (.code (.loop a) :: k) .normal t H = go F (.code a :: .again a :: k) .normal t H := by
  simp only [go, unw]
  rw [vexec_loop]
  cases vexec F.C F.frz a t H with
  | none => rfl
  | some r =>
    obtain ⟨o, t1, H1⟩ := r
    cases o <;> rfl
theorem go_again : go F (.again a :: k) .normal t H = go F (.code (.loop a) :: k) .normal t H := rfl
@[simp] theorem go_region_nil (id : Nat) (ops : Array Oper) (hn : nilReg ops = true) : go F (.code (.region id ops false) :: k) .normal t H = go F k .normal (put t (nilDst ops) (.slice none 0 1)) H := by
  simp only [go, unw, vexec_region, vregion, hn, Bool.not_false, Bool.true_and]
  rfl
@[simp] theorem go_region (id : Nat) (ops : Array Oper) (hn : nilReg ops = false) : go F (.code (.region id ops false) :: k) .normal t H = go F (.ops ops ops.toList :: k) .normal t H := by
  have hp : plan F.C ops false = some ops.toList := by simp [plan]
  simp only [go, unw, vexec_region, vregion, hp, hn, Bool.not_false, Bool.true_and]
  cases vops F.C.P F.frz (vcall F.C F.frz) ops ops.toList t H with
  | none => rfl
  | some r => rfl
theorem go_draw (id : Nat) (ops : Array Oper) (h : drawOk F.C ops = true) : go F (.code (.region id ops true) :: k) .normal t H = go F (.ops ops ops.toList :: k) .normal t H := by
  have hp : plan F.C ops true = some ops.toList := by simp [plan, h]
  simp only [go, unw, vexec_region, vregion, hp, Bool.not_true, Bool.false_and]
  cases vops F.C.P F.frz (vcall F.C F.frz) ops ops.toList t H with
  | none => rfl
  | some r => rfl
theorem go_drawE (id : Nat) (ops : Array Oper) (h : drawOk F.C ops = false ∧ drawOkE F.C ops = true) : go F (.code (.region id ops true) :: k) .normal t H = go F (.ops ops (emps F.C.P ops) :: k) .normal t H := by
  have hp : plan F.C ops true = some (emps F.C.P ops) := by simp [plan, h.1, h.2]
  simp only [go, unw, vexec_region, vregion, hp, Bool.not_true, Bool.false_and]
  cases vops F.C.P F.frz (vcall F.C F.frz) ops (emps F.C.P ops) t H with
  | none => rfl
  | some r => rfl
theorem go_drawF (id : Nat) (ops : Array Oper) (fl : List Nat × List Nat) (h : drawOk F.C ops = false ∧ drawOkE F.C ops = false ∧ drawOkF F.C ops = true ∧ floatsC F.C ops = fl) : go F (.code (.region id ops true) :: k) .normal t H = go F (.opsW ops fl 0 [] (emps F.C.P ops) :: k) .normal t H := by
  have hp : plan F.C ops true = none := by simp [plan, h.1, h.2.1]
  have ha : aheads F.C ops = ops := if_pos h.2.2.1
  simp only [go, unw, vexec_region, vregion, hp, ha, h.2.2.1, if_true, h.2.2.2, Bool.not_true, Bool.false_and]
  cases vopsW F.C.P F.frz (vcall F.C F.frz) ops fl 0 [] (emps F.C.P ops) t H with
  | none => rfl
  | some r => rfl
theorem go_drawP (id : Nat) (ops : Array Oper) (fl : List Nat × List Nat) (pl : List Nat) (h : drawOk F.C ops = false ∧ drawOkE F.C ops = false ∧ drawOkF F.C ops = false ∧ aheadP ops = pl ∧ drawOkF F.C (permA pl ops) = true ∧ floatsC F.C (permA pl ops) = fl) :
    go F (.code (.region id ops true) :: k) .normal t H = go F (.opsW (permA pl ops) fl 0 [] (emps F.C.P (permA pl ops)) :: k) .normal t H := by
  obtain ⟨h1, h2, h3, rfl, h5, rfl⟩ := h
  have hp : plan F.C ops true = none := by simp [plan, h1, h2]
  have ha : aheads F.C ops = permA (aheadP ops) ops := if_neg (by simp [h3])
  simp only [go, unw, vexec_region, vregion, hp, ha, h5, if_true, Bool.not_true, Bool.false_and]
  cases vopsW F.C.P F.frz (vcall F.C F.frz) (permA (aheadP ops) ops) (floatsC F.C (permA (aheadP ops) ops)) 0 [] (emps F.C.P (permA (aheadP ops) ops)) t H with
  | none => rfl
  | some r => rfl
@[simp] theorem go_opsW_nil (all : Array Oper) (fl : List Nat × List Nat) (n : Nat) (wl : List Wat) : go F (.opsW all fl n wl [] :: k) .normal t H = go F k .normal t H := by simp [go, unw, vopsW]
@[simp] theorem wcut_tt (wl : List Wat) : wcut true wl = [] := rfl
@[simp] theorem wcut_ff (wl : List Wat) : wcut false wl = wl := rfl
@[simp] theorem Wok_nil (P : Program) (H : Heap) : Wok P H [] ↔ True := ⟨fun _ => trivial, fun _ _ h => by cases h⟩
@[simp] theorem Wok_cons (P : Program) (H : Heap) (x : Wat) (l : List Wat) : Wok P H (x :: l) ↔ x.ok P H ∧ Wok P H l := by simp [Wok]
@[simp] theorem Wat_ld (P : Program) (H : Heap) (ty : TypeId) (a v : Value) : (Wat.ld ty a v).ok P H ↔ vload P H ty a = some v ∧ live H v := Iff.rfl
@[simp] theorem Wat_row (P : Program) (H : Heap) (id : Nat) (r : Row) : (Wat.row id r).ok P H ↔ H[id]? = some r := Iff.rfl
@[simp] theorem live_int (k : IntKind) (n : Int) : live H (.int k n) ↔ True := Iff.rfl
@[simp] theorem live_bool (b : Bool) : live H (.bool b) ↔ True := Iff.rfl
@[simp] theorem live_str (s : ByteArray) : live H (.string s) ↔ True := Iff.rfl
@[simp] theorem live_nil : live H (.slice none 0 0) ↔ True := Iff.rfl
@[simp] theorem live_ptr (a : Addr) : live H (.pointer (some a)) ↔ look H a ≠ none := Iff.rfl
@[simp] theorem live_sl (a : Addr) (n c : Nat) : live H (.slice (some a) n c) ↔ look H a ≠ none := Iff.rfl
attribute [simp] wgrow wrow
/-- something that is asked of the rows -/
noncomputable def wneed (p : Prop) (x : Option α) : Option α := @ite _ p (Classical.propDecidable p) x none
@[simp] theorem wneed_true (x : Option α) : wneed True x = x := by simp [wneed]
/-- an operation of a watched run -/
noncomputable def thnW (F : Frm) (r : Option (Value × Heap)) (op : Op) (b : Bool) (d : Option Tmp) (all : Array Oper) (fl : List Nat × List Nat) (n : Nat) (wl : List Wat) (l : List Oper) (k : List Itm) (t : Env) : Option (Value × Heap) :=
  match r with
  | some (v, H') => wneed (pureB op = true ∨ Wok F.C.P H' (wgrow b op t v H' wl)) (go F (.opsW all fl (n + 1) (wgrow b op t v H' wl) l :: k) .normal (put t d v) H')
  | none => none
section
variable (d : Option Tmp) (op : Op) (all : Array Oper) (fl : List Nat × List Nat) (n : Nat) (wl : List Wat) (l : List Oper)
@[simp] theorem thnW_some (b : Bool) : thnW F (some (v, H)) op b d all fl n wl l k t = wneed (pureB op = true ∨ Wok F.C.P H (wgrow b op t v H wl)) (go F (.opsW all fl (n + 1) (wgrow b op t v H wl) l :: k) .normal (put t d v) H) := rfl
@[simp] theorem thnW_none (b : Bool) : thnW F none op b d all fl n wl l k t = none := rfl
@[simp] theorem thnW_need (b : Bool) (p : Prop) [Decidable p] (r : Option (Value × Heap)) : thnW F (vneed p r) op b d all fl n wl l k t = vneed p (thnW F r op b d all fl n wl l k t) := by unfold vneed; split <;> rfl
@[simp] theorem go_opW (ty : TypeId) (pos : String) (after : Array Edge) :
    go F (.opsW all fl n wl (⟨d, op, ty, pos, after, none⟩ :: l) :: k) .normal t H = thnW F (vop F.C.P F.frz (vcall F.C F.frz) op t H) op (fl.1.contains n) d all fl n (wcut (fl.2.contains n) wl) l k t := by
  simp only [go, unw, vopsW, vguard, thnW]
  cases vop F.C.P F.frz (vcall F.C F.frz) op t H with
  | none => rfl
  | some r =>
    obtain ⟨v, H'⟩ := r
    simp only [wneed]
    by_cases h : pureB op = true ∨ Wok F.C.P H' (wgrow (fl.1.contains n) op t v H' (wcut (fl.2.contains n) wl))
    · simp only [h, if_true] <;> rfl
    · simp only [h, if_false] <;> rfl
/-- an operation behind a guard, watched -/
noncomputable def gdW (F : Frm) (v : Value) (want : Bool) (op : Op) (b : Bool) (d : Option Tmp) (all : Array Oper) (fl : List Nat × List Nat) (n : Nat) (wl : List Wat) (l : List Oper) (k : List Itm) (t : Env) (H : Heap) : Option (Value × Heap) :=
  match v with
  | .bool c => if c = want then thnW F (vop F.C.P F.frz (vcall F.C F.frz) op t H) op b d all fl n (wcut (fl.2.contains n) wl) l k t else go F (.opsW all fl (n + 1) wl l :: k) .normal (put t d undef) H
  | .tuple vs => if vs.size = 0 then go F (.opsW all fl (n + 1) wl l :: k) .normal (put t d undef) H else none
  | _ => none
@[simp] theorem gdW_tt (b : Bool) : gdW F (.bool true) true op b d all fl n wl l k t H = thnW F (vop F.C.P F.frz (vcall F.C F.frz) op t H) op b d all fl n (wcut (fl.2.contains n) wl) l k t := rfl
@[simp] theorem gdW_ff (b : Bool) : gdW F (.bool false) false op b d all fl n wl l k t H = thnW F (vop F.C.P F.frz (vcall F.C F.frz) op t H) op b d all fl n (wcut (fl.2.contains n) wl) l k t := rfl
@[simp] theorem gdW_tf (b : Bool) : gdW F (.bool true) false op b d all fl n wl l k t H = go F (.opsW all fl (n + 1) wl l :: k) .normal (put t d undef) H := rfl
@[simp] theorem gdW_ft (b : Bool) : gdW F (.bool false) true op b d all fl n wl l k t H = go F (.opsW all fl (n + 1) wl l :: k) .normal (put t d undef) H := rfl
@[simp] theorem gdW_undef (b want : Bool) : gdW F undef want op b d all fl n wl l k t H = go F (.opsW all fl (n + 1) wl l :: k) .normal (put t d undef) H := rfl
@[simp] theorem go_guardW (ty : TypeId) (pos : String) (after : Array Edge) (j : Nat) (want : Bool) (hj : ((all[j]?).bind (·.dst)).isSome = true) :
    go F (.opsW all fl n wl (⟨d, op, ty, pos, after, some (j, want)⟩ :: l) :: k) .normal t H = gdW F (t (((all[j]?).bind (·.dst)).getD 0)) want op (fl.1.contains n) d all fl n wl l k t H := by
  simp only [go, unw, vopsW, vguard]
  cases hd : (all[j]?).bind (·.dst) with
  | none => rw [hd] at hj; cases hj
  | some e =>
    simp only [Option.getD_some]
    cases hv : t e with
    | bool c =>
      simp only [gdW, thnW]
      by_cases hb : c = want
      · subst hb
        simp only [beq_self_eq_true, if_true]
        cases vop F.C.P F.frz (vcall F.C F.frz) op t H with
        | none => rfl
        | some r =>
          obtain ⟨v, H'⟩ := r
          simp only [wneed]
          by_cases h : pureB op = true ∨ Wok F.C.P H' (wgrow (fl.1.contains n) op t v H' (wcut (fl.2.contains n) wl))
          · simp only [h, if_true] <;> rfl
          · simp only [h, if_false] <;> rfl
      · have : (c == want) = false := by simpa using hb
        simp only [this, if_neg hb]; rfl
    | tuple vs =>
      simp only [gdW]
      by_cases hv : vs.size = 0
      · simp only [hv, if_true]; rfl
      · simp only [hv, if_false]; rfl
    | _ => rfl
end
@[simp] theorem go_ops_nil (all : Array Oper) : go F (.ops all [] :: k) .normal t H = go F k .normal t H := rfl

/-- a test: its arms are told as what is left to do, so that nothing runs in them before the test is decided -/
noncomputable def br (F : Frm) (v : Value) (k1 k2 : List Itm) (t : Env) (H : Heap) : Option (Value × Heap) :=
  match v with
  | .bool true => go F k1 .normal t H
  | .bool false => go F k2 .normal t H
  | _ => none
@[simp] theorem br_true (k1 k2 : List Itm) : br F (.bool true) k1 k2 t H = go F k1 .normal t H := rfl
@[simp] theorem br_false (k1 k2 : List Itm) : br F (.bool false) k1 k2 t H = go F k2 .normal t H := rfl
@[simp] theorem br_not (b : Bool) (k1 k2 : List Itm) : br F (.bool (!b)) k1 k2 t H = br F (.bool b) k2 k1 t H := by cases b <;> rfl
theorem br_dec {p : Prop} [Decidable p] {k1 k2 : List Itm} {z : Option (Value × Heap)} (h1 : p → go F k1 .normal t H = z) (h2 : ¬ p → go F k2 .normal t H = z) : br F (.bool (decide p)) k1 k2 t H = z := by
  by_cases h : p
  · simp only [h, decide_true]; exact h1 h
  · simp only [h, decide_false]; exact h2 h
theorem br_eq {b : Bool} {k1 k2 : List Itm} {z : Option (Value × Heap)} (h1 : b = true → go F k1 .normal t H = z) (h2 : b = false → go F k2 .normal t H = z) : br F (.bool b) k1 k2 t H = z := by
  cases b; exact h2 rfl; exact h1 rfl
@[simp] theorem go_cond (x : Operand) : go F (.code (.cond x a b) :: k) .normal t H = br F (ev t x) (.code a :: k) (.code b :: k) t H := by
  simp only [go, unw, vexec_cond, br]
  cases hv : ev t x with
  | bool c => cases c <;> rfl
  | _ => rfl
/-- an operation's result goes into its slot -/
noncomputable def thn (F : Frm) (r : Option (Value × Heap)) (d : Option Tmp) (k : List Itm) (t : Env) : Option (Value × Heap) :=
  match r with
  | some (v, H') => go F k .normal (put t d v) H'
  | none => none
@[simp] theorem thn_some (d : Option Tmp) : thn F (some (v, H)) d k t = go F k .normal (put t d v) H := rfl
@[simp] theorem thn_none (d : Option Tmp) : thn F none d k t = none := rfl
@[simp] theorem thn_need (p : Prop) [Decidable p] (r : Option (Value × Heap)) (d : Option Tmp) : thn F (vneed p r) d k t = vneed p (thn F r d k t) := by unfold vneed; split <;> rfl
@[simp] theorem go_op (all : Array Oper) (d : Option Tmp) (op : Op) (ty : TypeId) (pos : String) (after : Array Edge) (l : List Oper) :
    go F (.ops all (⟨d, op, ty, pos, after, none⟩ :: l) :: k) .normal t H = thn F (vop F.C.P F.frz (vcall F.C F.frz) op t H) d (.ops all l :: k) t := by
  simp only [go, unw, vops, vguard, thn]
  cases vop F.C.P F.frz (vcall F.C F.frz) op t H with
  | none => rfl
  | some r => rfl
@[simp] def gdst (ops : Array Oper) (j : Nat) : Nat := ((ops[j]?).bind (·.dst)).getD 0
/-- an operation behind a guard -/
noncomputable def gd (F : Frm) (v : Value) (want : Bool) (op : Op) (d : Option Tmp) (k : List Itm) (t : Env) (H : Heap) : Option (Value × Heap) :=
  match v with
  | .bool b => if b = want then thn F (vop F.C.P F.frz (vcall F.C F.frz) op t H) d k t else go F k .normal (put t d undef) H
  | .tuple vs => if vs.size = 0 then go F k .normal (put t d undef) H else none
  | _ => none
@[simp] theorem gd_tt (op : Op) (d : Option Tmp) : gd F (.bool true) true op d k t H = thn F (vop F.C.P F.frz (vcall F.C F.frz) op t H) d k t := rfl
@[simp] theorem gd_ff (op : Op) (d : Option Tmp) : gd F (.bool false) false op d k t H = thn F (vop F.C.P F.frz (vcall F.C F.frz) op t H) d k t := rfl
@[simp] theorem gd_tf (op : Op) (d : Option Tmp) : gd F (.bool true) false op d k t H = go F k .normal (put t d undef) H := rfl
@[simp] theorem gd_ft (op : Op) (d : Option Tmp) : gd F (.bool false) true op d k t H = go F k .normal (put t d undef) H := rfl
@[simp] theorem gd_undef (want : Bool) (op : Op) (d : Option Tmp) : gd F undef want op d k t H = go F k .normal (put t d undef) H := rfl
@[simp] theorem gd_not (b want : Bool) (op : Op) (d : Option Tmp) : gd F (.bool (!b)) want op d k t H = gd F (.bool b) (!want) op d k t H := by cases b <;> cases want <;> rfl
theorem gd_dec {p : Prop} [Decidable p] {want : Bool} {op : Op} {d : Option Tmp} {z : Option (Value × Heap)} (h1 : p → gd F (.bool true) want op d k t H = z) (h2 : ¬ p → gd F (.bool false) want op d k t H = z) :
    gd F (.bool (decide p)) want op d k t H = z := by
  by_cases h : p
  · simp only [h, decide_true]; exact h1 h
  · simp only [h, decide_false]; exact h2 h
theorem gd_eq {b want : Bool} {op : Op} {d : Option Tmp} {z : Option (Value × Heap)} (h1 : b = true → gd F (.bool true) want op d k t H = z) (h2 : b = false → gd F (.bool false) want op d k t H = z) :
    gd F (.bool b) want op d k t H = z := by cases b; exact h2 rfl; exact h1 rfl
@[simp] theorem go_guard (all : Array Oper) (d : Option Tmp) (op : Op) (ty : TypeId) (pos : String) (after : Array Edge) (l : List Oper) (j : Nat) (want : Bool)
    (hj : ((all[j]?).bind (·.dst)).isSome = true) :
    go F (.ops all (⟨d, op, ty, pos, after, some (j, want)⟩ :: l) :: k) .normal t H = gd F (t (gdst all j)) want op d (.ops all l :: k) t H := by
  simp only [go, unw, vops, vguard, gdst]
  cases hd : (all[j]?).bind (·.dst) with
  | none => rw [hd] at hj; cases hj
  | some e =>
    simp only [Option.getD_some]
    cases hv : t e with
    | bool b =>
      simp only [gd, thn]
      by_cases hb : b = want
      · subst hb
        simp only [beq_self_eq_true, if_true]
        cases vop F.C.P F.frz (vcall F.C F.frz) op t H <;> rfl
      · have : (b == want) = false := by simpa using hb
        simp only [this, if_neg hb]; rfl
    | tuple vs =>
      simp only [gd]
      by_cases hv : vs.size = 0
      · simp only [hv, if_true]; rfl
      · simp only [hv, if_false]; rfl
    | _ => rfl
attribute [simp] pureB vfin vresults vresult joined pack packVal packCell packList packed packRow scrub
end Go.VM
/-! Slices of numbers, read. -/
set_option linter.all false
namespace Go.VM
open Go
variable {P : Program} {H H' L : Heap} {v w x y : Value} {t t' : Env} {C : Ctx} {ty e : TypeId} {xs : List Int}

/-- a slice that reads as the numbers xs -/
def IsI (H : Heap) (v : Value) (xs : List Int) : Prop :=
  (v = .slice none 0 0 ∧ xs = []) ∨ ∃ id off r, v = .slice (some ⟨id, off, some r.gen⟩) xs.length 0 ∧ H[id]? = some r ∧ (r.cells.drop off).take xs.length = xs.map (.int .i64) ∧ off + xs.length ≤ r.cells.length
/-- the place of an element -/
def elp (v : Value) (j : Nat) : Value := match v with | .slice (some a) _ _ => .pointer (some ⟨a.block, a.off + j, a.spot⟩) | _ => dead

theorem IsI.app (h : IsI H v xs) (L : Heap) : IsI (H ++ L) v xs := by
  rcases h with h | ⟨id, off, r, h1, h2, h3, h4⟩
  · exact .inl h
  · exact .inr ⟨id, off, r, h1, by rw [List.getElem?_append_left (List.getElem?_eq_some_iff.1 h2).1]; exact h2, h3, h4⟩
theorem IsI.len (h : IsI H v xs) (hs : isSl P ty = true) : vlen P H ty v = some (.int .i64 xs.length) := by
  rcases h with ⟨rfl, rfl⟩ | ⟨id, off, r, rfl, h2, h3, h4⟩
  · simp [vlen, hs]
  · simp [vlen, look, h2, hs]
theorem IsI.idx (h : IsI H v xs) (he : eltp P ty = some (e, 1)) {i : Int} (h0 : 0 ≤ i) (h1 : i < xs.length) : vindexAddr P H ty v (.int .i64 i) = some (elp v i.toNat) := by
  rcases h with ⟨rfl, rfl⟩ | ⟨id, off, r, rfl, h2, h3, h4⟩
  · simp at h1; omega
  · simp [vindexAddr, look, h2, he, elp, h0, h1]
theorem IsI.load (h : IsI H v xs) (he : tsz P e = some (false, 1)) {j : Nat} (h1 : j < xs.length) : vload P H e (elp v j) = some (.int .i64 (xs.getD j 0)) := by
  rcases h with ⟨rfl, rfl⟩ | ⟨id, off, r, rfl, h2, h3, h4⟩
  · simp at h1
  · have := congrArg (·[j]?) h3
    simp [h1] at this
    simp [vload, elp, look, h2, he, this, h1]
theorem IsI.one' (h : IsI H v xs) : VM.one v = true := by
  rcases h with ⟨rfl, rfl⟩ | ⟨id, off, r, rfl, h2, h3, h4⟩ <;> rfl
theorem IsI.cells (h : IsI H v xs) : v.cells = #[v] := by
  rcases h with ⟨rfl, rfl⟩ | ⟨id, off, r, rfl, h2, h3, h4⟩ <;> rfl
theorem IsI.src (h : IsI H v xs) : vsrc 1 H v = some (xs.length, xs.map (.int .i64)) := by
  rcases h with ⟨rfl, rfl⟩ | ⟨id, off, r, rfl, h2, h3, h4⟩
  · rfl
  · simp [vsrc, look, h2, h3, h4]
/-- the same with rows behind -/
theorem IsI.lenA (h : IsI H v xs) (hs : isSl P ty = true) : vlen P (H ++ L) ty v = some (.int .i64 xs.length) := (h.app L).len hs
theorem IsI.idxA (h : IsI H v xs) (he : eltp P ty = some (e, 1)) {i : Int} (h0 : 0 ≤ i) (h1 : i < xs.length) : vindexAddr P (H ++ L) ty v (.int .i64 i) = some (elp v i.toNat) := (h.app L).idx he h0 h1
theorem IsI.loadA (h : IsI H v xs) (he : tsz P e = some (false, 1)) {j : Nat} (h1 : j < xs.length) : vload P (H ++ L) e (elp v j) = some (.int .i64 (xs.getD j 0)) := (h.app L).load he h1
/-- a new row of numbers -/
theorem IsI.row {id : Nat} {r : Row} (h : H[id]? = some r) (hc : r.cells = xs.map (.int .i64)) : IsI H (.slice (some ⟨id, 0, some r.gen⟩) xs.length 0) xs :=
  .inr ⟨id, 0, r, rfl, h, by rw [hc, List.drop_zero, List.take_of_length_le (by simp)], by simp [hc]⟩

attribute [simp] vbuiltin newp vfieldAddr vfold vmax2 vmin2 vmake vbuildSlice vbuild vfill vfield part' vbound
@[simp] theorem vlen_nil (P : Program) (H : Heap) (t : TypeId) : vlen P H t (.slice none 0 0) = if isSl P t = true then some (.int .i64 0) else none := rfl
@[simp] theorem vlen_mk (P : Program) (H : Heap) (t : TypeId) (a : Addr) (len k : Nat) : vlen P H t (.slice (some a) len k) =
    match look H a with
    | some _ => if isSl P t = true then some (.int .i64 len) else none
    | none => none := rfl
@[simp] theorem vcap_nil (P : Program) (t : TypeId) : vcap P t (.slice none 0 0) = if isSl P t = true then some (.int .i64 0) else none := rfl
@[simp] theorem vslice_nil (P : Program) (H : Heap) (t : TypeId) (lo hi : Option Value) : vslice P H t lo hi (.slice none 0 0) =
    match eltp P t, vbound 0 lo, vbound 0 hi with
    | some _, some 0, some 0 => some (.slice none 0 0)
    | _, _, _ => none := rfl
@[simp] theorem vslice_mk (P : Program) (H : Heap) (t : TypeId) (lo hi : Option Value) (a : Addr) (len c : Nat) : vslice P H t lo hi (.slice (some a) len c) =
    match look H a with
    | some r => match eltp P t, vbound 0 lo, vbound len hi with
      | some (e, n), some l, some h => if c = 0 ∧ r.elem = e ∧ 0 ≤ l ∧ l ≤ h ∧ h ≤ len then some (.slice (some ⟨a.block, a.off + l.toNat * n, a.spot⟩) (h.toNat - l.toNat) 0) else none
      | _, _, _ => none
    | none => none := rfl
/-- reading, writing and pointing at elements, once the row is known -/
@[simp] theorem vindexAddr_glob (P : Program) (H : Heap) (t : TypeId) (g : Nat) (k k' : IntKind) (o i : Int) : vindexAddr P H t (.iface g (.int k o)) (.int k' i) = match arrp P t with
    | some (n, m) => if 0 ≤ o ∧ 0 ≤ i ∧ i < n then some (.iface g (.int .i64 (o + i * m))) else none
    | none => none := rfl
@[simp] theorem vload_glob (P : Program) (H : Heap) (t : TypeId) (g : Nat) (k : IntKind) (o : Int) : vload P H t (.iface g (.int k o)) = match tsz P t with
    | some (false, _) => if 0 ≤ o then gtab P g o.toNat else none
    | _ => none := rfl
@[simp] theorem vindexAddr_mk (P : Program) (H : Heap) (t : TypeId) (a : Addr) (len : Nat) (k : IntKind) (i : Int) : vindexAddr P H t (.slice (some a) len 0) (.int k i) =
    match look H a with
    | some _ => match eltp P t with
      | some (_, n) => if 0 ≤ i ∧ i < len then some (.pointer (some ⟨a.block, a.off + i.toNat * n, a.spot⟩)) else none
      | none => none
    | none => none := rfl
@[simp] theorem vload_mk (P : Program) (H : Heap) (t : TypeId) (a : Addr) : vload P H t (.pointer (some a)) =
    match look H a with
    | some r => match tsz P t with
      | some (true, n) => if a.off + n ≤ r.cells.length then some (.agg ((r.cells.drop a.off).take n).toArray) else none
      | some (false, _) => r.cells[a.off]?
      | none => none
    | none => none := rfl
@[simp] theorem vstore_mk (P : Program) (frz : Nat) (H : Heap) (t : TypeId) (x : Value) (a : Addr) : vstore P frz H t x (.pointer (some a)) =
    match look H a with
    | some r => match tsz P t with
      | some (_, n) => if frz ≤ a.block ∧ x.cells.size = n ∧ a.off + n ≤ r.cells.length ∧ ones x.cells.toList = true
          then some (H.set a.block { r with cells := splice r.cells a.off x.cells.toList }) else none
      | none => none
    | none => none := rfl
@[simp] theorem vsrc_nil (n : Nat) (H : Heap) : vsrc n H (.slice none 0 0) = some (0, []) := rfl
@[simp] theorem vsrc_mk (n : Nat) (H : Heap) (a : Addr) (len c : Nat) : vsrc n H (.slice (some a) len c) =
    match look H a with
    | some r => if a.off + len * n ≤ r.cells.length then some (len, (r.cells.drop a.off).take (len * n)) else none
    | none => none := rfl
@[simp] theorem vappend_nil (P : Program) (frz : Nat) (H : Heap) (t u : TypeId) (x : Value) : vappend P frz H t u (.slice none 0 0) x =
    if t = u then match eltp P t with
    | some (e, n) => match vsrc n H x with
      | some (m, news) => if m = 0 then some (.slice none 0 0, H) else
          if m ≤ 1073741824 ∧ ones news = true then some (.slice (some ⟨H.length, 0, some 0⟩) m 0, H ++ [⟨news, 0, e⟩]) else none
      | none => none
    | none => none else vappendX P frz H t u (.slice none 0 0) x := rfl
@[simp] theorem vappend_mk (P : Program) (frz : Nat) (H : Heap) (t u : TypeId) (a : Addr) (len c : Nat) (x : Value) : vappend P frz H t u (.slice (some a) len c) x =
    if t = u then match eltp P t with
    | some (e, n) => match vsrc n H x with
      | some (m, news) => match look H a with
        | some r => if m = 0 then some (.slice (some a) len c, H) else
            if c = 0 ∧ frz ≤ a.block ∧ a.off + len * n ≤ r.cells.length ∧ r.elem = e ∧ len + m ≤ 1073741824 ∧ ones r.cells = true ∧ ones news = true
            then some (.slice (some ⟨a.block, 0, some (r.gen + 1)⟩) (len + m) 0, H.set a.block ⟨vkeep r.cells a.off (len * n) ++ news, r.gen + 1, e⟩) else none
        | none => none
      | none => none
    | none => none else vappendX P frz H t u (.slice (some a) len c) x := rfl
@[simp] theorem vappendX_int (P : Program) (frz : Nat) (H : Heap) (t u : TypeId) (s : Value) (q : IntKind) (k : Int) : vappendX P frz H t u s (.int q k) = vappendZ P H t u s (.int q k) := rfl
@[simp] theorem vappendX_str (P : Program) (frz : Nat) (H : Heap) (t u : TypeId) (s : Value) (b : ByteArray) : vappendX P frz H t u s (.string b) = vappS P frz H t u s b := rfl
@[simp] theorem vappendZ_nil (P : Program) (H : Heap) (t u : TypeId) (q : IntKind) (k : Int) : vappendZ P H t u (.slice none 0 0) (.int q k) =
    match P.underlying u with
    | some (.int _) => match eltp P t with
      | some (e, n) => if 0 < n ∧ 0 < k ∧ k ≤ 1073741824 then some (.slice (some ⟨H.length, 0, some 0⟩) k.toNat 0, H ++ [⟨[], 0, e⟩]) else none
      | none => none
    | _ => none := rfl
@[simp] theorem vkeep_all (l : List Value) : vkeep l 0 l.length = l := by simp [vkeep]
@[simp] theorem vkeep_none (l : List Value) (o : Nat) : vkeep l o 0 = [] := by unfold vkeep; split <;> simp <;> omega
theorem vkeep_len {l : List Value} {k : Nat} (h : k = l.length) : vkeep l 0 k = l := by subst h; simp
@[simp] theorem vkeep_map {α : Type} (f : α → Value) (xs : List α) : vkeep (xs.map f) 0 xs.length = xs.map f := vkeep_len (by simp)
@[simp] theorem vkeep_mapE {α : Type} (f : α → Value) (xs : List α) {k : Nat} (h : xs.length = k) : vkeep (xs.map f) 0 k = xs.map f := vkeep_len (by simp [h])
@[simp] theorem ones_nil : ones [] = true := rfl
@[simp] theorem ones_cons (v : Value) (l : List Value) : ones (v :: l) = (VM.one v && ones l) := rfl
@[simp] theorem ones_app (l m : List Value) : ones (l ++ m) = (ones l && ones m) := List.all_append
@[simp] theorem ones_ints (k : IntKind) (xs : List Int) : ones (xs.map (.int k)) = true := by
  induction xs <;> simp_all [ones, VM.one]
@[simp] theorem one_int (k : IntKind) (n : Int) : VM.one (Value.int k n) = true := rfl
@[simp] theorem one_bool (b : Bool) : VM.one (Value.bool b) = true := rfl
@[simp] theorem one_str (b : ByteArray) : VM.one (Value.string b) = true := rfl
@[simp] theorem one_sl (a : Option Addr) (n c : Nat) : VM.one (Value.slice a n c) = true := rfl
@[simp] theorem one_ptr (a : Option Addr) : VM.one (Value.pointer a) = true := rfl
@[simp] theorem cells_int (k : IntKind) (n : Int) : (Value.int k n).cells = #[.int k n] := rfl
@[simp] theorem cells_bool (b : Bool) : (Value.bool b).cells = #[.bool b] := rfl
@[simp] theorem cells_str (b : ByteArray) : (Value.string b).cells = #[.string b] := rfl
@[simp] theorem cells_sl (a : Option Addr) (n c : Nat) : (Value.slice a n c).cells = #[.slice a n c] := rfl
@[simp] theorem cells_ptr (a : Option Addr) : (Value.pointer a).cells = #[.pointer a] := rfl
@[simp] theorem cells_agg (a : Array Value) : (Value.agg a).cells = a := rfl
@[simp] theorem app_get (H L : Heap) (i : Nat) : (H ++ L)[H.length + i]? = L[i]? := by rw [List.getElem?_append_right (by omega), Nat.add_sub_cancel_left]
@[simp] theorem app_get0 (H L : Heap) : (H ++ L)[H.length]? = L[0]? := by rw [List.getElem?_append_right (by omega), Nat.sub_self]
@[simp] theorem app_set (H L : Heap) (i : Nat) (r : Row) : (H ++ L).set (H.length + i) r = H ++ L.set i r := by rw [List.set_append_right _ _ (by omega), Nat.add_sub_cancel_left]
@[simp] theorem app_set0 (H L : Heap) (r : Row) : (H ++ L).set H.length r = H ++ L.set 0 r := by rw [List.set_append_right _ _ (by omega), Nat.sub_self]
@[simp] theorem look_app (H L : Heap) (i o : Nat) (s : Option Nat) : look (H ++ L) ⟨H.length + i, o, s⟩ = look L ⟨i, o, s⟩ := by simp [look]
@[simp] theorem look_app0 (H L : Heap) (o : Nat) (s : Option Nat) : look (H ++ L) ⟨H.length, o, s⟩ = look L ⟨0, o, s⟩ := by simp [look]
@[simp] theorem look_zero (r : Row) (L : Heap) (o : Nat) (s : Option Nat) : look (r :: L) ⟨0, o, s⟩ = if s = some r.gen then some r else none := rfl
@[simp] theorem look_succ (r : Row) (L : Heap) (n o : Nat) (s : Option Nat) : look (r :: L) ⟨n + 1, o, s⟩ = look L ⟨n, o, s⟩ := rfl

@[simp] theorem splice_succ (a : Value) (l cs : List Value) (o : Nat) : splice (a :: l) (o + 1) cs = a :: splice l o cs := by simp [splice, Nat.add_right_comm o 1]
@[simp] theorem splice_cons (a c : Value) (l cs : List Value) : splice (a :: l) 0 (c :: cs) = c :: splice l 0 cs := by simp [splice]
@[simp] theorem splice_nil (l : List Value) : splice l 0 [] = l := by simp [splice]
/-- filling a row from the left -/
theorem splice_fill {α : Type} (f : α → Value) (z : Value) (xs : List α) (i : Nat) (h : i < xs.length) : splice ((xs.take i).map f ++ List.replicate (xs.length - i) z) i [f xs[i]] = (xs.take (i + 1)).map f ++ List.replicate (xs.length - (i + 1)) z := by
  have h1 : ((xs.take i).map f).length = i := by simp; omega
  unfold splice
  rw [List.take_append_of_le_length (by omega), List.take_of_length_le (by omega), List.drop_append, List.drop_of_length_le (by simp; omega), h1]
  rw [List.take_succ_eq_append_getElem h]
  simp only [List.map_append, List.map_cons, List.map_nil, List.nil_append, List.length_cons, List.length_nil, List.drop_replicate]
  congr 2; omega
/-- the same, as simp writes it -/
theorem splice_fill' {α : Type} (f : α → Value) (z : Value) (xs : List α) (i : Nat) (h : i < xs.length) : splice ((xs.map f).take i ++ List.replicate (xs.length - i) z) i [f xs[i]] = (xs.map f).take (i + 1) ++ List.replicate (xs.length - (i + 1)) z := by
  have := splice_fill f z xs i h
  simpa only [List.map_take] using this
theorem scrub_ints (n : Nat) (k : IntKind) (xs : List Int) : (xs.map (Value.int k)).map (scrub n) = xs.map (.int k) := by
  rw [List.map_map]; rfl

@[simp] theorem add_lt_me (a n : Nat) : (a + n < a) = False := by simp
@[simp] theorem me_le_add (a n : Nat) : (a ≤ a + n) = True := by simp
theorem vbin_beq (hb : P.underlying ty = some .bool) (a b : Bool) : vbin P .eql ty (.bool a) (.bool b) = some (.bool (a == b)) := by simp [vbin, hb]
theorem vbin_bne (hb : P.underlying ty = some .bool) (a b : Bool) : vbin P .neq ty (.bool a) (.bool b) = some (.bool (!(a == b))) := by simp [vbin, hb, bne]
@[simp] theorem vbin_streq (a b : ByteArray) : vbin P .eql ty (.string a) (.string b) = some (.bool (a.toList == b.toList)) := rfl
@[simp] theorem vbin_strne (a b : ByteArray) : vbin P .neq ty (.string a) (.string b) = some (.bool (!(a.toList == b.toList))) := rfl
@[simp] theorem vbin_strlss (a b : ByteArray) : vbin P .lss ty (.string a) (.string b) = some (.bool (Op.bytesLess a.toList b.toList)) := rfl
/-- a row of numbers among the new rows -/
theorem IsI.at {L : Heap} {k : Nat} {g : Nat} {e : TypeId} (h : L[k]? = some ⟨xs.map (.int .i64), g, e⟩) : IsI (H ++ L) (.slice (some ⟨H.length + k, 0, some g⟩) xs.length 0) xs :=
  IsI.row (r := ⟨xs.map (.int .i64), g, e⟩) (by simpa using h) rfl
theorem IsI.at0 {L : Heap} {g : Nat} {e : TypeId} (h : L[0]? = some ⟨xs.map (.int .i64), g, e⟩) : IsI (H ++ L) (.slice (some ⟨H.length, 0, some g⟩) xs.length 0) xs :=
  IsI.row (r := ⟨xs.map (.int .i64), g, e⟩) (by simpa using h) rfl
@[simp] theorem scrub_intC (n : Nat) (k : IntKind) : (scrub n ∘ Value.int k) = Value.int k := rfl
@[simp] theorem take_len_map {α β : Type} (xs : List α) (f : α → β) : (xs.map f).take xs.length = xs.map f := List.take_of_length_le (by simp)

/-- a loop: what holds at each round; everything ends in z -/
theorem go_inv {F : Frm} {k : List Itm} {B : Code} {z : Option (Value × Heap)} (I : Nat → Env → Heap → Prop)
    (round : ∀ n t H, I n t H → (∀ m t' H', I m t' H' → m < n → go F (.again B :: k) .normal t' H' = z) → go F (.code B :: .again B :: k) .normal t H = z)
    {n : Nat} (h : I n t H) : go F (.code (.loop B) :: k) .normal t H = z := by
  induction n using Nat.strongRecOn generalizing t H with
  | _ n ih =>
    rw [go_loop]
    exact round n t H h fun m t' H' hI hm => by rw [go_again]; exact ih m hm hI
end Go.VM
/-! What reads as a datum stands as rows. -/
set_option linter.all false
namespace Go.VM
open Go Go.RowKit Go.ChangeShapes Go.WideShapes Go.Deep

structure Kn (α : Type) where
  sz : Nat
  Is : Heap → α → List Value → Prop
  app : ∀ {H L a vs}, Is H a vs → Is (H ++ L) a vs
  len : ∀ {H a vs}, Is H a vs → vs.length = sz
/-- a slice that reads as xs, of any kind -/
def IsS {α : Type} (d : Kn α) (H : Heap) (v : Value) (xs : List α) : Prop :=
  (v = .slice none 0 0 ∧ xs = []) ∨ ∃ id off r, v = .slice (some ⟨id, off, some r.gen⟩) xs.length 0 ∧ H[id]? = some r ∧ off + xs.length * d.sz ≤ r.cells.length ∧
    ∀ j x, xs[j]? = some x → d.Is H x ((r.cells.drop (off + j * d.sz)).take d.sz)
theorem IsS.app {α : Type} {d : Kn α} {H L : Heap} {v : Value} {xs : List α} (h : IsS d H v xs) : IsS d (H ++ L) v xs := by
  rcases h with h | ⟨id, off, r, h1, h2, h3, h4⟩
  · exact .inl h
  · exact .inr ⟨id, off, r, h1, by rw [List.getElem?_append_left (List.getElem?_eq_some_iff.1 h2).1]; exact h2, h3, fun j x hx => d.app (h4 j x hx)⟩
namespace Kn
def int (k : IntKind) : Kn Int := ⟨1, fun _ a vs => vs = [.int k a], fun h => h, fun h => by rw [h]; rfl⟩
def bool : Kn Bool := ⟨1, fun _ a vs => vs = [.bool a], fun h => h, fun h => by rw [h]; rfl⟩
def string : Kn ByteArray := ⟨1, fun _ a vs => vs = [.string a], fun h => h, fun h => by rw [h]; rfl⟩
def slice {α : Type} (d : Kn α) : Kn (List α) := ⟨1, fun H xs vs => ∃ v, vs = [v] ∧ IsS d H v xs, fun ⟨v, h1, h2⟩ => ⟨v, h1, h2.app⟩, fun ⟨v, h1, _⟩ => by rw [h1]; rfl⟩
def pair {α β : Type} (d : Kn α) (d' : Kn β) : Kn (α × β) := ⟨d.sz + d'.sz, fun H x vs => ∃ v1 v2, vs = v1 ++ v2 ∧ d.Is H x.1 v1 ∧ d'.Is H x.2 v2,
  fun ⟨v1, v2, h, h1, h2⟩ => ⟨v1, v2, h, d.app h1, d'.app h2⟩, fun ⟨v1, v2, h, h1, h2⟩ => by rw [h, List.length_append, d.len h1, d'.len h2]⟩
def iso {α β : Type} (d : Kn α) (f : β → α) : Kn β := ⟨d.sz, fun H x vs => d.Is H (f x) vs, d.app, d.len⟩
end Kn
/-- a slice of numbers -/
theorem IsS.ints {H : Heap} {v : Value} {xs : List Int} (h : IsS (Kn.int .i64) H v xs) : IsI H v xs := by
  rcases h with h | ⟨id, off, r, h1, h2, h3, h4⟩
  · exact .inl h
  · have hs : (Kn.int .i64).sz = 1 := rfl
    rw [hs] at h3 h4
    refine .inr ⟨id, off, r, h1, h2, List.ext_getElem? fun j => ?_, by omega⟩
    by_cases hj : j < xs.length
    · have := h4 j xs[j] (by simp [hj])
      have e : (r.cells.drop (off + j * 1)).take 1 = [.int .i64 xs[j]] := this
      have e2 := congrArg (·[0]?) e
      simp at e2
      rw [List.getElem?_take, if_pos hj, List.getElem?_drop]
      simp [e2, hj]
    · rw [List.getElem?_take, if_neg hj, List.getElem?_eq_none (by rw [List.length_map]; omega)]

/-- the arguments' rows: nobody writes them -/
def Args (P : Program) (W : World) (H : Heap) (ι : Inj) : Prop := Rel P W.heap.size W H.length ι H W
variable {P : Program} {W : World} {H : Heap} {ι : Inj} {t e : TypeId}
/-- a program that has none of the tables -/
theorem gl_none {B : Nat} (h1 : P.globalNamed "internal/strconv.uint64pow10" = none) (h2 : P.globalNamed "strings.asciiSpace" = none) : GL P B W := fun g o v hv => by
  unfold gtab at hv
  rw [h1, h2, if_neg (by simp), if_neg (by simp)] at hv
  cases hv
theorem Args.nil (hg : GL P W.heap.size W) : Args P W [] (fun _ => none) :=
  ⟨Below.refl _ _, Nat.le_refl _, fun _ _ h => (by cases h), fun _ _ _ h => (by cases h), hg⟩
theorem Args.lt (A : Args P W H ι) {id : Nat} {l : Loc} (h : ι id = some l) : id < H.length := by
  obtain ⟨_, r, hr, _⟩ := A.row _ _ h
  exact (List.getElem?_eq_some_iff.1 hr).1
theorem Args.push (A : Args P W H ι) (r : Row) (l : Loc) (hl : l.b < W.heap.size) (hr : RowAt P H ι W r.cells l) :
    Args P W (H ++ [r]) (fun id => if id = H.length then some l else ι id) ∧ Ext H ι (H ++ [r]) (fun id => if id = H.length then some l else ι id) := by
  have E : Ext H ι (H ++ [r]) (fun id => if id = H.length then some l else ι id) := fun id q hq => by
    have hlt := (List.getElem?_eq_some_iff.1 hq).1
    exact ⟨q, by rw [List.getElem?_append_left hlt]; exact hq, rfl, Nat.le_refl _, fun _ => if_neg (by omega)⟩
  refine ⟨⟨A.below, A.hB, fun id l' h => ?_, fun id l' q h hq hf => ?_, A.gl⟩, E⟩
  · by_cases hid : id = H.length
    · simp only [hid, if_true, Option.some.injEq] at h
      subst h; subst hid
      exact ⟨hl, r, by simp, hr.mono E⟩
    · simp only [hid, if_false] at h
      obtain ⟨h1, q, hq, h2⟩ := A.row _ _ h
      exact ⟨h1, q, by rw [List.getElem?_append_left (List.getElem?_eq_some_iff.1 hq).1]; exact hq, h2.mono E⟩
  · have := (List.getElem?_eq_some_iff.1 hq).1
    omega

structure Opens {α : Type} (P : Program) (t : TypeId) (d : Kn α) (wf : α → Prop) : Prop where
  size : P.cellsOf t = d.sz
  read : ∀ {D : Type} {enc : TypeId × Value → D} {w : World} {base : Nat} {held : Bool} {fuel : Nat} {cs : List Value} {x : DataW D × List MemPlace},
    DataW.trod enc P w base (fun _ => true) held fuel t cs = some x → ∀ H ι, Args P w H ι → ∃ (a : α) (L : Heap) (ι' : Inj) (vs : List Value),
      Args P w (H ++ L) ι' ∧ Ext H ι (H ++ L) ι' ∧ LRel P (H ++ L) ι' vs cs ∧ d.Is (H ++ L) a vs ∧ wf a
theorem LRel.one' {v c : Value} (h : VRel P H ι v c) : LRel P H ι [v] [c] := ⟨rfl, fun i x y hx hy => by
  cases i with
  | zero => simp at hx hy; subst hx; subst hy; exact h
  | succ i => simp at hx⟩
theorem opens_int {k : IntKind} (ht : P.underlying t = some (.int k)) (hc : P.cellsOf t = 1) : Opens P t (Kn.int k) (fun x => (Lit.int k x).wf = true) :=
  ⟨hc, fun h H ι A => by
    obtain ⟨n, rfl, _, hw⟩ := DataW.trod_int ht h
    exact ⟨n, [], ι, [.int k n], by simpa using A, by simpa using Ext.refl H ι, LRel.one' (.int _ _), rfl, hw⟩⟩
theorem opens_bool (ht : P.underlying t = some .bool) (hc : P.cellsOf t = 1) : Opens P t Kn.bool (fun _ => True) :=
  ⟨hc, fun h H ι A => by
    obtain ⟨n, rfl, _⟩ := DataW.trod_bool ht h
    exact ⟨n, [], ι, [.bool n], by simpa using A, by simpa using Ext.refl H ι, LRel.one' (.bool _), rfl, trivial⟩⟩
theorem opens_string (ht : P.underlying t = some .string) (hc : P.cellsOf t = 1) : Opens P t Kn.string (fun s => s.size ≤ maxLen) :=
  ⟨hc, fun h H ι A => by
    obtain ⟨n, rfl, _, hw⟩ := DataW.trod_string ht h
    exact ⟨n, [], ι, [.string n], by simpa using A, by simpa using Ext.refl H ι, LRel.one' (.str _), rfl, hw⟩⟩
theorem opens_slice {α : Type} {d : Kn α} {wf : α → Prop} (ht : P.underlying t = some (.slice e)) (hc : P.cellsOf t = 1) (hz : 0 < d.sz) (h : Opens P e d wf) :
    Opens P t (Kn.slice d) (fun l => l.length ≤ maxLen ∧ ∀ x ∈ l, wf x) := by
  refine ⟨hc, fun {D enc w base held fuel cs x} hr H ι A => ?_⟩
  have none_ : ∀ c, VRel P H ι (.slice none 0 0) c → ∃ (a : List α) (L : Heap) (ι' : Inj) (vs : List Value), Args P w (H ++ L) ι' ∧ Ext H ι (H ++ L) ι' ∧ LRel P (H ++ L) ι' vs [c] ∧ (Kn.slice d).Is (H ++ L) a vs ∧ (a.length ≤ maxLen ∧ ∀ x ∈ a, wf x) := fun c hv =>
    ⟨[], [], ι, [.slice none 0 0], by simpa using A, by simpa using Ext.refl H ι, LRel.one' (by simpa using hv), ⟨_, rfl, .inl ⟨rfl, rfl⟩⟩, by simp, by simp⟩
  rcases open_slice ht hr with ⟨rfl, _⟩ | ⟨a, len, cap, m, n, DD, Pl, rfl, _, hl, hm, hmm, _, hel⟩
  · exact none_ _ .nilSl
  · simp only [if_true] at hmm
    subst hmm
    rw [h.size] at hel
    by_cases h0 : m = 0
    · subst h0
      obtain rfl : len = 0 := by omega
      exact none_ _ .noSl
    · obtain ⟨cs0, hc0, _⟩ := hel 0 (by omega)
      obtain ⟨_, hl0, hg0⟩ := World.cells?_some hc0
      have hcell := hg0 0 hz
      simp only [Nat.zero_mul, Addr.add, if_true] at hcell
      rw [List.getElem?_eq_getElem (by omega)] at hcell
      have hlt : a.block < w.heap.size ∧ a.spot = none := by
        unfold World.cell? at hcell
        split at hcell
        · rename_i hh
          refine ⟨(Array.getElem?_eq_some_iff.1 hh).1, ?_⟩
          cases hs : a.spot with
          | none => rfl
          | some q => simp [hs] at hcell
        · cases hcell
      obtain ⟨b, o, s⟩ := a
      obtain ⟨hlt, rfl⟩ : b < w.heap.size ∧ s = none := hlt
      have each : ∀ n', n' ≤ len → ∃ (xs : List α) (L : Heap) (ι' : Inj) (vs : List Value), xs.length = n' ∧ Args P w (H ++ L) ι' ∧ Ext H ι (H ++ L) ι' ∧ vs.length = n' * d.sz ∧
          (∀ j v, vs[j]? = some v → ∃ c, w.cell? ⟨b, o + j, none⟩ = some c ∧ VRel P (H ++ L) ι' v c) ∧ (∀ j x, xs[j]? = some x → d.Is (H ++ L) x ((vs.drop (j * d.sz)).take d.sz)) ∧ ∀ x ∈ xs, wf x := by
        intro n'
        induction n' with
        | zero => exact fun _ => ⟨[], [], ι, [], rfl, by simpa using A, by simpa using Ext.refl H ι, by simp, by simp, by simp, by simp⟩
        | succ n' ih =>
          intro hn
          obtain ⟨xs, L, ι1, vs, e1, e2, e3, e4, e5, e6, e7⟩ := ih (by omega)
          obtain ⟨cs', h1, h2⟩ := hel n' (by omega)
          obtain ⟨y, L2, ι2, us, f1, f2, f3, f4, f5⟩ := h.read h2 _ _ e2
          obtain ⟨_, hlc, hgc⟩ := World.cells?_some h1
          rw [List.append_assoc] at f1 f2 f3 f4
          have hus := d.len f4
          refine ⟨xs ++ [y], L ++ L2, ι2, vs ++ us, by simp [e1], f1, e3.trans f2, by rw [List.length_append, e4, hus, Nat.succ_mul], fun j v hj => ?_, fun j x hj => ?_, fun x hx => ?_⟩
          · by_cases hjl : j < vs.length
            · rw [List.getElem?_append_left hjl] at hj
              obtain ⟨c, k1, k2⟩ := e5 j v hj
              exact ⟨c, k1, k2.mono f2⟩
            · rw [List.getElem?_append_right (by omega)] at hj
              have hj' := (List.getElem?_eq_some_iff.1 hj).1
              have hg := hgc (j - vs.length) (by omega)
              rw [List.getElem?_eq_getElem (by omega)] at hg
              refine ⟨_, ?_, f3.2 _ _ _ hj (List.getElem?_eq_getElem (by omega))⟩
              rw [← hg]; congr 1
              simp only [Addr.add]
              rw [e4] at hjl ⊢
              by_cases q1 : n' * d.sz = 0 <;> by_cases q2 : j - n' * d.sz = 0 <;> simp [q1, q2] <;> omega
          · by_cases hjl : j < xs.length
            · rw [List.getElem?_append_left hjl] at hj
              have := d.app (L := L2) (e6 j x hj)
              rw [List.append_assoc] at this
              have hm1 : (j + 1) * d.sz ≤ xs.length * d.sz := Nat.mul_le_mul_right _ hjl
              rw [Nat.succ_mul, e1] at hm1
              rwa [List.drop_append_of_le_length (by omega), List.take_append_of_le_length (by rw [List.length_drop]; omega)]
            · rw [List.getElem?_append_right (by omega)] at hj
              have hj' := (List.getElem?_eq_some_iff.1 hj).1
              simp at hj'
              obtain rfl : j = xs.length := by omega
              simp at hj
              subst hj
              rw [e1, ← e4, List.drop_append_of_le_length (by omega), List.drop_of_length_le (Nat.le_refl _), List.nil_append, List.take_of_length_le (by omega)]
              exact f4
          · rcases List.mem_append.1 hx with hx | hx
            · exact e7 x hx
            · rw [List.mem_singleton.1 hx]; exact f5
      obtain ⟨xs, L, ι1, vs, e1, e2, e3, e4, e5, e6, e7⟩ := each len (Nat.le_refl _)
      have hml : len * d.sz ≤ m * d.sz := Nat.mul_le_mul_right _ hl
      obtain ⟨k1, k2⟩ := e2.push ⟨vs, 0, e⟩ ⟨b, o, m * d.sz⟩ hlt ⟨by simp only; omega, fun j v hj => e5 j v hj⟩
      rw [List.append_assoc] at k1 k2
      refine ⟨xs, L ++ [⟨vs, 0, e⟩], _, [.slice (some ⟨(H ++ L).length, 0, some 0⟩) len 0], k1, e3.trans k2, LRel.one' ?_, ⟨_, rfl, .inr ⟨_, 0, ⟨vs, 0, e⟩, by rw [e1], by simp, by rw [e1]; simp only; omega, fun j x hj => ?_⟩⟩, by omega, e7⟩
      · exact .sl (a := ⟨(H ++ L).length, 0, some 0⟩) (r := ⟨vs, 0, e⟩) (l := ⟨b, o, m * d.sz⟩) (by simp) rfl (by simp) hl (fun _ => by simp [h.size])
      · have := d.app (L := [⟨vs, 0, e⟩]) (e6 j x hj)
        rw [List.append_assoc] at this
        simpa using this
/-- Fields one behind the other, from cell o on. -/
structure OpensFs {α : Type} (P : Program) (fs : List Field) (o : Nat) (d : Kn α) (wf : α → Prop) : Prop where
  read : ∀ {D : Type} {enc : TypeId × Value → D} {w : World} {base : Nat} {held : Bool} {fuel : Nat} {cs : List Value} {xs : List (DataW D × List MemPlace)},
    cs.length = o + d.sz → xs.length = fs.length → (∀ (i : Nat) (f : Field), fs[i]? = some f → DataW.trod enc P w base (fun _ => true) held fuel f.type ((cs.drop f.offset).take (P.cellsOf f.type)) = xs[i]?) → ∀ H ι, Args P w H ι →
      ∃ (a : α) (L : Heap) (ι' : Inj) (vs : List Value), Args P w (H ++ L) ι' ∧ Ext H ι (H ++ L) ι' ∧ LRel P (H ++ L) ι' vs (cs.drop o) ∧ d.Is (H ++ L) a vs ∧ wf a
theorem opens_one {α : Type} {d : Kn α} {wf : α → Prop} {f : Field} {o : Nat} (ho : f.offset = o) (h : Opens P f.type d wf) : OpensFs P [f] o d wf := by
  refine ⟨fun {D enc w base held fuel cs xs} hl hx hf H ι A => ?_⟩
  have h0 := hf 0 f rfl
  match xs, hx with
  | [y], _ =>
    rw [ho, List.take_of_length_le (by rw [List.length_drop, h.size]; omega)] at h0
    exact h.read h0 H ι A
theorem opens_cons {α β : Type} {d : Kn α} {d' : Kn β} {wf : α → Prop} {wf' : β → Prop} {f : Field} {fs : List Field} {o o' : Nat} (ho : f.offset = o) (h : Opens P f.type d wf) (ho' : o' = o + d.sz) (h' : OpensFs P fs o' d' wf') :
    OpensFs P (f :: fs) o (Kn.pair d d') (fun x => wf x.1 ∧ wf' x.2) := by
  refine ⟨fun {D enc w base held fuel cs xs} hl hx hf H ι A => ?_⟩
  have h0 := hf 0 f rfl
  match xs, hx with
  | y :: ys, hx =>
    obtain ⟨a, L, ι1, vs, k1, k2, k3, k4, k5⟩ := h.read h0 H ι A
    have hp : (Kn.pair d d').sz = d.sz + d'.sz := rfl
    obtain ⟨b, L2, ι2, us, m1, m2, m3, m4, m5⟩ := h'.read (xs := ys) (cs := cs) (by omega) (by simpa using hx) (fun i g hg => by simpa using hf (i + 1) g (by simpa using hg)) _ _ k1
    rw [ho, h.size] at k3
    have k4' := d.app (L := L2) k4
    rw [List.append_assoc] at m1 m2 m3 m4 k4'
    have hvl := d.len k4
    refine ⟨(a, b), L ++ L2, ι2, vs ++ us, m1, k2.trans m2, ?_, ⟨vs, us, rfl, k4', m4⟩, k5, m5⟩
    have ec : cs.drop o = (cs.drop o).take d.sz ++ cs.drop o' := by rw [ho', ← List.drop_drop, List.take_append_drop]
    rw [ec]
    have hlen1 := k3.1
    refine ⟨by rw [List.length_append, List.length_append, k3.1, m3.1], fun i x y hx hy => ?_⟩
    by_cases hi : i < vs.length
    · rw [List.getElem?_append_left hi] at hx
      rw [List.getElem?_append_left (by omega)] at hy
      exact (k3.2 i x y hx hy).mono m2
    · rw [List.getElem?_append_right (by omega)] at hx
      rw [List.getElem?_append_right (by omega), ← hlen1] at hy
      exact m3.2 _ x y hx hy
theorem opens_struct {α : Type} {d : Kn α} {wf wf0 : α → Prop} {fs : List Field} (ht : P.underlying t = some (.struct fs.toArray)) (hc : P.cellsOf t = d.sz) (h : OpensFs P fs 0 d wf0) (hw : ∀ x, wf0 x → wf x) : Opens P t d wf := by
  refine ⟨hc, fun hr H ι A => ?_⟩
  obtain ⟨xs, n, _, _, hl, hlen, hf⟩ := DataW.trod_struct ht hr
  obtain ⟨a, L, ι', vs, h1, h2, h3, h4, h5⟩ := h.read (by omega) (by simpa using hlen) (fun i f hi => hf i f (by simpa using hi)) H ι A
  exact ⟨a, L, ι', vs, h1, h2, by simpa using h3, h4, hw a h5⟩
theorem opens_iso {α β : Type} {d : Kn α} {wf : α → Prop} (f : β → α) (g : α → β) (hg : ∀ a, f (g a) = a) (h : Opens P t d wf) : Opens P t (Kn.iso d f) (fun b => wf (f b)) :=
  ⟨h.size, fun hr H ι A => by
    obtain ⟨a, L, ι', vs, h1, h2, h3, h4, h5⟩ := h.read hr H ι A
    exact ⟨g a, L, ι', vs, h1, h2, h3, by show d.Is _ (f (g a)) _; rw [hg]; exact h4, by rw [hg]; exact h5⟩⟩
/-- An argument that is a struct. -/
theorem open_arg {α : Type} {d : Kn α} {wf : α → Prop} {D : Type} {enc : TypeId × Value → D} {w w1 : World} {base b0 : Nat} {held : Bool} {r : Reach} {v : Value} {dd : DataW D} {p : List MemPlace} {fs : Array Field}
    (h : Opens P t d wf) (ht : P.underlying t = some (.struct fs)) (hv : Value.okWide P w1 r b0 t v) (hd : DataW.Trod enc P w base (fun _ => true) held t v dd p) (A : Args P w H ι) :
    ∃ (a : α) (L : Heap) (ι' : Inj) (vs : List Value), Args P w (H ++ L) ι' ∧ Ext H ι (H ++ L) ι' ∧ VRel P (H ++ L) ι' (.agg vs.toArray) v ∧ d.Is (H ++ L) a vs ∧ wf a := by
  obtain ⟨cs, rfl, hsz⟩ := okWide_struct ht hv
  obtain ⟨fuel, hf⟩ := hd
  obtain ⟨a, L, ι', vs, h1, h2, h3, h4, h5⟩ := h.read (cs := cs.toList) (by simpa [Value.cells] using hf) H ι A
  exact ⟨a, L, ι', vs, h1, h2, .agg (by simpa using h3.1) fun i x y hx hy => h3.2 i x y (by simpa using hx) (by simpa using hy), h4, h5⟩
/-- An argument that is a slice. -/
theorem open_sl {α : Type} {d : Kn α} {wf : List α → Prop} {D : Type} {enc : TypeId × Value → D} {w w1 : World} {base b0 : Nat} {held : Bool} {r : Reach} {v : Value} {dd : DataW D} {p : List MemPlace}
    (h : Opens P t (Kn.slice d) wf) (ht : P.underlying t = some (.slice e)) (hv : Value.okWide P w1 r b0 t v) (hd : DataW.Trod enc P w base (fun _ => true) held t v dd p) (A : Args P w H ι) :
    ∃ (l : List α) (L : Heap) (ι' : Inj) (u : Value), Args P w (H ++ L) ι' ∧ Ext H ι (H ++ L) ι' ∧ VRel P (H ++ L) ι' u v ∧ IsS d (H ++ L) u l ∧ wf l := by
  obtain ⟨a0, len, cap, rfl⟩ := okWide_slice ht hv
  obtain ⟨fuel, hf⟩ := hd
  obtain ⟨l, L, ι', vs, h1, h2, h3, ⟨u, rfl, h4⟩, h5⟩ := h.read (cs := [.slice a0 len cap]) (by simpa [Value.cells] using hf) H ι A
  exact ⟨l, L, ι', u, h1, h2, h3.2 0 _ _ rfl rfl, h4, h5⟩
theorem LRel.cons' {l cs : List Value} {x c : Value} (h : VRel P H ι x c) (h' : LRel P H ι l cs) : LRel P H ι (x :: l) (c :: cs) :=
  ⟨by simp [h'.1], fun i a b ha hb => by
    cases i with
    | zero => simp at ha hb; subst ha; subst hb; exact h
    | succ i => exact h'.2 i a b (by simpa using ha) (by simpa using hb)⟩
theorem LRel.nil' : LRel P H ι [] [] := ⟨rfl, fun i a b ha => by simp at ha⟩
end Go.VM
