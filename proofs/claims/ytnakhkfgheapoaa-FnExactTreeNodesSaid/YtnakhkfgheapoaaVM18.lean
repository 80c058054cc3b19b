import Derived.Test.YtnakhkfgheapoaaVM17
/-! Regions that draw their order: the proof over all orders. -/
set_option linter.all false
namespace Go.VM
open Go Go.RowKit

section
variable {C : Ctx} {ops : Array Oper} {call : Nat → Calling} {frz p : Nat} {B : Nat} {w0 : World} {Ts : Nat → Env} {Hs : Nat → Heap} {vs : Nat → Value} {e0 : Env} {ι0 : Inj} {N : Nat}

/-- where a region stands, when what S tells has been done -/
structure Inv (C : Ctx) (ops : Array Oper) (frz p B : Nat) (w0 : World) (Ts : Nat → Env) (Hs : Nat → Heap) (vs : Nat → Value) (e0 : Env) (ι0 : Inj) (N : Nat)
    (S : Nat → Bool) (a : Act) (w : World) (cs : Nat → Value) (I : Nat → Inj) (h : Nat) : Prop where
  defers : a.defers = []
  size : a.tmps.size = N
  slot : ∀ x, a.tmps.getD x undef = envS ops e0 cs S ops.size x
  i0 : I 0 = ι0
  ph : p ≤ h
  hn : h ≤ ops.size
  chain : ∀ j, j < h → Ext (Hs j) (I j) (Hs (j + 1)) (I (j + 1))
  done : ∀ j, j < ops.size → S j = true → j < h
  val : ∀ j, j < ops.size → S j = true → VRel C.P (Hs (j + 1)) (I (j + 1)) (vs j) (cs j)
  stage : (h = p ∧ (∀ j, j ≤ p → Rel C.P B w0 frz (I j) (Hs j) w) ∧ ∀ j, j < p → S j = false → ∀ m id, (Hs j).length ≤ id → id < (Hs (j + 1)).length → I m id = none) ∨
    ((∀ j o, j < h → ops[j]? = some o → pureB o.op = false → S j = true) ∧ Rel C.P B w0 frz (I h) (Hs h) w)

variable (R : Run C.P frz (call frz) ops ops.toList Ts Hs vs) (hT0 : ∀ x, VRel C.P (Hs 0) ι0 (Ts 0 x) (e0 x)) (he0 : ∀ x, N ≤ x → e0 x = undef)
  (hdst : ∀ (i : Nat) (o : Oper), ops[i]? = some o → ∀ d, o.dst = some d → d < N)
  (D : Drawn C.mode ops p) (hfr : frz ≤ (Hs 0).length)
  (hcall : ∀ f, CallOk C.P (call f) f) (hkeep : ∀ f, CallKeeps f (call f)) (hind : ∀ f f' g l H, C.mode g ≠ 2 → call f g l H = call f' g l H)

include R in
theorem Ts_env : ∀ i, i ≤ ops.size → ∀ x, Ts i x = envS ops (Ts 0) vs (fun _ => true) i x
  | 0, _, _ => rfl
  | i + 1, hi, x => by
    have ih := Ts_env i (by omega)
    have ho : ops[i]? = some ops[i] := Array.getElem?_eq_getElem (by omega)
    obtain ⟨b, _, _, _, h4⟩ := R.step i ops[i] (by simp)
    rw [h4]
    simp only [envS, ho, if_true]
    rw [put_at, put_at, ih x]
include R hkeep hfr in
theorem Hs_keep : ∀ i, i ≤ ops.size → Keeps frz (Hs 0) (Hs i)
  | 0, _ => Keeps.refl _ _
  | i + 1, hi => by
    have ih := Hs_keep i (by omega)
    have ho : ops[i]? = some ops[i] := Array.getElem?_eq_getElem (by omega)
    obtain ⟨b, _, h2, h3, _⟩ := R.step i ops[i] (by simp)
    cases b with
    | true => exact ih.trans (vop_keeps (hkeep frz) (Nat.le_trans hfr ih.1) (h2 rfl))
    | false => rw [(h3 rfl).2]; exact ih
include R D hkeep hind in
/-- ahead of the first writer nothing that is there changes -/
theorem Hs_pre (i : Nat) (hi : i < p) : Keeps (Hs i).length (Hs i) (Hs (i + 1)) := by
  have hlt : i < ops.size := Nat.lt_of_lt_of_le hi D.ple
  have ho : ops[i]? = some ops[i] := Array.getElem?_eq_getElem hlt
  obtain ⟨b, _, h2, h3, _⟩ := R.step i ops[i] (by simp)
  cases b with
  | true =>
    have := h2 rfl
    rw [nonwriter_frz hind (D.nowr i _ ho hi) frz (Hs i).length] at this
    exact vop_keeps (hkeep _) (Nat.le_refl _) this
  | false => rw [(h3 rfl).2]; exact Keeps.refl _ _
include R D hkeep hind in
theorem Hs_pre_le : ∀ k i, i + k ≤ p → Keeps (Hs i).length (Hs i) (Hs (i + k))
  | 0, i, _ => Keeps.refl _ _
  | k + 1, i, h => by
    have ih := Hs_pre_le k i (by omega)
    have h1 := Hs_pre R D hkeep hind (i + k) (by omega)
    exact ih.trans ⟨h1.1, fun id g1 g2 => h1.2 id g2 g2⟩

theorem chain_le {I : Nat → Inj} {h : Nat} (hc : ∀ j, j < h → Ext (Hs j) (I j) (Hs (j + 1)) (I (j + 1))) : ∀ k i, i + k ≤ h → Ext (Hs i) (I i) (Hs (i + k)) (I (i + k))
  | 0, _, _ => Ext.refl _ _
  | k + 1, i, hk => (chain_le hc k i (by omega)).trans (hc (i + k) (by omega))

variable {S : Nat → Bool} {a : Act} {w : World} {cs : Nat → Value} {I : Nat → Inj} {h : Nat}

include hT0 in
/-- slots ahead of operation i, as far as done -/
theorem Inv.env (V : Inv C ops frz p B w0 Ts Hs vs e0 ι0 N S a w cs I h) : ∀ i, i ≤ h → ∀ x, VRel C.P (Hs i) (I i) (envS ops (Ts 0) vs S i x) (envS ops e0 cs S i x)
  | 0, _, x => by rw [V.i0]; exact hT0 x
  | i + 1, hi, x => by
    have ih := (V.env i (by omega) x).mono (V.chain i (by omega))
    have hn := V.hn
    simp only [envS]
    split
    · rename_i hs
      have ho : ops[i]? = some ops[i] := Array.getElem?_eq_getElem (by omega)
      simp only [ho, put_at]
      split
      · exact V.val i (by omega) hs
      · exact ih
    · exact ih

theorem looks_operand {o : Oper} {x : Nat} (hx : Operand.tmp x ∈ o.op.operands) : x ∈ o.looksAt ops :=
  List.mem_append_left _ (List.mem_filterMap.2 ⟨.tmp x, by simpa using hx, rfl⟩)

include R D hT0 he0 hdst in
/-- what operation i sees -/
theorem Inv.sees (V : Inv C ops frz p B w0 Ts Hs vs e0 ι0 N S a w cs I h) (hD : Down ops S) {i : Nat} {o : Oper} (ho : ops[i]? = some o) (hns : S i = false)
    (hrdy : ∀ e ∈ o.after, Region.binds .any e = true → S e.on = true) (hih : i ≤ h) :
    ∃ (t1 : Env) (a1 : Act), ERel C.P (Hs i) (I i) t1 a1.tmps ∧ (∀ call f H, vop C.P f call o.op (Ts i) H = vop C.P f call o.op t1 H) ∧ (∀ cs b, o.op ≠ .select cs b → True) ∧
      ((∀ cs b, o.op ≠ .select cs b) → execOp a.eval o = execOp a1.eval o) ∧
      (∀ b, vguard ops o (Ts i) = some b → Region.wanted o (yielded ops a.tmps) = b) ∧
      (∀ x, o.dst = some x → ∀ j q, i < j → ops[j]? = some q → S j = true → q.dst ≠ some x) := by
  have hlt : i < ops.size := (Array.getElem?_eq_some_iff.1 ho).1
  -- with i itself done the set still is closed
  have hD' : Down ops (fun j => S j || (j == i)) := by
    intro j q hq hs e he hb
    simp only [Bool.or_eq_true, beq_iff_eq] at hs ⊢
    rcases hs with hs | rfl
    · exact .inl (hD j q hq hs e he hb)
    · rw [ho] at hq; cases hq; exact .inl (hrdy e he hb)
  have hearly : ∀ j q, j < i → ops[j]? = some q → S j = true ∨ q.apart ops o = true := by
    intro j q hj hq
    rcases D.tmp i j o q ho hq hj with h1 | h1
    · have := masks_down hD' (i := i) (by simp) h1
      simp only [Bool.or_eq_true, beq_iff_eq] at this
      rcases this with h2 | h2
      · exact .inl h2
      · omega
    · exact .inr h1
  have hlate : ∀ j q, i < j → ops[j]? = some q → S j = true → o.apart ops q = true := by
    intro j q hj hq hs
    rcases D.tmp j i q o hq ho hj with h1 | h1
    · have := masks_down hD hs h1
      rw [hns] at this; cases this
    · exact h1
  have hV : ∀ x, x ∈ o.looksAt ops → Ts i x = envS ops (Ts 0) vs S i x := by
    intro x hx
    rw [Ts_env R i (by omega) x]
    refine envS_agree i fun j hj q hq hd => ?_
    rcases hearly j q hj hq with h1 | h1
    · exact ⟨h1.symm, fun _ => rfl⟩
    · exact absurd hx ((Oper.apart_spec h1).1 x hd)
  have hC : ∀ x, x ∈ o.looksAt ops → a.tmps.getD x undef = envS ops e0 cs S i x := by
    intro x hx
    rw [V.slot x, show ops.size = i + (ops.size - i) by omega]
    refine envS_above _ fun j h1 h2 hs q hq hd => ?_
    have hne : j ≠ i := fun e => by rw [e, hns] at hs; cases hs
    exact (Oper.apart_spec (hlate j q (by omega) hq hs)).2.2 x hd hx
  have hbig : ∀ x, N ≤ x → envS ops e0 cs S i x = undef := by
    intro x hx
    have := envS_above (ops := ops) (e0 := e0) (vs := cs) (S := S) (x := x) (m := 0) i (fun j _ _ _ q hq hd => absurd (hdst j q hq x hd) (Nat.not_lt.2 hx))
    rw [Nat.zero_add] at this
    rw [this]; exact he0 x hx
  let a1 : Act := ⟨(List.range N).toArray.map fun x => envS ops e0 cs S i x, []⟩
  have ha1 : ∀ x, a1.tmps.getD x undef = envS ops e0 cs S i x := by
    intro x
    simp only [a1, Array.getD_eq_getD_getElem?]
    by_cases hx : x < N
    · simp [hx]
    · rw [hbig x (by omega)]; simp [hx]
  refine ⟨envS ops (Ts 0) vs S i, a1, fun x => by rw [ha1 x]; exact V.env hT0 i hih x, fun call f H => ?_, fun _ _ _ => trivial, fun hsel => ?_, fun b hb => ?_, fun x hx j q hj hq hs => ?_⟩
  · refine vop_congr fun y hy => ?_
    cases y with
    | tmp x => exact hV x (looks_operand hy)
    | _ => rfl
  · refine execOp_congr o hsel fun y hy => ?_
    cases y with
    | tmp x => show a.tmps.getD x undef = a1.tmps.getD x undef; rw [ha1 x]; exact hC x (looks_operand hy)
    | _ => rfl
  · refine guard_ok' (P := C.P) (H := Hs i) (ι := I i) (t := Ts i) (fun j want d hg hd => ?_) hb
    have hx : d ∈ o.looksAt ops := by simp [Oper.looksAt, hg, hd]
    rw [hV d hx, hC d hx]
    exact V.env hT0 i hih d
  · exact fun hd => (Oper.apart_spec (hlate j q hj hq hs)).2.1 x hx hd
end
end Go.VM
