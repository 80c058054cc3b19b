import Derived.Test.YtnakhkfgheapoaaVM19
/-! Regions that draw their order: all orders. -/
set_option linter.all false
namespace Go.VM
open Go Go.RowKit

section
variable {C : Ctx} {ops : Array Oper} {call : Nat → Calling} {frz p : Nat} {B : Nat} {w0 : World} {Ts : Nat → Env} {Hs : Nat → Heap} {vs : Nat → Value} {e0 : Env} {ι0 : Inj} {N : Nat}
variable {S : Nat → Bool} {a : Act} {w w' : World} {cs : Nat → Value} {I I' : Nat → Inj} {h h' : Nat} {i : Nat} {o : Oper} {c : Value}

def Stands (C : Ctx) (ops : Array Oper) (frz p B : Nat) (w0 : World) (Ts : Nat → Env) (Hs : Nat → Heap) (vs : Nat → Value) (e0 : Env) (ι0 : Inj) (N : Nat) (S : Nat → Bool) (a : Act) (w : World) : Prop :=
  ∃ cs I h, Inv C ops frz p B w0 Ts Hs vs e0 ι0 N S a w cs I h

/-- an operation without rows -/
theorem Inv.light (V : Inv C ops frz p B w0 Ts Hs vs e0 ι0 N S a w cs I h) (ho : ops[i]? = some o) (hns : S i = false) (hdst : ∀ d, o.dst = some d → d < N)
    (hlate : ∀ x, o.dst = some x → ∀ j q, i < j → ops[j]? = some q → S j = true → q.dst ≠ some x)
    (hle : i ≤ h) (htail : h = i → (∀ j o, j < i → ops[j]? = some o → pureB o.op = false → S j = true) ∧ Rel C.P B w0 frz (I i) (Hs i) w)
    (hsame : Hs (i + 1) = Hs i) (hv : VRel C.P (Hs i) (I i) (vs i) c) : Stands C ops frz p B w0 Ts Hs vs e0 ι0 N (setS S i) (a.put o.dst c) w := by
  have hlt : i < ops.size := (Array.getElem?_eq_some_iff.1 ho).1
  by_cases hih : i < h
  · refine ⟨_, I, h, V.next ho hns hdst hlate V.i0 V.ph V.hn V.chain hih (Nat.le_refl _) V.val (hv.mono (V.chain i hih)) ?_⟩
    rcases V.stage with ⟨e, r, u⟩ | ⟨al, r⟩
    · exact .inl ⟨e, r, fun j hj hs => u j hj (setS_false hs).1⟩
    · exact .inr ⟨fun j q h1 h2 h3 => setS_of (al j q h1 h2 h3), r⟩
  · have hei : h = i := by omega
    obtain ⟨al, r⟩ := htail hei
    subst hei
    refine ⟨_, fun j => if j ≤ h then I j else I h, h + 1, V.next ho hns hdst hlate (by simpa using V.i0) (by have := V.ph; omega) (by omega) (fun j hj => ?_) (by omega) (by omega) (fun j hj hs => ?_) ?_ ?_⟩
    · by_cases hjh : j < h
      · simp only [if_pos (show j ≤ h by omega), if_pos (show j + 1 ≤ h by omega)]; exact V.chain j hjh
      · have : j = h := by omega
        subst this
        simp only [Nat.le_refl, if_true, if_neg (show ¬ j + 1 ≤ j by omega), hsame]
        exact Ext.refl _ _
    · have := V.done j hj hs
      simp only [if_pos (show j + 1 ≤ h by omega)]; exact V.val j hj hs
    · simp only [if_neg (show ¬ h + 1 ≤ h by omega), hsame]; exact hv
    · refine .inr ⟨fun j q h1 h2 h3 => ?_, ?_⟩
      · by_cases hjh : j < h
        · exact setS_of (al j q hjh h2 h3)
        · have : j = h := by omega
          subst this; exact setS_self
      · simp only [if_neg (show ¬ h + 1 ≤ h by omega), hsame]; exact r

variable (R : Run C.P frz (call frz) ops ops.toList Ts Hs vs) (hT0 : ∀ x, VRel C.P (Hs 0) ι0 (Ts 0 x) (e0 x)) (he0 : ∀ x, N ≤ x → e0 x = undef)
  (hdst : ∀ (i : Nat) (o : Oper), ops[i]? = some o → ∀ d, o.dst = some d → d < N)
  (D : Drawn C.mode ops p) (hfr : frz ≤ (Hs 0).length)
  (hcall : ∀ f, CallOk C.P (call f) f) (hkeep : ∀ f, CallKeeps f (call f)) (hind : ∀ f f' g l H, C.mode g ≠ 2 → call f g l H = call f' g l H)
include R hT0 he0 hdst D hfr hcall hkeep hind

theorem inv_step {Q : Exit → Act → World → Prop} {K : Act → World → Prop} (V0 : Stands C ops frz p B w0 Ts Hs vs e0 ι0 N S a w) (hD : Down ops S) (ho : ops[i]? = some o) (hns : S i = false)
    (hrdy : ∀ e ∈ o.after, Region.binds .any e = true → S e.on = true) (hK : ∀ a' w', Stands C ops frz p B w0 Ts Hs vs e0 ι0 N (setS S i) a' w' → K a' w') : wpOp C.P ops Q i K a w := by
  obtain ⟨cs, I, h, V⟩ := V0
  have hlt : i < ops.size := (Array.getElem?_eq_some_iff.1 ho).1
  unfold wpOp
  rw [ho]
  simp only []
  obtain ⟨b, hb, h2, h3, h4⟩ := R.step i o (by simpa using ho)
  have hadv : ∃ I1 h1, Inv C ops frz p B w0 Ts Hs vs e0 ι0 N S a w cs I1 h1 ∧ i ≤ h1 ∧
      (h1 = i → (∀ j o, j < i → ops[j]? = some o → pureB o.op = false → S j = true) ∧ Rel C.P B w0 frz (I1 i) (Hs i) w) := by
    by_cases hih : i < h
    · exact ⟨I, h, V, by omega, fun e => by omega⟩
    · have hD' : Down ops (fun j => S j || (j == i)) := by
        intro j q hq hs e he hbb
        simp only [Bool.or_eq_true, beq_iff_eq] at hs ⊢
        rcases hs with hs | rfl
        · exact .inl (hD j q hq hs e he hbb)
        · rw [ho] at hq; cases hq; exact .inl (hrdy e he hbb)
      have hph := V.ph
      have hall : ∀ j q, j < i → ops[j]? = some q → pureB q.op = false → S j = true := by
        intro j q hj hq hp
        rcases D.heap i j o q ho hq hj (by omega) with g | g
        · rw [hp] at g; cases g
        · have := masks_down hD' (i := i) (by simp) g
          simp only [Bool.or_eq_true, beq_iff_eq] at this
          rcases this with g2 | g2
          · exact g2
          · omega
      obtain ⟨I1, V1, _, r1⟩ := V.adv (m := i) (by omega) (by omega) (fun j h1 h2 => by
        have hq : ops[j]? = some ops[j] := Array.getElem?_eq_getElem (by omega)
        cases hp : pureB (ops[j]).op with
        | true => exact still_of R hq hp
        | false =>
          have := V.done j (by omega) (hall j _ h2 hq hp)
          omega) hall
      exact ⟨I1, i, V1, Nat.le_refl _, fun _ => ⟨hall, r1⟩⟩
  obtain ⟨I1, h1, V1, hle, htail⟩ := hadv
  obtain ⟨t1, a1, E1, hvop, _, hexec, hwant, hlate⟩ := V1.sees R hT0 he0 hdst D hD ho hns hrdy hle
  have hd := hdst i o ho
  cases b with
  | false =>
    rw [if_neg (by rw [hwant false hb]; simp)]
    obtain ⟨g1, g2⟩ := h3 rfl
    exact hK _ _ (V1.light ho hns hd hlate hle htail g2 (by rw [g1]; exact VRel.undef))
  | true =>
    rw [if_pos (hwant true hb)]
    refine .inl ?_
    have hv := h2 rfl
    have hsel : ∀ cs b, o.op ≠ .select cs b := fun cs b e => by rw [e] at hv; simp [vop] at hv
    have heq := hexec hsel
    by_cases hp : pureB o.op = true
    · have hv1 := hv
      rw [hvop] at hv1
      obtain ⟨g1, c, g2, g3⟩ := pure_ok E1 o hp hv1 w
      unfold Oper.wp
      rw [heq, g2]
      exact hK _ _ (V1.light ho hns hd hlate hle htail g1 g3)
    · have hp' : pureB o.op = false := by simpa using hp
      by_cases hih : i < h1
      · -- ahead of the first writer
        rcases V1.stage with ⟨e, r, u⟩ | ⟨al, _⟩
        · have hip : i < p := by omega
          have hv1 := hv
          rw [nonwriter_frz hind (D.nowr i o ho hip) frz (Hs i).length, hvop] at hv1
          refine oper_ok' (r i (by omega)).freeze (Nat.le_refl _) E1 (hcall _) o heq hv1 fun c w' ι' q1 q2 q3 => ?_
          have hpre := Hs_pre_le R D hkeep hind
          obtain ⟨f1, f2, f3, f4⟩ := pre_family hpre hip r (u i hip hns) (fun j hj => V1.chain j (by omega)) q2 q3
          refine hK _ _ ⟨_, _, h1, V1.next ho hns hd hlate ?_ V1.ph V1.hn (fun j hj => f1 j (by omega)) hih (Nat.le_refl _) (fun j hj hs => (V1.val j hj hs).grow (f3 (j + 1))) (q1.mono f4) (.inl ⟨e, f2, fun j hj hs m id g1 g2 => ?_⟩)⟩
          · show (fun id => if 0 ≤ i then I1 0 id else _) = ι0
            simp only [Nat.zero_le, if_true]; exact V1.i0
          · obtain ⟨s1, s2⟩ := setS_false hs
            have u1 := u j hj s1 m id g1 g2
            show (if m ≤ i then I1 m id else if (Hs i).length ≤ id ∧ id < (Hs (i + 1)).length then ι' id else I1 m id) = none
            split
            · exact u1
            · split
              · rename_i hr
                rcases Nat.lt_or_gt_of_ne s2 with hji | hji
                · have := (hpre (i - (j + 1)) (j + 1) (by omega)).1
                  rw [show j + 1 + (i - (j + 1)) = i by omega] at this
                  omega
                · have := (hpre (j - (i + 1)) (i + 1) (by omega)).1
                  rw [show i + 1 + (j - (i + 1)) = j by omega] at this
                  omega
              · exact u1
        · have := al i o hih ho hp'
          rw [hns] at this; cases this
      · have hei : h1 = i := by omega
        obtain ⟨al, r⟩ := htail hei
        subst hei
        have hv1 := hv
        rw [hvop] at hv1
        have hfi : frz ≤ (Hs h1).length := Nat.le_trans hfr (Hs_keep R hfr hkeep h1 V1.hn).1
        refine oper_ok' r hfi E1 (hcall _) o heq hv1 fun c w' ι' q1 q2 q3 => ?_
        refine hK _ _ ⟨_, fun j => if j ≤ h1 then I1 j else ι', h1 + 1, V1.next ho hns hd hlate (by simpa using V1.i0) (by have := V1.ph; omega) (by omega) (fun j hj => ?_) (by omega) (by omega) (fun j hj hs => ?_) ?_ (.inr ⟨fun j q g1 g2 g3 => ?_, ?_⟩)⟩
        · by_cases hjh : j < h1
          · simp only [if_pos (show j ≤ h1 by omega), if_pos (show j + 1 ≤ h1 by omega)]; exact V1.chain j hjh
          · have : j = h1 := by omega
            subst this
            simp only [Nat.le_refl, if_true, if_neg (show ¬ j + 1 ≤ j by omega)]
            exact q2
        · have := V1.done j hj hs
          simp only [if_pos (show j + 1 ≤ h1 by omega)]; exact V1.val j hj hs
        · simp only [if_neg (show ¬ h1 + 1 ≤ h1 by omega)]; exact q1
        · by_cases hjh : j < h1
          · exact setS_of (al j q hjh g2 g3)
          · have : j = h1 := by omega
            subst this; exact setS_self
        · simp only [if_neg (show ¬ h1 + 1 ≤ h1 by omega)]; exact q3

omit he0 hdst D hfr hcall hkeep hind in
theorem inv_end (V0 : Stands C ops frz p B w0 Ts Hs vs e0 ι0 N S a w) (hall : ∀ j, j < ops.size → S j = true) : Post C.P B w0 frz (Hs 0) ι0 (Ts ops.size) (Hs ops.size) N a w := by
  obtain ⟨cs, I, h, V⟩ := V0
  have hh : h = ops.size := by
    have := V.hn
    rcases Nat.eq_zero_or_pos ops.size with h0 | h0
    · omega
    · have := V.done (ops.size - 1) (by omega) (hall _ (by omega)); omega
  subst hh
  refine ⟨V.defers, V.size, I ops.size, ?_, ?_, fun x => ?_⟩
  · have := chain_le V.chain ops.size 0 (by omega)
    rw [Nat.zero_add, V.i0] at this; exact this
  · rcases V.stage with ⟨e, r, _⟩ | ⟨_, r⟩
    · exact r _ (by omega)
    · exact r
  · rw [V.slot x, Ts_env R ops.size (Nat.le_refl _) x]
    have := V.env hT0 ops.size (Nat.le_refl _) x
    rwa [envS_agree (S' := fun _ => true) (vs' := vs) ops.size (fun j hj _ _ _ => ⟨hall j hj, fun _ => rfl⟩)] at this

theorem any_ok {Q : Exit → Act → World → Prop} (hQ : ∀ a w, Post C.P B w0 frz (Hs 0) ι0 (Ts ops.size) (Hs ops.size) N a w → Q .normal a w) : ∀ (fuel : Nat) (listed : Array Bool) (a : Act) (w : World), listed.size = ops.size →
    ((List.range ops.size).filter fun i => !listed.getD i false).length ≤ fuel → Stands C ops frz p B w0 Ts Hs vs e0 ι0 N (fun j => listed.getD j false) a w → Down ops (fun j => listed.getD j false) →
    wpAny C.P .any ops Q fuel listed a w := by
  intro fuel
  have hget : ∀ (listed : Array Bool) i, listed.size = ops.size → i < ops.size → listed.getD i true = listed.getD i false := by
    intro listed i hs hi
    simp only [Array.getD_eq_getD_getElem?, Array.getElem?_eq_getElem (show i < listed.size by omega), Option.getD_some]
  have hready : ∀ (listed : Array Bool), listed.size = ops.size → Region.ready .any ops listed = [] → ∀ j, j < ops.size → listed.getD j false = true := by
    intro listed hs hr j
    induction j using Nat.strongRecOn with
    | _ j ih =>
      intro hj
      cases hl : listed.getD j false with
      | true => rfl
      | false =>
        have ho : ops[j]? = some ops[j] := Array.getElem?_eq_getElem hj
        have hm : j ∈ Region.ready .any ops listed := by
          unfold Region.ready
          rw [List.mem_filter]
          refine ⟨by simpa using hj, ?_⟩
          simp only [hget listed j hs hj, hl, ho, Bool.not_false, Bool.true_and, Option.map_some, Option.getD_some, Array.all_eq_true_iff_forall_mem]
          intro e he
          cases hb : Region.binds .any e with
          | false => simp
          | true =>
            have := ih e.on (D.back j _ ho e he hb) (by have := D.back j _ ho e he hb; omega)
            simp [this]
        rw [hr] at hm; cases hm
  induction fuel with
  | zero =>
    intro listed a w hs hf V hD
    have hnone : ∀ j, j < ops.size → listed.getD j false = true := by
      intro j hj
      cases hl : listed.getD j false with
      | true => rfl
      | false =>
        have : j ∈ (List.range ops.size).filter fun i => !listed.getD i false := by rw [List.mem_filter]; exact ⟨by simpa using hj, by rw [hl]; rfl⟩
        have h0 : ((List.range ops.size).filter fun i => !listed.getD i false) = [] := List.eq_nil_of_length_eq_zero (by omega)
        rw [h0] at this; cases this
    refine ⟨?_, hQ _ _ (inv_end R hT0 V hnone)⟩
    unfold Region.ready
    rw [List.filter_eq_nil_iff]
    intro j hj
    have hj' : j < ops.size := by simpa using hj
    rw [hget listed j hs hj', hnone j hj']; simp
  | succ fuel ih =>
    intro listed a w hs hf V hD
    refine ⟨fun hr => hQ _ _ (inv_end R hT0 V (hready listed hs hr)), fun i hi => ?_⟩
    unfold Region.ready at hi
    rw [List.mem_filter] at hi
    have hlt : i < ops.size := by simpa using hi.1
    have ho : ops[i]? = some ops[i] := Array.getElem?_eq_getElem hlt
    have h2 := hi.2
    simp only [hget listed i hs hlt, ho, Option.map_some, Option.getD_some, Bool.and_eq_true, Array.all_eq_true_iff_forall_mem] at h2
    have hns : listed.getD i false = false := by simpa using h2.1
    have hS : (fun j => (listed.setIfInBounds i true).getD j false) = setS (fun j => listed.getD j false) i := by
      funext j
      simp only [setS, Array.getD_eq_getD_getElem?]
      by_cases hji : j = i
      · subst hji; simp [hs, hlt]
      · rw [Array.getElem?_setIfInBounds_ne (Ne.symm hji)]; simp [hji]
    have hrdy : ∀ e ∈ (ops[i]).after, Region.binds .any e = true → listed.getD e.on false = true := fun e he hb => by
      have := h2.2 e he; simpa [hb] using this
    refine inv_step R hT0 he0 hdst D hfr hcall hkeep hind V hD ho hns hrdy fun a' w' V' => ?_
    refine ih _ _ _ (by simpa using hs) ?_ (by rw [hS]; exact V') ?_
    · have hfe : ((List.range ops.size).filter fun j => !(listed.setIfInBounds i true).getD j false) = ((List.range ops.size).filter fun j => !listed.getD j false).filter fun j => !(j == i) := by
        rw [List.filter_filter]
        apply List.filter_congr
        intro j _
        have := congrFun hS j
        rw [this]; simp [setS, Bool.and_comm]
      rw [hfe]
      have hmem : i ∈ (List.range ops.size).filter fun j => !listed.getD j false := by rw [List.mem_filter]; exact ⟨by simpa using hlt, by rw [hns]; rfl⟩
      have : (((List.range ops.size).filter fun j => !listed.getD j false).filter fun j => !(j == i)).length < ((List.range ops.size).filter fun j => !listed.getD j false).length := by
        rw [List.length_filter_lt_length_iff_exists]
        exact ⟨i, hmem, by simp⟩
      omega
    · rw [hS]
      intro j q hq hsj e he hb
      simp only [setS, Bool.or_eq_true, beq_iff_eq] at hsj ⊢
      rcases hsj with g | rfl
      · exact .inl (hD j q hq g e he hb)
      · rw [ho] at hq; cases hq; exact .inl (hrdy e he hb)
end

theorem drawOk_holds (C : Ctx) (hm : C.P.follows .mixedOrders = true) : DrawOk C := by
  intro id ops call frz hok hcall hkeep hind t H t' H' ι a w B w0 hv Rl hf E hd hdst
  obtain ⟨Ts, Hs, vs, R, e1, e2, e3, e4⟩ := run_of_vops _ _ _ hv
  have D := drawn_of hok
  have hsz : ops.toList.length = ops.size := by simp
  rw [hsz] at e3 e4
  subst e1; subst e2; subst e3; subst e4
  refine wp_region_any hm ?_
  have hw : ({ w with drawn := w.drawn + 1 } : World) = w.drew := rfl
  rw [hw]
  have hEq : ∀ x, VRel C.P (Hs 0) ι (Ts 0 x) ((fun x => a.tmps.getD x undef) x) := E
  have hkl := Hs_pre_le R D hkeep hind
  have Rd := Rl.drew
  refine any_ok R hEq (N := a.tmps.size) (fun x hx => by simp [Array.getD_eq_getD_getElem?, hx]) (fun i o ho d hd' => hdst o (List.mem_of_getElem? (by simpa using ho)) d hd') D hf hcall hkeep hind
    (B := B) (w0 := w0) (fun a w hp => ⟨trivial, hp⟩) ops.size _ a w.drew (by simp) ?_ ?_ ?_
  · exact Nat.le_trans (List.length_filter_le _ _) (by simp)
  · -- nothing has been done: each stage's rows are the first's
    refine ⟨fun _ => undef, fun j id => if id < (Hs 0).length then ι id else none, _, ⟨hd, rfl, fun x => ?_, ?_, Nat.le_refl _, D.ple, fun j hj => ?_, fun j hj hs => ?_, fun j hj hs => ?_, .inl ⟨rfl, fun j hj => ?_, fun j hj _ m id h1 h2 => ?_⟩⟩⟩
    · rw [envS_agree (S' := fun _ => false) (vs' := fun _ => undef) ops.size (fun j hj _ _ _ => ⟨by simp [Array.getD_eq_getD_getElem?, hj], fun _ => rfl⟩)]
      have := envS_above (ops := ops) (e0 := fun x => a.tmps.getD x undef) (vs := fun _ => undef) (S := fun _ => false) (x := x) (m := 0) ops.size (fun j _ _ hs => by cases hs)
      rw [Nat.zero_add] at this; rw [this]; rfl
    · funext id
      by_cases hid : id < (Hs 0).length
      · rw [if_pos hid]
      · rw [if_neg hid]
        cases hl : ι id with
        | none => rfl
        | some l => exact absurd (Rl.lt hl) hid
    · intro id r hr
      have h1 := hkl 1 j (by omega)
      have hid := (List.getElem?_eq_some_iff.1 hr).1
      exact ⟨r, by rw [h1.2 id hid hid]; exact hr, rfl, Nat.le_refl _, fun _ => rfl⟩
    · simp [Array.getD_eq_getD_getElem?, hj] at hs
    · simp [Array.getD_eq_getD_getElem?, hj] at hs
    · have hI : (fun id => if id < (Hs 0).length then ι id else none) = ι := by
        funext id
        by_cases hid : id < (Hs 0).length
        · rw [if_pos hid]
        · rw [if_neg hid]
          cases hl : ι id with
          | none => rfl
          | some l => exact absurd (Rl.lt hl) hid
      rw [hI]
      have hk := hkl j 0 (by omega)
      rw [Nat.zero_add] at hk
      have hEx : Ext (Hs 0) ι (Hs j) ι := fun id r hr => by
        have hid := (List.getElem?_eq_some_iff.1 hr).1
        exact ⟨r, by rw [hk.2 id hid hid]; exact hr, rfl, Nat.le_refl _, fun _ => rfl⟩
      refine ⟨Rd.below, Rd.hB, fun id l hl => ?_, fun id l r hl hr hf' => ?_⟩
      · obtain ⟨g1, r, g2, g3⟩ := Rd.row id l hl
        have hid := (List.getElem?_eq_some_iff.1 g2).1
        exact ⟨g1, r, by rw [hk.2 id hid hid]; exact g2, g3.mono hEx⟩
      · have hid := Rd.lt hl
        rw [hk.2 id hid hid] at hr
        exact Rd.own id l r hl hr hf'
    · have := (hkl j 0 (by omega)).1
      rw [Nat.zero_add] at this
      show (if id < (Hs 0).length then ι id else none) = none
      rw [if_neg (by omega)]
  · intro j q hq hs
    have hj := (Array.getElem?_eq_some_iff.1 hq).1
    simp [Array.getD_eq_getD_getElem?, hj] at hs
end Go.VM
