import Derived.Test.YtnakhkfgheapoaaVM18
/-! Regions that draw their order: one operation, and the end. -/
set_option linter.all false
namespace Go.VM
open Go Go.RowKit

section
variable {C : Ctx} {ops : Array Oper} {call : Nat → Calling} {frz p : Nat} {B : Nat} {w0 : World} {Ts : Nat → Env} {Hs : Nat → Heap} {vs : Nat → Value} {e0 : Env} {ι0 : Inj} {N : Nat}
variable {S : Nat → Bool} {a : Act} {w w' : World} {cs : Nat → Value} {I I' : Nat → Inj} {h h' : Nat} {i : Nat} {o : Oper} {c : Value}

def setS (S : Nat → Bool) (i : Nat) : Nat → Bool := fun j => S j || (j == i)
theorem setS_of {j : Nat} (h : S j = true) : setS S i j = true := by simp [setS, h]
theorem setS_self : setS S i i = true := by simp [setS]
theorem setS_false {j : Nat} (h : setS S i j = false) : S j = false ∧ j ≠ i := by simp [setS] at h; exact h

theorem Inv.next (V : Inv C ops frz p B w0 Ts Hs vs e0 ι0 N S a w cs I h) (ho : ops[i]? = some o) (hns : S i = false) (hdst : ∀ d, o.dst = some d → d < N)
    (hlate : ∀ x, o.dst = some x → ∀ j q, i < j → ops[j]? = some q → S j = true → q.dst ≠ some x)
    (hI0 : I' 0 = ι0) (hph : p ≤ h') (hn' : h' ≤ ops.size) (chain' : ∀ j, j < h' → Ext (Hs j) (I' j) (Hs (j + 1)) (I' (j + 1))) (hi : i < h') (hh : h ≤ h')
    (hval : ∀ j, j < ops.size → S j = true → VRel C.P (Hs (j + 1)) (I' (j + 1)) (vs j) (cs j)) (hnew : VRel C.P (Hs (i + 1)) (I' (i + 1)) (vs i) c)
    (hst : (h' = p ∧ (∀ j, j ≤ p → Rel C.P B w0 frz (I' j) (Hs j) w') ∧ ∀ j, j < p → setS S i j = false → ∀ m id, (Hs j).length ≤ id → id < (Hs (j + 1)).length → I' m id = none) ∨
      ((∀ j o, j < h' → ops[j]? = some o → pureB o.op = false → setS S i j = true) ∧ Rel C.P B w0 frz (I' h') (Hs h') w')) :
    Inv C ops frz p B w0 Ts Hs vs e0 ι0 N (setS S i) (a.put o.dst c) w' (fun j => if j = i then c else cs j) I' h' := by
  have hlt : i < ops.size := (Array.getElem?_eq_some_iff.1 ho).1
  refine ⟨by rw [Act.put_defers]; exact V.defers, by rw [Act.put_size]; exact V.size, fun x => ?_, hI0, hph, hn', chain', fun j hj hs => ?_, fun j hj hs => ?_, hst⟩
  · by_cases hd : o.dst = some x
    · have hxN := hdst x hd
      have e1 : (a.put o.dst c).tmps.getD x undef = c := by
        rw [hd]; simp [Act.put, Array.getD_eq_getD_getElem?, V.size, hxN]
      rw [e1, show ops.size = (i + 1) + (ops.size - (i + 1)) by omega]
      rw [envS_above _ fun j h1 h2 hs q hq => ?_]
      · rw [envS_at setS_self ho hd]; simp
      · have hs' : S j = true := by simp [setS] at hs; rcases hs with h3 | h3; exact h3; omega
        exact hlate x hd j q (by omega) hq hs'
    · have e1 : (a.put o.dst c).tmps.getD x undef = a.tmps.getD x undef := by
        cases hq : o.dst with
        | none => rfl
        | some d =>
          have hne : d ≠ x := fun e => hd (by rw [hq, e])
          simp only [Act.put, Array.getD_eq_getD_getElem?]
          rw [Array.getElem?_setIfInBounds_ne hne]
      rw [e1, V.slot x]
      refine envS_agree _ fun j hj q hq hdq => ?_
      have hne : j ≠ i := fun e => by rw [e, ho] at hq; cases hq; exact hd hdq
      exact ⟨by simp [setS, hne], fun _ => by simp [hne]⟩
  · by_cases hji : j = i
    · omega
    · have hs' : S j = true := by simp [setS] at hs; rcases hs with h3 | h3; exact h3; exact absurd h3 hji
      have := V.done j hj hs'; omega
  · by_cases hji : j = i
    · subst hji; simpa using hnew
    · have hs' : S j = true := by simp [setS] at hs; rcases hs with h3 | h3; exact h3; exact absurd h3 hji
      simp only [if_neg hji]; exact hval j hj hs'

/-- rows stand still from h to m -/
theorem Inv.adv (V : Inv C ops frz p B w0 Ts Hs vs e0 ι0 N S a w cs I h) {m : Nat} (hm : h ≤ m) (hmn : m ≤ ops.size) (hsame : ∀ j, h ≤ j → j < m → Hs (j + 1) = Hs j)
    (hall : ∀ j o, j < m → ops[j]? = some o → pureB o.op = false → S j = true) :
    ∃ I', Inv C ops frz p B w0 Ts Hs vs e0 ι0 N S a w cs I' m ∧ (∀ j, j ≤ h → I' j = I j) ∧ Rel C.P B w0 frz (I' m) (Hs m) w := by
  have hHs : ∀ k, h + k ≤ m → Hs (h + k) = Hs h := by
    intro k
    induction k with
    | zero => intro _; rfl
    | succ k ih => intro hk; rw [← Nat.add_assoc, hsame (h + k) (by omega) (by omega)]; exact ih (by omega)
  have hR : Rel C.P B w0 frz (I h) (Hs h) w := by
    rcases V.stage with ⟨h1, h2, _⟩ | ⟨_, h2⟩
    · subst h1; exact h2 h (Nat.le_refl _)
    · exact h2
  have hHm : Hs m = Hs h := by have := hHs (m - h) (by omega); rwa [show h + (m - h) = m by omega] at this
  have hIm : (fun j => if j ≤ h then I j else I h) m = I h := by
    by_cases hmh : m ≤ h
    · have : m = h := by omega
      subst this; simp
    · simp [hmh]
  refine ⟨fun j => if j ≤ h then I j else I h, ⟨V.defers, V.size, V.slot, by simpa using V.i0, Nat.le_trans V.ph hm, hmn, fun j hj => ?_, fun j hj hs => Nat.lt_of_lt_of_le (V.done j hj hs) hm, fun j hj hs => ?_,
    .inr ⟨hall, ?_⟩⟩, fun j hj => by simp [hj], ?_⟩
  · by_cases hjh : j < h
    · simp only [if_pos (show j ≤ h by omega), if_pos (show j + 1 ≤ h by omega)]; exact V.chain j hjh
    · have e1 : Hs (j + 1) = Hs j := hsame j (by omega) hj
      have e2 : (if j ≤ h then I j else I h) = I h := by
        by_cases hjj : j ≤ h
        · have : j = h := by omega
          subst this; simp
        · simp [hjj]
      simp only [if_neg (show ¬ j + 1 ≤ h by omega), e2, e1]
      exact Ext.refl _ _
  · have := V.done j hj hs
    simp only [if_pos (show j + 1 ≤ h by omega)]; exact V.val j hj hs
  · show Rel C.P B w0 frz ((fun j => if j ≤ h then I j else I h) m) (Hs m) w
    rw [hIm, hHm]; exact hR
  · show Rel C.P B w0 frz ((fun j => if j ≤ h then I j else I h) m) (Hs m) w
    rw [hIm, hHm]; exact hR

variable (R : Run C.P frz (call frz) ops ops.toList Ts Hs vs) (hT0 : ∀ x, VRel C.P (Hs 0) ι0 (Ts 0 x) (e0 x)) (he0 : ∀ x, N ≤ x → e0 x = undef)
  (hdst : ∀ (i : Nat) (o : Oper), ops[i]? = some o → ∀ d, o.dst = some d → d < N)
  (D : Drawn C.mode ops p) (hfr : frz ≤ (Hs 0).length)
  (hcall : ∀ f, CallOk C.P (call f) f) (hkeep : ∀ f, CallKeeps f (call f)) (hind : ∀ f f' g l H, C.mode g ≠ 2 → call f g l H = call f' g l H)

include R in
theorem still_of {j : Nat} {q : Oper} (hq : ops[j]? = some q) (hp : pureB q.op = true) : Hs (j + 1) = Hs j := by
  obtain ⟨b, _, h2, h3, _⟩ := R.step j q (by simpa using hq)
  cases b with
  | true => exact pure_heap hp (h2 rfl)
  | false => exact (h3 rfl).2

/-- ahead of the first writer: rows of operation i come in between -/
theorem pre_family {ι' : Inj} (hpre : ∀ k i, i + k ≤ p → Keeps (Hs i).length (Hs i) (Hs (i + k))) (hip : i < p)
    (hst : ∀ j, j ≤ p → Rel C.P B w0 frz (I j) (Hs j) w) (hun : ∀ m id, (Hs i).length ≤ id → id < (Hs (i + 1)).length → I m id = none) (hchain : ∀ j, j < p → Ext (Hs j) (I j) (Hs (j + 1)) (I (j + 1)))
    (E : Ext (Hs i) (I i) (Hs (i + 1)) ι') (R' : Rel C.P w.heap.size w (Hs i).length ι' (Hs (i + 1)) w') :
    let I' : Nat → Inj := fun j id => if j ≤ i then I j id else if (Hs i).length ≤ id ∧ id < (Hs (i + 1)).length then ι' id else I j id
    (∀ j, j < p → Ext (Hs j) (I' j) (Hs (j + 1)) (I' (j + 1))) ∧ (∀ j, j ≤ p → Rel C.P B w0 frz (I' j) (Hs j) w') ∧ (∀ j id l, I j id = some l → I' j id = some l) ∧
    Ext (Hs (i + 1)) ι' (Hs (i + 1)) (I' (i + 1)) := by
  intro I'
  have hlen : (Hs i).length ≤ (Hs (i + 1)).length := (hpre 1 i (by omega)).1
  -- same rows, same generations
  have hsame : ∀ {j k id : Nat} {r : Row}, j + k ≤ p → (Hs j)[id]? = some r → (Hs (j + k))[id]? = some r := by
    intro j k id r hjk hr
    have hlt := (List.getElem?_eq_some_iff.1 hr).1
    rw [(hpre k j hjk).2 id hlt hlt]; exact hr
  have hgrow : ∀ j id l, I j id = some l → I' j id = some l := by
    intro j id l hl
    simp only [I']
    split
    · exact hl
    · split
      · rename_i hr; rw [hun j id hr.1 hr.2] at hl; cases hl
      · exact hl
  have hIeq : ∀ j id, j < p → id < (Hs j).length → I (j + 1) id = I j id := by
    intro j id hj hid
    obtain ⟨r', h1, _, _, h4⟩ := hchain j hj id _ (List.getElem?_eq_getElem hid)
    have := hsame (j := j) (k := 1) (by omega) (List.getElem?_eq_getElem hid)
    rw [this] at h1; cases h1
    exact h4 rfl
  have chain' : ∀ j, j < p → Ext (Hs j) (I' j) (Hs (j + 1)) (I' (j + 1)) := by
    intro j hj id r hr
    have hid := (List.getElem?_eq_some_iff.1 hr).1
    refine ⟨r, hsame (k := 1) (by omega) hr, rfl, Nat.le_refl _, fun _ => ?_⟩
    simp only [I']
    by_cases h1 : j + 1 ≤ i
    · rw [if_pos h1, if_pos (show j ≤ i by omega)]; exact hIeq j id hj hid
    · rw [if_neg h1]
      by_cases h2 : j ≤ i
      · have : j = i := by omega
        subst this
        rw [if_pos (Nat.le_refl _), if_neg (show ¬ ((Hs j).length ≤ id ∧ id < (Hs (j + 1)).length) by omega)]; exact hIeq _ id hj hid
      · rw [if_neg h2]
        split
        · rfl
        · exact hIeq j id hj hid
  have Enew : Ext (Hs (i + 1)) ι' (Hs (i + 1)) (I' (i + 1)) := by
    intro id r hr
    have hid := (List.getElem?_eq_some_iff.1 hr).1
    refine ⟨r, hr, rfl, Nat.le_refl _, fun _ => ?_⟩
    simp only [I']
    rw [if_neg (show ¬ i + 1 ≤ i by omega)]
    by_cases h1 : (Hs i).length ≤ id
    · rw [if_pos ⟨h1, hid⟩]
    · rw [if_neg (show ¬ ((Hs i).length ≤ id ∧ id < (Hs (i + 1)).length) by omega), hIeq i id hip (by omega)]
      obtain ⟨r', g1, _, _, g4⟩ := E id _ (List.getElem?_eq_getElem (show id < (Hs i).length by omega))
      have := hsame (j := i) (k := 1) (by omega) (List.getElem?_eq_getElem (show id < (Hs i).length by omega))
      have e1 := Option.some.inj (this.symm.trans g1)
      exact (g4 (by rw [← e1])).symm
  have hle : ∀ k j, j + k ≤ p → Ext (Hs j) (I' j) (Hs (j + k)) (I' (j + k)) := fun k j hk => chain_le (h := p) chain' k j hk
  refine ⟨chain', fun j hj => ?_, hgrow, Enew⟩
  have Rj := hst j hj
  by_cases hji : j ≤ i
  · have : I' j = I j := by funext id; simp only [I', if_pos hji]
    rw [this]; exact Rj.of_below R'.below
  · have hBw := Rj.hB
    have hsz := R'.below.size
    have cases' : ∀ {id : Nat} {l : Loc}, I' j id = some l → ((Hs i).length ≤ id ∧ id < (Hs (i + 1)).length ∧ ι' id = some l) ∨ I j id = some l := by
      intro id l hl
      simp only [I', if_neg hji] at hl
      split at hl
      · rename_i hr; exact .inl ⟨hr.1, hr.2, hl⟩
      · exact .inr hl
    have hrow : ∀ {id : Nat} {r : Row}, (Hs (i + 1))[id]? = some r → (Hs j)[id]? = some r := by
      intro id r hr
      have := hsame (j := i + 1) (k := j - (i + 1)) (by omega) hr
      rwa [show i + 1 + (j - (i + 1)) = j by omega] at this
    refine ⟨Rj.below.trans (R'.below.mono hBw), by omega, fun id l hl => ?_, fun id l r hl hr hf => ?_⟩
    · rcases cases' hl with ⟨h1, h2, h3⟩ | h3
      · obtain ⟨g1, r, g2, g3⟩ := R'.row id l h3
        refine ⟨g1, r, hrow g2, g3.1, fun k v hv => ?_⟩
        obtain ⟨c, q1, q2⟩ := g3.2 k v hv
        have := (q2.mono Enew).mono (hle (j - (i + 1)) (i + 1) (by omega))
        rw [show i + 1 + (j - (i + 1)) = j by omega] at this
        exact ⟨c, q1, this⟩
      · obtain ⟨g1, r, g2, g3⟩ := Rj.row id l h3
        refine ⟨by omega, r, g2, g3.1, fun k v hv => ?_⟩
        obtain ⟨c, q1, q2⟩ := g3.2 k v hv
        exact ⟨c, by rw [R'.below.cell (by simpa [Loc.at] using g1)]; exact q1, q2.grow (hgrow j)⟩
    · rcases cases' hl with ⟨h1, h2, h3⟩ | h3
      · obtain ⟨_, r', g2, _⟩ := R'.row id l h3
        have := hrow g2
        rw [this] at hr; cases hr
        obtain ⟨q1, q2, q3⟩ := R'.own id l _ h3 g2 h1
        refine ⟨by omega, q2, fun id' l' hl' hb => ?_⟩
        rcases cases' hl' with ⟨_, _, k3⟩ | k3
        · exact q3 id' l' k3 hb
        · have := (Rj.row id' l' k3).1; omega
      · obtain ⟨q1, ⟨cs', q2, q2'⟩, q3⟩ := Rj.own id l r h3 hr hf
        have hlb := (Rj.row id l h3).1
        refine ⟨q1, ⟨cs', by rw [R'.below.block _ hlb]; exact q2, q2'⟩, fun id' l' hl' hb => ?_⟩
        rcases cases' hl' with ⟨k1, k2, k3⟩ | k3
        · obtain ⟨_, r', g2, _⟩ := R'.row id' l' k3
          have := (R'.own id' l' r' k3 g2 k1).1
          omega
        · exact q3 id' l' k3 hb
end
end Go.VM
