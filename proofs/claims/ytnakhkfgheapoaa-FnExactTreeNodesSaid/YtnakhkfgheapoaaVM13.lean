import Derived.Test.YtnakhkfgheapoaaVM12
/-! The machine without rounds: the limit, and its equations. -/
set_option linter.all false
namespace Go.VM
open Go
variable {H H' : Heap} {v : Value} {frz : Nat} {t t' : Env} {C : Ctx}

section
variable {α : Type}
open Classical in
noncomputable def lim (f : Nat → Option α) : Option α := if h : ∃ k r, f k = some r then f (Classical.choose h) else none
theorem lim_iff {f : Nat → Option α} (hm : ∀ k r, f k = some r → f (k + 1) = some r) {r : α} : lim f = some r ↔ ∃ k, f k = some r := by
  have hle : ∀ k j r, f k = some r → f (k + j) = some r := by
    intro k j r h
    induction j with
    | zero => exact h
    | succ j ih => exact hm _ _ ih
  have huniq : ∀ k j r s, f k = some r → f j = some s → r = s := by
    intro k j r s h1 h2
    have a := hle k j r h1
    have b := hle j k s h2
    rw [Nat.add_comm j k, a] at b; cases b; rfl
  constructor
  · intro h
    unfold lim at h
    split at h
    · exact ⟨_, h⟩
    · cases h
  · rintro ⟨k, h⟩
    unfold lim
    have hex : ∃ k r, f k = some r := ⟨k, r, h⟩
    rw [dif_pos hex]
    obtain ⟨s, hs⟩ := Classical.choose_spec hex
    rw [hs, huniq _ _ _ _ hs h]
end

def CLe (c1 c2 : Calling) : Prop := ∀ g l H r, c1 g l H = some r → c2 g l H = some r
def ELe (e1 e2 : Nat → Code → Env → Heap → Option (Out × Env × Heap)) : Prop := ∀ frz c t H r, e1 frz c t H = some r → e2 frz c t H = some r

theorem vop_mono {c1 c2 : Calling} (h : CLe c1 c2) {o : Op} {r : Value × Heap} (hr : vop C.P frz c1 o t H = some r) : vop C.P frz c2 o t H = some r := by
  cases o <;> first | exact hr | skip
  case slice ty x lo hi mx => cases mx <;> exact hr
  simp only [vop] at hr ⊢
  split
  · rename_i b hb; rw [hb] at hr; exact hr
  · rename_i f hf
    rw [hf] at hr
    simp only at hr
    split
    · rename_i g a b hg; rw [hg] at hr; exact h _ _ _ _ hr
    · rename_i hno
      split at hr
      · rename_i g a b hg; exact absurd hg (hno _ _ _)
      · cases hr
  · rename_i m hm; rw [hm] at hr; exact hr
theorem vops_mono {c1 c2 : Calling} (h : CLe c1 c2) {ops : Array Oper} : ∀ (l : List Oper) (t : Env) (H : Heap) {r : Env × Heap}, vops C.P frz c1 ops l t H = some r → vops C.P frz c2 ops l t H = some r
  | [], _, _, _, hr => hr
  | o :: l, t, H, r, hr => by
    simp only [vops] at hr ⊢
    split at hr
    · split at hr
      · rename_i hv; rw [vop_mono h hv]; exact vops_mono h l _ _ hr
      · cases hr
    · exact vops_mono h l _ _ hr
    · cases hr
theorem vcall_mono {e1 e2 : Nat → Code → Env → Heap → Option (Out × Env × Heap)} (h : ELe e1 e2) : CLe (vcallWith C e1 frz) (vcallWith C e2 frz) := by
  intro g l H r hr
  unfold vcallWith at hr ⊢
  split at hr
  · split at hr
    · rename_i fn hfn _ body hb
      split at hr
      · rename_i hok
        simp only [hok, if_true]
        split at hr
        · rename_i he; rw [h _ _ _ _ _ he]; exact hr
        · rename_i he; rw [h _ _ _ _ _ he]; exact hr
        · cases hr
      · cases hr
    · cases hr
  · cases hr
section
variable {k : Nat} {c1 c2 : Code}
theorem F_seq : vexecF C (k + 1) frz (.seq c1 c2) t H = match vexecF C k frz c1 t H with | some (.normal, t', H') => vexecF C k frz c2 t' H' | r => r := by rw [vexecF]; rfl
theorem F_cond {x : Operand} : vexecF C (k + 1) frz (.cond x c1 c2) t H = match ev t x with | .bool true => vexecF C k frz c1 t H | .bool false => vexecF C k frz c2 t H | _ => none := by rw [vexecF]; rfl
theorem F_block {id : Nat} : vexecF C (k + 1) frz (.block id c1) t H = match vexecF C k frz c1 t H with
      | some (.exit id', t', H') => if id' = id then some (.normal, t', H') else some (.exit id', t', H')
      | r => r := by rw [vexecF]; rfl
theorem F_loop : vexecF C (k + 1) frz (.loop c1) t H = match vexecF C k frz c1 t H with | some (.normal, t', H') => vexecF C k frz (.loop c1) t' H' | r => r := by rw [vexecF]; rfl
theorem F_region {id : Nat} {ops : Array Oper} {draw : Bool} : vexecF C (k + 1) frz (.region id ops draw) t H = if (draw = true → drawOk C ops = true) then
        match vops C.P frz (vcallWith C (vexecF C k) frz) ops ops.toList t H with
        | some (t', H') => some (.normal, t', H')
        | none => none
        else none := by rw [vexecF]; rfl
end
theorem vexec_mono (C : Ctx) : ∀ k, ELe (vexecF C k) (vexecF C (k + 1))
  | 0 => fun _ _ _ _ _ h => by simp [vexecF] at h
  | k + 1 => fun frz c t H r h => by
    have ih := vexec_mono C k
    cases c
    case seq a b =>
      rw [F_seq] at h ⊢
      split at h
      · rename_i h1; rw [ih _ _ _ _ _ h1]; exact ih _ _ _ _ _ h
      · rename_i hno
        rw [ih _ _ _ _ _ h]
        obtain ⟨o, t1, H1⟩ := r
        cases o with
        | normal => exact absurd h (hno _ _)
        | ret => rfl
        | exit => rfl
    case cond x a b =>
      rw [F_cond] at h ⊢
      split at h
      · exact ih _ _ _ _ _ h
      · exact ih _ _ _ _ _ h
      · cases h
    case block id b =>
      rw [F_block] at h ⊢
      split at h
      · rename_i h1; rw [ih _ _ _ _ _ h1]; exact h
      · rename_i hno
        rw [ih _ _ _ _ _ h]
        obtain ⟨o, t1, H1⟩ := r
        cases o with
        | normal => rfl
        | ret => rfl
        | exit => exact absurd h (hno _ _ _)
    case loop b =>
      rw [F_loop] at h ⊢
      split at h
      · rename_i h1; rw [ih _ _ _ _ _ h1]; exact ih _ _ _ _ _ h
      · rename_i hno
        rw [ih _ _ _ _ _ h]
        obtain ⟨o, t1, H1⟩ := r
        cases o with
        | normal => exact absurd h (hno _ _)
        | ret => rfl
        | exit => rfl
    case region id ops draw =>
      rw [F_region] at h ⊢
      split at h
      · rename_i hd
        rw [if_pos hd]
        split at h
        · rename_i h1; rw [vops_mono (vcall_mono ih) _ _ _ h1]; exact h
        · cases h
      · cases h
    all_goals (simp only [vexecF] at h ⊢; first | exact h | cases h)

noncomputable def vexec (C : Ctx) (frz : Nat) (c : Code) (t : Env) (H : Heap) : Option (Out × Env × Heap) := lim fun k => vexecF C k frz c t H
noncomputable def vcall (C : Ctx) (frz : Nat) : Calling := fun g l H => lim fun k => vcallWith C (vexecF C k) frz g l H

theorem vexec_iff {c : Code} {r : Out × Env × Heap} : vexec C frz c t H = some r ↔ ∃ k, vexecF C k frz c t H = some r := lim_iff fun k _ h => vexec_mono C k _ _ _ _ _ h
theorem vcall_iff {g : Nat} {l : List Value} {r : Value × Heap} : vcall C frz g l H = some r ↔ ∃ k, vcallWith C (vexecF C k) frz g l H = some r :=
  lim_iff fun k _ h => vcall_mono (vexec_mono C k) _ _ _ _ h
theorem vexecF_le {k j : Nat} (hkj : k ≤ j) : ELe (vexecF C k) (vexecF C j) := by
  obtain ⟨d, rfl⟩ := Nat.exists_eq_add_of_le hkj
  intro frz c t H r h
  induction d with
  | zero => exact h
  | succ d ih => exact vexec_mono C _ _ _ _ _ _ (ih (Nat.le_add_right _ _))
theorem vexecF_vexec (k : Nat) : ELe (vexecF C k) (vexec C) := fun _ _ _ _ _ h => vexec_iff.2 ⟨k, h⟩

theorem vop_cont {o : Op} {r : Value × Heap} (h : vop C.P frz (vcall C frz) o t H = some r) : ∃ k, vop C.P frz (vcallWith C (vexecF C k) frz) o t H = some r := by
  cases o <;> first | exact ⟨0, h⟩ | skip
  case slice ty x lo hi mx => cases mx <;> exact ⟨0, h⟩
  simp only [vop] at h ⊢
  split at h
  · exact ⟨0, h⟩
  · split at h
    · exact vcall_iff.1 h
    · cases h
  · cases h
theorem vops_cont {ops : Array Oper} : ∀ (l : List Oper) (t : Env) (H : Heap) {r : Env × Heap}, vops C.P frz (vcall C frz) ops l t H = some r → ∃ k, vops C.P frz (vcallWith C (vexecF C k) frz) ops l t H = some r
  | [], _, _, _, h => ⟨0, h⟩
  | o :: l, t, H, r, h => by
    simp only [vops] at h ⊢
    split at h
    · split at h
      · rename_i hv
        obtain ⟨k1, h1⟩ := vop_cont hv
        obtain ⟨k2, h2⟩ := vops_cont l _ _ h
        refine ⟨max k1 k2, ?_⟩
        rw [vop_mono (vcall_mono (vexecF_le (Nat.le_max_left k1 k2))) h1]
        exact vops_mono (vcall_mono (vexecF_le (Nat.le_max_right k1 k2))) _ _ _ h2
      · cases h
    · exact vops_cont l _ _ h
    · cases h

theorem opt_ext {α : Type} {x y : Option α} (h : ∀ r, x = some r ↔ y = some r) : x = y := by
  cases x with
  | none => cases y with
    | none => rfl
    | some b => exact absurd ((h b).2 rfl) (by simp)
  | some a => exact ((h a).1 rfl).symm

/-- what comes next, where the text goes on -/
def andThen (r : Option (Out × Env × Heap)) (f : Env → Heap → Option (Out × Env × Heap)) : Option (Out × Env × Heap) :=
  match r with
  | some (.normal, t, H) => f t H
  | r => r
def atBlock (id : Nat) (r : Option (Out × Env × Heap)) : Option (Out × Env × Heap) :=
  match r with
  | some (.exit id', t, H) => if id' = id then some (.normal, t, H) else some (.exit id', t, H)
  | r => r
def vcond {α : Type} (v : Value) (x y : Option α) : Option α :=
  match v with
  | .bool true => x
  | .bool false => y
  | _ => none

theorem vexec_skip : vexec C frz .skip t H = some (.normal, t, H) := vexec_iff.2 ⟨1, rfl⟩
theorem vexec_label {l : Nat} : vexec C frz (.label l) t H = some (.normal, t, H) := vexec_iff.2 ⟨1, rfl⟩
theorem vexec_ret : vexec C frz .ret t H = some (.ret, t, H) := vexec_iff.2 ⟨1, rfl⟩
theorem vexec_exit {id : Nat} : vexec C frz (.exit id) t H = some (.exit id, t, H) := vexec_iff.2 ⟨1, rfl⟩
theorem vexec_seq {a b : Code} : vexec C frz (.seq a b) t H = andThen (vexec C frz a t H) fun t' H' => vexec C frz b t' H' := by
  apply opt_ext
  intro r
  constructor
  · intro h
    obtain ⟨k, hk⟩ := vexec_iff.1 h
    cases k with
    | zero => simp [vexecF] at hk
    | succ k =>
      simp only [vexecF] at hk
      split at hk
      · rename_i h1; rw [vexec_iff.2 ⟨k, h1⟩]; exact vexec_iff.2 ⟨k, hk⟩
      · rename_i hno
        rw [vexec_iff.2 ⟨k, hk⟩]
        obtain ⟨o, t1, H1⟩ := r
        cases o with
        | normal => exact absurd hk (hno _ _)
        | ret => rfl
        | exit => rfl
  · intro h
    unfold andThen at h
    split at h
    · rename_i h1
      obtain ⟨k1, h1⟩ := vexec_iff.1 h1
      obtain ⟨k2, h2⟩ := vexec_iff.1 h
      refine vexec_iff.2 ⟨max k1 k2 + 1, ?_⟩
      simp only [vexecF]
      rw [vexecF_le (Nat.le_max_left k1 k2) _ _ _ _ _ h1]
      exact vexecF_le (Nat.le_max_right k1 k2) _ _ _ _ _ h2
    · rename_i hno
      obtain ⟨k, hk⟩ := vexec_iff.1 h
      refine vexec_iff.2 ⟨k + 1, ?_⟩
      simp only [vexecF]
      rw [hk]
      obtain ⟨o, t1, H1⟩ := r
      cases o with
      | normal => exact absurd h (hno _ _)
      | ret => rfl
      | exit => rfl
theorem vexec_cond {x : Operand} {a b : Code} : vexec C frz (.cond x a b) t H = vcond (ev t x) (vexec C frz a t H) (vexec C frz b t H) := by
  apply opt_ext
  intro r
  constructor
  · intro h
    obtain ⟨k, hk⟩ := vexec_iff.1 h
    cases k with
    | zero => simp [vexecF] at hk
    | succ k =>
      simp only [vexecF] at hk
      split at hk
      · rename_i hb; rw [hb]; exact vexec_iff.2 ⟨k, hk⟩
      · rename_i hb; rw [hb]; exact vexec_iff.2 ⟨k, hk⟩
      · cases hk
  · intro h
    unfold vcond at h
    split at h
    · rename_i hb; obtain ⟨k, hk⟩ := vexec_iff.1 h; exact vexec_iff.2 ⟨k + 1, by simp only [vexecF, hb]; exact hk⟩
    · rename_i hb; obtain ⟨k, hk⟩ := vexec_iff.1 h; exact vexec_iff.2 ⟨k + 1, by simp only [vexecF, hb]; exact hk⟩
    · cases h
theorem vexec_block {id : Nat} {b : Code} : vexec C frz (.block id b) t H = atBlock id (vexec C frz b t H) := by
  apply opt_ext
  intro r
  constructor
  · intro h
    obtain ⟨k, hk⟩ := vexec_iff.1 h
    cases k with
    | zero => simp [vexecF] at hk
    | succ k =>
      simp only [vexecF] at hk
      split at hk
      · rename_i h1; rw [vexec_iff.2 ⟨k, h1⟩]; exact hk
      · rename_i hno
        rw [vexec_iff.2 ⟨k, hk⟩]
        obtain ⟨o, t1, H1⟩ := r
        cases o with
        | normal => rfl
        | ret => rfl
        | exit => exact absurd hk (hno _ _ _)
  · intro h
    unfold atBlock at h
    split at h
    · rename_i h1
      obtain ⟨k, hk⟩ := vexec_iff.1 h1
      exact vexec_iff.2 ⟨k + 1, by simp only [vexecF, hk]; exact h⟩
    · rename_i hno
      obtain ⟨k, hk⟩ := vexec_iff.1 h
      refine vexec_iff.2 ⟨k + 1, ?_⟩
      simp only [vexecF]
      rw [hk]
      obtain ⟨o, t1, H1⟩ := r
      cases o with
      | normal => rfl
      | ret => rfl
      | exit => exact absurd h (hno _ _ _)
theorem vexec_loop {b : Code} : vexec C frz (.loop b) t H = andThen (vexec C frz b t H) fun t' H' => vexec C frz (.loop b) t' H' := by
  apply opt_ext
  intro r
  constructor
  · intro h
    obtain ⟨k, hk⟩ := vexec_iff.1 h
    cases k with
    | zero => simp [vexecF] at hk
    | succ k =>
      simp only [vexecF] at hk
      split at hk
      · rename_i h1; rw [vexec_iff.2 ⟨k, h1⟩]; exact vexec_iff.2 ⟨k, hk⟩
      · rename_i hno
        rw [vexec_iff.2 ⟨k, hk⟩]
        obtain ⟨o, t1, H1⟩ := r
        cases o with
        | normal => exact absurd hk (hno _ _)
        | ret => rfl
        | exit => rfl
  · intro h
    unfold andThen at h
    split at h
    · rename_i h1
      obtain ⟨k1, h1⟩ := vexec_iff.1 h1
      obtain ⟨k2, h2⟩ := vexec_iff.1 h
      refine vexec_iff.2 ⟨max k1 k2 + 1, ?_⟩
      simp only [vexecF]
      rw [vexecF_le (Nat.le_max_left k1 k2) _ _ _ _ _ h1]
      exact vexecF_le (Nat.le_max_right k1 k2) _ _ _ _ _ h2
    · rename_i hno
      obtain ⟨k, hk⟩ := vexec_iff.1 h
      refine vexec_iff.2 ⟨k + 1, ?_⟩
      simp only [vexecF]
      rw [hk]
      obtain ⟨o, t1, H1⟩ := r
      cases o with
      | normal => exact absurd h (hno _ _)
      | ret => rfl
      | exit => rfl
def asNormal (r : Option (Env × Heap)) : Option (Out × Env × Heap) := match r with | some (t, H) => some (.normal, t, H) | none => none
theorem vexec_region {id : Nat} {ops : Array Oper} {draw : Bool} : vexec C frz (.region id ops draw) t H =
    if (draw = true → drawOk C ops = true) then asNormal (vops C.P frz (vcall C frz) ops ops.toList t H) else none := by
  apply opt_ext
  intro r
  constructor
  · intro h
    obtain ⟨k, hk⟩ := vexec_iff.1 h
    cases k with
    | zero => simp [vexecF] at hk
    | succ k =>
      simp only [vexecF] at hk
      split at hk
      · rename_i hd
        rw [if_pos hd]
        split at hk
        · rename_i h1
          rw [vops_mono (fun g l H r h => vcall_iff.2 ⟨k, h⟩) _ _ _ h1]; exact hk
        · cases hk
      · cases hk
  · intro h
    split at h
    · rename_i hd
      unfold asNormal at h
      split at h
      · rename_i h1
        obtain ⟨k, hk⟩ := vops_cont _ _ _ h1
        exact vexec_iff.2 ⟨k + 1, by simp only [vexecF]; rw [if_pos hd, hk]; exact h⟩
      · cases h
    · cases h
theorem vcall_eq {g : Nat} {l : List Value} : vcall C frz g l H = vcallWith C (vexec C) frz g l H := by
  apply opt_ext
  intro r
  constructor
  · intro h
    obtain ⟨k, hk⟩ := vcall_iff.1 h
    exact vcall_mono (vexecF_vexec k) _ _ _ _ hk
  · intro h
    unfold vcallWith at h
    split at h
    · rename_i fn hfn
      split at h
      · rename_i body hb
        split at h
        · rename_i hok
          split at h
          · rename_i he
            obtain ⟨k, hk⟩ := vexec_iff.1 he
            exact vcall_iff.2 ⟨k, by unfold vcallWith; simp only [hfn, hb, hok, if_true, hk]; exact h⟩
          · rename_i he
            obtain ⟨k, hk⟩ := vexec_iff.1 he
            exact vcall_iff.2 ⟨k, by unfold vcallWith; simp only [hfn, hb, hok, if_true, hk]; exact h⟩
          · cases h
        · cases h
      · cases h
    · cases h
/-- soundness of a call -/
theorem vcall_sound (hdraw : DrawOk C) : CallOk C.P (vcall C frz) frz := fun g l H v H' h hf => by
  obtain ⟨k, hk⟩ := vcall_iff.1 h
  exact call_ok (exec_ok C hdraw k) frz g l H v H' hk hf
end Go.VM
