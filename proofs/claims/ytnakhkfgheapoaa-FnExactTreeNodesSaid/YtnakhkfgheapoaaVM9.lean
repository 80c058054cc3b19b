import Derived.Test.YtnakhkfgheapoaaVM8
/-! What is frozen stays; calls; the whole. -/
set_option linter.all false
namespace Go.VM
open Go Go.RowKit
variable {P : Program} {H H' H'' : Heap} {ι ι' : Inj} {v c x y d s : Value} {B frz : Nat} {w0 w w' : World} {t t' : Env} {a : Act}

/-- rows below frz stay, and no row goes -/
def Keeps (frz : Nat) (H H' : Heap) : Prop := H.length ≤ H'.length ∧ ∀ id, id < frz → id < H.length → H'[id]? = H[id]?
theorem Keeps.refl (frz : Nat) (H : Heap) : Keeps frz H H := ⟨Nat.le_refl _, fun _ _ _ => rfl⟩
theorem Keeps.trans (h : Keeps frz H H') (k : Keeps frz H' H'') : Keeps frz H H'' :=
  ⟨Nat.le_trans h.1 k.1, fun id h1 h2 => (k.2 id h1 (Nat.lt_of_lt_of_le h2 h.1)).trans (h.2 id h1 h2)⟩
theorem Keeps.app (frz : Nat) (H L : Heap) : Keeps frz H (H ++ L) := ⟨by simp, fun id _ h => by rw [List.getElem?_append_left h]⟩
theorem Keeps.set {id : Nat} (h : frz ≤ id) (r : Row) : Keeps frz H (H.set id r) := ⟨by simp, fun j h1 _ => by rw [List.getElem?_set_ne (by omega)]⟩

theorem vappendZ_keeps {tt u : TypeId} (h : vappendZ P H tt u s x = some (v, H')) : Keeps frz H H' := by
  unfold vappendZ at h
  repeat' split at h
  all_goals first | (cases h; exact .app _ _ _) | cases h
theorem vappend_keeps {tt u : TypeId} (h : vappend P frz H tt u s x = some (v, H')) : Keeps frz H H' := by
  unfold vappend at h
  split at h
  · split at h
    · split at h
      · split at h
        · split at h
          · cases h; exact .refl _ _
          · split at h
            · cases h; exact .app _ _ _
            · cases h
        · split at h
          · split at h
            · cases h; exact .refl _ _
            · split at h
              · rename_i hc; cases h; exact .set hc.1 _
              · cases h
          · cases h
        · cases h
      · cases h
    · cases h
  · exact vappendZ_keeps h
theorem vcopy_keeps {tt u : TypeId} (h : vcopy P frz H tt u s x = some (v, H')) : Keeps frz H H' := by
  unfold vcopy at h
  split at h
  · split at h
    · split at h
      · split at h
        · cases h; exact .refl _ _
        · split at h
          · split at h
            · rename_i hc; cases h; exact .set hc.1 _
            · cases h
          · cases h
        · cases h
      · cases h
    · cases h
  · cases h
theorem vstore_keeps {tt : TypeId} (h : vstore P frz H tt x v = some H') : Keeps frz H H' := by
  unfold vstore at h
  split at h
  · split at h
    · split at h
      · split at h
        · rename_i hc; cases h; exact .set hc.1 _
        · cases h
      · cases h
    · cases h
  · cases h
theorem vmake_keeps {tt : TypeId} (h : vmake P H tt x y = some (v, H')) : Keeps frz H H' := by
  unfold vmake at h
  split at h
  · split at h
    · split at h
      · split at h
        · cases h; exact .app _ _ _
        · cases h
      · cases h
    · cases h
  · cases h
theorem vbuildSlice_keeps {tt : TypeId} {n : Nat} {parts : List (Nat × Value)} (h : vbuildSlice P H tt n parts = some (v, H')) : Keeps frz H H' := by
  unfold vbuildSlice at h
  split at h
  · split at h
    · split at h
      · split at h
        · cases h; exact .app _ _ _
        · cases h
      · cases h
    · cases h
  · cases h
theorem vbuiltin_keeps {b : Builtin} {ts : List TypeId} {l : List Value} (h : vbuiltin P frz H b ts l = some (v, H')) : Keeps frz H H' := by
  unfold vbuiltin at h
  split at h
  · split at h
    · obtain ⟨_, _, h2⟩ := omap h; cases h2; exact .refl _ _
    · cases h
  · split at h
    · obtain ⟨_, _, h2⟩ := omap h; cases h2; exact .refl _ _
    · cases h
  · split at h
    · exact vappend_keeps h
    · cases h
  · split at h
    · exact vcopy_keeps h
    · cases h
  · split at h
    · obtain ⟨_, _, h2⟩ := omap h; cases h2; exact .refl _ _
    · cases h
  · split at h
    · obtain ⟨_, _, h2⟩ := omap h; cases h2; exact .refl _ _
    · cases h
  · cases h

def CallKeeps (frz : Nat) (call : Calling) : Prop := ∀ g l H v H', frz ≤ H.length → call g l H = some (v, H') → Keeps frz H H'

theorem vop_keeps {call : Calling} (hc : CallKeeps frz call) (hf : frz ≤ H.length) {o : Op} (h : vop P frz call o t H = some (v, H')) : Keeps frz H H' := by
  cases o <;> simp only [vop] at h <;> try (cases h; done)
  case move => cases h; exact .refl _ _
  case assign => cases h; exact .refl _ _
  case pick => split at h <;> cases h <;> exact .refl _ _
  case alloc =>
    split at h
    · cases h; exact .app _ _ _
    · cases h
  case box =>
    split at h
    · cases h; exact .app _ _ _
    · cases h
  case build => obtain ⟨_, _, h2⟩ := omap h; cases h2; exact .refl _ _
  case buildSlice => exact vbuildSlice_keeps h
  case load => obtain ⟨_, _, h2⟩ := omap h; cases h2; exact .refl _ _
  case store => obtain ⟨_, h1, h2⟩ := omap h; cases h2; exact vstore_keeps h1
  case nilCheck =>
    split at h
    · split at h
      · cases h; exact .refl _ _
      · cases h
    · cases h
  case binOp => obtain ⟨_, _, h2⟩ := omap h; cases h2; exact .refl _ _
  case unOp => obtain ⟨_, _, h2⟩ := omap h; cases h2; exact .refl _ _
  case convert =>
    split at h
    · obtain ⟨_, _, h2⟩ := omap h; cases h2; exact .refl _ _
    · cases h
  case makeFunc => cases h; exact .refl _ _
  case makeSlice => exact vmake_keeps h
  case slice ty x lo hi mx =>
    cases mx with
    | none => obtain ⟨_, _, h2⟩ := omap h; cases h2; exact .refl _ _
    | some => cases h
  case fieldAddr => obtain ⟨_, _, h2⟩ := omap h; cases h2; exact .refl _ _
  case field => obtain ⟨_, _, h2⟩ := omap h; cases h2; exact .refl _ _
  case indexAddr => obtain ⟨_, _, h2⟩ := omap h; cases h2; exact .refl _ _
  case index => obtain ⟨_, _, h2⟩ := omap h; cases h2; exact .refl _ _
  case extract =>
    split at h
    · obtain ⟨_, _, h2⟩ := omap h; cases h2; exact .refl _ _
    · cases h
  case call c0 =>
    split at h
    · exact vbuiltin_keeps h
    · split at h
      · exact hc _ _ _ _ _ hf h
      · cases h
    · cases h

theorem vops_keeps {call : Calling} (hc : CallKeeps frz call) {ops : Array Oper} : ∀ (l : List Oper) (t : Env) (H : Heap), frz ≤ H.length → vops P frz call ops l t H = some (t', H') → Keeps frz H H'
  | [], t, H, _, h => by simp [vops] at h; rw [h.2]; exact .refl _ _
  | o :: l, t, H, hf, h => by
    simp only [vops] at h
    split at h
    · split at h
      · rename_i v1 H1 h1
        have k1 := vop_keeps hc hf h1
        exact k1.trans (vops_keeps hc l _ _ (Nat.le_trans hf k1.1) h)
      · cases h
    · exact vops_keeps hc l _ _ hf h
    · cases h

def ExecKeeps (exec : Nat → Code → Env → Heap → Option (Out × Env × Heap)) : Prop := ∀ frz c t H o t' H', frz ≤ H.length → exec frz c t H = some (o, t', H') → Keeps frz H H'

theorem vfinish_keeps {C : Ctx} {g : Nat} {fn : Func} (hk : Keeps frz H H') (h : vfinish C g fn H t' H' = some (v, H'')) : Keeps frz H H'' := by
  unfold vfinish at h
  split at h
  · split at h
    · split at h
      · cases h; exact .app _ _ _
      · cases h
    · cases h; exact hk
  · cases h
theorem vcall_keeps {C : Ctx} {exec : Nat → Code → Env → Heap → Option (Out × Env × Heap)} (he : ExecKeeps exec) : CallKeeps frz (vcallWith C exec frz) := by
  intro g l H v H' hf h
  unfold vcallWith at h
  have key : ∀ {body t1 H1 o}, exec (if C.mode g = 2 then frz else H.length) body (argEnv l) H = some (o, t1, H1) → Keeps frz H H1 := by
    intro body t1 H1 o h1
    split at h1
    · exact he _ _ _ _ _ _ _ hf h1
    · have := he _ _ _ _ _ _ _ (Nat.le_refl _) h1
      exact ⟨this.1, fun id _ h2 => this.2 id h2 h2⟩
  split at h
  · split at h
    · split at h
      · split at h
        · rename_i h1; exact vfinish_keeps (key h1) h
        · rename_i h1; exact vfinish_keeps (key h1) h
        · cases h
      · cases h
    · cases h
  · cases h

theorem vexec_keeps (C : Ctx) : ∀ k, ExecKeeps (vexecF C k)
  | 0 => fun _ _ _ _ _ _ _ _ h => by simp [vexecF] at h
  | k + 1 => fun frz c t H o t' H' hf h => by
    have ih := vexec_keeps C k
    cases c <;> simp only [vexecF] at h <;> try (cases h; done)
    case skip => cases h; exact .refl _ _
    case label => cases h; exact .refl _ _
    case ret => cases h; exact .refl _ _
    case exit => cases h; exact .refl _ _
    case seq c1 c2 =>
      split at h
      · rename_i t1 H1 h1
        have k1 := ih _ _ _ _ _ _ _ hf h1
        exact k1.trans (ih _ _ _ _ _ _ _ (Nat.le_trans hf k1.1) h)
      · exact ih _ _ _ _ _ _ _ hf h
    case cond x c1 c2 =>
      split at h
      · exact ih _ _ _ _ _ _ _ hf h
      · exact ih _ _ _ _ _ _ _ hf h
      · cases h
    case block id body =>
      split at h
      · rename_i id' t1 H1 h1
        have k1 := ih _ _ _ _ _ _ _ hf h1
        split at h <;> cases h <;> exact k1
      · exact ih _ _ _ _ _ _ _ hf h
    case loop body =>
      split at h
      · rename_i t1 H1 h1
        have k1 := ih _ _ _ _ _ _ _ hf h1
        exact k1.trans (ih _ _ _ _ _ _ _ (Nat.le_trans hf k1.1) h)
      · exact ih _ _ _ _ _ _ _ hf h
    case region id ops draw =>
      split at h
      · split at h
        · rename_i t1 H1 h1
          cases h
          exact vops_keeps (vcall_keeps ih) _ _ _ hf h1
        · cases h
      · cases h
end Go.VM
