import Derived.Test.YtnakhkfgheapoaaVM16
/-! Regions that draw their order: slots, masks, stages. -/
set_option linter.all false
namespace Go.VM
open Go Go.RowKit
variable {P : Program} {H H' HF : Heap} {ι ι' : Inj} {v c x y d s : Value} {B frz : Nat} {w0 w w' : World} {t t' : Env} {a : Act}

/-- slots, where only what S tells has been done -/
def envS (ops : Array Oper) (e0 : Env) (vs : Nat → Value) (S : Nat → Bool) : Nat → Env
  | 0 => e0
  | i + 1 => if S i = true then (match ops[i]? with | some o => put (envS ops e0 vs S i) o.dst (vs i) | none => envS ops e0 vs S i) else envS ops e0 vs S i

section
variable {ops : Array Oper} {e0 : Env} {vs vs' : Nat → Value} {S S' : Nat → Bool}
theorem put_at (t : Env) (d : Option Tmp) (v : Value) (x : Nat) : put t d v x = if d = some x then v else t x := by
  cases d with
  | none => simp [put]
  | some d =>
    simp only [put, upd, Option.some.injEq]
    by_cases h : x = d
    · rw [if_pos h, if_pos h.symm]
    · rw [if_neg h, if_neg (Ne.symm h)]
theorem envS_agree {x : Nat} : ∀ n, (∀ j, j < n → ∀ o, ops[j]? = some o → o.dst = some x → S j = S' j ∧ (S j = true → vs j = vs' j)) → envS ops e0 vs S n x = envS ops e0 vs' S' n x
  | 0, _ => rfl
  | n + 1, h => by
    have ih := envS_agree (x := x) n fun j hj => h j (by omega)
    simp only [envS]
    cases ho : ops[n]? with
    | none => simp only []; split <;> split <;> exact ih
    | some o =>
      simp only []
      by_cases hd : o.dst = some x
      · obtain ⟨h1, h2⟩ := h n (by omega) o ho hd
        rw [← h1]
        by_cases hs : S n = true
        · simp only [hs, if_true, put_at, hd, h2 hs]
        · simp only [hs]; exact ih
      · have e1 : ∀ (b : Bool) (e : Env) (u : Value), (if b = true then put e o.dst u else e) x = e x := fun b e u => by
          by_cases hb : b = true
          · rw [if_pos hb, put_at, if_neg hd]
          · rw [if_neg hb]
        rw [e1, e1]; exact ih
theorem envS_above {x m : Nat} : ∀ k, (∀ j, m ≤ j → j < m + k → S j = true → ∀ o, ops[j]? = some o → o.dst ≠ some x) → envS ops e0 vs S (m + k) x = envS ops e0 vs S m x
  | 0, _ => rfl
  | k + 1, h => by
    have ih := envS_above (x := x) (m := m) k fun j h1 h2 => h j h1 (by omega)
    rw [← ih, ← Nat.add_assoc]
    simp only [envS]
    split
    · rename_i hs
      cases ho : ops[m + k]? with
      | none => rfl
      | some o => simp only []; rw [put_at, if_neg (h (m + k) (by omega) (by omega) hs o ho)]
    · rfl
theorem envS_at {i : Nat} {o : Oper} {x : Nat} (hs : S i = true) (ho : ops[i]? = some o) (hd : o.dst = some x) : envS ops e0 vs S (i + 1) x = vs i := by
  simp only [envS, hs, if_true, ho, put_at, hd]
end

/-- the machine's run of a region, told by the turn -/
structure Run (P : Program) (frz : Nat) (call : Calling) (ops : Array Oper) (l : List Oper) (Ts : Nat → Env) (Hs : Nat → Heap) (vs : Nat → Value) : Prop where
  step : ∀ i o, l[i]? = some o → ∃ b, vguard ops o (Ts i) = some b ∧ (b = true → vop P frz call o.op (Ts i) (Hs i) = some (vs i, Hs (i + 1))) ∧ (b = false → vs i = undef ∧ Hs (i + 1) = Hs i) ∧
    Ts (i + 1) = put (Ts i) o.dst (vs i)
theorem run_of_vops {call : Calling} {ops : Array Oper} : ∀ (l : List Oper) (t : Env) (H : Heap), vops P frz call ops l t H = some (t', H') →
    ∃ Ts Hs vs, Run P frz call ops l Ts Hs vs ∧ Ts 0 = t ∧ Hs 0 = H ∧ Ts l.length = t' ∧ Hs l.length = H'
  | [], t, H, h => by
    simp [vops] at h
    exact ⟨fun _ => t, fun _ => H, fun _ => undef, ⟨by simp⟩, rfl, rfl, h.1, h.2⟩
  | o :: l, t, H, h => by
    have key : ∀ b v1 H1, vguard ops o t = some b → (b = true → vop P frz call o.op t H = some (v1, H1)) → (b = false → v1 = undef ∧ H1 = H) → vops P frz call ops l (put t o.dst v1) H1 = some (t', H') →
        ∃ Ts Hs vs, Run P frz call ops (o :: l) Ts Hs vs ∧ Ts 0 = t ∧ Hs 0 = H ∧ Ts (o :: l).length = t' ∧ Hs (o :: l).length = H' := by
      intro b v1 H1 hb h1 h2 h3
      obtain ⟨Ts, Hs, vs, R, e1, e2, e3, e4⟩ := run_of_vops l _ _ h3
      refine ⟨fun | 0 => t | i + 1 => Ts i, fun | 0 => H | i + 1 => Hs i, fun | 0 => v1 | i + 1 => vs i, ⟨fun i q hq => ?_⟩, rfl, rfl, e3, e4⟩
      cases i with
      | zero => simp at hq; subst hq; exact ⟨b, hb, fun hh => by show vop P frz call o.op t H = some (v1, Hs 0); rw [e2]; exact h1 hh, fun hh => by show v1 = undef ∧ Hs 0 = H; rw [e2]; exact h2 hh, e1⟩
      | succ i => exact R.step i q (by simpa using hq)
    simp only [vops] at h
    split at h
    · rename_i hg
      split at h
      · rename_i v1 H1 h1; exact key true v1 H1 hg (fun _ => h1) (fun h => by cases h) h
      · cases h
    · rename_i hg; exact key false undef H hg (fun h => by cases h) (fun _ => ⟨rfl, rfl⟩) h
    · cases h

/-- what has been done holds what it stands behind -/
def Down (ops : Array Oper) (S : Nat → Bool) : Prop := ∀ j o, ops[j]? = some o → S j = true → ∀ e ∈ o.after, Region.binds .any e = true → S e.on = true
theorem bmask_bit {prev : List Nat} (o : Oper) {i : Nat} (h : (bmask prev o).testBit i = true) : ∃ e ∈ o.after, Region.binds .any e = true ∧ (e.on = i ∨ (prev.getD e.on 0).testBit i = true) := by
  have key : ∀ (l : List Edge) (s : Nat), (l.foldl (fun s e => if Region.binds .any e = true then s ||| 2 ^ e.on ||| prev.getD e.on 0 else s) s).testBit i = true →
      s.testBit i = true ∨ ∃ e ∈ l, Region.binds .any e = true ∧ (e.on = i ∨ (prev.getD e.on 0).testBit i = true) := by
    intro l
    induction l with
    | nil => intro s h; exact .inl h
    | cons e l ih =>
      intro s h
      simp only [List.foldl_cons] at h
      rcases ih _ h with h1 | ⟨e', h1, h2⟩
      · split at h1
        · rename_i hb
          rw [Nat.testBit_or, Nat.testBit_or, Bool.or_eq_true, Bool.or_eq_true] at h1
          rcases h1 with (h1 | h1) | h1
          · exact .inl h1
          · exact .inr ⟨e, by simp, hb, .inl (by rw [Nat.testBit_two_pow] at h1; simpa using h1)⟩
          · exact .inr ⟨e, by simp, hb, .inr h1⟩
        · exact .inl h1
      · exact .inr ⟨e', by simp [h1], h2⟩
  rcases key o.after.toList 0 h with h1 | ⟨e, h1, h2⟩
  · simp at h1
  · exact ⟨e, by simpa using h1, h2⟩
theorem bmasks_down {ops : Array Oper} {S : Nat → Bool} (hd : Down ops S) : ∀ (l : List Oper) (acc : List Nat), (∀ r, l[r]? = ops[acc.length + r]?) →
    (∀ j m, acc[j]? = some m → S j = true → ∀ i, m.testBit i = true → S i = true) → ∀ j m, (bmasks l acc)[j]? = some m → S j = true → ∀ i, m.testBit i = true → S i = true
  | [], acc, _, h => h
  | o :: l, acc, hl, h => by
    simp only [bmasks]
    refine bmasks_down hd l _ (fun r => ?_) fun j m hj hs i hi => ?_
    · have := hl (r + 1); simp at this; rw [this]; congr 1; simp; omega
    · by_cases hlt : j < acc.length
      · rw [List.getElem?_append_left hlt] at hj; exact h j m hj hs i hi
      · have hje : j = acc.length := by have := (List.getElem?_eq_some_iff.1 hj).1; simp at this; omega
        subst hje
        rw [List.getElem?_append_right (Nat.le_refl _)] at hj
        simp at hj
        subst hj
        obtain ⟨e, he, hb, h1⟩ := bmask_bit o hi
        have ho : ops[acc.length]? = some o := by have := hl 0; simpa using this.symm
        have hse := hd acc.length o ho hs e he hb
        rcases h1 with rfl | h1
        · exact hse
        · rw [List.getD_eq_getElem?_getD] at h1
          cases hq : acc[e.on]? with
          | none => rw [hq] at h1; simp at h1
          | some m => rw [hq] at h1; exact h _ m hq hse i h1
theorem masks_down {ops : Array Oper} {S : Nat → Bool} (hd : Down ops S) {i j : Nat} (hs : S i = true) (h : ((bmasks ops.toList []).getD i 0).testBit j = true) : S j = true := by
  rw [List.getD_eq_getElem?_getD] at h
  cases hq : (bmasks ops.toList [])[i]? with
  | none => rw [hq] at h; simp at h
  | some m => rw [hq] at h; exact bmasks_down hd ops.toList [] (by simp) (by simp) i m hq hs j h

theorem firstWriter_spec {mode : Nat → Nat} : ∀ (l : List Oper) (k : Nat), k ≤ firstWriter mode l k ∧ firstWriter mode l k ≤ k + l.length ∧
    (∀ r o, l[r]? = some o → k + r < firstWriter mode l k → writerB mode o.op = false)
  | [], k => ⟨Nat.le_refl _, by simp [firstWriter], by simp⟩
  | o :: l, k => by
    simp only [firstWriter]
    split
    · exact ⟨Nat.le_refl _, by simp, fun r q _ h => by omega⟩
    · rename_i hw
      obtain ⟨h1, h2, h3⟩ := firstWriter_spec (mode := mode) l (k + 1)
      refine ⟨by omega, by simp; omega, fun r q hq h => ?_⟩
      cases r with
      | zero => simp at hq; subst hq; simpa using hw
      | succ r => exact h3 r q (by simpa using hq) (by omega)

/-- what drawOk says -/
structure Drawn (mode : Nat → Nat) (ops : Array Oper) (p : Nat) : Prop where
  back : ∀ (i : Nat) (o : Oper), ops[i]? = some o → ∀ e ∈ o.after, Region.binds .any e = true → e.on < i
  tmp : ∀ (i j : Nat) (o q : Oper), ops[i]? = some o → ops[j]? = some q → j < i → ((bmasks ops.toList []).getD i 0).testBit j = true ∨ q.apart ops o = true
  heap : ∀ (i j : Nat) (o q : Oper), ops[i]? = some o → ops[j]? = some q → j < i → p ≤ i → pureB q.op = true ∨ ((bmasks ops.toList []).getD i 0).testBit j = true
  nowr : ∀ (i : Nat) (o : Oper), ops[i]? = some o → i < p → writerB mode o.op = false
  ple : p ≤ ops.size
theorem drawn_of {C : Ctx} {ops : Array Oper} (h : drawOk C ops = true) : Drawn C.mode ops (firstWriter C.mode ops.toList 0) := by
  unfold drawOk at h
  rw [List.all_eq_true] at h
  have hi : ∀ i o, ops[i]? = some o → (o.after.toList.all fun e => !Region.binds .any e || decide (e.on < i)) = true ∧ ∀ j q, ops[j]? = some q → j < i →
      (((bmasks ops.toList []).getD i 0).testBit j || q.apart ops o) = true ∧ (decide (i < firstWriter C.mode ops.toList 0) || pureB q.op || ((bmasks ops.toList []).getD i 0).testBit j) = true := by
    intro i o ho
    have hlt := (Array.getElem?_eq_some_iff.1 ho).1
    have := h i (by simpa using hlt)
    simp only [ho, Bool.and_eq_true] at this
    refine ⟨this.1, fun j q hq hj => ?_⟩
    have h2 := List.all_eq_true.1 this.2 j (by simpa using hj)
    simp only [hq, Bool.and_eq_true] at h2
    exact h2
  obtain ⟨f1, f2, f3⟩ := firstWriter_spec (mode := C.mode) ops.toList 0
  refine ⟨fun i o ho e he hb => ?_, fun i j o q ho hq hj => ?_, fun i j o q ho hq hj hp => ?_, fun i o ho hp => ?_, by simpa using f2⟩
  · have := List.all_eq_true.1 (hi i o ho).1 e (by simpa using he); simpa [hb] using this
  · have := ((hi i o ho).2 j q hq hj).1; simpa using this
  · have := ((hi i o ho).2 j q hq hj).2
    simp only [Bool.or_eq_true, decide_eq_true_eq] at this
    rcases this with (h1 | h1) | h1
    · omega
    · exact .inl h1
    · exact .inr h1
  · exact f3 i o (by simpa using ho) (by omega)

theorem nonwriter_frz {mode : Nat → Nat} {call : Nat → Calling} (hc : ∀ f f' g l H, mode g ≠ 2 → call f g l H = call f' g l H) {o : Op} (hw : writerB mode o = false) (f f' : Nat) :
    vop P f (call f) o t H = vop P f' (call f') o t H := by
  cases o <;> simp only [writerB] at hw <;> try (cases hw; done)
  case call c0 =>
    obtain ⟨callee, args, argTypes⟩ := c0
    cases callee with
    | builtin b => cases b <;> simp only [vop, vbuiltin] <;> simp at hw
    | value g =>
      cases g with
      | func g =>
        have hm : mode g ≠ 2 := by simpa using hw
        simp only [vop, ev]
        exact hc f f' g _ H hm
      | _ => simp at hw
    | invoke => simp at hw
  case slice ty x lo hi mx => cases mx <;> rfl
  all_goals rfl
theorem pure_heap {call : Calling} {o : Op} (hp : pureB o = true) (h : vop P frz call o t H = some (v, H')) : H' = H := by
  cases o <;> simp only [pureB] at hp <;> simp only [vop] at h <;> try (cases hp; done)
  case move => cases h; rfl
  case assign => cases h; rfl
  case pick => split at h <;> cases h <;> rfl
  case nilCheck =>
    split at h
    · split at h
      · cases h; rfl
      · cases h
    · cases h
  case convert =>
    split at h
    · obtain ⟨_, _, h2⟩ := omap h; cases h2; rfl
    · cases h
  case makeFunc => cases h; rfl
  case slice ty x lo hi mx =>
    cases mx with
    | none => obtain ⟨_, _, h2⟩ := omap h; cases h2; rfl
    | some => cases h
  case extract =>
    split at h
    · obtain ⟨_, _, h2⟩ := omap h; cases h2; rfl
    · cases h
  case call c0 =>
    obtain ⟨callee, args, argTypes⟩ := c0
    split at hp
    · rename_i hcal; simp only at hcal; subst hcal
      simp only [vbuiltin] at h
      split at h
      · obtain ⟨_, _, h2⟩ := omap h; cases h2; rfl
      · cases h
    · rename_i hcal; simp only at hcal; subst hcal
      simp only [vbuiltin] at h
      split at h
      · obtain ⟨_, _, h2⟩ := omap h; cases h2; rfl
      · cases h
    · rename_i hcal; simp only at hcal; subst hcal
      simp only [vbuiltin] at h
      split at h
      · obtain ⟨_, _, h2⟩ := omap h; cases h2; rfl
      · cases h
    · cases hp
  all_goals (obtain ⟨_, _, h2⟩ := omap h; cases h2; rfl)
end Go.VM
