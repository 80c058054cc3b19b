import Derived.Test.YtnakhkfgheapoaaVM7
/-! Every operation that is no call of a function. -/
set_option linter.all false
namespace Go.VM
open Go Go.RowKit
variable {P : Program} {H H' : Heap} {ι ι' : Inj} {v c x y d s : Value} {B frz : Nat} {w0 w w' : World} {t : Env} {a : Act}

/-- the model does what the machine says -/
def Fine (P : Program) (B : Nat) (w0 : World) (frz : Nat) (H : Heap) (ι : Inj) (r : Result Next) (v : Value) (H' : Heap) : Prop :=
  ∃ c w' ι', (r = .ok (.value c) w' ∨ (r = .ok .skip w' ∧ c = undef)) ∧ VRel P H' ι' v c ∧ Ext H ι H' ι' ∧ Rel P B w0 frz ι' H' w'

theorem fine_same (R : Rel P B w0 frz ι H w) {s : Sem Value} (h : ∃ c, s.run P w = .ok c w ∧ VRel P H ι v c) :
    Fine P B w0 frz H ι ((do pure (.value (← s)) : Sem Next).run P w) v H := by
  obtain ⟨c, h1, h2⟩ := h
  exact ⟨c, w, ι, .inl (by rw [Sem.run_bind, h1]; rfl), h2, Ext.refl _ _, R⟩
theorem fine_new {s : Sem Value} (h : ∃ c w' ι', s.run P w = .ok c w' ∧ VRel P H' ι' v c ∧ Ext H ι H' ι' ∧ Rel P B w0 frz ι' H' w') :
    Fine P B w0 frz H ι ((do pure (.value (← s)) : Sem Next).run P w) v H' := by
  obtain ⟨c, w', ι', h1, h2, h3, h4⟩ := h
  exact ⟨c, w', ι', .inl (by rw [Sem.run_bind, h1]; rfl), h2, h3, h4⟩
theorem omap {α β : Type} {o : Option α} {f : α → β} {b : β} (h : o.map f = some b) : ∃ a, o = some a ∧ f a = b := by
  cases o with
  | none => cases h
  | some a => simp at h; exact ⟨a, rfl, h⟩

theorem ev_act (E : ERel P H ι t a.tmps) (x : Operand) : VRel P H ι (ev t x) (a.eval x) := ev_ok (defers := a.defers) E x
theorem orel_act (E : ERel P H ι t a.tmps) (x : Option Operand) : ORel P H ι (x.map (ev t)) (x.map a.eval) := by
  cases x with
  | none => trivial
  | some x => exact ev_act E x
theorem prel_act (E : ERel P H ι t a.tmps) (l : Array (Nat × Operand)) :
    PRel P H ι (l.toList.map fun x => (x.1, ev t x.2)) (l.map fun (i, x) => (i, a.eval x)).toList := by
  refine ⟨by simp, fun i p q hp hq => ?_⟩
  simp only [Array.toList_map, List.getElem?_map] at hp hq
  cases hl : l.toList[i]? with
  | none => rw [hl] at hp; cases hp
  | some x => rw [hl] at hp hq; cases hp; cases hq; exact ⟨rfl, ev_act E _⟩

theorem builtin_ok (R : Rel P B w0 frz ι H w) (hf0 : frz ≤ H.length) (E : ERel P H ι t a.tmps) {b : Builtin} {ts : Array TypeId} {args : Array Operand} {ty : TypeId} {consts : Array Bool}
    (h : vbuiltin P frz H b ts.toList (args.toList.map (ev t)) = some (v, H')) : Fine P B w0 frz H ι ((builtin b ts ty consts (args.map a.eval)).run P w) v H' := by
  have L : LRel P H ι (args.toList.map (ev t)) (args.map a.eval).toList := by
    have := LRel.of_map (P := P) (H := H) (ι := ι) args.toList (ev t) a.eval (fun x _ => ev_act E x)
    simpa using this
  generalize hl : args.toList.map (ev t) = l at *
  generalize hcs : args.map a.eval = cs at *
  have hcs2 : ∀ {l : List Value}, cs.toList = l → cs = l.toArray := fun h => by rw [← h]
  have hts2 : ∀ {l : List TypeId}, ts.toList = l → ts = l.toArray := fun h => by rw [← h]
  unfold vbuiltin at h
  split at h
  · -- len
    split at h
    · rename_i t0 _ x0 _ ht
      obtain ⟨v', h1, h2⟩ := omap h
      cases h2
      obtain ⟨c, cs', hc, hx, _⟩ := L.cons_inv
      exact fine_same R (len_ok (by rw [hts2 ht]; simp) (by rw [hcs2 hc]; simp) hx h1)
    · cases h
  · -- cap
    split at h
    · rename_i t0 _ x0 _ ht
      obtain ⟨v', h1, h2⟩ := omap h
      cases h2
      obtain ⟨c, cs', hc, hx, _⟩ := L.cons_inv
      exact fine_same R (cap_ok (by rw [hts2 ht]; simp) (by rw [hcs2 hc]; simp) hx h1)
    · cases h
  · -- append
    split at h
    · rename_i t0 u0 s0 x0 ht
      obtain ⟨c, cs', hc, hx, L1⟩ := L.cons_inv
      obtain ⟨d, cs'', hd, hy, L2⟩ := L1.cons_inv
      obtain rfl := L2.nil_inv
      subst hd
      rw [hts2 ht, hcs2 hc]
      exact fine_new (append_ok R hf0 hx hy h)
    · cases h
  · -- copy
    split at h
    · rename_i t0 u0 s0 x0 ht
      obtain ⟨c, cs', hc, hx, L1⟩ := L.cons_inv
      obtain ⟨d, cs'', hd, hy, L2⟩ := L1.cons_inv
      obtain rfl := L2.nil_inv
      subst hd
      rw [hts2 ht, hcs2 hc]
      exact fine_new (copy_ok R hx hy h)
    · cases h
  · -- max
    split at h
    · obtain ⟨v', h1, h2⟩ := omap h
      cases h2
      obtain ⟨c, cs', hc, hx, L1⟩ := L.cons_inv
      refine fine_same R ?_
      simp only [Builtin.max_, hc]
      exact fold_ok max2_ok _ _ _ _ hx L1 h1
    · cases h
  · split at h
    · obtain ⟨v', h1, h2⟩ := omap h
      cases h2
      obtain ⟨c, cs', hc, hx, L1⟩ := L.cons_inv
      refine fine_same R ?_
      simp only [Builtin.min_, hc]
      exact fold_ok min2_ok _ _ _ _ hx L1 h1
    · cases h
  · cases h

theorem op_ok (R : Rel P B w0 frz ι H w) (hf0 : frz ≤ H.length) (E : ERel P H ι t a.tmps) {call : Calling} (o : Oper) (hnc : ∀ c f, o.op = .call c → c.callee ≠ .value f)
    (h : vop P frz call o.op t H = some (v, H')) : Fine P B w0 frz H ι ((execOp a.eval o).run P w) v H' := by
  obtain ⟨dst, op, type, pos, after, guard⟩ := o
  cases op <;> simp only [vop] at h hnc <;> try (cases h; done)
  case move x => cases h; exact ⟨_, w, ι, .inl rfl, ev_act E x, Ext.refl _ _, R⟩
  case assign x => cases h; exact ⟨_, w, ι, .inl rfl, ev_act E x, Ext.refl _ _, R⟩
  case pick c0 x y =>
    have hc := ev_act E c0
    split at h
    · rename_i hb; rw [hb] at hc; cases h
      generalize hcc : a.eval c0 = cc at hc
      cases hc
      exact ⟨_, w, ι, .inl (by simp [execOp, hcc, asBool]), ev_act E x, Ext.refl _ _, R⟩
    · rename_i hb; rw [hb] at hc; cases h
      generalize hcc : a.eval c0 = cc at hc
      cases hc
      exact ⟨_, w, ι, .inl (by simp [execOp, hcc, asBool]), ev_act E y, Ext.refl _ _, R⟩
    · cases h
  case alloc e =>
    split at h
    · rename_i z hz; cases h; exact fine_new (alloc_ok R hf0 hz)
    · cases h
  case box e x =>
    split at h
    · rename_i ho; cases h; exact fine_new (box_ok R hf0 (ev_act E x) ho)
    · cases h
  case build ty parts => obtain ⟨v', h1, h2⟩ := omap h; cases h2; exact fine_same R (build_ok (prel_act E parts) h1)
  case buildSlice ty len parts => exact fine_new (buildSlice_ok R hf0 (prel_act E parts) h)
  case load ty x => obtain ⟨v', h1, h2⟩ := omap h; cases h2; exact fine_same R (load_ok R (ev_act E x) h1)
  case store ty x y =>
    obtain ⟨v', h1, h2⟩ := omap h; cases h2
    obtain ⟨w', ι', g1, g2, g3⟩ := store_ok R (ev_act E x) (ev_act E y) h1
    exact ⟨undef, w', ι', .inr ⟨by simp only [execOp, Sem.run_bind, g1]; rfl, rfl⟩, VRel.undef, g2, g3⟩
  case nilCheck x =>
    have hx := ev_act E x
    split at h
    · rename_i ad hb
      split at h
      · rename_i r hr; cases h
        rw [hb] at hx
        obtain ⟨l, hl, hc⟩ := hx.ptr_inv hr
        rw [hc] at hx
        exact ⟨_, w, ι, .inl (by simp only [execOp, hc]; rfl), hx, Ext.refl _ _, R⟩
      · cases h
    · cases h
  case binOp op ty x y yt =>
    obtain ⟨v', h1, h2⟩ := omap h; cases h2
    obtain ⟨c', g1, g2⟩ := bin_ok (w := w) (ev_act E x) (ev_act E y) h1
    have hg : (eqGuard op ty x y (a.eval x) (a.eval y)).run P w = .ok () w := by
      unfold eqGuard
      have hx := ev_act E x
      have hy := ev_act E y
      generalize a.eval x = cx at *
      generalize a.eval y = cy at *
      unfold vbin at h1
      split at h1
      · rename_i e1 e2; rw [e1] at hx; rw [e2] at hy; cases hx; cases hy; cases op <;> rfl
      · rename_i e1 e2; rw [e1] at hx; rw [e2] at hy; cases hx; cases hy; cases op <;> rfl
      · rename_i e1 e2; rw [e1] at hx; rw [e2] at hy; cases hx; cases hy; cases op <;> rfl
      · cases h1
    exact ⟨c', w, ι, .inl (by simp only [execOp, Sem.run_bind, hg, Result.andThen_ok, g1]; rfl), g2, Ext.refl _ _, R⟩
  case unOp op ty x => obtain ⟨v', h1, h2⟩ := omap h; cases h2; exact fine_same R (un_ok (ev_act E x) h1)
  case convert src dst x =>
    split at h
    · rename_i hs
      obtain ⟨v', h1, h2⟩ := omap h; cases h2
      cases hd : P.underlying src with
      | none => simp [hd] at hs
      | some ds => exact fine_same R (convert_ok hd (ev_act E x) h1)
    · cases h
  case makeFunc fn first captured =>
    cases h
    refine ⟨.func fn (first.map a.eval) (captured.map a.eval), w, ι, .inl rfl, .func (by simp) (by simp) (fun i x y hx hy => ?_) (fun i x y hx hy => ?_), Ext.refl _ _, R⟩
    · simp only [Array.getElem?_map] at hx hy
      cases hl : first[i]? with
      | none => rw [hl] at hx; cases hx
      | some z => rw [hl] at hx hy; cases hx; cases hy; exact ev_act E z
    · simp only [Array.getElem?_map] at hx hy
      cases hl : captured[i]? with
      | none => rw [hl] at hx; cases hx
      | some z => rw [hl] at hx hy; cases hx; cases hy; exact ev_act E z
  case makeSlice ty l cp => exact fine_new (make_ok R hf0 (ev_act E l) (ev_act E cp) h)
  case slice ty x lo hi mx =>
    cases mx with
    | none => obtain ⟨v', h1, h2⟩ := omap h; cases h2; exact fine_same R (slice_ok (ev_act E x) (orel_act E lo) (orel_act E hi) h1)
    | some m => cases h
  case fieldAddr ty x f => obtain ⟨v', h1, h2⟩ := omap h; cases h2; exact fine_same R (fieldAddr_ok (ev_act E x) h1)
  case field ty x f => obtain ⟨v', h1, h2⟩ := omap h; cases h2; exact fine_same R (field_ok (ev_act E x) h1)
  case indexAddr ty x i => obtain ⟨v', h1, h2⟩ := omap h; cases h2; exact fine_same R (indexAddr_ok (ev_act E x) (ev_act E i) h1)
  case index ty x i => obtain ⟨v', h1, h2⟩ := omap h; cases h2; exact fine_same R (index_ok (ev_act E x) (ev_act E i) h1)
  case extract x i =>
    have hx := ev_act E x
    split at h
    · rename_i vs hb
      obtain ⟨v', h1, h2⟩ := omap h; cases h2
      rw [hb] at hx
      generalize hcc : a.eval x = cc at hx
      cases hx with
      | tuple hs hrel =>
        rename_i cs'
        have hlt : i < cs'.size := by have := (Array.getElem?_eq_some_iff.1 h1).1; omega
        refine ⟨cs'[i], w, ι, .inl ?_, hrel i _ _ h1 (Array.getElem?_eq_getElem hlt), Ext.refl _ _, R⟩
        simp [execOp, hcc, Instr.extract, hlt]
    · cases h
  case call c0 =>
    obtain ⟨callee, args, argTypes⟩ := c0
    cases callee with
    | builtin b =>
      exact builtin_ok (b := b) (ts := argTypes) (args := args) (ty := type) R hf0 E h
    | value f => exact absurd rfl (hnc _ f rfl)
    | invoke r m => cases h
end Go.VM
