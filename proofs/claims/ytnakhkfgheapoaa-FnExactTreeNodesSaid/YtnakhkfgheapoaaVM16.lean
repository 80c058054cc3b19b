import Derived.Test.YtnakhkfgheapoaaVM12
/-! Regions that draw their order: what the machine says in the text's order holds in any. -/
set_option linter.all false
namespace Go.VM
open Go Go.RowKit
variable {P : Program} {H H' HF : Heap} {ι ι' : Inj} {v c x y d s : Value} {B frz : Nat} {w0 w w' : World} {t t' : Env} {a : Act}

theorem VRel.grow (h : ∀ id l, ι id = some l → ι' id = some l) (hv : VRel P H ι v c) : VRel P H ι' v c := by
  induction hv with
  | int => exact .int _ _
  | bool => exact .bool _
  | str => exact .str _
  | nilFunc => exact .nilFunc
  | nilPtr => exact .nilPtr
  | nilSl => exact .nilSl
  | noSl => exact .noSl
  | ptr hr hg hl => exact .ptr hr hg (h _ _ hl)
  | stalePtr hr hg hlt h1 => exact .stalePtr hr hg hlt h1
  | sl hr hg hl hlen hcap => exact .sl hr hg (h _ _ hl) hlen hcap
  | slZero hr hg hl => exact .slZero hr hg (h _ _ hl)
  | staleSl hr hg hlt h1 => exact .staleSl hr hg hlt h1
  | func hf hc _ _ i1 i2 => exact .func hf hc i1 i2
  | agg hc _ ih => exact .agg hc ih
  | tuple hc _ ih => exact .tuple hc ih
  | dead h1 => exact .dead h1
  | bot => exact .bot

/-- an operation that looks at no row: in any world -/
theorem pure_ok (E : ERel P H ι t a.tmps) {call : Calling} (o : Oper) (hp : pureB o.op = true) (h : vop P frz call o.op t H = some (v, H')) (w : World) :
    H' = H ∧ ∃ c, (execOp a.eval o).run P w = .ok (.value c) w ∧ VRel P H ι v c := by
  obtain ⟨dst, op, type, pos, after, guard⟩ := o
  have same : ∀ {s : Sem Value} {v : Value}, (∃ c, s.run P w = .ok c w ∧ VRel P H ι v c) → ∃ c, ((do pure (.value (← s)) : Sem Next).run P w = .ok (.value c) w) ∧ VRel P H ι v c :=
    fun ⟨c, h1, h2⟩ => ⟨c, by rw [Sem.run_bind, h1]; rfl, h2⟩
  cases op <;> simp only [pureB] at hp <;> simp only [vop] at h <;> try (cases hp; done)
  case move x => cases h; exact ⟨rfl, _, rfl, ev_act E x⟩
  case assign x => cases h; exact ⟨rfl, _, rfl, ev_act E x⟩
  case pick c0 x y =>
    have hc := ev_act E c0
    split at h
    · rename_i hb; rw [hb] at hc; cases h
      generalize hcc : a.eval c0 = cc at hc
      cases hc
      exact ⟨rfl, _, by simp [execOp, hcc, asBool], ev_act E x⟩
    · rename_i hb; rw [hb] at hc; cases h
      generalize hcc : a.eval c0 = cc at hc
      cases hc
      exact ⟨rfl, _, by simp [execOp, hcc, asBool], ev_act E y⟩
    · cases h
  case build ty parts => obtain ⟨v', h1, h2⟩ := omap h; cases h2; exact ⟨rfl, same (build_ok (prel_act E parts) h1)⟩
  case nilCheck x =>
    have hx := ev_act E x
    split at h
    · rename_i ad hb
      split at h
      · rename_i r hr; cases h
        rw [hb] at hx
        obtain ⟨l, hl, hc⟩ := hx.ptr_inv hr
        rw [hc] at hx
        exact ⟨rfl, _, by simp only [execOp, hc]; rfl, hx⟩
      · cases h
    · cases h
  case binOp op ty x y yt =>
    obtain ⟨v', h1, h2⟩ := omap h; cases h2
    obtain ⟨c', g1, g2⟩ := bin_ok (w := w) (ev_act E x) (ev_act E y) h1
    have hg : (eqGuard op ty x y (a.eval x) (a.eval y)).run P w = .ok () w := by
      unfold eqGuard
      have hx := ev_act E x
      have hy := ev_act E y
      generalize a.eval x = cx at *
      generalize a.eval y = cy at *
      unfold vbin at h1
      split at h1
      · rename_i e1 e2; rw [e1] at hx; rw [e2] at hy; cases hx; cases hy; cases op <;> rfl
      · rename_i e1 e2; rw [e1] at hx; rw [e2] at hy; cases hx; cases hy; cases op <;> rfl
      · rename_i e1 e2; rw [e1] at hx; rw [e2] at hy; cases hx; cases hy; cases op <;> rfl
      · cases h1
    exact ⟨rfl, c', by simp only [execOp, Sem.run_bind, hg, Result.andThen_ok, g1]; rfl, g2⟩
  case unOp op ty x => obtain ⟨v', h1, h2⟩ := omap h; cases h2; exact ⟨rfl, same (un_ok (ev_act E x) h1)⟩
  case convert src dst x =>
    split at h
    · rename_i hs
      obtain ⟨v', h1, h2⟩ := omap h; cases h2
      cases hd : P.underlying src with
      | none => simp [hd] at hs
      | some ds => exact ⟨rfl, same (convert_ok hd (ev_act E x) h1)⟩
    · cases h
  case makeFunc fn first captured =>
    cases h
    refine ⟨rfl, .func fn (first.map a.eval) (captured.map a.eval), rfl, .func (by simp) (by simp) (fun i x y hx hy => ?_) (fun i x y hx hy => ?_)⟩
    · simp only [Array.getElem?_map] at hx hy
      cases hl : first[i]? with
      | none => rw [hl] at hx; cases hx
      | some z => rw [hl] at hx hy; cases hx; cases hy; exact ev_act E z
    · simp only [Array.getElem?_map] at hx hy
      cases hl : captured[i]? with
      | none => rw [hl] at hx; cases hx
      | some z => rw [hl] at hx hy; cases hx; cases hy; exact ev_act E z
  case slice ty x lo hi mx =>
    cases mx with
    | none => obtain ⟨v', h1, h2⟩ := omap h; cases h2; exact ⟨rfl, same (slice_ok (ev_act E x) (orel_act E lo) (orel_act E hi) h1)⟩
    | some m => cases h
  case fieldAddr ty x f => obtain ⟨v', h1, h2⟩ := omap h; cases h2; exact ⟨rfl, same (fieldAddr_ok (ev_act E x) h1)⟩
  case field ty x f => obtain ⟨v', h1, h2⟩ := omap h; cases h2; exact ⟨rfl, same (field_ok (ev_act E x) h1)⟩
  case indexAddr ty x i => obtain ⟨v', h1, h2⟩ := omap h; cases h2; exact ⟨rfl, same (indexAddr_ok (ev_act E x) (ev_act E i) h1)⟩
  case index ty x i => obtain ⟨v', h1, h2⟩ := omap h; cases h2; exact ⟨rfl, same (index_ok (ev_act E x) (ev_act E i) h1)⟩
  case extract x i =>
    have hx := ev_act E x
    split at h
    · rename_i vs hb
      obtain ⟨v', h1, h2⟩ := omap h; cases h2
      rw [hb] at hx
      generalize hcc : a.eval x = cc at hx
      cases hx with
      | tuple hs hrel =>
        rename_i cs'
        have hlt : i < cs'.size := by have := (Array.getElem?_eq_some_iff.1 h1).1; omega
        exact ⟨rfl, cs'[i], by simp [execOp, hcc, Instr.extract, hlt], hrel i _ _ h1 (Array.getElem?_eq_getElem hlt)⟩
    · cases h
  case call c0 =>
    obtain ⟨callee, args, argTypes⟩ := c0
    have L : LRel P H ι (args.toList.map (ev t)) (args.map a.eval).toList := by
      have := LRel.of_map (P := P) (H := H) (ι := ι) args.toList (ev t) a.eval (fun x _ => ev_act E x)
      simpa using this
    split at hp
    · simp only at h
      rename_i hcal
      simp only at hcal
      subst hcal
      simp only [vbuiltin] at h
      generalize hl : args.toList.map (ev t) = l at *
      generalize hcs : args.map a.eval = cs at *
      split at h
      · rename_i ht
        obtain ⟨v', h1, h2⟩ := omap h
        cases h2
        obtain ⟨c, cs', hc, hx, _⟩ := L.cons_inv
        have := len_ok (P := P) (w := w) (ty := type) (ts := argTypes) (cs := cs) (by rw [← Array.getElem?_toList, ht]; rfl) (by rw [← Array.getElem?_toList, hc]; rfl) hx h1
        refine ⟨rfl, ?_⟩
        obtain ⟨c', g1, g2⟩ := same this
        exact ⟨c', by simp only [execOp, resolve]; rw [← hcs] at g1; exact g1, g2⟩
      · cases h
    · simp only at h
      rename_i hcal
      simp only at hcal
      subst hcal
      simp only [vbuiltin] at h
      generalize hl : args.toList.map (ev t) = l at *
      generalize hcs : args.map a.eval = cs at *
      split at h
      · obtain ⟨v', h1, h2⟩ := omap h
        cases h2
        obtain ⟨c, cs', hc, hx, L1⟩ := L.cons_inv
        have := fold_ok (P := P) (w := w) max2_ok _ _ _ _ hx L1 h1
        refine ⟨rfl, ?_⟩
        have h3 : ∃ c, (Builtin.max_ argTypes type cs).run P w = .ok c w ∧ VRel P H ι v c := by simp only [Builtin.max_, hc]; exact this
        obtain ⟨c', g1, g2⟩ := same h3
        exact ⟨c', by simp only [execOp, resolve]; rw [← hcs] at g1; exact g1, g2⟩
      · cases h
    · simp only at h
      rename_i hcal
      simp only at hcal
      subst hcal
      simp only [vbuiltin] at h
      generalize hl : args.toList.map (ev t) = l at *
      generalize hcs : args.map a.eval = cs at *
      split at h
      · obtain ⟨v', h1, h2⟩ := omap h
        cases h2
        obtain ⟨c, cs', hc, hx, L1⟩ := L.cons_inv
        have := fold_ok (P := P) (w := w) min2_ok _ _ _ _ hx L1 h1
        refine ⟨rfl, ?_⟩
        have h3 : ∃ c, (Builtin.min_ argTypes type cs).run P w = .ok c w ∧ VRel P H ι v c := by simp only [Builtin.min_, hc]; exact this
        obtain ⟨c', g1, g2⟩ := same h3
        exact ⟨c', by simp only [execOp, resolve]; rw [← hcs] at g1; exact g1, g2⟩
      · cases h
    · cases hp

theorem vop_congr {call : Calling} {o : Op} (h : ∀ x ∈ o.operands, ev t x = ev t' x) : vop P frz call o t H = vop P frz call o t' H := by
  have pairs : ∀ ps : Array (Nat × Operand), (∀ x ∈ ps.map (·.2), ev t x = ev t' x) → (ps.toList.map fun x => (x.1, ev t x.2)) = (ps.toList.map fun x => (x.1, ev t' x.2)) := fun ps hp =>
    List.map_congr_left fun p hm => by rw [hp p.2 (Array.mem_map.2 ⟨p, by simpa using hm, rfl⟩)]
  cases o <;> simp only [Op.operands] at h <;> simp only [vop]
  case build t ps => rw [pairs ps fun x hx => h x (by simpa using hx)]
  case buildSlice t n ps => rw [pairs ps fun x hx => h x (by simpa using hx)]
  case makeFunc fn first captured =>
    rw [Array.map_congr_left (xs := first) fun x hx => h x (by simp [hx]), Array.map_congr_left (xs := captured) fun x hx => h x (by simp [hx])]
  case call c =>
    have hargs : c.args.toList.map (ev t) = c.args.toList.map (ev t') := List.map_congr_left fun x hx => h x (by simp [Call.operands]; right; simpa using hx)
    rw [hargs]
    split
    · rfl
    · rename_i f hf
      rw [h f (by simp [Call.operands, hf])]
    · rfl
  case slice t x lo hi mx => cases mx <;> cases lo <;> cases hi <;> simp_all
  all_goals (first | rfl | (simp_all; done))
theorem vguard_congr {ops : Array Oper} {o : Oper} (h : ∀ d, d ∈ o.looksAt ops → t d = t' d) : vguard ops o t = vguard ops o t' := by
  unfold vguard
  cases hg : o.guard with
  | none => rfl
  | some gw =>
    obtain ⟨j, want⟩ := gw
    simp only []
    cases hd : (ops[j]?).bind (·.dst) with
    | none => rfl
    | some d => simp only []; rw [h d (by simp [Oper.looksAt, hg, hd])]
end Go.VM
