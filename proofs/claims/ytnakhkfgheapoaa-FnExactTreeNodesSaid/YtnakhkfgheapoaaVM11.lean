import Derived.Test.YtnakhkfgheapoaaVM10
import Derived.Tactics
/-! The whole: what the value machine says of a text is what the model does. -/
set_option linter.all false
namespace Go.VM
open Go Go.RowKit
variable {P : Program} {H H' HF : Heap} {ι ι' : Inj} {v c x y d s : Value} {B frz : Nat} {w0 w w' : World} {t t' : Env} {a : Act}

theorem Ext.len (h : Ext H ι H' ι') : H.length ≤ H'.length := by
  rcases Nat.lt_or_ge H'.length H.length with hlt | hge
  · obtain ⟨r, hr, _⟩ := h H'.length _ (List.getElem?_eq_getElem hlt)
    have := (List.getElem?_eq_some_iff.1 hr).1; omega
  · exact hge

theorem guard_ok' {ops : Array Oper} {o : Oper} {b : Bool} (E : ∀ j want d, o.guard = some (j, want) → (ops[j]?).bind (·.dst) = some d → VRel P H ι (t d) (a.tmps.getD d undef)) (h : vguard ops o t = some b) : Region.wanted o (yielded ops a.tmps) = b := by
  unfold vguard at h
  unfold Region.wanted
  split at h
  · rename_i hg; cases h; rw [hg]
  · rename_i j want hg
    rw [hg]
    simp only [yielded]
    split at h
    · rename_i hd; cases h; rw [hd]; rfl
    · rename_i dd hd
      rw [hd]
      have hv := E j want dd hg hd
      simp only [Option.bind_some]
      split at h
      · rename_i b' hb
        cases h
        rw [hb] at hv
        generalize hc : a.tmps.getD dd undef = cc at hv
        cases hv
        rw [Array.getD_eq_getD_getElem?] at hc
        cases hq : a.tmps[dd]? with
        | none => rw [hq] at hc; cases hc
        | some z => rw [hq] at hc; simp at hc; subst hc; rfl
      · rename_i vs hb
        split at h
        · rename_i hs
          cases h
          rw [hb] at hv
          generalize hc : a.tmps.getD dd undef = cc at hv
          cases hv with
          | tuple h1 h2 =>
            rw [Array.getD_eq_getD_getElem?] at hc
            cases hq : a.tmps[dd]? with
            | none => rfl
            | some z => rw [hq] at hc; simp at hc; subst hc; rfl
        · cases h
      · cases h

theorem guard_ok (E : ERel P H ι t a.tmps) {ops : Array Oper} {o : Oper} {b : Bool} (h : vguard ops o t = some b) : Region.wanted o (yielded ops a.tmps) = b := guard_ok' (fun _ _ d _ _ => E d) h

/-- what is to be known of calls -/
def CallOk (P : Program) (call : Calling) (frz : Nat) : Prop :=
  ∀ g l H v H', call g l H = some (v, H') → frz ≤ H.length → (∃ fn, P.funcs[g]? = some fn ∧ fn.body.isSome = true ∧ (fn.name == "runtime.NumGoroutine") = false) ∧
    ∀ B w0 ι w cl, Rel P B w0 frz ι H w → LRel P H ι l cl →
      Calls P g cl.toArray w fun e w' => ∃ c ι', e = .returned c ∧ VRel P H' ι' v c ∧ Ext H ι H' ι' ∧ Rel P B w0 frz ι' H' w'

theorem func_inv {fn : Fn} {f cp : Array Value} (h : VRel P H ι (.func fn f cp) c) : ∃ f' cp', c = .func fn f' cp' ∧ LRel P H ι f.toList f'.toList ∧ LRel P H ι cp.toList cp'.toList := by
  cases h with
  | func hf hc h1 h2 => exact ⟨_, _, rfl, ⟨by simpa using hf, fun i x y hx hy => h1 i x y (by simpa using hx) (by simpa using hy)⟩, ⟨by simpa using hc, fun i x y hx hy => h2 i x y (by simpa using hx) (by simpa using hy)⟩⟩

/-- one operation, in the calculus -/
theorem oper_ok' (R : Rel P B w0 frz ι H w) (hf0 : frz ≤ H.length) {a1 : Act} (E : ERel P H ι t a.tmps) {call : Calling} (hcall : CallOk P call frz) (o : Oper)
    (heq : execOp a1.eval o = execOp a.eval o) (h : vop P frz call o.op t H = some (v, H')) {next : Act → World → Prop} {Q : Exit → Act → World → Prop}
    (hn : ∀ c w' ι', VRel P H' ι' v c → Ext H ι H' ι' → Rel P B w0 frz ι' H' w' → next (a1.put o.dst c) w') : o.wp P a1 w next Q := by
  by_cases hnc : ∀ c f, o.op = .call c → c.callee ≠ .value f
  · obtain ⟨c, w', ι', hr, h1, h2, h3⟩ := op_ok R hf0 E o hnc h
    unfold Oper.wp
    rw [heq]
    rcases hr with hr | ⟨hr, rfl⟩
    · rw [hr]; exact hn c w' ι' h1 h2 h3
    · rw [hr]; exact hn undef w' ι' h1 h2 h3
  · simp only [Classical.not_forall, Classical.not_not] at hnc
    obtain ⟨c0, f, ho, hcal⟩ := hnc
    obtain ⟨callee, args, argTypes⟩ := c0
    simp only at hcal
    subst hcal
    rw [ho] at h
    simp only [vop] at h
    split at h
    · rename_i g first captured hev
      have hfv := ev_act E f
      rw [hev] at hfv
      obtain ⟨f', cp', hfe, hl1, hl2⟩ := func_inv hfv
      obtain ⟨⟨fn, hfn, hbody, hname⟩, hcalls⟩ := hcall _ _ _ _ _ h hf0
      have L : LRel P H ι (first.toList ++ args.toList.map (ev t) ++ captured.toList) (f'.toList ++ args.toList.map a.eval ++ cp'.toList) :=
        (hl1.append (LRel.of_map args.toList (ev t) a.eval fun x _ => ev_act E x)).append hl2
      have hC := hcalls B w0 ι w _ R L
      have hargs : (f'.toList ++ args.toList.map a.eval ++ cp'.toList).toArray = f' ++ args.map a.eval ++ cp' := by
        apply Array.ext'; simp
      rw [hargs] at hC
      unfold Oper.wp
      have hrun : (execOp a.eval o).run P w = .ok (.enter g (f' ++ args.map a.eval ++ cp')) w := by
        have hb3 : fn.body ≠ none := by intro e; rw [e] at hbody; simp at hbody
        have hn1 : fn.name ≠ "runtime.NumGoroutine" := by simpa using hname
        simp [execOp, ho, resolve, hfe, Deferred.ofValue, invoke, callFunc, hfn, hn1, hb3]
      rw [heq, hrun]
      show Calls P g _ w _
      refine hC.mono fun e w' he => ?_
      obtain ⟨c, ι', rfl, h1, h2, h3⟩ := he
      exact hn c w' ι' h1 h2 h3
    · cases h

theorem oper_ok (R : Rel P B w0 frz ι H w) (hf0 : frz ≤ H.length) (E : ERel P H ι t a.tmps) {call : Calling} (hcall : CallOk P call frz) (o : Oper)
    (h : vop P frz call o.op t H = some (v, H')) {next : Act → World → Prop} {Q : Exit → Act → World → Prop}
    (hn : ∀ c w' ι', VRel P H' ι' v c → Ext H ι H' ι' → Rel P B w0 frz ι' H' w' → next (a.put o.dst c) w') : o.wp P a w next Q := oper_ok' R hf0 E hcall o rfl h hn

theorem Act.put_size (a : Act) (d : Option Tmp) (c : Value) : (a.put d c).tmps.size = a.tmps.size := by
  cases d <;> simp [Act.put]
theorem Act.put_defers (a : Act) (d : Option Tmp) (c : Value) : (a.put d c).defers = a.defers := by
  cases d <;> rfl

/-- where a piece of text has come to -/
def Post (P : Program) (B : Nat) (w0 : World) (frz : Nat) (H : Heap) (ι : Inj) (t' : Env) (H' : Heap) (sz : Nat) (a' : Act) (w' : World) : Prop :=
  a'.defers = [] ∧ a'.tmps.size = sz ∧ ∃ ι', Ext H ι H' ι' ∧ Rel P B w0 frz ι' H' w' ∧ ERel P H' ι' t' a'.tmps

theorem vops_ok {call : Calling} (hcall : CallOk P call frz) (hkeep : CallKeeps frz call) {ops : Array Oper} {Q : Exit → Act → World → Prop} : ∀ (l : List Oper) (t : Env) (H : Heap) (ι : Inj) (a : Act) (w : World),
    vops P frz call ops l t H = some (t', H') → Rel P B w0 frz ι H w → frz ≤ H.length → ERel P H ι t a.tmps → a.defers = [] →
    (∀ o ∈ l, ∀ d, o.dst = some d → d < a.tmps.size) →
    (∀ a' w', Post P B w0 frz H ι t' H' a.tmps.size a' w' → Q .normal a' w') → wpList P ops Q l a w
  | [], t, H, ι, a, w, h, R, hf, E, hd, hdst, hQ => by
    simp [vops] at h
    obtain ⟨rfl, rfl⟩ := h
    exact hQ a w ⟨hd, rfl, ι, Ext.refl _ _, R, E⟩
  | o :: l, t, H, ι, a, w, h, R, hf, E, hd, hdst, hQ => by
    simp only [vops] at h
    have hdo : ∀ x, o.dst = some x → x < a.tmps.size := hdst o (by simp)
    have hdl : ∀ (c : Value), ∀ o' ∈ l, ∀ d, o'.dst = some d → d < (a.put o.dst c).tmps.size := fun c o' ho' d hd' => by
      rw [Act.put_size]; exact hdst o' (by simp [ho']) d hd'
    unfold wpList
    split at h
    · rename_i hg
      rw [if_pos (guard_ok E hg)]
      refine .inl ?_
      split at h
      · rename_i v1 H1 h1
        have k1 := vop_keeps hkeep hf h1
        refine oper_ok R hf E hcall o h1 fun c w' ι' g1 g2 g3 => ?_
        refine vops_ok hcall hkeep l _ _ ι' _ _ h g3 (Nat.le_trans hf k1.1) ?_ (by rw [Act.put_defers]; exact hd) (hdl c) fun a' w'' hp => ?_
        · exact (E.mono g2).put o.dst hdo g1 a.defers
        · obtain ⟨p1, p2, ι2, p3, p4, p5⟩ := hp
          exact hQ a' w'' ⟨p1, by rw [p2, Act.put_size], ι2, g2.trans p3, p4, p5⟩
      · cases h
    · rename_i hg
      rw [if_neg (by rw [guard_ok E hg]; simp)]
      refine vops_ok hcall hkeep l _ _ ι _ _ h R hf ?_ (by rw [Act.put_defers]; exact hd) (hdl undef) fun a' w'' hp => ?_
      · exact E.put o.dst hdo VRel.undef a.defers
      · obtain ⟨p1, p2, p3⟩ := hp
        exact hQ a' w'' ⟨p1, by rw [p2, Act.put_size], p3⟩
    · cases h

theorem dstOk_region {n id : Nat} {ops : Array Oper} {dr : Bool} (h : dstOk n (.region id ops dr) = true) : ∀ o ∈ ops.toList, ∀ d, o.dst = some d → d < n := by
  intro o ho d hd
  simp only [dstOk, List.all_eq_true] at h
  have := h o ho
  simpa [hd] using this

theorem run_results (R : Rel P B w0 frz ι H w) (E : ERel P H ι t a.tmps) : ∀ (l : List ResultVar) (vs : List Value), vresults P t H l = some vs →
    ∃ cs, (l.mapM fun | .tmp t => pure (a.tmps.getD t undef) | .cell x t => do loadVar t (← asAddr (a.tmps.getD x undef)) : Sem (List Value)).run P w = .ok cs w ∧ LRel P H ι vs cs
  | [], vs, h => by simp [vresults] at h; subst h; exact ⟨[], rfl, rfl, by simp⟩
  | r :: l, vs, h => by
    simp only [vresults] at h
    split at h
    · rename_i v1 h1
      split at h
      · rename_i vs1 h2
        cases h
        obtain ⟨cs, g1, g2⟩ := run_results R E l vs1 h2
        have one : ∃ c, ((match r with | .tmp t => pure (a.tmps.getD t undef) | .cell x t => do loadVar t (← asAddr (a.tmps.getD x undef)) : Sem Value)).run P w = .ok c w ∧ VRel P H ι v1 c := by
          cases r with
          | tmp x => simp [vresult] at h1; subst h1; exact ⟨_, rfl, E x⟩
          | cell x ty =>
            simp only [vresult] at h1
            obtain ⟨c', g3, g4⟩ := load_ok R (E x) h1
            refine ⟨c', ?_, g4⟩
            have hv := E x
            unfold vload at h1
            split at h1
            · rename_i ad he
              split at h1
              · rename_i rr hrr
                rw [he] at hv
                obtain ⟨l', _, hc⟩ := hv.ptr_inv hrr
                rw [hc] at g3
                change (asAddr (a.tmps.getD x undef) >>= fun y => loadVar ty y : Sem Value).run P w = _
                rw [hc]
                exact g3
              · cases h1
            · cases h1
        obtain ⟨c, g5, g6⟩ := one
        refine ⟨c :: cs, ?_, by simp [g2.1], fun i x y hx hy => ?_⟩
        · simp only [List.mapM_cons, Sem.run_bind, g5, Result.andThen_ok, g1, Sem.run_pure]
        · cases i with
          | zero => simp at hx hy; subst hx; subst hy; exact g6
          | succ i => exact g2.2 i x y (by simpa using hx) (by simpa using hy)
      · cases h
    · cases h

theorem joined_rel {vs cs : List Value} (L : LRel P H ι vs cs) : VRel P H ι (joined vs) (if h : cs.toArray.size = 1 then cs.toArray[0] else .tuple cs.toArray) := by
  have hl := L.1
  match vs, cs, hl, L with
  | [v], [c], _, L => simpa [joined] using L.2 0 v c rfl rfl
  | [], [], _, _ => exact VRel.undef
  | v1 :: v2 :: vs, c1 :: c2 :: cs, _, L =>
    simp only [joined]
    rw [dif_neg (by simp)]
    exact .tuple (by simpa using L.1) fun i x y hx hy => L.2 i x y (by simpa using hx) (by simpa using hy)

theorem results_ok (R : Rel P B w0 frz ι H w) (E : ERel P H ι t a.tmps) {fn : Func} {vs : List Value} (h : vresults P t H fn.results.toList = some vs) :
    ∃ c, (results fn a.tmps).run P w = .ok c w ∧ VRel P H ι (joined vs) c := by
  obtain ⟨cs, h1, h2⟩ := run_results R E _ _ h
  refine ⟨_, ?_, joined_rel h2⟩
  unfold results
  rw [Array.mapM_eq_mapM_toList]
  simp only [Sem.run_bind, Sem.run_map]
  erw [h1]
  rfl
end Go.VM
