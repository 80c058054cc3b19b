/- Parts of a proof that the law FnExactDepthOfTree holds for every input: contracts of the program's functions and plain laws on what they compute. -/
import Derived.Test.YtkkoenbmokbglaaQFnExactDepthOfTree20
import Derived.Test.YtkkoenbmokbglaaQFnExactDepthOfTree19
import Derived.Test.YtkkoenbmokbglaaQFnExactDepthOfTree16
import Derived.Test.YtkkoenbmokbglaaQFnExactDepthOfTree11
import Derived.Test.YtkkoenbmokbglaaQFnExactDepthOfTree17
import Derived.Test.YtkkoenbmokbglaaQFnExactDepthOfTree18
section
namespace Go.Proofs.Ytkkoenbmokbglaa.Pure
open Go.RowKit Go.Proofs.Ytkkoenbmokbglaa.F Go.Proofs.YtkkoenbmokbglaaW.PrintWords Go.Proofs.YtkkoenbmokbglaaW.PrintLast Go.Proofs.YtkkoenbmokbglaaW.PrintMore
set_option linter.unusedVariables false
set_option linter.unusedSimpArgs false
theorem ev_run {σ α : Type} {g : Nat → σ → Int → Option α} (n : Nat) (step : σ → Nat → σ) (inv : Nat → σ → Prop) (r : α)
    (hs : ∀ j s, j < n → inv j s → inv (j + 1) (step s j) ∧ (Ev (fun k => g k (step s j) ((j + 1 : Nat) : Int)) r → Ev (fun k => g k s (j : Int)) r)) (s0 : σ) (h0 : inv 0 s0)
    (he : inv n ((List.range n).foldl step s0) → Ev (fun k => g k ((List.range n).foldl step s0) (n : Int)) r) : Ev (fun k => g k s0 0) r := by
  have key : ∀ d j s, j + d = n → inv j s → (inv n ((List.range' j d).foldl step s) → Ev (fun k => g k ((List.range' j d).foldl step s) (n : Int)) r) → Ev (fun k => g k s (j : Int)) r := by
    intro d
    induction d with
    | zero => intro j s hj hi h; have : j = n := by omega
              subst this; exact h hi
    | succ d ih =>
      intro j s hj hi h
      obtain ⟨h1, h2⟩ := hs j s (by omega) hi
      exact h2 (ih (j + 1) (step s j) (by omega) h1 (by simpa [List.range'_succ] using h))
  rw [List.range_eq_range'] at he
  exact key n 0 s0 (by omega) h0 he

def neg (s : List Int) : Nat := s.countP (· < 0)
theorem rd_set {s : List Int} {k x v : Int} (h0 : 0 ≤ k) (h1 : k < s.length) (hx : 0 ≤ x) : rd (s.set k.toNat v) x = if x = k then v else rd s x := by
  obtain ⟨i, rfl⟩ := Int.eq_ofNat_of_zero_le h0
  obtain ⟨j, rfl⟩ := Int.eq_ofNat_of_zero_le hx
  simp only [Int.toNat_natCast]
  by_cases hj : j < s.length
  · rw [rd_at (by simpa using hj), rd_at hj, List.getElem_set]
    by_cases e : i = j
    · subst e; simp
    · rw [if_neg e, if_neg (by omega)]
  · rw [if_neg (by omega)]
    simp [rd, hj]
theorem rd_neg_lt {s : List Int} {x : Int} (h0 : 0 ≤ x) (h : rd s x < 0) : x < s.length := by
  obtain ⟨j, rfl⟩ := Int.eq_ofNat_of_zero_le h0
  by_cases hj : j < s.length
  · omega
  · simp [rd, hj] at h
theorem neg_set {s : List Int} {k v : Int} (h0 : 0 ≤ k) (h1 : k < s.length) (h : rd s k < 0) (hv : 0 ≤ v) : neg (s.set k.toNat v) + 1 = neg s := by
  obtain ⟨i, rfl⟩ := Int.eq_ofNat_of_zero_le h0
  have hi : i < s.length := by omega
  rw [rd_at hi] at h
  unfold neg
  rw [Int.toNat_natCast, List.countP_set hi]
  have : 0 < s.countP (· < 0) := List.countP_pos_iff.2 ⟨_, List.getElem_mem hi, by simpa using h⟩
  rw [if_pos (by simpa using h), if_neg (by simp; omega)]
  omega

def vst (w h : Int) (b : List Int) (a d : Int) (x : List Int × List Int) (p : Nat) : List Int × List Int :=
  if link w h b (4 * a + p) ∧ rd x.1 (next w h a p) < 0 then (x.1.set (next w h a p).toNat d, x.2 ++ [next w h a p]) else x
def vis (w h : Int) (b : List Int) (a d : Int) (x : List Int × List Int) : List Int × List Int := (List.range 4).foldl (vst w h b a d) x

theorem link_next {w h : Int} {b : List Int} {a : Int} {p : Nat} (hp : p < 4) (h1 : link w h b (4 * a + p)) : isN w h a ∧ isN w h (next w h a p) ∧ endC w h (4 * a + p) = next w h a p := by
  obtain ⟨⟨⟨h2, h3⟩, _⟩, _⟩ := h1
  have e1 : (4 * a + (p : Int)) / 4 = a := by omega
  have e2 : (4 * a + (p : Int)) % 4 = p := by omega
  have := next_range w h a p
  unfold endC
  rw [e1, e2] at h3 ⊢
  refine ⟨⟨by omega, by omega⟩, ⟨h3, by omega⟩, rfl⟩

structure Ext (w h : Int) (d : Int) (x y : List Int × List Int) : Prop where
  len : y.1.length = x.1.length
  old : ∀ v, 0 ≤ v → 0 ≤ rd x.1 v → rd y.1 v = rd x.1 v
  new : ∀ v ∈ y.2, v ∈ x.2 ∨ (isN w h v ∧ rd y.1 v = d)
  sum : neg y.1 + y.2.length = neg x.1 + x.2.length
  pre : ∀ v ∈ x.2, v ∈ y.2
  low : (∀ v ∈ x.1, -1 ≤ v ∧ v ≤ d) → ∀ v ∈ y.1, -1 ≤ v ∧ v ≤ d
theorem Ext.rfl' {w h d : Int} {x : List Int × List Int} : Ext w h d x x := ⟨rfl, fun _ _ _ => rfl, fun _ h => .inl h, rfl, fun _ h => h, fun h => h⟩
theorem Ext.trans {w h d : Int} {x y z : List Int × List Int} (hd : 0 ≤ d) (a : Ext w h d x y) (b : Ext w h d y z) : Ext w h d x z where
  len := b.len.trans a.len
  old v h0 h1 := by
    have e := a.old v h0 h1
    rw [b.old v h0 (by omega), e]
  new v hv := by
    rcases b.new v hv with h1 | h1
    · rcases a.new v h1 with h2 | ⟨h2, h3⟩
      · exact .inl h2
      · exact .inr ⟨h2, by rw [b.old v h2.1 (by omega), h3]⟩
    · exact .inr h1
  sum := b.sum.trans a.sum
  pre v h := b.pre v (a.pre v h)
  low h := b.low (a.low h)
theorem vst_ext {w h : Int} {b : List Int} {a d : Int} {x : List Int × List Int} {p : Nat} (hp : p < 4) (hd : 0 ≤ d) : Ext w h d x (vst w h b a d x p) := by
  unfold vst
  by_cases hc : link w h b (4 * a + p) ∧ rd x.1 (next w h a p) < 0
  · rw [if_pos hc]
    obtain ⟨h1, h2, h3⟩ := link_next hp hc.1
    have h4 := rd_neg_lt h2.1 hc.2
    have := neg_set h2.1 h4 hc.2 hd
    refine ⟨by simp, fun v h0 h5 => ?_, fun v hv => ?_, by simp; omega, fun v hv => by simp [hv], fun hl v hv => ?_⟩
    · simp only
      rw [rd_set h2.1 h4 h0, if_neg (by intro e; subst e; omega)]
    · simp only [List.mem_append, List.mem_singleton] at hv
      rcases hv with hv | rfl
      · exact .inl hv
      · exact .inr ⟨h2, by simp only; rw [rd_set h2.1 h4 h2.1, if_pos rfl]⟩
    · rcases List.mem_or_eq_of_mem_set hv with h6 | rfl
      · exact hl v h6
      · omega
  · rw [if_neg hc]; exact Ext.rfl'
theorem foldl_ext {w h : Int} {b : List Int} {a d : Int} (hd : 0 ≤ d) : ∀ (l : List Nat) (x : List Int × List Int), (∀ p ∈ l, p < 4) → Ext w h d x (l.foldl (vst w h b a d) x)
  | [], x, _ => Ext.rfl'
  | p :: l, x, hp => (vst_ext (hp p (by simp)) hd).trans hd (foldl_ext hd l _ (fun q hq => hp q (by simp [hq])))
theorem vis_ext {w h : Int} {b : List Int} {a d : Int} (hd : 0 ≤ d) (x : List Int × List Int) : Ext w h d x (vis w h b a d x) := foldl_ext hd _ _ (by simp)
theorem vst_app {w h : Int} {b : List Int} {a d : Int} (s q q' : List Int) (p : Nat) : vst w h b a d (s, q ++ q') p = ((vst w h b a d (s, q') p).1, q ++ (vst w h b a d (s, q') p).2) := by
  unfold vst
  simp only
  split <;> simp
theorem foldl_app {w h : Int} {b : List Int} {a d : Int} (q : List Int) : ∀ (l : List Nat) (s q' : List Int), l.foldl (vst w h b a d) (s, q ++ q') = ((l.foldl (vst w h b a d) (s, q')).1, q ++ (l.foldl (vst w h b a d) (s, q')).2)
  | [], s, q' => rfl
  | p :: l, s, q' => by
    rw [List.foldl_cons, List.foldl_cons, vst_app]
    exact foldl_app q l _ _
theorem vis_app {w h : Int} {b : List Int} {a d : Int} (q s q' : List Int) : vis w h b a d (s, q ++ q') = ((vis w h b a d (s, q')).1, q ++ (vis w h b a d (s, q')).2) := foldl_app q _ _ _

inductive Run (w h : Int) (b : List Int) : List Int → List Int → List Int → Int → List Int → Prop
  | done (s : List Int) (d : Int) : Run w h b s [] [] d s
  | level {s : List Int} {x : Int} {nx : List Int} {d : Int} {r : List Int} : Run w h b s (x :: nx) [] (d + 1) r → Run w h b s [] (x :: nx) d r
  | node {s : List Int} {a : Int} {rest nx : List Int} {d : Int} {r : List Int} : Run w h b (vis w h b a d (s, nx)).1 rest (vis w h b a d (s, nx)).2 d r → Run w h b s (a :: rest) nx d r

structure Inv (w h : Int) (s rest nx : List Int) (d : Int) : Prop where
  len : (s.length : Int) = cnt w h
  fr : ∀ v ∈ rest, isN w h v ∧ rd s v = d - 1
  nw : ∀ v ∈ nx, isN w h v ∧ rd s v = d
  one : 1 ≤ d
  sum : d + neg s + nx.length ≤ cnt w h
  low : ∀ v ∈ s, -1 ≤ v ∧ v ≤ d
theorem Inv.level {w h : Int} {s nx : List Int} {x d : Int} (i : Inv w h s [] (x :: nx) d) : Inv w h s (x :: nx) [] (d + 1) :=
  ⟨i.len, fun v hv => ⟨(i.nw v hv).1, by have := (i.nw v hv).2; omega⟩, by simp, by have := i.one; omega, by have := i.sum; simp at this ⊢; omega, fun v hv => by have := i.low v hv; omega⟩
theorem Inv.node {w h : Int} {b s rest nx : List Int} {a d : Int} (i : Inv w h s (a :: rest) nx d) : Inv w h (vis w h b a d (s, nx)).1 rest (vis w h b a d (s, nx)).2 d := by
  have h1 := i.one
  have e := vis_ext (w := w) (h := h) (b := b) (a := a) (d := d) (by omega) (s, nx)
  refine ⟨by rw [e.len]; exact i.len, fun v hv => ?_, fun v hv => ?_, h1, ?_, e.low i.low⟩
  · obtain ⟨h2, h3⟩ := i.fr v (by simp [hv])
    exact ⟨h2, by rw [e.old v h2.1 (by simp only; omega)]; exact h3⟩
  · rcases e.new v hv with h2 | h2
    · obtain ⟨h3, h4⟩ := i.nw v h2
      exact ⟨h3, by rw [e.old v h3.1 (by simp only; omega)]; exact h4⟩
    · exact h2
  · have := e.sum; have := i.sum; simp only at *; omega
theorem run_ex {w h : Int} {b : List Int} : ∀ (m : Nat) (s rest nx : List Int) (d : Int), 3 * neg s + 2 * nx.length + rest.length ≤ m → Inv w h s rest nx d → ∃ r, Run w h b s rest nx d r := by
  intro m
  induction m with
  | zero =>
    intro s rest nx d hm i
    cases rest with
    | nil => cases nx with
      | nil => exact ⟨s, .done s d⟩
      | cons x nx => simp at hm
    | cons a rest => simp at hm
  | succ m ih =>
    intro s rest nx d hm i
    cases rest with
    | nil => cases nx with
      | nil => exact ⟨s, .done s d⟩
      | cons x nx =>
        obtain ⟨r, hr⟩ := ih s (x :: nx) [] (d + 1) (by simp at hm ⊢; omega) i.level
        exact ⟨r, .level hr⟩
    | cons a rest =>
      have e := (vis_ext (w := w) (h := h) (b := b) (a := a) (d := d) (by have := i.one; omega) (s, nx)).sum
      have e2 := (vis_ext (w := w) (h := h) (b := b) (a := a) (d := d) (by have := i.one; omega) (s, nx))
      have h1 : nx.length ≤ (vis w h b a d (s, nx)).2.length := by
        have := vis_app (w := w) (h := h) (b := b) (a := a) (d := d) nx s []
        rw [List.append_nil] at this; rw [this]; simp
      simp only at e
      obtain ⟨r, hr⟩ := ih (vis w h b a d (s, nx)).1 rest (vis w h b a d (s, nx)).2 d (by simp at hm; omega) i.node
      exact ⟨r, .node hr⟩

theorem implBfs_ev {w h : Int} {b : List Int} (hm : meshOk w h b) (hb : b.length ≤ 1048576) {s rest nx : List Int} {d : Int} {r : List Int} (R : Run w h b s rest nx d r) :
    ∀ don : List Int, Inv w h s rest nx d → ((don.length + rest.length + nx.length + neg s : Nat) : Int) = cnt w h → Ev (fun k => impl_TreeDepths.l0 k s (don ++ rest ++ nx) (don.length : Int) w h b) r := by
  have hc := cnt_range w h
  induction R with
  | done s d =>
    intro don i hq
    exact Ev.step (f := fun _ => some s) (fun k => by simp only [impl_TreeDepths.l0]; rw [if_neg (by simp)]) (Ev.now _)
  | @level s x nx d r _ ih =>
    intro don i hq
    have := ih don i.level (by simp at hq ⊢; omega)
    simpa using this
  | @node s a rest nx d r _ ih =>
    intro don i hq
    have h1 := i.one
    have hs := i.sum
    obtain ⟨ha, hd⟩ := i.fr a (by simp)
    have ha1 := (isN_ok ha).2
    have e := vis_ext (w := w) (h := h) (b := b) (a := a) (d := d) (by omega) (s, nx)
    have := ih (don ++ [a]) i.node (by have := e.sum; simp at this hq ⊢; omega)
    have hra : rd (don ++ a :: rest ++ nx) (don.length : Int) = a := by rw [rd_at (by simp)]; simp
    refine Ev.step (fun k => by simp only [impl_TreeDepths.l0]; rw [if_pos (by simp; omega), if_pos (by omega), hra]) ?_
    refine ev_run (g := fun k x p => impl_TreeDepths.l1 k x.1 x.2 (don.length : Int) a p w h b) 4 (vst w h b a d) (fun _ x => Ext w h d (s, don ++ a :: rest ++ nx) x) r (fun p x hp hx => ?_) (s, don ++ a :: rest ++ nx) Ext.rfl' (fun _ => ?_)
    · have hv := vst_ext (w := w) (h := h) (b := b) (a := a) (x := x) hp (by omega : 0 ≤ d)
      refine ⟨hx.trans (by omega) hv, fun hr => ?_⟩
      have hrs : rd x.1 a = d - 1 := by rw [hx.old a ha.1 (by simp only; omega)]; exact hd
      have hlen : (x.1.length : Int) = cnt w h := by rw [hx.len]; exact i.len
      have hql : x.2.length ≤ 16 := by have := hx.sum; simp at this hq; omega
      refine Ev.step (fun k => by
        simp only [impl_TreeDepths.l1]
        rw [if_pos (by omega), w64 (x := 4 * a) (by omega) (by omega), w64 (x := 4 * a + p) (by omega) (by omega), w64 (x := (p : Int) + 1) (by omega) (by omega)]) (Ev.bind (isLink_ev w h b _ (by omega)) ?_)
      by_cases hl : link w h b (4 * a + p)
      · obtain ⟨_, hn, he⟩ := link_next hp hl
        refine Ev.ifp (by simp [hm, hl]) ?_
        simp only [endOf_f w h b (4 * a + (p : Int)) (by omega) (by omega), he, Option.bind_some]
        refine Ev.ifp hn.1 (Ev.ifp (by have := hn.2; omega) ?_)
        by_cases hz : rd x.1 (next w h a p) < 0
        · refine Ev.ifp hz (Ev.ifp (by omega) (Ev.ifp (by have := ha.2; omega) (Ev.ifp (by omega) ?_)))
          rw [hrs, w64 (by omega) (by omega), show d - 1 + 1 = d by omega]
          have e1 : vst w h b a d x p = (x.1.set (next w h a p).toNat d, x.2 ++ [next w h a p]) := if_pos ⟨hl, hz⟩
          rw [e1] at hr; exact hr
        · refine Ev.ifn hz ?_
          have e1 : vst w h b a d x p = x := if_neg (fun e => hz e.2)
          rw [e1] at hr; exact hr
      · refine Ev.ifn (by simp [hl]) ?_
        have e1 : vst w h b a d x p = x := if_neg (fun e => hl e.1)
        rw [e1] at hr; exact hr
    · refine Ev.step (fun k => by simp only [impl_TreeDepths.l1]; rw [if_neg (by omega), w64 (x := (don.length : Int) + 1) (by omega) (by simp at hq; omega)]) ?_
      have e2 : (List.range 4).foldl (vst w h b a d) (s, don ++ a :: rest ++ nx) = ((vis w h b a d (s, nx)).1, (don ++ a :: rest) ++ (vis w h b a d (s, nx)).2) := vis_app (don ++ a :: rest) s nx
      rw [e2]
      simpa using this

theorem specBfs_ev {w h : Int} {b : List Int} (hm : meshOk w h b) (hb : b.length ≤ 1048576) {s rest nx : List Int} {d : Int} {r : List Int} (R : Run w h b s rest nx d r) :
    ∀ don : List Int, Inv w h s rest nx d → (don.length + rest.length ≤ 1048576) → Ev (fun k => spec_l31Depths.l2 k s (don ++ rest) d nx (don.length : Int) w h b) r := by
  have hc := cnt_range w h
  induction R with
  | done s d =>
    intro don i hq
    have h1 := i.one
    have hs := i.sum
    exact Ev.step (fun k => by simp only [spec_l31Depths.l2]; rw [if_neg (by simp)]) (Ev.step (f := fun _ => some s) (fun k => by simp only [spec_l31Depths.l1]; rw [if_neg (by simp)]) (Ev.now _))
  | @level s x nx d r _ ih =>
    intro don i hq
    have h1 := i.one
    have hs := i.sum
    have := ih [] i.level (by simp at hs ⊢; omega)
    exact Ev.step (fun k => by simp only [spec_l31Depths.l2]; rw [if_neg (by simp)]) (Ev.step (fun k => by simp only [spec_l31Depths.l1]; rw [if_pos (by simp), w64 (by omega) (by omega)]) (by simpa using this))
  | @node s a rest nx d r _ ih =>
    intro don i hq
    have h1 := i.one
    have hs := i.sum
    obtain ⟨ha, hd⟩ := i.fr a (by simp)
    have ha1 := (isN_ok ha).2
    have e := vis_ext (w := w) (h := h) (b := b) (a := a) (d := d) (by omega) (s, nx)
    have := ih (don ++ [a]) i.node (by simp at hq ⊢; omega)
    have hra : rd (don ++ a :: rest) (don.length : Int) = a := by rw [rd_at (by simp)]; simp
    refine Ev.step (fun k => by simp only [spec_l31Depths.l2]; rw [if_pos (by simp; omega)]) ?_
    refine ev_run (g := fun k x p => spec_l31Depths.l3 k x.1 (don ++ a :: rest) d x.2 (don.length : Int) p w h b) 4 (vst w h b a d) (fun _ x => Ext w h d (s, nx) x) r (fun p x hp hx => ?_) (s, nx) Ext.rfl' (fun _ => ?_)
    · have hv := vst_ext (w := w) (h := h) (b := b) (a := a) (x := x) hp (by omega : 0 ≤ d)
      refine ⟨hx.trans (by omega) hv, fun hr => ?_⟩
      have hlen : (x.1.length : Int) = cnt w h := by rw [hx.len]; exact i.len
      have hql : x.2.length ≤ 16 := by have := hx.sum; simp at this; omega
      refine Ev.step (fun k => by
        simp only [spec_l31Depths.l3]
        rw [if_pos (by omega), if_pos (by omega), if_pos (by simp; omega), hra, w64 (x := 4 * a) (by omega) (by omega), w64 (x := 4 * a + p) (by omega) (by omega), w64 (x := (p : Int) + 1) (by omega) (by omega)]) (Ev.bind (l31Link_ev w h b _ (by omega)) ?_)
      by_cases hl : link w h b (4 * a + p)
      · obtain ⟨_, hn, he⟩ := link_next hp hl
        refine Ev.ifp (by simp [hl]) ?_
        simp only [specNext_eq, next_f, Option.bind_some]
        refine Ev.ifp hn.1 (Ev.ifp (by have := hn.2; omega) ?_)
        by_cases hz : rd x.1 (next w h a p) < 0
        · refine Ev.ifp hz (Ev.ifp (by omega) ?_)
          have e1 : vst w h b a d x p = (x.1.set (next w h a p).toNat d, x.2 ++ [next w h a p]) := if_pos ⟨hl, hz⟩
          rw [e1] at hr; exact hr
        · refine Ev.ifn hz ?_
          have e1 : vst w h b a d x p = x := if_neg (fun e => hz e.2)
          rw [e1] at hr; exact hr
      · refine Ev.ifn (by simp [hl]) ?_
        have e1 : vst w h b a d x p = x := if_neg (fun e => hl e.1)
        rw [e1] at hr; exact hr
    · refine Ev.step (fun k => by simp only [spec_l31Depths.l3]; rw [if_neg (by omega), w64 (x := (don.length : Int) + 1) (by omega) (by omega)]) ?_
      have e2 : (List.range 4).foldl (vst w h b a d) (s, nx) = ((vis w h b a d (s, nx)).1, (vis w h b a d (s, nx)).2) := rfl
      rw [e2]
      simpa using this

def start (w h root : Int) : List Int := (List.replicate (cnt w h).toNat (-1)).set root.toNat 0
theorem start_inv {w h root : Int} (hr : isN w h root) : Inv w h (start w h root) [root] [] 1 ∧ ((neg (start w h root) : Nat) : Int) + 1 = cnt w h := by
  have hc := cnt_range w h
  have hl : root < ((List.replicate (cnt w h).toNat (-1 : Int)).length : Int) := by have := hr.2; simp; omega
  have h0 : rd (List.replicate (cnt w h).toNat (-1 : Int)) root = -1 := by
    have := rd_mem hr.1 hl
    exact List.eq_of_mem_replicate this
  have h1 := neg_set (v := 0) hr.1 hl (by omega) (by omega)
  have h2 : neg (List.replicate (cnt w h).toNat (-1 : Int)) = (cnt w h).toNat := by unfold neg; simp [List.countP_replicate]
  rw [h2] at h1
  have h3 : ((neg (start w h root) : Nat) : Int) + 1 = cnt w h := by unfold start; omega
  refine ⟨⟨by unfold start; simp; omega, fun v hv => ?_, by simp, by omega, by simp; omega, fun v hv => ?_⟩, h3⟩
  · simp only [List.mem_singleton] at hv
    subst hv
    refine ⟨hr, ?_⟩
    unfold start; rw [rd_set hr.1 hl hr.1, if_pos rfl]; omega
  · rcases List.mem_or_eq_of_mem_set hv with h6 | rfl
    · have := List.eq_of_mem_replicate h6; omega
    · omega
theorem Run.inv {w h : Int} {b s rest nx : List Int} {d : Int} {r : List Int} (R : Run w h b s rest nx d r) : Inv w h s rest nx d → ∃ d', Inv w h r [] [] d' := by
  induction R with
  | done s d => exact fun i => ⟨d, i⟩
  | level _ ih => exact fun i => ih i.level
  | node _ ih => exact fun i => ih i.node

theorem isRoot_ev (w h : Int) (b : List Int) (root : Int) (hb : b.length ≤ 1048576) : Ev (fun k => impl_isRoot.f k w h b root) (decide (meshOk w h b ∧ isN w h root)) := by
  refine Ev.bind (meshOk_ev w h b (by omega)) ?_
  by_cases h1 : meshOk w h b
  · refine Ev.ifp (by simpa using h1) ?_
    simp only [isNode_f, Option.bind_some]
    rw [decide_eq_decide.2 (show isN w h root ↔ meshOk w h b ∧ isN w h root from ⟨fun e => ⟨h1, e⟩, fun e => e.2⟩)]; exact Ev.now _
  · refine Ev.ifn (by simpa using h1) ?_
    rw [decide_eq_false (fun e => h1 e.1)]; exact Ev.now _
theorem l31Ok_ev (w h : Int) (b : List Int) (root : Int) (hb : b.length ≤ 1048576) : Ev (fun k => spec_l31Ok.f k w h b root) (decide (meshOk w h b ∧ isN w h root)) := by
  refine Ev.bind (specMeshOk_ev w h b (by omega)) ?_
  by_cases h1 : meshOk w h b
  · refine Ev.ifp (by simpa using h1) ?_
    simp only [specHas_eq, isNode_f, Option.bind_some]
    rw [decide_eq_decide.2 (show isN w h root ↔ meshOk w h b ∧ isN w h root from ⟨fun e => ⟨h1, e⟩, fun e => e.2⟩)]; exact Ev.now _
  · refine Ev.ifn (by simpa using h1) ?_
    rw [decide_eq_false (fun e => h1 e.1)]; exact Ev.now _

theorem treeDepths_no {w h : Int} {b : List Int} {root : Int} (hb : b.length ≤ 1048576) (hn : ¬ (meshOk w h b ∧ isN w h root)) : Ev (fun k => impl_TreeDepths.f k w h b root) [] :=
  Ev.bind (isRoot_ev w h b root hb) (Ev.ifn (by simpa using hn) (Ev.now _))
theorem specTreeDepths_no {w h : Int} {b : List Int} {root : Int} (hb : b.length ≤ 1048576) (hn : ¬ (meshOk w h b ∧ isN w h root)) : Ev (fun k => spec_TreeDepths.f k w h b root) [] :=
  Ev.bind (l31Ok_ev w h b root hb) (Ev.ifn (by simpa using hn) (Ev.now _))
theorem treeDepths_ev {w h : Int} {b : List Int} {root : Int} (hb : b.length ≤ 1048576) (hm : meshOk w h b) (hr : isN w h root) {r : List Int} (R : Run w h b (start w h root) [root] [] 1 r) : Ev (fun k => impl_TreeDepths.f k w h b root) r := by
  have hc := cnt_range w h
  obtain ⟨i, hq⟩ := start_inv hr
  have hr1 := hr.2
  have hr0 := hr.1
  have key := implBfs_ev hm hb R [] i (by simp; omega)
  refine Ev.bind (isRoot_ev w h b root hb) (Ev.ifp (by simp [hm, hr]) ?_)
  have e1 : slices_Repeat_int_int.f [-1] (cnt w h) = some (List.replicate (cnt w h).toNat (-1)) := by
    unfold slices_Repeat_int_int.f
    rw [if_pos (by simp), if_pos (by omega), if_pos (by omega)]; rfl
  simp only [nodeCount_f, e1, Option.bind_some]
  exact Ev.ifp (by omega) (Ev.ifp (by simp; omega) (by simpa [start] using key))
theorem specL31Depths_ev {w h : Int} {b : List Int} {root : Int} (hb : b.length ≤ 1048576) (hm : meshOk w h b) (hr : isN w h root) {r : List Int} (R : Run w h b (start w h root) [root] [] 1 r) : Ev (fun k => spec_l31Depths.f k w h b root) r := by
  have hc := cnt_range w h
  obtain ⟨i, hq⟩ := start_inv hr
  have hr1 := hr.2
  have hr0 := hr.1
  have key := specBfs_ev hm hb R [] i (by simp)
  unfold spec_l31Depths.f
  have hrep : (List.range (cnt w h).toNat).foldl (fun (s : List Int) _ => s ++ [-1]) [] = List.replicate (cnt w h).toNat (-1) := by
    rw [foldl_map (fun _ => (-1 : Int)), List.nil_append]; simp [List.map_const']
  refine ev_run (g := fun k s i => spec_l31Depths.l0 k root s i w h b) (cnt w h).toNat (fun s _ => s ++ [-1]) (fun j s => s.length = j) r (fun j s hj hs => ⟨by simp [hs], fun hr => ?_⟩) [] rfl (fun _ => ?_)
  · exact Ev.step (fun k => by
      simp only [spec_l31Depths.l0, specNodeCount_eq, nodeCount_f, Option.bind_some]
      rw [if_pos (by omega), if_pos (by omega), w64 (by omega) (by omega)]; rfl) hr
  · rw [hrep]
    refine Ev.step (fun k => by
      simp only [spec_l31Depths.l0, specNodeCount_eq, nodeCount_f, Option.bind_some]
      rw [if_neg (by omega), if_pos (by omega), if_pos (by simp; omega)]) ?_
    exact Ev.step (fun k => by simp only [spec_l31Depths.l1]; rw [if_pos (by simp)]) (by simpa [start] using key)
theorem specTreeDepths_ev {w h : Int} {b : List Int} {root : Int} (hb : b.length ≤ 1048576) (hm : meshOk w h b) (hr : isN w h root) {r : List Int} (R : Run w h b (start w h root) [root] [] 1 r) : Ev (fun k => spec_TreeDepths.f k w h b root) r :=
  Ev.bind (l31Ok_ev w h b root hb) (Ev.ifp (by simp [hm, hr]) (Ev.bind (specL31Depths_ev hb hm hr R) (Ev.now _)))
theorem ev_list {σ α : Type} {g : Nat → σ → Int → Option α} (l : List Int) (step : σ → Int → σ) (r : α)
    (hs : ∀ j s, j < l.length → Ev (fun k => g k (step s (rd l (j : Int))) ((j + 1 : Nat) : Int)) r → Ev (fun k => g k s (j : Int)) r) :
    ∀ d j s, j + d = l.length → Ev (fun k => g k ((l.drop j).foldl step s) (l.length : Int)) r → Ev (fun k => g k s (j : Int)) r := by
  intro d
  induction d with
  | zero => intro j s hj h; have e : j = l.length := by omega
            subst e; simpa using h
  | succ d ih =>
    intro j s hj h
    have hj' : j < l.length := by omega
    refine hs j s hj' (ih (j + 1) _ (by omega) ?_)
    rw [List.drop_eq_getElem_cons hj', List.foldl_cons] at h
    rw [rd_at hj']; exact h

def rootOk (w h : Int) (b : List Int) (root : Int) : Prop := meshOk w h b ∧ isN w h root
instance (w h : Int) (b : List Int) (root : Int) : Decidable (rootOk w h b root) := inferInstanceAs (Decidable (_ ∧ _))
theorem run_start {w h : Int} (b : List Int) {root : Int} (hr : isN w h root) : ∃ r, Run w h b (start w h root) [root] [] 1 r := run_ex _ _ _ _ _ (Nat.le_refl _) (start_inv hr).1
noncomputable def depths (w h : Int) (b : List Int) (root : Int) : List Int := if H : rootOk w h b root then Classical.choose (run_start b H.2) else []
theorem depths_run {w h : Int} {b : List Int} {root : Int} (H : rootOk w h b root) : Run w h b (start w h root) [root] [] 1 (depths w h b root) := by
  unfold depths; rw [dif_pos H]; exact Classical.choose_spec (run_start b H.2)
theorem depths_no {w h : Int} {b : List Int} {root : Int} (H : ¬ rootOk w h b root) : depths w h b root = [] := dif_neg H
theorem depths_inv {w h : Int} {b : List Int} {root : Int} (H : rootOk w h b root) : (((depths w h b root).length : Nat) : Int) = cnt w h ∧ ∀ v ∈ depths w h b root, -1 ≤ v ∧ v ≤ 16 := by
  obtain ⟨d, i⟩ := (depths_run H).inv (start_inv H.2).1
  have hc := cnt_range w h
  refine ⟨i.len, fun v hv => ?_⟩
  have := i.low v hv; have := i.sum; omega
theorem depths_length (w h : Int) (b : List Int) (root : Int) : (depths w h b root).length ≤ 16 := by
  have hc := cnt_range w h
  by_cases H : rootOk w h b root
  · have := (depths_inv H).1; omega
  · rw [depths_no H]; simp
theorem depths_ev {w h : Int} {b : List Int} {root : Int} (hb : b.length ≤ 1048576) : Ev (fun k => impl_TreeDepths.f k w h b root) (depths w h b root) := by
  by_cases H : rootOk w h b root
  · exact treeDepths_ev hb H.1 H.2 (depths_run H)
  · rw [depths_no H]; exact treeDepths_no hb H
theorem specDepths_ev {w h : Int} {b : List Int} {root : Int} (hb : b.length ≤ 1048576) : Ev (fun k => spec_TreeDepths.f k w h b root) (depths w h b root) := by
  by_cases H : rootOk w h b root
  · exact specTreeDepths_ev hb H.1 H.2 (depths_run H)
  · rw [depths_no H]; exact specTreeDepths_no hb H
noncomputable def depthOf (w h : Int) (b : List Int) (root : Int) : Int := (depths w h b root).foldl mx (-1)
theorem max_ev {l : List Int} (h0 : 0 < l.length) (h1 : l.length ≤ 16) (low : ∀ v ∈ l, -1 ≤ v) : Ev (fun k => slices_Max_int_int.f k l) (l.foldl mx (-1)) := by
  unfold slices_Max_int_int.f
  refine Ev.ifn (by omega) (Ev.ifp (by omega) ?_)
  have e1 : l.foldl mx (-1) = (l.drop 1).foldl mx (rd l 0) := by
    cases l with
    | nil => simp at h0
    | cons a l =>
      have := low a (by simp)
      have e2 : rd (a :: l) 0 = a := by rw [show (0 : Int) = ((0 : Nat) : Int) from rfl, rd_at (by simp)]; rfl
      rw [e2]
      simp only [List.foldl_cons, List.drop_succ_cons, List.drop_zero]
      rw [show mx (-1) a = a by unfold mx; split <;> omega]
  rw [e1]
  exact ev_list (g := fun k s i => slices_Max_int_int.l0 k l s i) l mx _ (fun j s hj hr => Ev.step (fun k => by simp only [slices_Max_int_int.l0]; rw [if_pos (by omega), if_pos (by omega), w64 (by omega) (by omega)]; rfl) hr) (l.length - 1) 1 _ (by omega)
    (Ev.step (f := fun _ => some _) (fun k => by simp only [slices_Max_int_int.l0]; rw [if_neg (by omega)]) (Ev.now _))
theorem depthOf_ev {w h : Int} {b : List Int} {root : Int} (hb : b.length ≤ 1048576) : Ev (fun k => impl_DepthOfTree.f k w h b root) (depthOf w h b root) := by
  refine Ev.bind (isRoot_ev w h b root hb) ?_
  by_cases H : rootOk w h b root
  · have i := depths_inv H
    have := H.2.1; have := H.2.2
    refine Ev.ifp (by have := H; unfold rootOk at this; simpa using this) (Ev.bind (depths_ev hb) (Ev.bind (max_ev (by omega) (depths_length w h b root) (fun v hv => (i.2 v hv).1)) (Ev.now _)))
  · refine Ev.ifn (by have := H; unfold rootOk at this; simpa using this) ?_
    unfold depthOf; rw [depths_no H]; exact Ev.now _
theorem specDepthOf_ev {w h : Int} {b : List Int} {root : Int} (hb : b.length ≤ 1048576) : Ev (fun k => spec_DepthOfTree.f k w h b root) (depthOf w h b root) := by
  refine Ev.bind (specDepths_ev hb) ?_
  have hl := depths_length w h b root
  unfold depthOf
  generalize depths w h b root = l at hl
  exact ev_list (g := fun k s i => spec_DepthOfTree.l0 k l s i) l mx _ (fun j s hj hr => Ev.step (fun k => by simp only [spec_DepthOfTree.l0]; rw [if_pos (by omega), if_pos (by omega), w64 (by omega) (by omega)]; rfl) hr) l.length 0 _ (by omega)
    (Ev.step (f := fun _ => some _) (fun k => by simp only [spec_DepthOfTree.l0]; rw [if_neg (by omega)]; rfl) (Ev.now _))
theorem toIntS_ev (l : List Int) (hl : l.length ≤ 35184372088832) : Ev (fun k => laws_toIntS.f k l) l := by
  have key : ∀ d j (x : List Int), j + d = l.length → x.length = l.length → (∀ i, i < j → x[i]? = l[i]?) → Ev (fun k => laws_toIntS.l0 k l x (j : Int)) l := by
    intro d
    induction d with
    | zero =>
      intro j x hj hx hi
      refine Ev.step (f := fun _ => some x) (fun k => by simp only [laws_toIntS.l0]; rw [if_neg (by omega)]) ?_
      have : x = l := List.ext_getElem? (fun i => by
        by_cases h : i < j
        · exact hi i h
        · rw [List.getElem?_eq_none (by omega), List.getElem?_eq_none (by omega)])
      rw [this]; exact Ev.now _
    | succ d ih =>
      intro j x hj hx hi
      have h := ih (j + 1) (x.set j l[j]) (by omega) (by simpa using hx) (fun i hi' => by
        by_cases h : i = j
        · subst h; rw [List.getElem?_set_self (by omega)]; simp
        · rw [List.getElem?_set_ne (by omega)]; exact hi i (by omega))
      refine Ev.step (fun k => ?_) h
      simp only [laws_toIntS.l0]
      rw [if_pos (by omega), if_pos (by omega), if_pos (by omega), w64 (by omega) (by omega), rd_at (by omega)]
      simp
  have h := key l.length 0 (List.replicate l.length 0) (by omega) (by simp) (by intro i hi; omega)
  refine Ev.congr (fun k => ?_) h
  unfold laws_toIntS.f
  rw [if_pos (by omega)]
  simp only [Int.toNat_natCast]
  rw [if_pos hl]; rfl

theorem eqIntS_ev (a b : List Int) (ha : a.length ≤ 9223372036854775807) : Ev (fun k => laws_eqIntS.f k a b) (decide (a = b)) := by
  by_cases hl : a.length = b.length
  · have key : ∀ d j, j + d = a.length → (∀ i, i < j → a[i]? = b[i]?) → Ev (fun k => laws_eqIntS.l0 k a b (j : Int)) (decide (a = b)) := by
      intro d
      induction d with
      | zero =>
        intro j hj hi
        have e : a = b := List.ext_getElem? (fun i => by
          by_cases h : i < j
          · exact hi i h
          · rw [List.getElem?_eq_none (by omega), List.getElem?_eq_none (by omega)])
        rw [decide_eq_true e]
        exact Ev.step (f := fun _ => some true) (fun k => by simp only [laws_eqIntS.l0]; rw [if_neg (by omega)]) (Ev.now _)
      | succ d ih =>
        intro j hj hi
        by_cases h : a[j]'(by omega) = b[j]'(by omega)
        · refine Ev.step (fun k => ?_) (ih (j + 1) (by omega) (fun i hi' => by
            by_cases h' : i = j
            · subst h'; rw [List.getElem?_eq_getElem (by omega), List.getElem?_eq_getElem (by omega), h]
            · exact hi i (by omega)))
          simp only [laws_eqIntS.l0]
          rw [if_pos (by omega), if_pos (by omega), if_pos (by omega), w64 (by omega) (by omega), rd_at (by omega), rd_at (by omega), if_pos h]
          simp
        · have e : a ≠ b := by intro e; subst e; exact h rfl
          rw [decide_eq_false e]
          refine Ev.step (f := fun _ => some false) (fun k => ?_) (Ev.now _)
          simp only [laws_eqIntS.l0]
          rw [if_pos (by omega), if_pos (by omega), if_pos (by omega), rd_at (by omega), rd_at (by omega), if_neg h]
    refine Ev.congr (fun k => ?_) (key a.length 0 (by omega) (by intro i hi; omega))
    unfold laws_eqIntS.f
    rw [if_pos (by omega)]; rfl
  · have e : a ≠ b := by intro e; subst e; exact hl rfl
    rw [decide_eq_false e]
    exact Ev.congr (f := fun _ => some false) (fun k => by unfold laws_eqIntS.f; rw [if_neg (by omega)]) (Ev.now _)

theorem szIntS_f (l : List Int) (n : Int) (h0 : 0 ≤ n) (h1 : n ≤ 9223372036854775807) (hl : l.length ≤ 9223372036854775807) : laws_szIntS.f l n = some (if n < l.length then -1 else n - l.length) := by
  unfold laws_szIntS.f
  rw [w64 (by omega) (by omega)]
  split <;> split <;> (first | rfl | omega)
theorem szMesh_f (w h : Int) (l : List Int) (n : Int) (h0 : 0 ≤ n) (h1 : n ≤ 9223372036854775807) (hl : l.length ≤ 9223372036854775807) : laws_szMesh.f w h l n = some (if n < l.length then -1 else n - l.length) := by
  unfold laws_szMesh.f
  simp only [szIntS_f l n h0 h1 hl, Option.bind_some]
  split <;> split <;> (first | rfl | omega)
theorem toMesh_ev (w h : Int) (l : List Int) (hl : l.length ≤ 35184372088832) : Ev (fun k => laws_toMesh.f k w h l) (w, h, l) := by
  unfold laws_toMesh.f laws_toGrid.f
  simp only [Option.bind_some]
  exact Ev.bind (toIntS_ev l hl) (Ev.now _)
theorem eqMesh_ev (w h : Int) (l : List Int) (w' h' : Int) (l' : List Int) (hl : l.length ≤ 9223372036854775807) : Ev (fun k => laws_eqMesh.f k w h l w' h' l') (decide (w = w' ∧ h = h' ∧ l = l')) := by
  unfold laws_eqMesh.f laws_eqGrid.f
  by_cases h1 : w = w'
  · by_cases h2 : h = h'
    · simp only [if_pos h1, if_pos h2, Option.bind_some, if_true]
      refine Ev.bind (eqIntS_ev l l' hl) ?_
      by_cases h3 : l = l' <;> simp [h1, h2, h3] <;> exact Ev.now _
    · simp [h1, h2]; exact Ev.now _
  · simp [h1]; exact Ev.now _
theorem FnExactDepthOfTree (w h : Int) (b : List Int) (c : Int) (w0 : (((Go.Lit.int .i64 w).wf = true) ∧ ((Go.Lit.int .i64 h).wf = true)) ∧ (b.length ≤ maxLen ∧ ∀ x ∈ b, (Go.Lit.int .i64 x).wf = true)) (w1 : (Go.Lit.int .i64 c).wf = true) : ∃ k, laws_FnExactDepthOfTree.f k w h b c = some true := by
  refine Ev.rounds (?_ : Ev (fun k => laws_FnExactDepthOfTree.f k w h b c) true)
  have hl : b.length ≤ 9223372036854775807 := w0.2.1
  unfold laws_FnExactDepthOfTree.f
  simp only [szMesh_f w h b 1048576 (by omega) (by omega) hl, Option.bind_some]
  by_cases hs : (1048576 : Int) < b.length
  · simp only [if_pos hs]; exact Ev.now _
  simp only [if_neg hs]
  have hb : b.length ≤ 1048576 := by omega
  refine Ev.ifn (by omega) (Ev.bind (toMesh_ev w h b (by omega)) (Ev.bind (specDepthOf_ev hb) (Ev.bind (toMesh_ev w h b (by omega)) (Ev.bind (depthOf_ev hb) ?_))))
  refine Ev.ifp rfl (Ev.bind (toMesh_ev w h b (by omega)) (Ev.bind (eqMesh_ev _ _ _ _ _ _ (by omega)) ?_))
  exact Ev.ifp (by simp) (Ev.now _)
end Go.Proofs.Ytkkoenbmokbglaa.Pure
end
