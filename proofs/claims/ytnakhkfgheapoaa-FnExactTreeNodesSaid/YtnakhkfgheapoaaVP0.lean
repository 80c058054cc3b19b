import Derived.Test.YtnakhkfgheapoaaVT0
/-! Trees: the plain side. -/
set_option linter.all false
namespace Go.Proofs.Ytnakhkfgheapoaa.V
open Go Go.VM
theorem rd_at {s : List Int} {j : Nat} (h : j < s.length) : rd s (j : Int) = s[j] := by simp [rd, List.getD_eq_getElem?_getD, h]
theorem rd_mem {s : List Int} {k : Int} (h0 : 0 ≤ k) (h1 : k < s.length) : rd s k ∈ s := by
  obtain ⟨i, rfl⟩ := Int.eq_ofNat_of_zero_le h0
  rw [rd_at (by omega)]; exact List.getElem_mem _
theorem meshOk_iff (w h : Int) (b : List Int) : meshOk w h b ↔ okG w h ∧ (∀ c ∈ b, leads w h c) ∧ b.Pairwise (· < ·) := by
  have e : ∀ j, j < b.length → b.getD j 0 = rd b (j : Int) := fun j _ => by simp [rd]
  constructor
  · rintro ⟨h1, h2⟩
    refine ⟨h2, fun c hc => ?_, ?_⟩
    · obtain ⟨j, hj, rfl⟩ := List.getElem_of_mem hc
      have := (h1 j hj).1
      rwa [getD_get _ _ hj] at this
    · rw [List.pairwise_iff_getElem]
      intro i j hi hj hij
      induction j with
      | zero => omega
      | succ j ih =>
        have := (h1 (j + 1) hj).2 (by omega)
        rw [getD_get _ _ hj, Nat.add_sub_cancel, getD_get _ _ (by omega)] at this
        by_cases h3 : i = j
        · subst h3; exact this
        · exact Int.lt_trans (ih (by omega) (by omega)) this
  · rintro ⟨h1, h2, h3⟩
    refine ⟨fun j hj => ⟨by rw [getD_get _ _ hj]; exact h2 _ (List.getElem_mem hj), fun h0 => ?_⟩, h1⟩
    rw [getD_get _ _ hj, getD_get _ _ (by omega)]
    exact List.pairwise_iff_getElem.1 h3 _ _ _ _ (by omega)
def endC (w h c : Int) : Int := next w h (c / 4) (c % 4)
def backC (w h c : Int) : Int := 4 * endC w h c + opp (c % 4)
def link (w h : Int) (b : List Int) (c : Int) : Prop := has w h b c ∧ has w h b (backC w h c)
instance (w h : Int) (b : List Int) (c : Int) : Decidable (link w h b c) := inferInstanceAs (Decidable (_ ∧ _))
theorem asc_length {n : Nat} : ∀ {b : List Int}, b.Pairwise (· < ·) → (∀ c ∈ b, 0 ≤ c ∧ c < (n : Int)) → b.length ≤ n := by
  intro b hb hc
  have key : ∀ (b : List Int) (lo : Int), b.Pairwise (· < ·) → (∀ c ∈ b, lo ≤ c ∧ c < (n : Int)) → 0 ≤ lo → (b.length : Int) ≤ max 0 (n - lo) := by
    intro b
    induction b with
    | nil => intro lo _ _ _; simp; omega
    | cons a l ih =>
      intro lo hp hm h0
      have h1 := hm a (by simp)
      have h2 := ih (a + 1) (List.pairwise_cons.1 hp).2 (fun c hc => ⟨by have := (List.pairwise_cons.1 hp).1 c hc; omega, (hm c (by simp [hc])).2⟩) (by omega)
      simp; omega
  have := key b 0 hb (fun c h => ⟨(hc c h).1, (hc c h).2⟩) (by omega)
  omega
def neg (s : List Int) : Nat := s.countP (· < 0)
theorem rd_set {s : List Int} {k x v : Int} (h0 : 0 ≤ k) (h1 : k < s.length) (hx : 0 ≤ x) : rd (s.set k.toNat v) x = if x = k then v else rd s x := by
  obtain ⟨i, rfl⟩ := Int.eq_ofNat_of_zero_le h0
  obtain ⟨j, rfl⟩ := Int.eq_ofNat_of_zero_le hx
  simp only [Int.toNat_natCast]
  by_cases hj : j < s.length
  · rw [rd_at (by simpa using hj), rd_at hj, List.getElem_set]
    by_cases e : i = j
    · subst e; simp
    · rw [if_neg e, if_neg (by omega)]
  · rw [if_neg (by omega)]
    simp [rd, hj]
theorem rd_neg_lt {s : List Int} {x : Int} (h0 : 0 ≤ x) (h : rd s x < 0) : x < s.length := by
  obtain ⟨j, rfl⟩ := Int.eq_ofNat_of_zero_le h0
  by_cases hj : j < s.length
  · omega
  · simp [rd, hj] at h
theorem neg_set {s : List Int} {k v : Int} (h0 : 0 ≤ k) (h1 : k < s.length) (h : rd s k < 0) (hv : 0 ≤ v) : neg (s.set k.toNat v) + 1 = neg s := by
  obtain ⟨i, rfl⟩ := Int.eq_ofNat_of_zero_le h0
  have hi : i < s.length := by omega
  rw [rd_at hi] at h
  unfold neg
  rw [Int.toNat_natCast, List.countP_set hi]
  have : 0 < s.countP (· < 0) := List.countP_pos_iff.2 ⟨_, List.getElem_mem hi, by simpa using h⟩
  rw [if_pos (by simpa using h), if_neg (by simp; omega)]
  omega
def vst (w h : Int) (b : List Int) (a d : Int) (x : List Int × List Int) (p : Nat) : List Int × List Int :=
  if link w h b (4 * a + p) ∧ rd x.1 (next w h a p) < 0 then (x.1.set (next w h a p).toNat d, x.2 ++ [next w h a p]) else x
def vis (w h : Int) (b : List Int) (a d : Int) (x : List Int × List Int) : List Int × List Int := (List.range 4).foldl (vst w h b a d) x
theorem link_next {w h : Int} {b : List Int} {a : Int} {p : Nat} (hp : p < 4) (h1 : link w h b (4 * a + p)) : isN w h a ∧ isN w h (next w h a p) ∧ endC w h (4 * a + p) = next w h a p := by
  obtain ⟨⟨⟨h2, h3⟩, _⟩, _⟩ := h1
  have e1 : (4 * a + (p : Int)) / 4 = a := by omega
  have e2 : (4 * a + (p : Int)) % 4 = p := by omega
  unfold endC
  rw [e1, e2] at h3 ⊢
  exact ⟨⟨by omega, by omega⟩, next_isN h3, rfl⟩
structure BExt (w h : Int) (d : Int) (x y : List Int × List Int) : Prop where
  len : y.1.length = x.1.length
  old : ∀ v, 0 ≤ v → 0 ≤ rd x.1 v → rd y.1 v = rd x.1 v
  new : ∀ v ∈ y.2, v ∈ x.2 ∨ (isN w h v ∧ rd y.1 v = d)
  sum : neg y.1 + y.2.length = neg x.1 + x.2.length
  pre : ∀ v ∈ x.2, v ∈ y.2
  low : (∀ v ∈ x.1, -1 ≤ v ∧ v ≤ d) → ∀ v ∈ y.1, -1 ≤ v ∧ v ≤ d
theorem BExt.rfl' {w h d : Int} {x : List Int × List Int} : BExt w h d x x := ⟨rfl, fun _ _ _ => rfl, fun _ h => .inl h, rfl, fun _ h => h, fun h => h⟩
theorem BExt.trans {w h d : Int} {x y z : List Int × List Int} (hd : 0 ≤ d) (a : BExt w h d x y) (b : BExt w h d y z) : BExt w h d x z where
  len := b.len.trans a.len
  old v h0 h1 := by
    have e := a.old v h0 h1
    rw [b.old v h0 (by omega), e]
  new v hv := by
    rcases b.new v hv with h1 | h1
    · rcases a.new v h1 with h2 | ⟨h2, h3⟩
      · exact .inl h2
      · exact .inr ⟨h2, by rw [b.old v h2.1 (by omega), h3]⟩
    · exact .inr h1
  sum := b.sum.trans a.sum
  pre v h := b.pre v (a.pre v h)
  low h := b.low (a.low h)
theorem vst_ext {w h : Int} {b : List Int} {a d : Int} {x : List Int × List Int} {p : Nat} (hp : p < 4) (hd : 0 ≤ d) : BExt w h d x (vst w h b a d x p) := by
  unfold vst
  by_cases hc : link w h b (4 * a + p) ∧ rd x.1 (next w h a p) < 0
  · rw [if_pos hc]
    obtain ⟨h1, h2, h3⟩ := link_next hp hc.1
    have h4 := rd_neg_lt h2.1 hc.2
    have := neg_set h2.1 h4 hc.2 hd
    refine ⟨by simp, fun v h0 h5 => ?_, fun v hv => ?_, by simp; omega, fun v hv => by simp [hv], fun hl v hv => ?_⟩
    · simp only
      rw [rd_set h2.1 h4 h0, if_neg (by intro e; subst e; omega)]
    · simp only [List.mem_append, List.mem_singleton] at hv
      rcases hv with hv | rfl
      · exact .inl hv
      · exact .inr ⟨h2, by simp only; rw [rd_set h2.1 h4 h2.1, if_pos rfl]⟩
    · rcases List.mem_or_eq_of_mem_set hv with h6 | rfl
      · exact hl v h6
      · omega
  · rw [if_neg hc]; exact BExt.rfl'
theorem foldl_ext {w h : Int} {b : List Int} {a d : Int} (hd : 0 ≤ d) : ∀ (l : List Nat) (x : List Int × List Int), (∀ p ∈ l, p < 4) → BExt w h d x (l.foldl (vst w h b a d) x)
  | [], x, _ => BExt.rfl'
  | p :: l, x, hp => (vst_ext (hp p (by simp)) hd).trans hd (foldl_ext hd l _ (fun q hq => hp q (by simp [hq])))
theorem vis_ext {w h : Int} {b : List Int} {a d : Int} (hd : 0 ≤ d) (x : List Int × List Int) : BExt w h d x (vis w h b a d x) := foldl_ext hd _ _ (by simp)
theorem vst_app {w h : Int} {b : List Int} {a d : Int} (s q q' : List Int) (p : Nat) : vst w h b a d (s, q ++ q') p = ((vst w h b a d (s, q') p).1, q ++ (vst w h b a d (s, q') p).2) := by
  unfold vst
  simp only
  split <;> simp
theorem foldl_app {w h : Int} {b : List Int} {a d : Int} (q : List Int) : ∀ (l : List Nat) (s q' : List Int), l.foldl (vst w h b a d) (s, q ++ q') = ((l.foldl (vst w h b a d) (s, q')).1, q ++ (l.foldl (vst w h b a d) (s, q')).2)
  | [], s, q' => rfl
  | p :: l, s, q' => by
    rw [List.foldl_cons, List.foldl_cons, vst_app]
    exact foldl_app q l _ _
theorem vis_app {w h : Int} {b : List Int} {a d : Int} (q s q' : List Int) : vis w h b a d (s, q ++ q') = ((vis w h b a d (s, q')).1, q ++ (vis w h b a d (s, q')).2) := foldl_app q _ _ _
inductive Run (w h : Int) (b : List Int) : List Int → List Int → List Int → Int → List Int → Prop
  | done (s : List Int) (d : Int) : Run w h b s [] [] d s
  | level {s : List Int} {x : Int} {nx : List Int} {d : Int} {r : List Int} : Run w h b s (x :: nx) [] (d + 1) r → Run w h b s [] (x :: nx) d r
  | node {s : List Int} {a : Int} {rest nx : List Int} {d : Int} {r : List Int} : Run w h b (vis w h b a d (s, nx)).1 rest (vis w h b a d (s, nx)).2 d r → Run w h b s (a :: rest) nx d r
structure Inv (w h : Int) (s rest nx : List Int) (d : Int) : Prop where
  len : (s.length : Int) = cnt w h
  fr : ∀ v ∈ rest, isN w h v ∧ rd s v = d - 1
  nw : ∀ v ∈ nx, isN w h v ∧ rd s v = d
  one : 1 ≤ d
  sum : d + neg s + nx.length ≤ cnt w h
  low : ∀ v ∈ s, -1 ≤ v ∧ v ≤ d
theorem Inv.level {w h : Int} {s nx : List Int} {x d : Int} (i : Inv w h s [] (x :: nx) d) : Inv w h s (x :: nx) [] (d + 1) :=
  ⟨i.len, fun v hv => ⟨(i.nw v hv).1, by have := (i.nw v hv).2; omega⟩, by simp, by have := i.one; omega, by have := i.sum; simp at this ⊢; omega, fun v hv => by have := i.low v hv; omega⟩
theorem Inv.node {w h : Int} {b s rest nx : List Int} {a d : Int} (i : Inv w h s (a :: rest) nx d) : Inv w h (vis w h b a d (s, nx)).1 rest (vis w h b a d (s, nx)).2 d := by
  have h1 := i.one
  have e := vis_ext (w := w) (h := h) (b := b) (a := a) (d := d) (by omega) (s, nx)
  refine ⟨by rw [e.len]; exact i.len, fun v hv => ?_, fun v hv => ?_, h1, ?_, e.low i.low⟩
  · obtain ⟨h2, h3⟩ := i.fr v (by simp [hv])
    exact ⟨h2, by rw [e.old v h2.1 (by simp only; omega)]; exact h3⟩
  · rcases e.new v hv with h2 | h2
    · obtain ⟨h3, h4⟩ := i.nw v h2
      exact ⟨h3, by rw [e.old v h3.1 (by simp only; omega)]; exact h4⟩
    · exact h2
  · have := e.sum; have := i.sum; simp only at *; omega
theorem run_ex {w h : Int} {b : List Int} : ∀ (m : Nat) (s rest nx : List Int) (d : Int), 3 * neg s + 2 * nx.length + rest.length ≤ m → Inv w h s rest nx d → ∃ r, Run w h b s rest nx d r := by
  intro m
  induction m with
  | zero =>
    intro s rest nx d hm i
    cases rest with
    | nil => cases nx with
      | nil => exact ⟨s, .done s d⟩
      | cons x nx => simp at hm
    | cons a rest => simp at hm
  | succ m ih =>
    intro s rest nx d hm i
    cases rest with
    | nil => cases nx with
      | nil => exact ⟨s, .done s d⟩
      | cons x nx =>
        obtain ⟨r, hr⟩ := ih s (x :: nx) [] (d + 1) (by simp at hm ⊢; omega) i.level
        exact ⟨r, .level hr⟩
    | cons a rest =>
      have e := (vis_ext (w := w) (h := h) (b := b) (a := a) (d := d) (by have := i.one; omega) (s, nx)).sum
      have e2 := (vis_ext (w := w) (h := h) (b := b) (a := a) (d := d) (by have := i.one; omega) (s, nx))
      have h1 : nx.length ≤ (vis w h b a d (s, nx)).2.length := by
        have := vis_app (w := w) (h := h) (b := b) (a := a) (d := d) nx s []
        rw [List.append_nil] at this; rw [this]; simp
      simp only at e
      obtain ⟨r, hr⟩ := ih (vis w h b a d (s, nx)).1 rest (vis w h b a d (s, nx)).2 d (by simp at hm; omega) i.node
      exact ⟨r, .node hr⟩
def start (w h root : Int) : List Int := (List.replicate (cnt w h).toNat (-1)).set root.toNat 0
theorem start_inv {w h root : Int} (hr : isN w h root) : Inv w h (start w h root) [root] [] 1 ∧ ((neg (start w h root) : Nat) : Int) + 1 = cnt w h := by
  have hc := cnt_range w h
  have hl : root < ((List.replicate (cnt w h).toNat (-1 : Int)).length : Int) := by have := hr.2; simp; omega
  have h0 : rd (List.replicate (cnt w h).toNat (-1 : Int)) root = -1 := by
    have := rd_mem hr.1 hl
    exact List.eq_of_mem_replicate this
  have h1 := neg_set (v := 0) hr.1 hl (by omega) (by omega)
  have h2 : neg (List.replicate (cnt w h).toNat (-1 : Int)) = (cnt w h).toNat := by unfold neg; simp [List.countP_replicate]
  rw [h2] at h1
  have h3 : ((neg (start w h root) : Nat) : Int) + 1 = cnt w h := by unfold start; omega
  refine ⟨⟨by unfold start; simp; omega, fun v hv => ?_, by simp, by omega, by simp; omega, fun v hv => ?_⟩, h3⟩
  · simp only [List.mem_singleton] at hv
    subst hv
    refine ⟨hr, ?_⟩
    unfold start; rw [rd_set hr.1 hl hr.1, if_pos rfl]; omega
  · rcases List.mem_or_eq_of_mem_set hv with h6 | rfl
    · have := List.eq_of_mem_replicate h6; omega
    · omega
theorem Run.inv {w h : Int} {b s rest nx : List Int} {d : Int} {r : List Int} (R : Run w h b s rest nx d r) : Inv w h s rest nx d → ∃ d', Inv w h r [] [] d' := by
  induction R with
  | done s d => exact fun i => ⟨d, i⟩
  | level _ ih => exact fun i => ih i.level
  | node _ ih => exact fun i => ih i.node
def rootOk (w h : Int) (b : List Int) (root : Int) : Prop := meshOk w h b ∧ isN w h root
instance (w h : Int) (b : List Int) (root : Int) : Decidable (rootOk w h b root) := inferInstanceAs (Decidable (_ ∧ _))
theorem run_start {w h : Int} (b : List Int) {root : Int} (hr : isN w h root) : ∃ r, Run w h b (start w h root) [root] [] 1 r := run_ex _ _ _ _ _ (Nat.le_refl _) (start_inv hr).1
noncomputable def depths (w h : Int) (b : List Int) (root : Int) : List Int := if H : rootOk w h b root then Classical.choose (run_start b H.2) else []
theorem depths_run {w h : Int} {b : List Int} {root : Int} (H : rootOk w h b root) : Run w h b (start w h root) [root] [] 1 (depths w h b root) := by
  unfold depths; rw [dif_pos H]; exact Classical.choose_spec (run_start b H.2)
theorem depths_no {w h : Int} {b : List Int} {root : Int} (H : ¬ rootOk w h b root) : depths w h b root = [] := dif_neg H
theorem depths_inv {w h : Int} {b : List Int} {root : Int} (H : rootOk w h b root) : (((depths w h b root).length : Nat) : Int) = cnt w h ∧ ∀ v ∈ depths w h b root, -1 ≤ v ∧ v ≤ 16 := by
  obtain ⟨d, i⟩ := (depths_run H).inv (start_inv H.2).1
  have hc := cnt_range w h
  refine ⟨i.len, fun v hv => ?_⟩
  have := i.low v hv; have := i.sum; omega
theorem depths_length (w h : Int) (b : List Int) (root : Int) : (depths w h b root).length ≤ 16 := by
  have hc := cnt_range w h
  by_cases H : rootOk w h b root
  · have := (depths_inv H).1; omega
  · rw [depths_no H]; simp
theorem depths_mem {w h : Int} {b : List Int} {root : Int} {v : Int} (hv : v ∈ depths w h b root) : -1 ≤ v ∧ v ≤ 16 := by
  by_cases H : rootOk w h b root
  · exact (depths_inv H).2 v hv
  · rw [depths_no H] at hv; simp at hv
theorem okG_isN {w h : Int} (h1 : okG w h) : isN w h 0 := by
  have := mul_small h1
  refine ⟨by omega, ?_⟩
  unfold cnt; rw [if_pos h1]; omega
def conn (w h : Int) (b : List Int) : Prop := meshOk w h b ∧ -1 ∉ depths w h b 0
noncomputable instance (w h : Int) (b : List Int) : Decidable (conn w h b) := inferInstanceAs (Decidable (_ ∧ _))
noncomputable def depthOf (w h : Int) (b : List Int) (root : Int) : Int := (depths w h b root).foldl max (-1)
noncomputable def better (w h : Int) (b : List Int) (best : Int) (root : Nat) : Int := if depthOf w h b (root : Int) < depthOf w h b best then (root : Int) else best
noncomputable def bestRoot (w h : Int) (b : List Int) : Int := if conn w h b then (List.range (cnt w h).toNat).foldl (better w h b) 0 else -1
theorem better_range {w h : Int} {b : List Int} {best : Int} {root : Nat} (h0 : 0 ≤ best) : 0 ≤ better w h b best root := by
  unfold better; split <;> omega
def toRoot (w h : Int) (b d : List Int) (i : Int) (p : Nat) : Prop := link w h b (4 * i + p) ∧ rd d (next w h i p) = rd d i - 1
instance (w h : Int) (b d : List Int) (i : Int) (p : Nat) : Decidable (toRoot w h b d i p) := inferInstanceAs (Decidable (_ ∧ _))
def par (w h : Int) (b d : List Int) (i : Int) : Int :=
  if rd d i > 0 then
    (if toRoot w h b d i 0 then next w h i (0 : Nat) else if toRoot w h b d i 1 then next w h i (1 : Nat) else if toRoot w h b d i 2 then next w h i (2 : Nat) else if toRoot w h b d i 3 then next w h i (3 : Nat) else -1)
  else -1
def pars (w h : Int) (b d : List Int) : List Int := (List.range d.length).map fun i : Nat => par w h b d (i : Int)
noncomputable def parents (w h : Int) (b : List Int) (root : Int) : List Int := pars w h b (depths w h b root)
theorem parents_length (w h : Int) (b : List Int) (root : Int) : (parents w h b root).length = (depths w h b root).length := by simp [parents, pars]
def Hi (d : Int) (x : List Int × List Int) : Prop := ∀ v ∈ x.1, v < d ∨ (v = d ∧ x.2 ≠ [])
theorem vst_hi {w h : Int} {b : List Int} {a d : Int} {x : List Int × List Int} {p : Nat} (hx : Hi d x) : Hi d (vst w h b a d x p) := by
  unfold vst
  split
  · intro v hv
    rcases List.mem_or_eq_of_mem_set hv with h6 | rfl
    · rcases hx v h6 with h7 | h7
      · exact .inl h7
      · exact .inr ⟨h7.1, by simp⟩
    · exact .inr ⟨rfl, by simp⟩
  · exact hx
theorem foldl_hi {w h : Int} {b : List Int} {a d : Int} : ∀ (l : List Nat) (x : List Int × List Int), Hi d x → Hi d (l.foldl (vst w h b a d) x)
  | [], x, hx => hx
  | p :: l, x, hx => foldl_hi l _ (vst_hi hx)
theorem Run.hi {w h : Int} {b s rest nx : List Int} {d : Int} {r : List Int} (R : Run w h b s rest nx d r) : Inv w h s rest nx d → Hi d (s, nx) → ∀ v ∈ r, v < cnt w h := by
  induction R with
  | done s d =>
    intro i hh v hv
    rcases hh v hv with h1 | h1
    · have := i.sum; simp at this; omega
    · exact absurd rfl h1.2
  | level _ ih =>
    exact fun i hh => ih i.level (fun v hv => by rcases hh v hv with h1 | h1 <;> exact .inl (by omega))
  | node _ ih => exact fun i hh => ih i.node (foldl_hi _ _ hh)
theorem depths_lt {w h : Int} {b : List Int} {root : Int} (H : rootOk w h b root) : ∀ v ∈ depths w h b root, v < cnt w h := by
  refine (depths_run H).hi (start_inv H.2).1 (fun v hv => ?_)
  have := (start_inv H.2).1.low v hv
  rcases List.mem_or_eq_of_mem_set hv with h6 | rfl
  · have := List.eq_of_mem_replicate h6; exact .inl (by omega)
  · exact .inl (by omega)
theorem par_cases (w h : Int) (b d : List Int) (i : Int) : par w h b d i = -1 ∨ ∃ p : Nat, p < 4 ∧ par w h b d i = next w h i p ∧ toRoot w h b d i p ∧ rd d i > 0 := by
  unfold par
  by_cases h0 : rd d i > 0
  · rw [if_pos h0]
    by_cases e0 : toRoot w h b d i 0
    · rw [if_pos e0]; exact .inr ⟨0, by omega, rfl, e0, h0⟩
    rw [if_neg e0]
    by_cases e1 : toRoot w h b d i 1
    · rw [if_pos e1]; exact .inr ⟨1, by omega, rfl, e1, h0⟩
    rw [if_neg e1]
    by_cases e2 : toRoot w h b d i 2
    · rw [if_pos e2]; exact .inr ⟨2, by omega, rfl, e2, h0⟩
    rw [if_neg e2]
    by_cases e3 : toRoot w h b d i 3
    · rw [if_pos e3]; exact .inr ⟨3, by omega, rfl, e3, h0⟩
    rw [if_neg e3]; exact .inl rfl
  · rw [if_neg h0]; exact .inl rfl
def Tree (t : List Int) (m : Int → Int) : Prop := ∀ i : Int, 0 ≤ i → i < t.length → m i < t.length ∧ (rd t i = -1 ∨ (0 ≤ rd t i ∧ rd t i < t.length ∧ 0 ≤ m (rd t i) ∧ m (rd t i) + 1 = m i))
theorem parents_tree {w h : Int} {b : List Int} {root : Int} (H : rootOk w h b root) : Tree (parents w h b root) (rd (depths w h b root)) := by
  have hl := parents_length w h b root
  obtain ⟨hc, _⟩ := depths_inv H
  intro i h0 h1
  have h2 : i < ((depths w h b root).length : Int) := by omega
  refine ⟨by have := depths_lt H _ (rd_mem h0 h2); omega, ?_⟩
  have e : rd (parents w h b root) i = par w h b (depths w h b root) i := by
    obtain ⟨j, rfl⟩ := Int.eq_ofNat_of_zero_le h0
    rw [rd_at (by omega)]; simp [parents, pars]
  rw [e]
  rcases par_cases w h b (depths w h b root) i with h3 | ⟨p, hp, h3, h4, h5⟩
  · exact .inl h3
  · obtain ⟨_, hn, _⟩ := link_next hp h4.1
    rw [h3]
    refine .inr ⟨hn.1, by have := hn.2; omega, ?_, ?_⟩
    · have := h4.2; omega
    · have := h4.2; omega

def inP (P : List Int) (a : Int) : Prop := 0 ≤ a ∧ a < P.length
instance (P : List Int) (a : Int) : Decidable (inP P a) := inferInstanceAs (Decidable (_ ∧ _))
@[simp] theorem inP_m1 (P : List Int) : inP P (-1) = False := by simp [inP]
def ancN (P : List Int) : Nat → Int → List Int → List Int
  | 0, a, out => if inP P a then [] else if a = -1 ∧ out ≠ [] then out else []
  | f + 1, a, out => if inP P a then ancN P f (rd P a) (out ++ [a]) else if a = -1 ∧ out ≠ [] then out else []
def anc (P : List Int) (a : Int) : List Int := ancN P P.length a []
theorem ancN_len (P : List Int) : ∀ f a out, (ancN P f a out).length ≤ out.length + f := by
  intro f
  induction f with
  | zero => intro a out; unfold ancN; repeat' split
            all_goals simp
  | succ f ih =>
    intro a out; unfold ancN; split
    · have := ih (rd P a) (out ++ [a]); simp at this; omega
    · split <;> simp
theorem anc_len (P : List Int) (a : Int) : (anc P a).length ≤ P.length := by have := ancN_len P P.length a []; simpa [anc] using this
theorem ancN_in (P : List Int) : ∀ f a out, (∀ x ∈ out, inP P x) → ∀ x ∈ ancN P f a out, inP P x := by
  intro f
  induction f with
  | zero => intro a out ho x hx; unfold ancN at hx; repeat' split at hx
            all_goals first | exact ho x hx | (simp at hx)
  | succ f ih =>
    intro a out ho x hx; unfold ancN at hx; split at hx
    · rename_i h1
      exact ih _ _ (fun y hy => by rcases List.mem_append.1 hy with hy | hy; exact ho y hy; rw [List.mem_singleton.1 hy]; exact h1) x hx
    · split at hx
      · exact ho x hx
      · simp at hx
theorem anc_in {P : List Int} {a x : Int} (h : x ∈ anc P a) : inP P x := ancN_in P P.length a [] (by simp) x h
def common (P : List Int) (a b : Int) : Int := ((anc P a).find? (fun x => decide (x ∈ anc P b))).getD (-1)
theorem common_no {P : List Int} {a b : Int} (h : ∀ x ∈ anc P a, x ∉ anc P b) : common P a b = -1 := by
  unfold common
  rw [List.find?_eq_none.2 (by simpa using h)]; rfl
theorem common_mem {P : List Int} {a b : Int} (h : 0 ≤ common P a b) : common P a b ∈ anc P a ∧ common P a b ∈ anc P b := by
  unfold common at h ⊢
  cases hf : (anc P a).find? (fun x => decide (x ∈ anc P b)) with
  | none => rw [hf] at h; simp at h
  | some u =>
    have h1 := List.mem_of_find?_eq_some hf
    have h2 := List.find?_some hf
    exact ⟨h1, by simpa using h2⟩
/-- the nodes of the way through the tree -/
def treeNodes (P : List Int) (a b : Int) : List Int :=
  if common P a b < 0 then [] else (anc P a).take ((anc P a).idxOf (common P a b) + 1) ++ ((anc P b).take ((anc P b).idxOf (common P a b))).reverse
theorem find_at {l : List Int} {q : Int → Bool} {j : Nat} (h : j < l.length) (hq : ∀ x ∈ l.take j, q x = false) (hx : q l[j] = true) : l.find? q = some l[j] := by
  have e : l = l.take j ++ (l[j] :: l.drop (j + 1)) := by rw [← List.drop_eq_getElem_cons h, List.take_append_drop]
  have e2 := congrArg (List.find? q) e
  rw [e2, List.find?_append, List.find?_eq_none.2 (by simpa using hq), List.find?_cons_of_pos hx]; rfl
def chain (t : List Int) : Nat → Int → List Int
  | 0, _ => []
  | k + 1, v => if inP t v then v :: chain t k (rd t v) else []
def Ends (t : List Int) : Nat → Int → Prop
  | 0, v => v = -1
  | k + 1, v => v = -1 ∨ (inP t v ∧ Ends t k (rd t v))
theorem Tree.ends {t : List Int} {m : Int → Int} (T : Tree t m) : ∀ (k : Nat) (v : Int), 0 ≤ v → v < t.length → m v < k → (0 ≤ m v ∨ 0 < k) → Ends t k v := by
  intro k
  induction k with
  | zero => intro v h0 h1 h2 h3; omega
  | succ k ih =>
    intro v h0 h1 h2 _
    refine .inr ⟨⟨h0, h1⟩, ?_⟩
    rcases (T v h0 h1).2 with h3 | ⟨h3, h4, h5, h6⟩
    · rw [h3]; cases k <;> simp [Ends]
    · exact ih _ h3 h4 (by omega) (.inl h5)
theorem ancN_chain {t : List Int} : ∀ (k : Nat) (v : Int) (out : List Int), Ends t k v → (out ≠ [] ∨ (0 ≤ v ∧ v < t.length)) → ancN t k v out = out ++ chain t k v := by
  intro k
  induction k with
  | zero =>
    intro v out he ho
    have he : v = -1 := he
    subst he
    have ho : out ≠ [] := ho.resolve_right (by omega)
    simp [ancN, chain, ho]
  | succ k ih =>
    intro v out he ho
    rcases he with rfl | ⟨h1, h2⟩
    · have ho : out ≠ [] := ho.resolve_right (by omega)
      simp [ancN, chain, ho]
    · simp only [ancN, chain]
      rw [if_pos h1, if_pos h1, ih _ _ h2 (.inl (by simp))]
      simp
theorem chain_any {t : List Int} : ∀ (k k' : Nat) (v : Int), Ends t k v → Ends t k' v → chain t k v = chain t k' v := by
  intro k
  induction k with
  | zero =>
    intro k' v h1 h2
    have h1 : v = -1 := h1
    subst h1
    cases k' with
    | zero => rfl
    | succ k' => simp [chain]
  | succ k ih =>
    intro k' v h1 h2
    cases k' with
    | zero => have h2 : v = -1 := h2
              subst h2; simp [chain]
    | succ k' =>
      rcases h1 with rfl | ⟨h1, h3⟩
      · simp [chain]
      · rcases h2 with rfl | ⟨_, h4⟩
        · simp at h1
        · simp only [chain]; rw [if_pos h1, if_pos h1, ih _ _ h3 h4]
theorem anc_cons {t : List Int} {m : Int → Int} (T : Tree t m) {v : Int} (h0 : 0 ≤ v) (h1 : v < t.length) : anc t v = v :: (if rd t v = -1 then [] else anc t (rd t v)) := by
  have hE : ∀ u : Int, 0 ≤ u → u < t.length → Ends t t.length u := fun u a b => T.ends t.length u a b (T u a b).1 (.inr (by omega))
  have e : ∀ u : Int, 0 ≤ u → u < t.length → anc t u = chain t t.length u := fun u a b => by
    have := ancN_chain t.length u [] (hE u a b) (.inr ⟨a, b⟩); simpa [anc] using this
  rw [e v h0 h1]
  obtain ⟨n, hn⟩ : ∃ n, t.length = n + 1 := ⟨t.length - 1, by omega⟩
  have h2 := hE v h0 h1
  rw [hn] at h2 ⊢
  rcases h2 with h2 | ⟨_, h3⟩
  · omega
  simp only [chain]
  rw [if_pos (show inP t v from ⟨h0, h1⟩)]
  rcases (T v h0 h1).2 with h4 | ⟨h4, h5, _, _⟩
  · rw [if_pos h4, h4]; cases n <;> simp [chain]
  · rw [if_neg (by omega), e _ h4 h5, chain_any n t.length _ h3 (hE _ h4 h5)]
theorem anc_suffix {t : List Int} {m : Int → Int} (T : Tree t m) : ∀ (n : Nat) (v : Int), 0 ≤ v → v < t.length → m v < n → ∀ u ∈ anc t v, (0 ≤ u ∧ u < t.length) ∧ ∃ l, anc t v = l ++ anc t u ∧ ∀ x ∈ l, m u < m x := by
  intro n
  induction n with
  | zero =>
    intro v h0 h1 h2 u hu
    rw [anc_cons T h0 h1] at hu ⊢
    rcases (T v h0 h1).2 with h4 | ⟨h4, h5, h6, h7⟩
    · rw [if_pos h4] at hu ⊢
      simp only [List.mem_singleton] at hu; subst hu
      refine ⟨⟨h0, h1⟩, [], ?_, by simp⟩
      rw [anc_cons T h0 h1, if_pos h4]; rfl
    · omega
  | succ n ih =>
    intro v h0 h1 h2 u hu
    rcases (T v h0 h1).2 with h4 | ⟨h4, h5, h6, h7⟩
    · have e := anc_cons T h0 h1
      rw [if_pos h4] at e
      rw [e] at hu
      simp only [List.mem_singleton] at hu; subst hu
      exact ⟨⟨h0, h1⟩, [], rfl, by simp⟩
    · have e := anc_cons T h0 h1
      rw [if_neg (by omega)] at e
      rw [e] at hu
      rcases List.mem_cons.1 hu with rfl | hu
      · exact ⟨⟨h0, h1⟩, [], rfl, by simp⟩
      · obtain ⟨hb, l, e1, hx⟩ := ih _ h4 h5 (by omega) u hu
        refine ⟨hb, v :: l, by rw [e, e1]; rfl, fun x hx' => ?_⟩
        have hle : m u ≤ m (rd t v) := by
          cases l with
          | nil =>
            have e2 := anc_cons T h4 h5
            have e3 := anc_cons T hb.1 hb.2
            rw [List.nil_append] at e1
            rw [e1, e3] at e2
            have := (List.cons.inj e2).1
            rw [this]; omega
          | cons y l =>
            have e2 := anc_cons T h4 h5
            rw [e1, List.cons_append] at e2
            have e4 := (List.cons.inj e2).1
            have := hx y (by simp)
            rw [e4] at this; omega
        rcases List.mem_cons.1 hx' with rfl | hx'
        · omega
        · exact hx x hx'

end Go.Proofs.Ytnakhkfgheapoaa.V
