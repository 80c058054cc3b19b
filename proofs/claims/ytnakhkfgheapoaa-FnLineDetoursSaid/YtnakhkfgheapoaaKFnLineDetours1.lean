/- Texts of a proof, joined. -/
import Derived.Test.YtnakhkfgheapoaaKM0
import Derived.Test.YtnakhkfgheapoaaKM1
import Derived.Test.YtnakhkfgheapoaaKFnLineDetours0
/-! Trees: who is reached, and the first step of a way. -/
set_option linter.all false
namespace Go.Proofs.Ytnakhkfgheapoaa.V
open Go Go.VM
set_option maxRecDepth 100000
def geoB : Bool := (List.range 5).all fun w => (List.range 5).all fun h => (List.range 16).all fun a => (List.range 4).all fun p =>
  decide (next (w : Int) h a p < 0) || (decide (next w h (next w h a p) (opp p) = a) && (decide (0 ≤ opp p) && (decide (opp p < 4) && (decide (next (w : Int) h a p ≠ a) && decide (opp (opp p) = p)))))
theorem geo_dec : geoB = true := by decide +kernel
theorem geo {w h a : Int} {p : Nat} (hp : p < 4) (ha : isN w h a) (hu : 0 ≤ next w h a p) : next w h (next w h a p) (opp p) = a ∧ 0 ≤ opp p ∧ opp p < 4 ∧ next w h a p ≠ a ∧ opp (opp p) = p := by
  obtain ⟨⟨⟨a1, a2⟩, b1, b2⟩, c1, c2, c3⟩ := isN_ok ha
  have h0 := geo_dec
  unfold geoB at h0
  rw [List.all_eq_true] at h0
  have h1 := h0 w.toNat (by simp; omega)
  rw [List.all_eq_true] at h1
  have h2 := h1 h.toNat (by simp; omega)
  rw [List.all_eq_true] at h2
  have h3 := h2 a.toNat (by simp; omega)
  rw [List.all_eq_true] at h3
  have h4 := h3 p (by simp; omega)
  have e1 : (w.toNat : Int) = w := by omega
  have e2 : (h.toNat : Int) = h := by omega
  have e3 : (a.toNat : Int) = a := by omega
  rw [e1, e2, e3] at h4
  simp only [Bool.or_eq_true, Bool.and_eq_true, decide_eq_true_eq] at h4
  rcases h4 with h4 | h4
  · omega
  · exact h4
theorem link_symm {w h : Int} {b : List Int} {a : Int} {p : Nat} (hp : p < 4) (h1 : link w h b (4 * a + p)) : ∃ q : Nat, q < 4 ∧ link w h b (4 * next w h a p + q) ∧ next w h (next w h a p) q = a := by
  obtain ⟨ha, hu, he⟩ := link_next hp h1
  obtain ⟨g1, g2, g3, g4, g5⟩ := geo hp ha hu.1
  have e0 : (4 * a + (p : Int)) % 4 = p := by omega
  have hb : backC w h (4 * a + p) = 4 * next w h a p + opp p := by unfold backC; rw [he, e0]
  have h2 := h1.2
  rw [hb] at h2
  obtain ⟨q, hq⟩ := Int.eq_ofNat_of_zero_le g2
  rw [hq] at g1 g3 g5 h2
  have eq1 : (4 * next w h a p + (q : Int)) / 4 = next w h a p := by omega
  have eq2 : (4 * next w h a p + (q : Int)) % 4 = q := by omega
  refine ⟨q, by omega, ⟨h2, ?_⟩, g1⟩
  have : backC w h (4 * next w h a p + q) = 4 * a + p := by unfold backC endC; rw [eq1, eq2, g1, g5]
  rw [this]; exact h1.1

/-- what visiting the ports of a list does -/
structure VOut (w h : Int) (b : List Int) (a d : Int) (l : List Nat) (x y : List Int × List Int) : Prop where
  keep : ∀ v, 0 ≤ v → 0 ≤ rd x.1 v → rd y.1 v = rd x.1 v
  new : ∀ v, isN w h v → rd x.1 v < 0 → 0 ≤ rd y.1 v → rd y.1 v = d ∧ v ∈ y.2 ∧ ∃ p : Nat, p < 4 ∧ link w h b (4 * a + p) ∧ next w h a p = v
  all : ∀ p ∈ l, link w h b (4 * a + (p : Nat)) → 0 ≤ rd y.1 (next w h a p)
  pre : ∀ v ∈ x.2, v ∈ y.2
  len : y.1.length = x.1.length
theorem vst_out {w h : Int} {b : List Int} {a d : Int} (hd : 0 ≤ d) : ∀ (l : List Nat) (x : List Int × List Int), (∀ p ∈ l, p < 4) → (∀ v, isN w h v → v < x.1.length) → VOut w h b a d l x (l.foldl (vst w h b a d) x)
  | [], x, _, _ => ⟨fun _ _ _ => rfl, fun v _ h1 h2 => by simp only [List.foldl_nil] at h2; omega, fun p hp => by simp at hp, fun _ h => h, rfl⟩
  | p :: l, x, hl, hlen => by
    have hp := hl p (by simp)
    have E := vst_ext (w := w) (h := h) (b := b) (a := a) (x := x) hp hd
    have ih := vst_out (w := w) (h := h) (b := b) (a := a) hd l (vst w h b a d x p) (fun q hq => hl q (by simp [hq])) (by rw [E.len]; exact hlen)
    refine ⟨fun v h0 h1 => ?_, fun v hv h1 h2 => ?_, fun q hq hlk => ?_, fun v hv => ih.pre v (E.pre v hv), by rw [List.foldl_cons, ih.len, E.len]⟩
    · have e1 := E.old v h0 h1
      rw [List.foldl_cons, ih.keep v h0 (by omega), e1]
    · by_cases h3 : rd (vst w h b a d x p).1 v < 0
      · exact ih.new v hv h3 h2
      · have h4 : 0 ≤ rd (vst w h b a d x p).1 v := by omega
        have e2 := ih.keep v hv.1 h4
        have : link w h b (4 * a + p) ∧ next w h a p = v ∧ rd (vst w h b a d x p).1 v = d ∧ v ∈ (vst w h b a d x p).2 := by
          unfold vst at h4 ⊢
          split at h4
          · rename_i hc
            rw [if_pos hc]
            obtain ⟨_, hn, _⟩ := link_next hp hc.1
            have hln := hlen _ hn
            simp only at h4 ⊢
            rw [rd_set hn.1 hln hv.1] at h4 ⊢
            by_cases hvn : v = next w h a p
            · rw [if_pos hvn]; exact ⟨hc.1, hvn.symm, rfl, by simp [hvn]⟩
            · rw [if_neg hvn] at h4; omega
          · omega
        rw [List.foldl_cons]
        exact ⟨by rw [e2]; exact this.2.2.1, ih.pre v this.2.2.2, p, hp, this.1, this.2.1⟩
    · rcases List.mem_cons.1 hq with rfl | hq
      · obtain ⟨_, hn, _⟩ := link_next hp hlk
        have hln := hlen _ hn
        have h4 : 0 ≤ rd (vst w h b a d x q).1 (next w h a q) := by
          unfold vst
          split
          · simp only; rw [rd_set hn.1 hln hn.1, if_pos rfl]; exact hd
          · rename_i hc
            by_cases h5 : rd x.1 (next w h a q) < 0
            · exact absurd ⟨hlk, h5⟩ hc
            · omega
        rw [List.foldl_cons, ih.keep _ hn.1 h4]; exact h4
      · exact ih.all q hq hlk
structure Inv2 (w h : Int) (b : List Int) (root : Int) (s rest nx : List Int) : Prop where
  cl : ∀ v, isN w h v → 0 ≤ rd s v → v ∉ rest → v ∉ nx → ∀ p : Nat, p < 4 → link w h b (4 * v + p) → 0 ≤ rd s (next w h v p)
  pre : ∀ v, isN w h v → 0 < rd s v → ∃ u, isN w h u ∧ rd s u = rd s v - 1 ∧ ∃ q : Nat, q < 4 ∧ link w h b (4 * u + q) ∧ next w h u q = v
  zero : rd s root = 0 ∧ ∀ v, isN w h v → rd s v = 0 → v = root
theorem Run.inv2 {w h root : Int} {b s rest nx r : List Int} {d : Int} (hr : isN w h root) (R : Run w h b s rest nx d r) : Inv w h s rest nx d → Inv2 w h b root s rest nx → Inv2 w h b root r [] [] := by
  induction R with
  | done s d => exact fun _ j => j
  | level _ ih => exact fun i j => ih i.level ⟨fun v hv h0 h1 h2 => j.cl v hv h0 (by simp) h1, j.pre, j.zero⟩
  | @node s a rest nx d r _ ih =>
    intro i j
    have h1 := i.one
    obtain ⟨ha, hda⟩ := i.fr a (by simp)
    have O : VOut w h b a d (List.range 4) (s, nx) (vis w h b a d (s, nx)) := vst_out (by omega) _ _ (by simp) (fun v hv => by have := i.len; have := hv.2; simp only; omega)
    refine ih i.node ⟨fun v hv h0 hn1 hn2 p hp hlk => ?_, fun v hv h0 => ?_, ?_, fun v hv h0 => ?_⟩
    · have hnx := (link_next hp hlk).2.1
      by_cases h2 : 0 ≤ rd s v
      · by_cases hva : v = a
        · subst hva; exact O.all p (by simp; omega) hlk
        · have h3 := j.cl v hv h2 (by simp [hva, hn1]) (fun hh => hn2 (O.pre v hh)) p hp hlk
          rw [O.keep _ hnx.1 h3]; exact h3
      · exact absurd (O.new v hv (by simp only; omega) h0).2.1 hn2
    · by_cases h2 : 0 ≤ rd s v
      · have e := O.keep v hv.1 h2
        simp only at e
        rw [e] at h0 ⊢
        obtain ⟨u, hu, hu1, hq⟩ := j.pre v hv h0
        refine ⟨u, hu, ?_, hq⟩
        rw [O.keep u hu.1 (by simp only; omega)]; exact hu1
      · obtain ⟨e, _, hq⟩ := O.new v hv (by simp only; omega) (by omega)
        refine ⟨a, ha, ?_, hq⟩
        rw [O.keep a ha.1 (by simp only; omega), e]; exact hda
    · have := j.zero.1
      rw [O.keep root hr.1 (by simp only; omega)]; exact this
    · by_cases h2 : 0 ≤ rd s v
      · have e := O.keep v hv.1 h2
        simp only at e
        exact j.zero.2 v hv (by rw [← e]; exact h0)
      · obtain ⟨e, _⟩ := O.new v hv (by simp only; omega) (by omega)
        omega
theorem start_rd {w h root v : Int} (hr : isN w h root) (hv : isN w h v) : rd (start w h root) v = if v = root then 0 else -1 := by
  have hc := cnt_range w h
  have h1 := hr.2
  have h2 := hv.2
  unfold start
  rw [rd_set hr.1 (by simp; omega) hv.1]
  by_cases h3 : v = root
  · rw [if_pos h3, if_pos h3]
  · rw [if_neg h3, if_neg h3]
    have := rd_mem (s := List.replicate (cnt w h).toNat (-1 : Int)) hv.1 (by simp; omega)
    exact List.eq_of_mem_replicate this
theorem start_inv2 {w h root : Int} (b : List Int) (hr : isN w h root) : Inv2 w h b root (start w h root) [root] [] := by
  refine ⟨fun v hv h0 h1 => ?_, fun v hv h0 => ?_, by rw [start_rd hr hr, if_pos rfl], fun v hv h0 => ?_⟩
  · rw [start_rd hr hv] at h0
    split at h0
    · rename_i h2; simp [h2] at h1
    · omega
  · rw [start_rd hr hv] at h0; split at h0 <;> omega
  · rw [start_rd hr hv] at h0
    split at h0
    · assumption
    · omega
theorem depths_inv2 {w h root : Int} {b : List Int} (H : rootOk w h b root) : Inv2 w h b root (depths w h b root) [] [] :=
  (depths_run H).inv2 H.2 (start_inv H.2).1 (start_inv2 b H.2)
/-- In a connected mesh every node is reached from every root. -/
theorem conn_all {w h : Int} {b : List Int} (hc : conn w h b) {r : Int} (hr : isN w h r) : ∀ v, isN w h v → 0 ≤ rd (depths w h b r) v := by
  have h0 := okG_isN hc.1.2
  have H0 : rootOk w h b 0 := ⟨hc.1, h0⟩
  have Hr : rootOk w h b r := ⟨hc.1, hr⟩
  have i0 := depths_inv H0
  have j0 := depths_inv2 H0
  have j := depths_inv2 Hr
  have all0 : ∀ v, isN w h v → 0 ≤ rd (depths w h b 0) v := fun v hv => by
    have hm := rd_mem (s := depths w h b 0) hv.1 (by have := hv.2; omega)
    have := (i0.2 _ hm).1
    by_cases h1 : rd (depths w h b 0) v = -1
    · rw [h1] at hm; exact absurd hm hc.2
    · omega
  have down : ∀ (n : Nat) v, isN w h v → rd (depths w h b 0) v = n → 0 ≤ rd (depths w h b r) v → 0 ≤ rd (depths w h b r) 0 := by
    intro n
    induction n with
    | zero => intro v hv h1 h2
              have := j0.zero.2 v hv (by omega)
              rw [this] at h2; exact h2
    | succ n ih =>
      intro v hv h1 h2
      obtain ⟨u, hu, hu1, q, hq, hlk, hnx⟩ := j0.pre v hv (by omega)
      obtain ⟨q', hq', hlk', hnx'⟩ := link_symm hq hlk
      rw [hnx] at hlk' hnx'
      have h3 := j.cl v hv h2 (by simp) (by simp) q' hq' hlk'
      rw [hnx'] at h3
      exact ih u hu (by omega) h3
  have hr0 : 0 ≤ rd (depths w h b r) 0 := by
    have h1 := all0 r hr
    exact down _ r hr (Int.toNat_of_nonneg h1).symm (by have := j.zero.1; omega)
  have up : ∀ (n : Nat) v, isN w h v → rd (depths w h b 0) v = n → 0 ≤ rd (depths w h b r) v := by
    intro n
    induction n with
    | zero => intro v hv h1
              have := j0.zero.2 v hv (by omega)
              rw [this]; exact hr0
    | succ n ih =>
      intro v hv h1
      obtain ⟨u, hu, hu1, q, hq, hlk, hnx⟩ := j0.pre v hv (by omega)
      have h3 := j.cl u hu (ih u hu (by omega)) (by simp) (by simp) q hq hlk
      rw [hnx] at h3; exact h3
  exact fun v hv => up _ v hv (Int.toNat_of_nonneg (all0 v hv)).symm
/-- Who has a parent. -/
theorem par_some {w h root : Int} {b : List Int} (H : rootOk w h b root) {v : Int} (hv : isN w h v) (h0 : 0 < rd (depths w h b root) v) :
    ∃ p : Nat, p < 4 ∧ par w h b (depths w h b root) v = next w h v p ∧ link w h b (4 * v + p) ∧ rd (depths w h b root) (next w h v p) = rd (depths w h b root) v - 1 := by
  rcases par_cases w h b (depths w h b root) v with h1 | ⟨p, hp, h2, h3, _⟩
  · exfalso
    obtain ⟨u, hu, hu1, q, hq, hlk, hnx⟩ := (depths_inv2 H).pre v hv h0
    obtain ⟨q', hq', hlk', hnx'⟩ := link_symm hq hlk
    rw [hnx] at hlk' hnx'
    have ht : toRoot w h b (depths w h b root) v q' := ⟨hlk', by rw [hnx']; exact hu1⟩
    unfold par at h1
    rw [if_pos h0] at h1
    have nn : ∀ p : Nat, p < 4 → toRoot w h b (depths w h b root) v p → next w h v p ≠ -1 := fun p hp ht hh => by
      have := (link_next hp ht.1).2.1.1; omega
    by_cases t0 : toRoot w h b (depths w h b root) v 0
    · rw [if_pos t0] at h1; exact nn 0 (by omega) t0 h1
    rw [if_neg t0] at h1
    by_cases t1 : toRoot w h b (depths w h b root) v 1
    · rw [if_pos t1] at h1; exact nn 1 (by omega) t1 h1
    rw [if_neg t1] at h1
    by_cases t2 : toRoot w h b (depths w h b root) v 2
    · rw [if_pos t2] at h1; exact nn 2 (by omega) t2 h1
    rw [if_neg t2] at h1
    by_cases t3 : toRoot w h b (depths w h b root) v 3
    · rw [if_pos t3] at h1; exact nn 3 (by omega) t3 h1
    have : q' = 0 ∨ q' = 1 ∨ q' = 2 ∨ q' = 3 := by omega
    rcases this with rfl | rfl | rfl | rfl
    · exact t0 ht
    · exact t1 ht
    · exact t2 ht
    · exact t3 ht
  · exact ⟨p, hp, h2, h3.1, h3.2⟩
theorem parents_rd {w h root : Int} {b : List Int} {v : Int} (h0 : 0 ≤ v) (h1 : v < (depths w h b root).length) : rd (parents w h b root) v = par w h b (depths w h b root) v := by
  obtain ⟨i, rfl⟩ := Int.eq_ofNat_of_zero_le h0
  rw [rd_at (by rw [parents_length]; omega)]
  simp [parents, pars]
section
variable {w h r : Int} {b : List Int} (hc : conn w h b) (hr : isN w h r)
include hc hr
theorem tree_len : ((parents w h b r).length : Int) = cnt w h := by rw [parents_length]; exact (depths_inv ⟨hc.1, hr⟩).1
theorem tree_par {v : Int} (hv : isN w h v) : (v = r ∧ rd (parents w h b r) v = -1) ∨ ∃ p : Nat, p < 4 ∧ rd (parents w h b r) v = next w h v p ∧ link w h b (4 * v + p) ∧ isN w h (next w h v p) ∧ rd (depths w h b r) (next w h v p) = rd (depths w h b r) v - 1 := by
  have H : rootOk w h b r := ⟨hc.1, hr⟩
  have hl := (depths_inv H).1
  have hv2 := hv.2
  rw [parents_rd hv.1 (by omega)]
  have h0 := conn_all hc hr v hv
  by_cases h1 : rd (depths w h b r) v = 0
  · refine .inl ⟨(depths_inv2 H).zero.2 v hv h1, ?_⟩
    unfold par; rw [if_neg (by omega)]
  · obtain ⟨p, hp, h2, h3, h4⟩ := par_some H hv (by omega)
    exact .inr ⟨p, hp, h2, h3, (link_next hp h3).2.1, h4⟩
theorem anc_node {v : Int} (hv : isN w h v) : anc (parents w h b r) v = v :: (if rd (parents w h b r) v = -1 then [] else anc (parents w h b r) (rd (parents w h b r) v)) := by
  have := tree_len hc hr
  exact anc_cons (parents_tree ⟨hc.1, hr⟩) hv.1 (by have := hv.2; omega)
theorem root_anc : ∀ (n : Nat) {v : Int}, isN w h v → rd (depths w h b r) v = n → r ∈ anc (parents w h b r) v := by
  intro n
  induction n with
  | zero =>
    intro v hv h0
    rw [anc_node hc hr hv]
    have := (depths_inv2 ⟨hc.1, hr⟩).zero.2 v hv (by omega)
    simp [this]
  | succ n ih =>
    intro v hv h0
    rw [anc_node hc hr hv]
    rcases tree_par hc hr hv with ⟨h1, _⟩ | ⟨p, hp, h2, h3, h4, h5⟩
    · simp [h1]
    · rw [h2, if_neg (by have := h4.1; omega)]
      exact List.mem_cons_of_mem _ (ih h4 (by omega))
theorem anc_get : ∀ (n : Nat) {v : Int}, isN w h v → rd (depths w h b r) v = n → ∀ (j : Nat) (hj : j + 1 < (anc (parents w h b r) v).length), isN w h (anc (parents w h b r) v)[j] ∧ isN w h (anc (parents w h b r) v)[j + 1] ∧
    ∃ p : Nat, p < 4 ∧ next w h (anc (parents w h b r) v)[j] p = (anc (parents w h b r) v)[j + 1] ∧ link w h b (4 * (anc (parents w h b r) v)[j] + p) := by
  intro n
  induction n with
  | zero =>
    intro v hv h0 j hj
    have hroot := (depths_inv2 ⟨hc.1, hr⟩).zero.2 v hv (by omega)
    have e := anc_node hc hr hv
    rcases tree_par hc hr hv with ⟨_, h1⟩ | ⟨p, hp, h2, h3, h4, h5⟩
    · rw [h1, if_pos rfl] at e; rw [e] at hj; simp at hj
    · have := conn_all hc hr _ h4; omega
  | succ n ih =>
    intro v hv h0 j hj
    have e := anc_node hc hr hv
    rcases tree_par hc hr hv with ⟨_, h1⟩ | ⟨p, hp, h2, h3, h4, h5⟩
    · rw [h1, if_pos rfl] at e; rw [e] at hj; simp at hj
    · rw [h2, if_neg (by have := h4.1; omega)] at e
      have e2 := anc_node hc hr h4
      cases j with
      | zero =>
        simp only [e]
        simp only [List.getElem_cons_zero, List.getElem_cons_succ]
        have e3 : (anc (parents w h b r) (next w h v p))[0]'(by rw [e2]; simp) = next w h v p := by simp only [e2, List.getElem_cons_zero]
        rw [e3]
        exact ⟨hv, h4, p, hp, rfl, h3⟩
      | succ j =>
        simp only [e] at hj ⊢
        simp only [List.getElem_cons_succ]
        exact ih h4 (by omega) j (by simpa using hj)
/-- The way through the tree between two nodes has a first step, to a neighbour. -/
theorem tn_first {a c : Int} (ha : isN w h a) (hcn : isN w h c) (hne : a ≠ c) : ∃ p : Nat, p < 4 ∧ 1 < (treeNodes (parents w h b r) a c).length ∧ (treeNodes (parents w h b r) a c)[1]? = some (next w h a p) ∧ 0 ≤ next w h a p := by
  have dn := fun {v : Int} (hv : isN w h v) => (Int.toNat_of_nonneg (conn_all hc hr v hv)).symm
  have ra := root_anc hc hr _ ha (dn ha)
  have rc := root_anc hc hr _ hcn (dn hcn)
  have hcom : 0 ≤ common (parents w h b r) a c := by
    unfold common
    cases hf : (anc (parents w h b r) a).find? (fun x => decide (x ∈ anc (parents w h b r) c)) with
    | none => rw [List.find?_eq_none] at hf; exact absurd (by simpa using rc) (hf r ra)
    | some u =>
      have := anc_in (List.mem_of_find?_eq_some hf)
      simpa using this.1
  obtain ⟨ma, mc⟩ := common_mem hcom
  have ga := anc_get hc hr _ ha (dn ha)
  have gc := anc_get hc hr _ hcn (dn hcn)
  have ea := anc_node hc hr ha
  have ec := anc_node hc hr hcn
  unfold treeNodes
  rw [if_neg (by omega)]
  have ia := List.idxOf_lt_length_iff.2 ma
  have ic := List.idxOf_lt_length_iff.2 mc
  have va : (anc (parents w h b r) a)[(anc (parents w h b r) a).idxOf (common (parents w h b r) a c)] = common (parents w h b r) a c := by
    have := List.findIdx_getElem (p := (· == common (parents w h b r) a c)) (xs := anc (parents w h b r) a) (w := ia)
    simpa using this
  have vc : (anc (parents w h b r) c)[(anc (parents w h b r) c).idxOf (common (parents w h b r) a c)] = common (parents w h b r) a c := by
    have := List.findIdx_getElem (p := (· == common (parents w h b r) a c)) (xs := anc (parents w h b r) c) (w := ic)
    simpa using this
  generalize (anc (parents w h b r) a).idxOf (common (parents w h b r) a c) = ka at *
  generalize (anc (parents w h b r) c).idxOf (common (parents w h b r) a c) = kc at *
  have a0 : (anc (parents w h b r) a)[0]'(by omega) = a := by simp only [ea, List.getElem_cons_zero]
  have c0 : (anc (parents w h b r) c)[0]'(by omega) = c := by simp only [ec, List.getElem_cons_zero]
  by_cases hk : ka = 0
  · subst hk
    rw [a0] at va
    have hkc : kc ≠ 0 := fun hh => by subst hh; rw [c0] at vc; exact hne (va.trans vc.symm)
    obtain ⟨j, rfl⟩ : ∃ j, kc = j + 1 := ⟨kc - 1, by omega⟩
    obtain ⟨n1, n2, p, hp, hnx, hlk⟩ := gc j ic
    rw [vc, ← va] at hnx
    obtain ⟨g1, g2, g3, _⟩ := geo hp n1 (by rw [hnx]; exact ha.1)
    rw [hnx] at g1
    obtain ⟨q, hq⟩ := Int.eq_ofNat_of_zero_le g2
    rw [hq] at g1 g3
    refine ⟨q, by omega, by simp; omega, ?_, by rw [g1]; exact n1.1⟩
    rw [g1]
    have e1 : ((anc (parents w h b r) a).take (0 + 1)) = [a] := by rw [ea]; rfl
    have e2 : (anc (parents w h b r) c).take (j + 1) = (anc (parents w h b r) c).take j ++ [(anc (parents w h b r) c)[j]] := List.take_succ_eq_append_getElem (by omega)
    rw [e1, List.getElem?_append_right (by simp)]
    rw [e2, List.reverse_append]; rfl
  · obtain ⟨n1, n2, p, hp, hnx, hlk⟩ := ga 0 (by omega)
    rw [a0] at hnx
    refine ⟨p, hp, by simp; omega, ?_, by rw [hnx]; exact n2.1⟩
    rw [List.getElem?_append_left (by simp; omega), List.getElem?_take, if_pos (by omega), List.getElem?_eq_getElem (by omega), hnx]
end
end Go.Proofs.Ytnakhkfgheapoaa.V
/-! Tables: the walks. -/
set_option linter.all false
namespace Go.Proofs.Ytnakhkfgheapoaa.V
open Go Go.VM Go.Proofs
set_option maxRecDepth 10000
variable {frz : Nat} {H : Heap}
theorem sWalk_c (w h : Int) (v u : Value) (b T : List Int) (a to : Int) (hI : IsI H v b) (hT : IsI H u T) (hl : b.length ≤ 1073741824) (hz : tsized w h b T) (ha : isN w h a) (hto : isN w h to) :
   vcall C frz 98 [.agg #[.int .i64 w, .int .i64 h, v], .agg #[u], .int .i64 a, .int .i64 to] H =
    some (.slice (some ⟨H.length, 0, some 0⟩) (walk w h b T a to).length 0, H ++ [⟨(walk w h b T a to).map (.int .i64), 0, 3⟩]) := by
  rw [vcall_go (fn := Try.f98) Try.func98 rfl (by kernel_rfl) rfl]
  simp [hI.one', hI.cells, hT.one', hT.cells, sNodeCount_c]
  have hc := cnt_range w h
  refine go_inv (fun n t H' => ∃ (o : List Int) (g : Nat) (x : Int) (G : Heap), n = (cnt w h).toNat + 1 - o.length ∧ t 3 = .int .i64 to ∧ t 4 = .pointer (some ⟨H.length, 0, some 0⟩) ∧ t 5 = .pointer (some ⟨H.length + 1, 0, some 0⟩) ∧
    t 9 = .slice (some ⟨H.length + 2, 0, some g⟩) o.length 0 ∧ t 10 = .int .i64 (cnt w h) ∧ t 11 = .int .i64 x ∧
    H' = H ++ ⟨[.int .i64 w, .int .i64 h, v], 0, 33⟩ :: ⟨[u], 0, 48⟩ :: ⟨o.map (.int .i64), g, 3⟩ :: G ∧
    ((o.length ≤ (cnt w h).toNat ∧ isN w h x ∧ walkN w h b T to ((cnt w h).toNat - o.length) x o = walk w h b T a to) ∨ (o.length = (cnt w h).toNat + 1 ∧ walk w h b T a to = []))) ?_
    (n := (cnt w h).toNat + 1) ⟨[], 0, a, [], by simp [ha, walk]⟩
  rintro n t H' ⟨o, g, x, G, rfl, h3, h4, h5, h9, h10, h11, rfl, ho⟩ ih
  simp [h3, h4, h5, h9, h10, h11]
  refine br_dec _ ?_ ?_ <;> intro hn
  · obtain ⟨ho1, hx, hw⟩ : o.length ≤ (cnt w h).toNat ∧ isN w h x ∧ walkN w h b T to ((cnt w h).toNat - o.length) x o = walk w h b T a to := by
      rcases ho with ho | ho
      · exact ho
      · omega
    obtain ⟨k0, k1, k2, k3⟩ := at_small hx hto
    have hTl := hz.2
    have e1 : IntKind.i64.wrap (x * cnt w h) = x * cnt w h := w64 (by omega) (by omega)
    have e2 : IntKind.i64.wrap (x * cnt w h + to) = x * cnt w h + to := w64 (by omega) (by have := hto.2; omega)
    have q1 : ∀ L, vindexAddr Try.prog (H ++ L) 22 u (.int .i64 (x * cnt w h + to)) = some (elp u (x * cnt w h + to).toNat) := fun L => hT.idxA (e := 3) (by simp) k0 (by omega)
    have q2 : ∀ L, vload Try.prog (H ++ L) 3 (elp u (x * cnt w h + to).toNat) = some (.int .i64 (portOf w h T x to)) := fun L => hT.loadA (by simp) (by omega)
    simp [h3, h4, h5, h9, h10, h11, e1, e2, q1, q2]
    refine br_dec _ ?_ ?_ <;> intro hp
    · have hw' : walk w h b T a to = if x = to then o else [] := by
        rw [← hw]; cases (cnt w h).toNat - o.length <;> simp [walkN, hp]
      simp [h3, h4, h5, h9, h10, h11, hp]
      refine br_dec _ ?_ ?_ <;> intro hq
      · simp [h3, h4, h5, h9, h10, h11, hq] at hw' ⊢
        simp [hw']
      · simp [h3, h4, h5, h9, h10, h11, hq] at hw' ⊢
        simp [hw']
    · simp [h3, h4, h5, h9, h10, h11, hp]
      have hw0 : ¬ stepOk w h b T x to → walk w h b T a to = [] := fun hh => by
        rw [← hw]; cases (cnt w h).toNat - o.length <;> simp [walkN, hp, hh]
      have e3 : IntKind.i64.wrap (4 * x) = 4 * x := w64 (by have := hx.1; omega) (by have := hx.2; omega)
      simp [l01In_c]
      refine gd_dec _ _ ?_ ?_ <;> intro hr
      · have e4 : IntKind.i64.wrap (4 * x + portOf w h T x to) = 4 * x + portOf w h T x to := w64 (by have := hx.1; have := hr.1; omega) (by have := hx.2; have := hr.2; omega)
        simp [h3, h4, h5, h9, h10, h11, hp, hr, e3, e4, l03Has_c _ _ _ _ _ (hI.app _) hl, hI.one', hI.cells]
        refine br_dec _ ?_ ?_ <;> intro hh
        · simp [h3, h4, h5, h9, h10, h11, hp, hr, hh, e3, e4, sNextNode_c, hI.one', hI.cells]
          obtain ⟨s1, s2, s3⟩ := step_next hr hh
          refine vneed_eq (by omega) ?_
          refine ih ((cnt w h).toNat + 1 - (o.length + 1)) _ _ ⟨o ++ [4 * x + portOf w h T x to], g + 1, next w h x (portOf w h T x to), _, by simp, by simp [h3], by simp [h4], by simp [h5], by simp, by simp [h10], by simp, by simp; rfl, ?_⟩ (by omega)
          by_cases hlt : o.length < (cnt w h).toNat
          · refine .inl ⟨by simp; omega, s3, ?_⟩
            rw [show (cnt w h).toNat - o.length = ((cnt w h).toNat - (o ++ [4 * x + portOf w h T x to]).length) + 1 by simp; omega] at hw
            rw [← hw, walkN, if_neg hp, if_pos ⟨hr, hh⟩]
          · refine .inr ⟨by simp; omega, ?_⟩
            rw [show (cnt w h).toNat - o.length = 0 by omega] at hw
            rw [← hw, walkN, if_neg hp]
        · have hw2 := hw0 (fun k => hh k.2)
          simp [h3, h4, h5, h9, h10, h11, hp, hr, hh, e3, e4, hw2]
      · have hw2 := hw0 (fun k => hr k.1)
        simp [h3, h4, h5, h9, h10, h11, hp, hr, hw2]
  · have hw2 : walk w h b T a to = [] := by
      rcases ho with ho | ho
      · omega
      · exact ho.2
    simp [h3, h4, h5, h9, h10, h11, hn, hw2]
end Go.Proofs.Ytnakhkfgheapoaa.V
/-! Tables: the program's own walk. -/
set_option linter.all false
namespace Go.Proofs.Ytnakhkfgheapoaa.V
open Go Go.VM Go.Proofs
set_option maxRecDepth 10000
variable {frz : Nat} {H : Heap}
theorem portAt_c (w h : Int) (v u : Value) (b T : List Int) (a to : Int) (hI : IsI H v b) (hT : IsI H u T) (hl : b.length ≤ 1073741824) (hz : tsized w h b T) (ha : isN w h a) (hto : isN w h to) :
   vcall C frz 116 [.agg #[.int .i64 w, .int .i64 h, v], .agg #[u], .int .i64 a, .int .i64 to] H =
    some (.int .i64 (if inR 0 (portOf w h T a to) 4 then portOf w h T a to else -1), H) := by
  rw [vcall_go (fn := Try.f116) Try.func116 rfl (by kernel_rfl) rfl]
  have hc := cnt_range w h
  obtain ⟨k0, k1, k2, k3⟩ := at_small ha hto
  have hTl := hz.2
  have hc2 : cnt w h * cnt w h ≤ 16 * 16 := Int.mul_le_mul hc.2 hc.2 hc.1 (by omega)
  have hc3 : 0 * 0 ≤ cnt w h * cnt w h := Int.mul_le_mul hc.1 hc.1 (by omega) hc.1
  have e0 : IntKind.i64.wrap (cnt w h * cnt w h) = cnt w h * cnt w h := w64 (by omega) (by omega)
  have e1 : IntKind.i64.wrap (a * cnt w h) = a * cnt w h := w64 (by omega) (by omega)
  have e2 : IntKind.i64.wrap (a * cnt w h + to) = a * cnt w h + to := w64 (by omega) (by have := hto.2; omega)
  have q1 : ∀ L, vindexAddr Try.prog (H ++ L) 22 u (.int .i64 (a * cnt w h + to)) = some (elp u (a * cnt w h + to).toNat) := fun L => hT.idxA (e := 3) (by simp) k0 (by omega)
  have q2 : ∀ L, vload Try.prog (H ++ L) 3 (elp u (a * cnt w h + to).toNat) = some (.int .i64 (portOf w h T a to)) := fun L => hT.loadA (by simp) (by omega)
  simp [hI.one', hI.cells, hT.one', hT.cells, nodeCount_c, meshOk_c _ _ _ _ (hI.app _) hl, hz.1, inside_c, isN_inR, ha, hto, e0, e1, e2, q1, q2, hT.lenA, hTl]
  try refine br_dec _ ?_ ?_ <;> intro hr <;> simp [hr, q1, q2, e1, e2]
/-- what the program's walk gives back -/
def ret (H : Heap) (xs : List Int) : Value × Heap := if xs = [] then (.slice none 0 0, H) else (.slice (some ⟨H.length, 0, some 0⟩) xs.length 0, H ++ [⟨xs.map (.int .i64), 0, 3⟩])
theorem walk_c (w h : Int) (v u : Value) (b T : List Int) (a to : Int) (hI : IsI H v b) (hT : IsI H u T) (hl : b.length ≤ 1073741824) (hz : tsized w h b T) (ha : isN w h a) (hto : isN w h to) (hne : a ≠ to) :
   vcall C frz 66 [.agg #[.int .i64 w, .int .i64 h, v], .agg #[u], .int .i64 a, .int .i64 to] H = some (ret H (walk w h b T a to)) := by
  rw [vcall_go (fn := Try.f66) Try.func66 rfl (by kernel_rfl) rfl]
  have hc := cnt_range w h
  simp [hI.one', hI.cells, hT.one', hT.cells, nodeCount_c, meshOk_c _ _ _ _ (hI.app _) hl, hz.1, isNode_c, ha, hto, hne]
  refine go_inv (fun n t H' => ∃ (o : List Int) (g : Nat) (x : Int) (G : Heap), n = (cnt w h).toNat + 1 - o.length ∧ t 3 = .int .i64 to ∧ t 4 = .pointer (some ⟨H.length, 0, some 0⟩) ∧ t 5 = .pointer (some ⟨H.length + 1, 0, some 0⟩) ∧
    t 9 = .slice (some ⟨H.length + 2, 0, some g⟩) o.length 0 ∧ t 10 = .int .i64 x ∧
    H' = H ++ ⟨[.int .i64 w, .int .i64 h, v], 0, 33⟩ :: ⟨[u], 0, 48⟩ :: ⟨o.map (.int .i64), g, 3⟩ :: G ∧
    o.length ≤ (cnt w h).toNat ∧ isN w h x ∧ walkN w h b T to ((cnt w h).toNat - o.length) x o = walk w h b T a to ∧ (o = [] → x ≠ to)) ?_
    (n := (cnt w h).toNat + 1) ⟨[], 0, a, [], by simp [ha, walk, hne]⟩
  rintro n t H' ⟨o, g, x, G, rfl, h3, h4, h5, h9, h10, rfl, ho1, hx, hw, hox⟩ ih
  have hpa := fun F L => portAt_c (frz := F) (H := H ++ L) w h v u b T x to (hI.app _) (hT.app _) hl hz hx hto
  have hw0 : portOf w h T x to ≠ 4 → ¬ stepOk w h b T x to → walk w h b T a to = [] := fun hp hh => by
    rw [← hw]; cases (cnt w h).toNat - o.length <;> simp [walkN, hp, hh]
  simp [h3, h4, h5, h9, h10, hI.one', hI.cells, hT.one', hT.cells, hpa]
  have hnil : walk w h b T a to = [] → (Value.slice none 0 0, H) = ret H (walk w h b T a to) := fun hh => by rw [hh]; rfl
  by_cases hr : inR 0 (portOf w h T x to) 4
  · have hlt : ¬ portOf w h T x to < 0 := by have := hr.1; omega
    simp [hr, hlt]
    refine br_dec _ ?_ ?_ <;> intro hp
    · have hw' : walk w h b T a to = if x = to then o else [] := by
        rw [← hw]; cases (cnt w h).toNat - o.length <;> simp [walkN, hp]
      simp [h3, h4, h5, h9, h10, hp]
      refine br_dec _ ?_ ?_ <;> intro hq
      · have hon : o ≠ [] := fun hh => hox hh hq
        rw [if_pos hq] at hw'
        simp [h3, h4, h5, h9, h10, hq, hw', ret, hon]
      · rw [if_neg hq] at hw'
        simp [h3, h4, h5, h9, h10, hq, hw', ret]
    · have hr3 : inR 0 (portOf w h T x to) 3 := ⟨hr.1, by have := hr.2; omega⟩
      have e3 : IntKind.i64.wrap (4 * x) = 4 * x := w64 (by have := hx.1; omega) (by have := hx.2; omega)
      have e4 : IntKind.i64.wrap (4 * x + portOf w h T x to) = 4 * x + portOf w h T x to := w64 (by have := hx.1; have := hr.1; omega) (by have := hx.2; have := hr.2; omega)
      simp [h3, h4, h5, h9, h10, hp, hI.one', hI.cells, e3, e4, hasChannel_c _ _ _ _ _ (hI.app _) hl, hz.1]
      refine gd_dec _ _ ?_ ?_ <;> intro hh
      · obtain ⟨s1, s2, s3⟩ := step_next hr3 hh
        have he := fun F L => endOf_c (frz := F) (H := H ++ L) w h v b (4 * x + portOf w h T x to) (hI.app _) hh.1
        rw [s1, s2] at he
        simp [h3, h4, h5, h9, h10, hp, hh, hI.one', hI.cells, e3, e4, nodeCount_c]
        refine br_dec _ ?_ ?_ <;> intro hf
        · have hwz : walk w h b T a to = [] := by
            rw [show (cnt w h).toNat - o.length = 0 by omega] at hw
            rw [← hw, walkN, if_neg hp]
          simp [h3, h4, h5, h9, h10, hp, hh, hf, hnil hwz]
        · simp [h3, h4, h5, h9, h10, hp, hh, hf, hI.one', hI.cells, e3, e4]
          refine vneed_eq (by omega) ?_
          simp [h3, h4, h5, h9, h10, hp, hh, hf, hI.one', hI.cells, e3, e4, he]
          refine ih ((cnt w h).toNat + 1 - (o.length + 1)) _ _ ⟨o ++ [4 * x + portOf w h T x to], g + 1, next w h x (portOf w h T x to), _, by simp, by simp [h3], by simp [h4], by simp [h5], by simp, by simp, by simp; rfl, by simp; omega, s3, ?_, by simp⟩ (by omega)
          rw [show (cnt w h).toNat - o.length = ((cnt w h).toNat - (o ++ [4 * x + portOf w h T x to]).length) + 1 by simp; omega] at hw
          rw [← hw, walkN, if_neg hp, if_pos ⟨hr3, hh⟩]
      · simp [h3, h4, h5, h9, h10, hp, hh]
        exact hnil (hw0 hp (fun hs => hh hs.2))
  · simp [hr]
    refine hnil (hw0 (fun hp => hr ?_) fun hs => hr ⟨hs.1.1, by have := hs.1.2; omega⟩)
    rw [hp]; exact ⟨by omega, by omega⟩
end Go.Proofs.Ytnakhkfgheapoaa.V
/-! Tables that are valid. -/
set_option linter.all false
namespace Go.Proofs.Ytnakhkfgheapoaa.V
open Go Go.VM Go.Proofs
set_option maxRecDepth 10000
variable {frz : Nat} {H : Heap}
theorem sq_small (w h : Int) : IntKind.i64.wrap (cnt w h * cnt w h) = cnt w h * cnt w h := by
  have hc := cnt_range w h
  have hc2 : cnt w h * cnt w h ≤ 16 * 16 := Int.mul_le_mul hc.2 hc.2 hc.1 (by omega)
  have hc3 : 0 * 0 ≤ cnt w h * cnt w h := Int.mul_le_mul hc.1 hc.1 (by omega) hc.1
  exact w64 (by omega) (by omega)
theorem sized_c (w h : Int) (v u : Value) (b T : List Int) (hI : IsI H v b) (hT : IsI H u T) (hl : b.length ≤ 1073741824) :
   vcall C frz 163 [.agg #[.int .i64 w, .int .i64 h, v], .agg #[u]] H = some (.bool (decide (tsized w h b T)), H) := by
  rw [vcall_go (fn := Try.f163) Try.func163 rfl (by kernel_rfl) rfl]
  simp [hI.one', hI.cells, hT.one', hT.cells, sNodeCount_c, sMeshOk_c _ _ _ _ (hI.app _) hl]
  refine gd_dec _ _ ?_ ?_ <;> intro h1 <;> simp [h1, tsized, hT.lenA, sq_small, hI.one', hI.cells, hT.one', hT.cells, sNodeCount_c, -Bool.decide_and]
def good (w h : Int) (b T : List Int) (a c : Nat) : Prop := ((a : Int) = c → portOf w h T a a = 4) ∧ ((a : Int) ≠ c → walk w h b T a c ≠ [])
theorem tableOk_iff (w h : Int) (b T : List Int) : tableOk w h b T ↔ tsized w h b T ∧ ∀ a, a < (cnt w h).toNat → ∀ c, c < (cnt w h).toNat → good w h b T a c := by
  unfold tableOk good
  refine and_congr Iff.rfl ⟨fun k a ha c hc => ?_, fun k a ha c hc => ?_⟩
  · exact ⟨fun e => (k a ha c hc).1 (by omega), fun e => (k a ha c hc).2 (by omega)⟩
  · exact ⟨fun e => (k a ha c hc).1 (by omega), fun e => (k a ha c hc).2 (by omega)⟩
theorem isN_nat {w h : Int} {a : Nat} (k : a < (cnt w h).toNat) : isN w h a := ⟨by omega, by omega⟩
theorem sTableOk_c (w h : Int) (v u : Value) (b T : List Int) (hI : IsI H v b) (hT : IsI H u T) (hl : b.length ≤ 1073741824) :
   vcall C frz 137 [.agg #[.int .i64 w, .int .i64 h, v], .agg #[u]] H = some (.bool (decide (tableOk w h b T)), H) := by
  rw [vcall_go (fn := Try.f137) Try.func137 rfl (by kernel_rfl) rfl]
  simp [hI.one', hI.cells, hT.one', hT.cells, sNodeCount_c, sized_c _ _ _ _ _ _ (hI.app _) (hT.app _) hl]
  refine br_dec _ ?_ ?_ <;> intro h1
  · simp [h1, hI.one', hI.cells, hT.one', hT.cells, sNodeCount_c]
    have hc := cnt_range w h
    have no : ∀ i j : Nat, i < (cnt w h).toNat → j < (cnt w h).toNat → ¬ good w h b T i j → ¬ tableOk w h b T := fun i j hi hj hg hh => hg (((tableOk_iff w h b T).1 hh).2 i hi j hj)
    refine go_inv (fun n t H' => ∃ (i : Nat) (G : Heap), n = (cnt w h).toNat - i ∧ i ≤ (cnt w h).toNat ∧ t 2 = .pointer (some ⟨H.length, 0, some 0⟩) ∧ t 3 = .pointer (some ⟨H.length + 1, 0, some 0⟩) ∧
      t 5 = .int .i64 (cnt w h) ∧ t 6 = .int .i64 i ∧ H' = H ++ ⟨[.int .i64 w, .int .i64 h, v], 0, 33⟩ :: ⟨[u], 0, 48⟩ :: G ∧ ∀ a, a < i → ∀ c, c < (cnt w h).toNat → good w h b T a c) ?_
      (n := (cnt w h).toNat) ⟨0, [], by simp⟩
    rintro n t H' ⟨i, G, rfl, hi, h2, h3, h5, h6, rfl, hk⟩ ih
    simp [h2, h3, h5, h6]
    refine br_dec _ ?_ ?_ <;> intro hlt
    · simp [h2, h3, h5, h6, hlt]
      refine go_inv (fun n t H' => ∃ (j : Nat) (G : Heap), n = (cnt w h).toNat - j ∧ j ≤ (cnt w h).toNat ∧ t 2 = .pointer (some ⟨H.length, 0, some 0⟩) ∧ t 3 = .pointer (some ⟨H.length + 1, 0, some 0⟩) ∧
        t 5 = .int .i64 (cnt w h) ∧ t 6 = .int .i64 i ∧ t 7 = .int .i64 j ∧ H' = H ++ ⟨[.int .i64 w, .int .i64 h, v], 0, 33⟩ :: ⟨[u], 0, 48⟩ :: G ∧ ∀ c, c < j → good w h b T i c) ?_
        (n := (cnt w h).toNat) ⟨0, G, by simp [h2, h3, h5, h6]⟩
      clear h2 h3 h5 h6
      rintro n t H' ⟨j, G, rfl, hj, h2, h3, h5, h6, h7, rfl, hkj⟩ ih2
      simp [h2, h3, h5, h6, h7]
      refine br_dec _ ?_ ?_ <;> intro hlj
      · have ni : i < (cnt w h).toNat := by omega
        have nj : j < (cnt w h).toNat := by omega
        obtain ⟨k0, k1, k2, k3⟩ := at_small (isN_nat ni) (isN_nat ni)
        have hTl := h1.2
        have e1 : IntKind.i64.wrap (i * cnt w h) = i * cnt w h := w64 (by omega) (by omega)
        have e2 : IntKind.i64.wrap (i * cnt w h + i) = i * cnt w h + i := w64 (by omega) (by omega)
        have q1 : ∀ L, vindexAddr Try.prog (H ++ L) 22 u (.int .i64 (i * cnt w h + i)) = some (elp u (i * cnt w h + i : Int).toNat) := fun L => hT.idxA (e := 3) (by simp) k0 (by omega)
        have q2 : ∀ L, vload Try.prog (H ++ L) 3 (elp u (i * cnt w h + i : Int).toNat) = some (.int .i64 (portOf w h T i i)) := fun L => hT.loadA (by simp) (by omega)
        have sw := fun F L => sWalk_c (frz := F) (H := H ++ L) w h v u b T i j (hI.app _) (hT.app _) hl h1 (isN_nat ni) (isN_nat nj)
        have yes := fun (t' : Env) (G' : Heap) (x2 : t' 2 = .pointer (some ⟨H.length, 0, some 0⟩)) (x3 : t' 3 = .pointer (some ⟨H.length + 1, 0, some 0⟩)) (x5 : t' 5 = .int .i64 (cnt w h)) (x6 : t' 6 = .int .i64 i) (x7 : t' 7 = .int .i64 (j + 1 : Nat)) (hg : good w h b T i j) =>
          ih2 ((cnt w h).toNat - (j + 1)) t' _ ⟨j + 1, G', rfl, by omega, x2, x3, x5, x6, x7, rfl, fun c hc' => by
            by_cases hcj : c < j
            · exact hkj c hcj
            · have : c = j := by omega
              subst this; exact hg⟩ (by omega)
        simp [h2, h3, h5, h6, h7, hlj]
        refine gd_dec _ _ ?_ ?_ <;> intro hij
        · obtain rfl : i = j := by omega
          simp [h2, h3, h5, h6, h7, hlj, e1, e2, q1, q2]
          refine gd_dec _ _ ?_ ?_ <;> intro hp
          · simp [h2, h3, h5, h6, h7, hlj, hp]
            refine yes _ _ (by simp [h2]) (by simp [h3]) (by simp [h5]) (by simp [h6]) ?_ ⟨fun _ => hp, fun hh => absurd rfl hh⟩
            simp; rw [w64 (by omega) (by omega)]
          · simp [h2, h3, h5, h6, h7, hlj, hp]
            exact no i i ni ni (fun hg => hp (hg.1 rfl))
        · simp [h2, h3, h5, h6, h7, hlj, hij, hI.one', hI.cells, hT.one', hT.cells, sw]
          refine br_dec _ ?_ ?_ <;> intro hp
          · simp [h2, h3, h5, h6, h7, hlj, hp]
            exact no i j ni nj (fun hg => hg.2 hij hp)
          · simp [h2, h3, h5, h6, h7, hlj, hp]
            refine yes _ _ (by simp [h2]) (by simp [h3]) (by simp [h5]) (by simp [h6]) ?_ ⟨fun hh => absurd hh hij, fun _ => hp⟩
            simp; rw [w64 (by omega) (by omega)]
      · have : j = (cnt w h).toNat := by omega
        subst this
        simp [h2, h3, h5, h6, h7, hlj]
        refine ih ((cnt w h).toNat - (i + 1)) _ _ ⟨i + 1, G, rfl, by omega, by simp [h2], by simp [h3], by simp [h5], ?_, rfl, fun a ha c hc' => ?_⟩ (by omega)
        · simp; rw [w64 (by omega) (by omega)]
        · by_cases hai : a < i
          · exact hk a hai c hc'
          · have : a = i := by omega
            subst this; exact hkj c hc'
    · simp [h2, h3, h5, h6, hlt]
      have : i = (cnt w h).toNat := by omega
      subst this
      exact (tableOk_iff w h b T).2 ⟨h1, hk⟩
  · simp [h1]
    exact fun k => h1 k.1
theorem areInside_c (v : Value) (xs : List Int) (lo hi : Int) (hI : IsI H v xs) (hl : xs.length ≤ 1073741824) :
   vcall C frz 139 [v, .int .i64 lo, .int .i64 hi] H = some (.bool (decide (∀ x ∈ xs, inR lo x hi)), H) := by
  rw [vcall_go (fn := Try.f139) Try.func139 rfl (by kernel_rfl) rfl]
  simp [hI.len]
  refine go_inv (fun n t H' => ∃ i : Nat, n = xs.length - i ∧ i ≤ xs.length ∧ t 1 = .int .i64 lo ∧ t 2 = .int .i64 hi ∧ t 9 = v ∧ t 10 = .int .i64 xs.length ∧ t 11 = .int .i64 i ∧ H' = H ∧ ∀ x ∈ xs.take i, inR lo x hi) ?_ (n := xs.length) ⟨0, by simp⟩
  rintro n t H' ⟨i, rfl, hi', h1, h2, h3, h4, h5, rfl, hj⟩ ih
  simp [h1, h2, h3, h4, h5]
  refine br_dec _ ?_ ?_ <;> intro h6
  · simp [h1, h2, h3, h4, h5, h6, hI.idx, hI.load, getD_get, inside_c]
    refine br_dec _ ?_ ?_ <;> intro h7 <;> simp [h1, h2, h3, h4, h5, h6, h7]
    · refine ih (xs.length - (i + 1)) _ _ ⟨i + 1, rfl, by omega, by simp [h1], by simp [h2], by simp [h3], by simp [h4], ?_, rfl, fun x hx => ?_⟩ (by omega)
      · simp; rw [w64 (by omega) (by omega)]
      · rw [List.take_succ_eq_append_getElem h6] at hx
        rcases List.mem_append.1 hx with hx | hx
        · exact hj x hx
        · rw [List.mem_singleton.1 hx]; exact h7
    · exact ⟨_, List.getElem_mem h6, h7⟩
  · have : i = xs.length := by omega
    subst this
    simp [h1, h2, h3, h4, h5]
    rwa [List.take_length] at hj
def rowPairs (n a m : Nat) : List (Nat × Nat) := ((List.range m).filter (fun c => a ≠ c)).map fun c => (a, c)
/-- the pairs in the order of the visits -/
def allPairs (n m : Nat) : List (Nat × Nat) := (List.range m).flatMap fun a => rowPairs n a n
theorem rowPairs_eq (n a m : Nat) (h : a = m) : rowPairs n a (m + 1) = rowPairs n a m := by
  simp [rowPairs, List.range_succ, h]
theorem rowPairs_ne (n a m : Nat) (h : a ≠ m) : rowPairs n a (m + 1) = rowPairs n a m ++ [(a, m)] := by
  simp [rowPairs, List.range_succ, h]
theorem allPairs_succ (n m : Nat) : allPairs n (m + 1) = allPairs n m ++ rowPairs n m n := by
  simp [allPairs, List.range_succ]
theorem mem_allPairs {n a c : Nat} : (a, c) ∈ allPairs n n ↔ a < n ∧ c < n ∧ a ≠ c := by
  simp [allPairs, rowPairs]
theorem pairs_w (w h : Int) (f : Value) {Q : Value → Heap → Prop} (Inv : List (Nat × Nat) → Heap → Prop)
    (h0 : Inv [] (H ++ [⟨[.int .i64 w, .int .i64 h], 0, 31⟩]))
    (hs : ∀ (done : List (Nat × Nat)) (a c : Nat) (H' : Heap), a < (cnt w h).toNat → c < (cnt w h).toNat → a ≠ c → Inv done H' → wp (vclos (vcall C frz) f [.int .i64 a, .int .i64 c] H') fun r H'' => (r = .bool true ∧ Inv (done ++ [(a, c)]) H'') ∨ (r = .bool false ∧ Q (.bool false) H''))
    (he : ∀ H', Inv (allPairs (cnt w h).toNat (cnt w h).toNat) H' → Q (.bool true) H') :
    wp (vcall C frz 100 [.agg #[.int .i64 w, .int .i64 h], f] H) Q := by
  rw [vcall_go (fn := Try.f100) Try.func100 rfl (by kernel_rfl) rfl]
  have hc := cnt_range w h
  simp [nodeCount_c]
  refine wp_inv (fun n t H' => ∃ (i : Nat), n = (cnt w h).toNat - i ∧ i ≤ (cnt w h).toNat ∧ t 1 = f ∧ t 5 = .int .i64 (cnt w h) ∧ t 10 = .int .i64 (cnt w h) ∧ t 11 = .int .i64 i ∧
    Inv (allPairs (cnt w h).toNat i) H') ?_ (n := (cnt w h).toNat) ⟨0, by simp [allPairs, h0]⟩
  rintro n t H' ⟨i, rfl, hi, h1, h5, h10, h11, hk⟩ ih
  simp [h1, h5, h10, h11]
  refine wp_dec ?_ ?_ <;> intro hlt
  · simp [h1, h5, h10, h11, hlt]
    refine wp_inv (fun n t H' => ∃ (j : Nat), n = (cnt w h).toNat - j ∧ j ≤ (cnt w h).toNat ∧ t 1 = f ∧ t 5 = .int .i64 (cnt w h) ∧ t 10 = .int .i64 (cnt w h) ∧ t 11 = .int .i64 i ∧ t 6 = .int .i64 i ∧ t 14 = .int .i64 (cnt w h) ∧ t 15 = .int .i64 j ∧
      Inv (allPairs (cnt w h).toNat i ++ rowPairs (cnt w h).toNat i j) H') ?_ (n := (cnt w h).toNat) ⟨0, by simp [h1, h5, h10, h11, rowPairs, hk]⟩
    clear h1 h5 h10 h11 hk
    rintro n t H' ⟨j, rfl, hj, h1, h5, h10, h11, h6, h14, h15, hk⟩ ih2
    simp [h1, h5, h10, h11, h6, h14, h15]
    refine wp_dec ?_ ?_ <;> intro hlj
    · have ni : i < (cnt w h).toNat := by omega
      have nj : j < (cnt w h).toNat := by omega
      have yes := fun (t' : Env) (H' : Heap) (x1 : t' 1 = f) (x5 : t' 5 = .int .i64 (cnt w h)) (x10 : t' 10 = .int .i64 (cnt w h)) (x11 : t' 11 = .int .i64 i) (x6 : t' 6 = .int .i64 i) (x14 : t' 14 = .int .i64 (cnt w h)) (x15 : t' 15 = .int .i64 (j + 1 : Nat)) (hg : Inv (allPairs (cnt w h).toNat i ++ rowPairs (cnt w h).toNat i (j + 1)) H') =>
        ih2 ((cnt w h).toNat - (j + 1)) t' H' ⟨j + 1, rfl, by omega, x1, x5, x10, x11, x6, x14, x15, hg⟩ (by omega)
      simp [h1, h5, h10, h11, h6, h14, h15, hlj]
      refine wpg_dec ?_ ?_ <;> intro hij
      · simp [h1, h5, h10, h11, h6, h14, h15, hlj, hij]
        refine yes _ _ (by simp [h1]) (by simp [h5]) (by simp [h10]) (by simp [h11]) (by simp [h6]) (by simp [h14]) ?_ (by rw [rowPairs_eq _ _ _ (by omega)]; exact hk)
        simp; rw [w64 (by omega) (by omega)]
      · simp [h1, h5, h10, h11, h6, h14, h15, hlj, hij]
        refine wp_thn (hs _ i j H' ni nj (by omega) hk) ?_
        rintro r H'' (⟨rfl, hq⟩ | ⟨rfl, hq⟩)
        · simp [h1, h5, h10, h11, h6, h14, h15, hlj, hij]
          refine yes _ _ (by simp [h1]) (by simp [h5]) (by simp [h10]) (by simp [h11]) (by simp [h6]) (by simp [h14]) ?_ (by rw [rowPairs_ne _ _ _ (by omega), ← List.append_assoc]; exact hq)
          simp; rw [w64 (by omega) (by omega)]
        · simp [h1, h5, h10, h11, h6, h14, h15, hlj, hij]
          exact hq
    · have : j = (cnt w h).toNat := by omega
      subst this
      simp [h1, h5, h10, h11, h6, h14, h15, hlj]
      refine ih ((cnt w h).toNat - (i + 1)) _ _ ⟨i + 1, rfl, by omega, by simp [h1], by simp [h5], by simp [h10], ?_, by rw [allPairs_succ]; exact hk⟩ (by omega)
      · simp; rw [w64 (by omega) (by omega)]
  · simp [h1, h5, h10, h11, hlt]
    have : i = (cnt w h).toNat := by omega
    subst this
    exact he _ hk
theorem tableOk1_c (w h : Int) (v u : Value) (b T : List Int) (a c : Int) (r1 r2 : Nat) (hI : IsI H v b) (hT : IsI H u T) (hl : b.length ≤ 1073741824) (hz : tsized w h b T) (ha : isN w h a) (hto : isN w h c) (hne : a ≠ c)
    (g1 : H[r1]? = some ⟨[.int .i64 w, .int .i64 h, v], 0, 33⟩) (g2 : H[r2]? = some ⟨[u], 0, 48⟩) :
   vcall C frz 164 [.int .i64 a, .int .i64 c, .pointer (some ⟨r1, 0, some 0⟩), .pointer (some ⟨r2, 0, some 0⟩)] H = some (.bool (!decide (walk w h b T a c = [])), H) := by
  rw [vcall_go (fn := Try.f164) Try.func164 rfl (by kernel_rfl) rfl]
  simp [VM.look, g1, g2, hI.one', hI.cells, hT.one', hT.cells, walk_c _ _ _ _ _ _ _ _ hI hT hl hz ha hto hne]
  by_cases hw : walk w h b T a c = []
  · simp [ret, hw]
  · have : 0 < (walk w h b T a c).length := List.length_pos_iff.2 hw
    simp [ret, hw, this]
theorem tableOk_w (w h : Int) (v u : Value) (b T : List Int) (hI : IsI H v b) (hT : IsI H u T) (hl : b.length ≤ 1073741824) :
   wp (vcall C frz 138 [.agg #[.int .i64 w, .int .i64 h, v], .agg #[u]] H) (fun r _ => r = .bool (decide (tableOk w h b T))) := by
  rw [vcall_go (fn := Try.f138) Try.func138 rfl (by kernel_rfl) rfl]
  simp [hI.one', hI.cells, hT.one', hT.cells, nodeCount_c, meshOk_c _ _ _ _ (hI.app _) hl]
  refine wpg_dec ?_ ?_ <;> intro hm
  · simp [hm, hT.lenA, sq_small]
    refine wp_dec ?_ ?_ <;> intro hz
    · simp [hz]
      have hs : tsized w h b T := ⟨hm, hz⟩
      have hc := cnt_range w h
      refine wp_inv (fun n t H' => ∃ (i : Nat), n = (cnt w h).toNat - i ∧ i ≤ (cnt w h).toNat ∧ t 2 = .pointer (some ⟨H.length, 0, some 0⟩) ∧ t 3 = .pointer (some ⟨H.length + 1, 0, some 0⟩) ∧ t 5 = .int .i64 (cnt w h) ∧ t 22 = .int .i64 (cnt w h) ∧ t 23 = .int .i64 i ∧
        H' = H ++ [⟨[.int .i64 w, .int .i64 h, v], 0, 33⟩, ⟨[u], 0, 48⟩] ∧ ∀ a, a < i → portOf w h T a a = 4) ?_ (n := (cnt w h).toNat) ⟨0, by simp⟩
      rintro n t H' ⟨i, rfl, hi, h2, h3, h5, h22, h23, rfl, hk⟩ ih
      simp [h2, h3, h5, h22, h23]
      refine wp_dec ?_ ?_ <;> intro hlt
      · have ni : i < (cnt w h).toNat := by omega
        obtain ⟨k0, k1, k2, k3⟩ := at_small (isN_nat ni) (isN_nat ni)
        have e1 : IntKind.i64.wrap (i * cnt w h) = i * cnt w h := w64 (by omega) (by omega)
        have e2 : IntKind.i64.wrap (i * cnt w h + i) = i * cnt w h + i := w64 (by omega) (by omega)
        have q1 : ∀ L, vindexAddr Try.prog (H ++ L) 22 u (.int .i64 (i * cnt w h + i)) = some (elp u (i * cnt w h + i : Int).toNat) := fun L => hT.idxA (e := 3) (by simp) k0 (by omega)
        have q2 : ∀ L, vload Try.prog (H ++ L) 3 (elp u (i * cnt w h + i : Int).toNat) = some (.int .i64 (portOf w h T i i)) := fun L => hT.loadA (by simp) (by omega)
        simp [h2, h3, h5, h22, h23, hlt, e1, e2, q1, q2]
        refine wp_dec ?_ ?_ <;> intro hp
        · simp [h2, h3, h5, h22, h23, hlt, hp]
          refine ih ((cnt w h).toNat - (i + 1)) _ _ ⟨i + 1, rfl, by omega, by simp [h2], by simp [h3], by simp [h5], by simp [h22], ?_, rfl, fun a ha => ?_⟩ (by omega)
          · simp; rw [w64 (by omega) (by omega)]
          · by_cases hai : a < i
            · exact hk a hai
            · have : a = i := by omega
              subst this; exact hp
        · simp [h2, h3, h5, h22, h23, hlt, hp]
          exact fun hh => hp ((hh.2 i ni i ni).1 rfl)
      · simp [h2, h3, h5, h22, h23, hlt]
        have : i = (cnt w h).toNat := by omega
        subst this
        refine wp_thn (pairs_w w h _ (Q := fun r _ => r = .bool (decide (tableOk w h b T))) (fun done H' => ∃ L, H' = H ++ [⟨[.int .i64 w, .int .i64 h, v], 0, 33⟩, ⟨[u], 0, 48⟩] ++ L ∧ ∀ p ∈ done, walk w h b T p.1 p.2 ≠ []) ⟨_, rfl, by simp⟩ ?_ ?_) ?_
        · rintro done a c _ ha hc' hne ⟨L, rfl, hd⟩
          simp
          rw [tableOk1_c w h v u b T a c _ _ (hI.app _) (hT.app _) hl hs (isN_nat ha) (isN_nat hc') (by omega) (by simp) (by simp)]
          simp
          by_cases hw : walk w h b T a c = []
          · refine .inr ⟨hw, ?_⟩
            exact fun hh => (hh.2 a (by omega) c (by omega)).2 (by omega) hw
          · refine .inl ⟨hw, fun p q hp => ?_⟩
            rcases hp with hp | ⟨rfl, rfl⟩
            · exact hd (p, q) hp
            · exact hw
        · rintro _ ⟨L, rfl, hd⟩
          simp
          exact ⟨hs, fun a ha c hc' => ⟨fun _ => hk a ha, fun hne => hd (a, c) (mem_allPairs.2 ⟨ha, hc', hne⟩)⟩⟩
        · rintro _ H' rfl
          simp
    · simp [hz]
      exact fun hh => hz hh.1.2
  · simp [hm]
    exact fun hh => hm hh.1.1
theorem tableOk_c (w h : Int) (v u : Value) (b T : List Int) (hI : IsI H v b) (hT : IsI H u T) (hl : b.length ≤ 1073741824) :
   vcall C frz 138 [.agg #[.int .i64 w, .int .i64 h, v], .agg #[u]] H = some (.bool (decide (tableOk w h b T)), H) :=
  (tableOk_w w h v u b T hI hT hl).exact (by simp) rfl
end Go.Proofs.Ytnakhkfgheapoaa.V
/-! Tables of trees. -/
set_option linter.all false
namespace Go.Proofs.Ytnakhkfgheapoaa.V
open Go Go.VM Go.Proofs
set_option maxRecDepth 10000
variable {frz : Nat} {H : Heap}
def firstPort (w h a u : Int) : Int := if next w h a 0 = u then 0 else if next w h a 1 = u then 1 else if next w h a 2 = u then 2 else if next w h a 3 = u then 3 else 4
theorem firstPort_at {w h a u : Int} {p : Nat} (hp : p < 4) (h1 : next w h a p = u) (h2 : ∀ q < p, next w h a (q : Nat) ≠ u) : firstPort w h a u = p := by
  unfold firstPort
  have : p = 0 ∨ p = 1 ∨ p = 2 ∨ p = 3 := by omega
  have g : ∀ q : Nat, q < p → ∀ z : Int, z = q → ¬ next w h a z = u := fun q hq z hz => by rw [hz]; exact h2 q hq
  rcases this with rfl | rfl | rfl | rfl
  · rw [if_pos (by exact_mod_cast h1)]; rfl
  · rw [if_neg (g 0 (by omega) 0 rfl), if_pos (by exact_mod_cast h1)]; rfl
  · rw [if_neg (g 0 (by omega) 0 rfl), if_neg (g 1 (by omega) 1 rfl), if_pos (by exact_mod_cast h1)]; rfl
  · rw [if_neg (g 0 (by omega) 0 rfl), if_neg (g 1 (by omega) 1 rfl), if_neg (g 2 (by omega) 2 rfl), if_pos (by exact_mod_cast h1)]; rfl
theorem firstPort_range (w h a u : Int) : 0 ≤ firstPort w h a u ∧ firstPort w h a u ≤ 4 := by
  unfold firstPort; repeat' split
  all_goals omega
theorem portTo_c (w h a u : Int) (p : Nat) (hp : p < 4) (h1 : next w h a p = u) :
   vcall C frz 92 [.agg #[.int .i64 w, .int .i64 h], .int .i64 a, .int .i64 u] H = some (.int .i64 (firstPort w h a u), H) := by
  rw [vcall_go (fn := Try.f92) Try.func92 rfl (by kernel_rfl) rfl]
  simp
  refine go_inv (fun n t H' => ∃ k : Nat, n = p - k ∧ k ≤ p ∧ t 1 = .int .i64 a ∧ t 2 = .int .i64 u ∧ t 3 = .pointer (some ⟨H.length, 0, some 0⟩) ∧ t 7 = .int .i64 k ∧ H' = H ++ [⟨[.int .i64 w, .int .i64 h], 0, 31⟩] ∧ ∀ q < k, next w h a (q : Nat) ≠ u) ?_ (n := p) ⟨0, by simp⟩
  rintro n t H' ⟨k, rfl, hk, k1, k2, k3, k7, rfl, hq⟩ ih
  simp [k1, k2, k3, k7, nextNode_c]
  refine br_dec _ ?_ ?_ <;> intro h5
  · simp [k1, k2, k3, k7]
    exact (firstPort_at (by omega) h5 hq).symm
  · have hkp : k ≠ p := fun hh => h5 (by rw [hh]; exact h1)
    simp [k1, k2, k3, k7, h5]
    refine ih (p - (k + 1)) _ _ ⟨k + 1, rfl, by omega, by simp [k1], by simp [k2], by simp [k3], ?_, rfl, fun q hq' => ?_⟩ (by omega)
    · simp; rw [w64 (by omega) (by omega)]
    · by_cases hqk : q < k
      · exact hq q hqk
      · have : q = k := by omega
        rw [this]; exact h5
theorem l33Port_c (w h a u : Int) :
   vcall C frz 130 [.agg #[.int .i64 w, .int .i64 h], .int .i64 a, .int .i64 u] H = some (.int .i64 (firstPort w h a u), H) := by
  rw [vcall_go (fn := Try.f130) Try.func130 rfl (by kernel_rfl) rfl]
  simp
  refine go_inv (fun n t H' => ∃ k : Nat, n = 4 - k ∧ k ≤ 4 ∧ t 1 = .int .i64 a ∧ t 2 = .int .i64 u ∧ t 3 = .pointer (some ⟨H.length, 0, some 0⟩) ∧ t 7 = .int .i64 k ∧ H' = H ++ [⟨[.int .i64 w, .int .i64 h], 0, 31⟩] ∧ ∀ q < k, next w h a (q : Nat) ≠ u) ?_ (n := 4) ⟨0, by simp⟩
  rintro n t H' ⟨k, rfl, hk, k1, k2, k3, k7, rfl, hq⟩ ih
  simp [k1, k2, k3, k7]
  refine br_dec _ ?_ ?_ <;> intro h4
  · simp [k1, k2, k3, k7, sNextNode_c]
    refine br_dec _ ?_ ?_ <;> intro h5
    · simp [k1, k2, k3, k7, h5]
      exact (firstPort_at (by omega) h5 hq).symm
    · simp [k1, k2, k3, k7, h5]
      refine ih (4 - (k + 1)) _ _ ⟨k + 1, rfl, by omega, by simp [k1], by simp [k2], by simp [k3], ?_, rfl, fun q hq' => ?_⟩ (by omega)
      · simp; rw [w64 (by omega) (by omega)]
      · by_cases hqk : q < k
        · exact hq q hqk
        · have : q = k := by omega
          rw [this]; exact h5
  · have : k = 4 := by omega
    subst this
    simp [k1, k2, k3, k7]
    unfold firstPort
    have q0 := hq 0 (by omega); have q1 := hq 1 (by omega); have q2 := hq 2 (by omega); have q3 := hq 3 (by omega)
    simp at q0 q1 q2 q3
    rw [if_neg q0, if_neg q1, if_neg q2, if_neg q3]
noncomputable def treePort (w h : Int) (P : List Int) (n i : Nat) : Int := if i / n = i % n then 4 else firstPort w h (i / n : Nat) ((treeNodes P (i / n : Nat) (i % n : Nat)).getD 1 0)
noncomputable def treeTab (w h : Int) (b : List Int) (r : Int) : List Int := (List.range ((cnt w h).toNat * (cnt w h).toNat)).map (treePort w h (parents w h b r) (cnt w h).toNat)
def treeOk (w h : Int) (b : List Int) (r : Int) : Prop := conn w h b ∧ isN w h r
noncomputable instance (w h : Int) (b : List Int) (r : Int) : Decidable (treeOk w h b r) := inferInstanceAs (Decidable (_ ∧ _))
noncomputable def treeTable (w h : Int) (b : List Int) (r : Int) : List Int := if treeOk w h b r then treeTab w h b r else []
theorem treeTab_len (w h : Int) (b : List Int) (r : Int) : (treeTab w h b r).length ≤ 256 := by
  have := cnt_range w h
  unfold treeTab
  rw [List.length_map, List.length_range]
  have : (cnt w h).toNat * (cnt w h).toNat ≤ 16 * 16 := Nat.mul_le_mul (by omega) (by omega)
  omega
theorem treeTable_len (w h : Int) (b : List Int) (r : Int) : (treeTable w h b r).length ≤ 256 := by
  unfold treeTable; split
  · exact treeTab_len w h b r
  · simp
/-- a data value and a flag -/
def Made2 {V A : Type} (T : Dt V A) (H : Heap) (a : A) (ok : Bool) (r : Value) (H' : Heap) : Prop := ∃ u, r = .tuple #[u, .bool ok] ∧ T.Made H a u H'
theorem treeTable_w (w h : Int) (v : Value) (b : List Int) (root : Int) (hI : IsI H v b) (hl : b.length ≤ 1073741824) :
   wp (vcall C frz 36 [.agg #[.int .i64 w, .int .i64 h, v], .int .i64 root] H) (Made2 dTable H (treeTable w h b root) (decide (treeOk w h b root))) := by
  rw [vcall_go (fn := Try.f36) Try.func36 rfl (by kernel_rfl) rfl]
  have one := And.intro hI.one' hI.cells
  have hc := cnt_range w h
  have no : ∀ (L : Heap), ¬ treeOk w h b root → Made2 dTable H (treeTable w h b root) (decide (treeOk w h b root)) (.tuple #[.agg #[.slice none 0 0], .bool false]) (H ++ L) := fun L hh => by
    refine ⟨.agg #[.slice none 0 0], by simp [hh], .slice none 0 0, rfl, ⟨.inl ⟨rfl, by simp [treeTable, hh]⟩, ?_⟩, Chg.app _, by simp [dTable], by simp [dTable]⟩
    simp [treeTable, hh]
  by_cases hcn : conn w h b
  · by_cases hr : isN w h root
    · have hok : treeOk w h b root := ⟨hcn, hr⟩
      simp [one, isConnected_c _ _ _ _ (hI.app _) hl, hcn, isNode_c, hr]
      refine wp_thn (treeParents_w w h v b root (hI.app _) hl) ?_
      rintro vp H1 ⟨L, hH1, op, np⟩
      have hpl := tree_len hcn hr
      have tn := fun {a c : Int} (ha : isN w h a) (hc : isN w h c) (hne : a ≠ c) => tn_first hcn hr ha hc hne
      have ett : treeTable w h b root = (List.range ((cnt w h).toNat * (cnt w h).toNat)).map (treePort w h (parents w h b root) (cnt w h).toNat) := if_pos hok
      have hcc : (cnt w h).toNat ≤ 16 := by omega
      have hlt2 : (cnt w h).toNat * (cnt w h).toNat ≤ 256 := Nat.mul_le_mul hcc hcc
      rw [ett]
      generalize parents w h b root = P at *
      have c1 : Chg H H1 [] := by rw [hH1]; exact (Chg.app []).trans (Chg.app [])
      have b2 : H1[H.length]? = some ⟨[.int .i64 w, .int .i64 h, v], 0, 33⟩ := by rw [hH1]; simp
      have b4 : H1[H.length + 1]? = some ⟨[.slice none 0 0], 0, 48⟩ := by rw [hH1]; simp
      rw [← hH1] at op
      simp at np
      have lp := op.lt
      have l1 : H.length + 2 ≤ H1.length := by rw [hH1]; simp
      clear hH1 L
      have lp1 := op.lt
      generalize hB6 : H1.length = B6 at *
      have hPl : P.length = (cnt w h).toNat := by omega
      simp [VM.look, b2, one, hB6, (op.app (L := [⟨[.slice none 0 0], 0, 48⟩])).rd.len]
      refine wp_need (by omega) ?_
      refine wp_inv (fun n t H' => ∃ (i : Nat) (vo : Value) (o : List Int), n = (cnt w h).toNat - i ∧ i ≤ (cnt w h).toNat ∧ o = (List.range (i * (cnt w h).toNat)).map (treePort w h P (cnt w h).toNat) ∧
      t 2 = .pointer (some ⟨H.length, 0, some 0⟩) ∧ t 4 = .pointer (some ⟨H.length + 1, 0, some 0⟩) ∧ t 6 = .pointer (some ⟨B6, 0, some 0⟩) ∧ t 7 = vp ∧ t 27 = .int .i64 P.length ∧ t 28 = .int .i64 i ∧
      Chg H H' [] ∧ H'[H.length]? = some ⟨[.int .i64 w, .int .i64 h, v], 0, 33⟩ ∧ H'[H.length + 1]? = some ⟨[.slice none 0 0], 0, 48⟩ ∧ H'[B6]? = some ⟨[vo], 0, 48⟩ ∧
      Ow Fl.int 3 H' vp P ∧ Ow Fl.int 3 H' vo o ∧ (∀ i ∈ ids vo, B6 < i)) ?_ (n := (cnt w h).toNat)
        ⟨0, .slice none 0 0, [], by simp, by omega, by simp, by simp, by simp, by simp, by simp, by simp, by simp, c1.trans (Chg.app []), get_app' b2 _, get_app' b4 _, by rw [← hB6]; simp, op.app, .inl ⟨rfl, rfl⟩, by simp⟩
      clear b2 b4 op
      rintro n t H' ⟨i, vo, o, rfl, hi, ho, h2, h4, h6, h7, h27, h28, c0, b2, b4, b6, op, oo, no⟩ ih
      simp [h2, h4, h6, h7, h27, h28]
      refine wp_dec ?_ ?_ <;> intro hin
      · have hin' : i < (cnt w h).toNat := by omega
        simp [h2, h4, h6, h7, h27, h28, op.rd.len]
        refine wp_inv (fun n t H' => ∃ (j : Nat) (vo : Value) (o : List Int), n = (cnt w h).toNat - j ∧ j ≤ (cnt w h).toNat ∧ o = (List.range (i * (cnt w h).toNat + j)).map (treePort w h P (cnt w h).toNat) ∧
          t 2 = .pointer (some ⟨H.length, 0, some 0⟩) ∧ t 4 = .pointer (some ⟨H.length + 1, 0, some 0⟩) ∧ t 6 = .pointer (some ⟨B6, 0, some 0⟩) ∧ t 7 = vp ∧ t 27 = .int .i64 P.length ∧ t 28 = .int .i64 i ∧
          t 8 = .int .i64 i ∧ t 32 = .int .i64 P.length ∧ t 33 = .int .i64 j ∧
          Chg H H' [] ∧ H'[H.length]? = some ⟨[.int .i64 w, .int .i64 h, v], 0, 33⟩ ∧ H'[H.length + 1]? = some ⟨[.slice none 0 0], 0, 48⟩ ∧ H'[B6]? = some ⟨[vo], 0, 48⟩ ∧
      Ow Fl.int 3 H' vp P ∧ Ow Fl.int 3 H' vo o ∧ (∀ i ∈ ids vo, B6 < i)) ?_ (n := (cnt w h).toNat) ⟨0, vo, o, by simp, by omega, by simpa using ho, by simp [h2], by simp [h4], by simp [h6], by simp [h7], by simp [h27], by simp [h28], by simp, by simp, by simp, c0, b2, b4, b6, op, oo, no⟩
        clear h2 h4 h6 h7 h27 h28 c0 b2 b4 b6 op oo no ho
        rintro n t H' ⟨j, vo, o, rfl, hj, ho, h2, h4, h6, h7, h27, h28, h8, h32, h33, c0, b2, b4, b6, op, oo, no⟩ ih2
        simp [h2, h4, h6, h7, h27, h28, h8, h32, h33]
        refine wp_dec ?_ ?_ <;> intro hjn
        · have hjn' : j < (cnt w h).toNat := by omega
          have hol : o.length = i * (cnt w h).toNat + j := by rw [ho]; simp
          have hsm : i * (cnt w h).toNat + j < (cnt w h).toNat * (cnt w h).toNat := by
            have := Nat.mul_le_mul_right (cnt w h).toNat (show i + 1 ≤ (cnt w h).toNat by omega)
            rw [Nat.succ_mul] at this; omega
          have hdv : (i * (cnt w h).toNat + j) / (cnt w h).toNat = i := by rw [Nat.mul_comm, Nat.mul_add_div (by omega), Nat.div_eq_of_lt hjn']; omega
          have hmd : (i * (cnt w h).toNat + j) % (cnt w h).toNat = j := by rw [Nat.mul_comm, Nat.mul_add_mod, Nat.mod_eq_of_lt hjn']
          simp [h2, h4, h6, h7, h27, h28, h8, h32, h33]
          refine wp_dec ?_ ?_ <;> intro hij
          · have hx : treePort w h P (cnt w h).toNat (i * (cnt w h).toNat + j) = 4 := by unfold treePort; rw [hdv, hmd, if_pos (by omega)]
            simp [VM.look, b6, h2, h4, h6, h7, h27, h28, h8, h32, h33]
            obtain ⟨vo', H3, e3, oo3, c3, n3⟩ := oo.push (P := Try.prog) (frz := H.length) (ty := 22) (a := 4) (by simp) rfl (by omega) (fun i hi => by have := no i hi; omega)
            simp only [Fl.int_f] at e3
            have lc := box_lt b6
            have b2 := box_chg b2 c3 (fun hh => by have := no _ hh; omega)
            have b4 := box_chg b4 c3 (fun hh => by have := no _ hh; omega)
            have b6 := box_chg b6 c3 (fun hh => by have := no _ hh; omega)
            have op := op.chg c3 (fun i hi hh => by have := lp i hi; have := no _ hh; omega)
            have no3 : ∀ i ∈ ids vo', B6 < i := fun i hi => by rcases n3 i hi with h | h; exact no i h; omega
            have one3 := And.intro oo3.rd.one' oo3.rd.cells
            simp [e3, VM.look, b6, one3, h2, h4, h6, h7, h27, h28, h8, h32, h33]
            refine wp_need (by omega) ?_
            refine ih2 ((cnt w h).toNat - (j + 1)) _ _ ⟨j + 1, vo', o ++ [4], rfl, by omega, ?_, by simp [h2], by simp [h4], by simp [h6], by simp [h7], by simp [h27], by simp [h28], by simp [h8], by simp [h32], ?_,
              (c0.trans' c3 (fun i hi => .inr (by have := no i hi; omega))).trans' (chg_set _ _) (fun i hi => .inr (by simp at hi; omega)), box_chg b2 (chg_set _ _) (by simp; omega), box_chg b4 (chg_set _ _) (by simp; omega), set_get b6,
              op.chg (chg_set _ _) (fun i hi hh => by have := lp i hi; simp at hh; omega), oo3.chg (chg_set _ _) (fun i hi hh => by have := no3 i hi; simp at hh; omega), no3⟩ (by omega)
            · rw [← Nat.add_assoc, List.range_succ, List.map_append, ← ho]; simp [hx]
            · simp; rw [w64 (by omega) (by omega)]
          · rw [go_draw (h := by kernel_rfl)]
            simp [h2, h4, h6, h7, h27, h28, h8, h32, h33, VM.look, b2]
            obtain ⟨p, hp, htl, htg, hn0⟩ := tn (isN_nat hin') (isN_nat hjn') (by omega : (i : Int) ≠ (j : Int))
            refine wp_thn (treeNodes_w vp P i j op.rd.isI (by omega)) ?_
            rintro vt H2 ⟨L2, hH2, ot, nt⟩
            have c2 : Chg H' H2 [] := by rw [hH2]; exact Chg.app []
            rw [← hH2] at ot
            clear hH2 L2
            have b2 := box_chg b2 c2 (by simp)
            have b4 := box_chg b4 c2 (by simp)
            have b6 := box_chg b6 c2 (by simp)
            have op := op.chg c2 (by simp)
            have oo := oo.chg c2 (by simp)
            have c0 := c0.trans c2
            have q1 := ot.rd.isI.idx (P := Try.prog) (ty := 22) (e := 3) (by simp) (i := 1) (by omega) (by omega)
            have q2 := ot.rd.isI.load (P := Try.prog) (e := 3) (by simp) htl
            have etn : (treeNodes P (i : Int) (j : Int)).getD 1 0 = next w h i p := by rw [List.getD_eq_getElem?_getD, htg]; rfl
            have hpt := fun F L => portTo_c (frz := F) (H := L) w h i _ p hp etn.symm
            have hx : treePort w h P (cnt w h).toNat (i * (cnt w h).toNat + j) = firstPort w h i ((treeNodes P i j).getD 1 0) := by unfold treePort; rw [hdv, hmd, if_neg (by omega)]
            have q1' : vindexAddr Try.prog H2 22 vt (.int .i64 1) = some (elp vt 1) := q1
            generalize (treeNodes P (i : Int) (j : Int)).getD 1 0 = u at *
            generalize firstPort w h (i : Int) u = y at *
            simp [q1', q2, hpt, h2, h4, h6, h7, h27, h28, h8, h32, h33]
            simp [VM.look, b6, h2, h4, h6, h7, h27, h28, h8, h32, h33]
            obtain ⟨vo', H3, e3, oo3, c3, n3⟩ := oo.push (P := Try.prog) (frz := H.length) (ty := 22) (a := y) (by simp) rfl (by omega) (fun i hi => by have := no i hi; omega)
            simp only [Fl.int_f] at e3
            have lc := box_lt b6
            have b2 := box_chg b2 c3 (fun hh => by have := no _ hh; omega)
            have b4 := box_chg b4 c3 (fun hh => by have := no _ hh; omega)
            have b6 := box_chg b6 c3 (fun hh => by have := no _ hh; omega)
            have op := op.chg c3 (fun i hi hh => by have := lp i hi; have := no _ hh; omega)
            have no3 : ∀ i ∈ ids vo', B6 < i := fun i hi => by rcases n3 i hi with h | h; exact no i h; omega
            have one3 := And.intro oo3.rd.one' oo3.rd.cells
            simp [e3, VM.look, b6, one3, h2, h4, h6, h7, h27, h28, h8, h32, h33]
            refine wp_need (by omega) ?_
            refine ih2 ((cnt w h).toNat - (j + 1)) _ _ ⟨j + 1, vo', o ++ [y], rfl, by omega, ?_, by simp [h2], by simp [h4], by simp [h6], by simp [h7], by simp [h27], by simp [h28], by simp [h8], by simp [h32], ?_,
              (c0.trans' c3 (fun i hi => .inr (by have := no i hi; omega))).trans' (chg_set _ _) (fun i hi => .inr (by simp at hi; omega)), box_chg b2 (chg_set _ _) (by simp; omega), box_chg b4 (chg_set _ _) (by simp; omega), set_get b6,
              op.chg (chg_set _ _) (fun i hi hh => by have := lp i hi; simp at hh; omega), oo3.chg (chg_set _ _) (fun i hi hh => by have := no3 i hi; simp at hh; omega), no3⟩ (by omega)
            · rw [← Nat.add_assoc, List.range_succ, List.map_append, ← ho]; simp [hx]
            · simp; rw [w64 (by omega) (by omega)]
        · have hjn2 : j = (cnt w h).toNat := by omega
          have hjn' : ¬ j < P.length := by omega
          simp [h2, h4, h6, h7, h27, h28, h8, h32, h33]
          refine ih ((cnt w h).toNat - (i + 1)) _ _ ⟨i + 1, vo, o, rfl, by omega, by rw [ho, hjn2, Nat.succ_mul], by simp [h2], by simp [h4], by simp [h6], by simp [h7], by simp [h27], ?_, c0, b2, b4, b6, op, oo, no⟩ (by omega)
          simp; rw [w64 (by omega) (by omega)]
      · have hi2 : i = (cnt w h).toNat := by omega
        have l4 := box_lt b4
        rw [hi2] at ho
        rw [ho] at oo
        have l5 : ∀ i ∈ ids vo, i ∉ [H.length + 1] := fun i hi hh => by have := no i hi; simp at hh; omega
        have g4 := set_get (r' := ⟨[vo], 0, 48⟩) b4
        simp [h2, h4, h6, h7, h27, h28, VM.look, b4, b6, oo.rd.one', oo.rd.cells, g4]
        refine ⟨.agg #[vo], by simp [hok], vo, rfl, ⟨oo.chg (chg_set _ _) l5, by simp; omega⟩, c0.trans' (chg_set _ _) (fun i hi => .inr (by simp at hi; omega)), fun i hi => by have := no i hi; omega, ids_nodup vo⟩
    · simp [one, isConnected_c _ _ _ _ (hI.app _) hl, hcn, isNode_c, hr]
      exact no _ (fun hh => hr hh.2)
  · simp [one, isConnected_c _ _ _ _ (hI.app _) hl, hcn]
    exact no _ (fun hh => hcn hh.1)
end Go.Proofs.Ytnakhkfgheapoaa.V
/-! Tables of trees, of the reference. -/
set_option linter.all false
namespace Go.Proofs.Ytnakhkfgheapoaa.V
open Go Go.VM Go.Proofs
set_option maxRecDepth 10000
variable {frz : Nat} {H : Heap}
theorem tdiv_nat {i n : Nat} (hn : 0 < n) (hi : i < 1000) : IntKind.i64.wrap ((i : Int).tdiv n) = ((i / n : Nat) : Int) := by
  rw [Int.tdiv_eq_ediv_of_nonneg (by omega)]
  have : i / n ≤ i := Nat.div_le_self _ _
  rw [← Int.natCast_ediv]
  generalize i / n = q at *
  exact w64 (by omega) (by omega)
theorem tmod_nat {i n : Nat} : (i : Int).tmod n = ((i % n : Nat) : Int) := by
  rw [Int.tmod_eq_emod_of_nonneg (by omega)]; rfl
theorem l33Table_w (w h : Int) (v : Value) (b : List Int) (root : Int) (hI : IsI H v b) (hl : b.length ≤ 1073741824) (hok : treeOk w h b root) :
   wp (vcall C frz 90 [.agg #[.int .i64 w, .int .i64 h, v], .int .i64 root] H) (dTable.Made H (treeTable w h b root)) := by
  rw [vcall_go (fn := Try.f90) Try.func90 rfl (by kernel_rfl) rfl]
  have one := And.intro hI.one' hI.cells
  have hc := cnt_range w h
  obtain ⟨hcn, hr⟩ := hok
  have hok : treeOk w h b root := ⟨hcn, hr⟩
  simp [one]
  refine wp_thn (sTreeParents_w w h v b root (hI.app _) hl) ?_
  rintro vp H1 ⟨L, hH1, op, np⟩
  have hpl := tree_len hcn hr
  have tn := fun {a c : Int} (ha : isN w h a) (hc : isN w h c) (hne : a ≠ c) => tn_first hcn hr ha hc hne
  have ett : treeTable w h b root = (List.range ((cnt w h).toNat * (cnt w h).toNat)).map (treePort w h (parents w h b root) (cnt w h).toNat) := if_pos hok
  obtain ⟨N, hN⟩ : ∃ N : Nat, cnt w h = N := ⟨(cnt w h).toNat, by omega⟩
  have hNt : (cnt w h).toNat = N := by omega
  rw [hNt] at ett
  have nc := fun F L => (sNodeCount_c (frz := F) (H := L) w h).trans (by rw [hN])
  have isNN := fun {q : Nat} (hq : q < N) => isN_nat (w := w) (h := h) (a := q) (by omega)
  have hcc : N ≤ 16 := by omega
  have hlt2 : N * N ≤ 256 := Nat.mul_le_mul hcc hcc
  rw [ett]
  generalize parents w h b root = P at *
  have c1 : Chg H H1 [] := by rw [hH1]; exact (Chg.app []).trans (Chg.app [])
  have b2 : H1[H.length]? = some ⟨[.int .i64 w, .int .i64 h, v], 0, 33⟩ := by rw [hH1]; simp
  have b4 : H1[H.length + 1]? = some ⟨[.slice none 0 0], 0, 48⟩ := by rw [hH1]; simp
  have b5 : H1[H.length + 2]? = some ⟨[.slice none 0 0], 0, 48⟩ := by rw [hH1]; simp
  rw [← hH1] at op
  simp at np
  have lp1 := op.lt
  have l1 : H.length + 3 ≤ H1.length := by rw [hH1]; simp
  clear hH1 L
  generalize hB6 : H1.length = B6 at *
  have hPl : P.length = N := by omega
  have hn0 : 0 < N := by have := hr.1; have := hr.2; omega
  have esq : IntKind.i64.wrap ((N : Int) * N) = ((N * N : Nat) : Int) := by
    rw [← Int.natCast_mul, w64 (by omega) (by omega)]
  simp [VM.look, b2, one, nc]
  refine wp_inv (fun n t H' => ∃ (i : Nat) (vo : Value) (o : List Int), n = N * N - i ∧ i ≤ N * N ∧ o = (List.range i).map (treePort w h P N) ∧
      t 2 = .pointer (some ⟨H.length, 0, some 0⟩) ∧ t 4 = .pointer (some ⟨H.length + 1, 0, some 0⟩) ∧ t 5 = .pointer (some ⟨H.length + 2, 0, some 0⟩) ∧ t 6 = vp ∧ t 7 = .int .i64 N ∧ t 8 = .int .i64 i ∧
      Chg H H' [] ∧ B6 ≤ H'.length ∧ H'[H.length]? = some ⟨[.int .i64 w, .int .i64 h, v], 0, 33⟩ ∧ H'[H.length + 1]? = some ⟨[.slice none 0 0], 0, 48⟩ ∧ H'[H.length + 2]? = some ⟨[vo], 0, 48⟩ ∧
      Ow Fl.int 3 H' vp P ∧ Ow Fl.int 3 H' vo o ∧ (∀ i ∈ ids vo, B6 ≤ i)) ?_ (n := N * N)
    ⟨0, .slice none 0 0, [], by simp, by omega, by simp, by simp, by simp, by simp, by simp, by simp, by simp, c1, by omega, b2, b4, b5, op, .inl ⟨rfl, rfl⟩, by simp⟩
  clear b2 b4 b5 op
  rintro n t H' ⟨i, vo, o, rfl, hi, ho, h2, h4, h5, h6, h7, h8, c0, lB, b2, b4, b5, op, oo, no⟩ ih
  simp [h2, h4, h5, h6, h7, h8, esq]
  refine wp_dec ?_ ?_ <;> intro hin
  · have hin' : i < N * N := by
      have : (i : Int) < ((N * N : Nat) : Int) := by simpa using hin
      omega
    have hol : o.length = i := by rw [ho]; simp
    have hdv := tdiv_nat (i := i) hn0 (by omega)
    have hmd := tmod_nat (i := i) (n := N)
    have hd1 : i / N < N := Nat.div_lt_of_lt_mul hin'
    have hm1 : i % N < N := Nat.mod_lt _ hn0
    have hne0 : ¬ N = 0 := by omega
    have hdv2 : IntKind.i64.wrap ((i : Int) / (N : Int)) = ((i / N : Nat) : Int) := by
      rw [← Int.natCast_ediv]
      have : i / N ≤ i := Nat.div_le_self _ _
      generalize i / N = q at *
      exact w64 (by omega) (by omega)
    have hmd2 : (i : Int) % (N : Int) = ((i % N : Nat) : Int) := rfl
    generalize hqa : i / N = qa at *
    generalize hqc : i % N = qc at *
    simp [h2, h4, h5, h6, h7, h8]
    rw [go_draw (h := by kernel_rfl)]
    simp [h2, h4, h5, h6, h7, h8, hdv, hmd, hdv2, hmd2, hne0]
    refine wp_dec ?_ ?_ <;> intro hij
    · have hx : treePort w h P N i = 4 := by unfold treePort; rw [hqa, hqc, if_pos (by omega)]
      simp [VM.look, b5, h2, h4, h5, h6, h7, h8]
      obtain ⟨vo', H3, e3, oo3, c3, n3⟩ := oo.push (P := Try.prog) (frz := H.length) (ty := 22) (a := 4) (by simp) rfl (by omega) (fun i hi => by have := no i hi; omega)
      simp only [Fl.int_f] at e3
      have lc := c0.1
      have lc2 := box_lt b5
      have b2 := box_chg b2 c3 (fun hh => by have := no _ hh; omega)
      have b4 := box_chg b4 c3 (fun hh => by have := no _ hh; omega)
      have b5 := box_chg b5 c3 (fun hh => by have := no _ hh; omega)
      have op := op.chg c3 (fun i hi hh => by have := lp1 i hi; have := no _ hh; omega)
      have no3 : ∀ i ∈ ids vo', B6 ≤ i := fun i hi => by rcases n3 i hi with h | h; exact no i h; omega
      have one3 := And.intro oo3.rd.one' oo3.rd.cells
      simp [e3, VM.look, b5, one3, h2, h4, h5, h6, h7, h8]
      refine ih (N * N - (i + 1)) _ _ ⟨i + 1, vo', o ++ [4], rfl, by omega, ?_, by simp [h2], by simp [h4], by simp [h5], by simp [h6], by simp [h7], ?_,
        (c0.trans' c3 (fun i hi => .inr (by have := no i hi; omega))).trans' (chg_set _ _) (fun i hi => .inr (by simp at hi; omega)), by have := c3.1; simp; omega, box_chg b2 (chg_set _ _) (by simp), box_chg b4 (chg_set _ _) (by simp), set_get b5,
        op.chg (chg_set _ _) (fun i hi hh => by have := np i hi; simp at hh; omega), oo3.chg (chg_set _ _) (fun i hi hh => by have := no3 i hi; simp at hh; omega), no3⟩ (by omega)
      · rw [List.range_succ, List.map_append, ← ho]; simp [hx]
      · simp; rw [w64 (by omega) (by omega)]
    · have hij' : ¬ (qa = qc) := by omega
      rw [go_draw (h := by kernel_rfl)]
      obtain ⟨p, hp, htl, htg, hn0'⟩ := tn (isNN hd1) (isNN hm1) (by omega : (qa : Int) ≠ (qc : Int))
      simp [h2, h4, h5, h6, h7, h8, hdv, hmd, hdv2, hmd2, hne0, VM.look, b2]
      refine wp_thn (sTreeNodes_w vp P qa qc op.rd.isI (by omega)) ?_
      rintro vt H2 ⟨L2, hH2, ot, nt⟩
      have c2 : Chg H' H2 [] := by rw [hH2]; exact Chg.app []
      rw [← hH2] at ot
      clear hH2 L2
      have b2 := box_chg b2 c2 (by simp)
      have b4 := box_chg b4 c2 (by simp)
      have b5 := box_chg b5 c2 (by simp)
      have op := op.chg c2 (by simp)
      have oo := oo.chg c2 (by simp)
      have c0 := c0.trans c2
      have lB : B6 ≤ H2.length := by have := c2.1; omega
      have q1 : vindexAddr Try.prog H2 22 vt (.int .i64 1) = some (elp vt 1) := ot.rd.isI.idx (P := Try.prog) (ty := 22) (e := 3) (by simp) (i := 1) (by omega) (by omega)
      have q2 := ot.rd.isI.load (P := Try.prog) (e := 3) (by simp) htl
      have hx : treePort w h P N i = firstPort w h qa ((treeNodes P qa qc).getD 1 0) := by unfold treePort; rw [hqa, hqc, if_neg hij']
      have hpt := fun F L u => l33Port_c (frz := F) (H := L) w h qa u
      generalize (treeNodes P qa qc).getD 1 0 = u at *
      have hpt := fun F L => hpt F L u
      generalize firstPort w h qa u = y at *
      simp [q1, q2, hpt, h2, h4, h5, h6, h7, h8]
      simp [VM.look, b5, h2, h4, h5, h6, h7, h8]
      obtain ⟨vo', H3, e3, oo3, c3, n3⟩ := oo.push (P := Try.prog) (frz := H.length) (ty := 22) (a := y) (by simp) rfl (by omega) (fun i hi => by have := no i hi; omega)
      simp only [Fl.int_f] at e3
      have lc := c0.1
      have lc2 := box_lt b5
      have b2 := box_chg b2 c3 (fun hh => by have := no _ hh; omega)
      have b4 := box_chg b4 c3 (fun hh => by have := no _ hh; omega)
      have b5 := box_chg b5 c3 (fun hh => by have := no _ hh; omega)
      have op := op.chg c3 (fun i hi hh => by have := lp1 i hi; have := no _ hh; omega)
      have no3 : ∀ i ∈ ids vo', B6 ≤ i := fun i hi => by rcases n3 i hi with h | h; exact no i h; omega
      have one3 := And.intro oo3.rd.one' oo3.rd.cells
      simp [e3, VM.look, b5, one3, h2, h4, h5, h6, h7, h8]
      refine ih (N * N - (i + 1)) _ _ ⟨i + 1, vo', o ++ [y], rfl, by omega, ?_, by simp [h2], by simp [h4], by simp [h5], by simp [h6], by simp [h7], ?_,
        (c0.trans' c3 (fun i hi => .inr (by have := no i hi; omega))).trans' (chg_set _ _) (fun i hi => .inr (by simp at hi; omega)), by have := c3.1; simp; omega, box_chg b2 (chg_set _ _) (by simp), box_chg b4 (chg_set _ _) (by simp), set_get b5,
        op.chg (chg_set _ _) (fun i hi hh => by have := np i hi; simp at hh; omega), oo3.chg (chg_set _ _) (fun i hi hh => by have := no3 i hi; simp at hh; omega), no3⟩ (by omega)
      · rw [List.range_succ, List.map_append, ← ho]; simp [hx]
      · simp; rw [w64 (by omega) (by omega)]
  · have hi2 : i = N * N := by
      have : ¬ (i : Int) < ((N * N : Nat) : Int) := by simpa using hin
      omega
    have l4 := box_lt b4
    rw [hi2] at ho
    rw [ho] at oo
    have l5 : ∀ i ∈ ids vo, i ∉ [H.length + 1] := fun i hi hh => by have := no i hi; simp at hh; omega
    have g4 := set_get (r' := ⟨[vo], 0, 48⟩) b4
    simp [h2, h4, h5, h6, h7, h8, VM.look, b4, b5, oo.rd.one', oo.rd.cells, g4]
    exact ⟨vo, rfl, ⟨oo.chg (chg_set _ _) l5, by simp; omega⟩, c0.trans' (chg_set _ _) (fun i hi => .inr (by simp at hi; omega)), fun i hi => by have := no i hi; omega, ids_nodup vo⟩
end Go.Proofs.Ytnakhkfgheapoaa.V
/-! Two tables. -/
set_option linter.all false
namespace Go.Proofs.Ytnakhkfgheapoaa.V
open Go Go.VM Go.Proofs
set_option maxRecDepth 10000
variable {frz : Nat} {H : Heap}
abbrev ClassesD := List Int × List Int
def dClasses : Dt (Value × Value) ClassesD where
  val v _ := .agg #[v.1, v.2]
  Ow H v a := dIntS.Ow H v.1 a.1 ∧ dIntS.Ow H v.2 a.2
  ids v := VM.ids v.1 ++ VM.ids v.2
  frame h k := ⟨dIntS.frame h.1 fun i hi => k i (List.mem_append.2 (.inl hi)), dIntS.frame h.2 fun i hi => k i (List.mem_append.2 (.inr hi))⟩
  lt h i hi := by
    rcases List.mem_append.1 hi with hi | hi
    · exact dIntS.lt h.1 i hi
    · exact dIntS.lt h.2 i hi
theorem dClasses_val (v : Value × Value) (a : ClassesD) : dClasses.val v a = .agg #[v.1, v.2] := rfl
theorem dClasses_one {v : Value × Value} {a : ClassesD} (h : dClasses.Ow H v a) : (VM.one v.1 = true ∧ v.1.cells = #[v.1]) ∧ VM.one v.2 = true ∧ v.2.cells = #[v.2] := ⟨⟨h.1.1.rd.one', h.1.1.rd.cells⟩, h.2.1.rd.one', h.2.1.rd.cells⟩
theorem eqClasses_d {a b : Value × Value} {x y : ClassesD} (ha : dClasses.Ow H a x) (hb : dClasses.Ow H b y) : vcall C frz 44 [dClasses.val a x, dClasses.val b y] H = some (.bool (decide (x = y)), H) := by
  obtain ⟨x1, x2⟩ := x; obtain ⟨y1, y2⟩ := y; obtain ⟨a1, a2⟩ := a; obtain ⟨b1, b2⟩ := b
  rw [dClasses_val, dClasses_val]
  rw [vcall_go (fn := Try.f44) Try.func44 rfl (by kernel_rfl) rfl]
  have one := And.intro (dClasses_one ha) (dClasses_one hb)
  have e1 := fun F L => eqTable_d (frz := F) (H := H ++ L) (a := a1) (b := b1) (x := x1) (y := y1) (Dt.app (T := dIntS) ha.1) (Dt.app (T := dIntS) hb.1)
  have e2 := fun F L => eqTable_d (frz := F) (H := H ++ L) (a := a2) (b := b2) (x := x2) (y := y2) (Dt.app (T := dIntS) ha.2) (Dt.app (T := dIntS) hb.2)
  simp only [dTable_val] at e1 e2
  simp at one
  simp [one, e1]
  refine br_dec _ ?_ ?_ <;> intro h0 <;> simp [h0, one, e2]
  refine br_dec _ ?_ ?_ <;> intro h0 <;> simp [h0]
theorem markClasses_d {v : Value × Value} {a : ClassesD} {k : Int} (h : dClasses.Ow H v a) (hd : (dClasses.ids v).Nodup) (hk : 0 ≤ k ∧ k ≤ 2305843009213693952) (hf : ∀ i ∈ dClasses.ids v, frz ≤ i) :
    wp (vcall C frz 45 [dClasses.val v a, .int .i64 k] H) (Marks 2147483648 dClasses 46 H v a k) := by
  obtain ⟨a1, a2⟩ := a; obtain ⟨v1, v2⟩ := v
  rw [vcall_go (fn := Try.f45) Try.func45 rfl (by kernel_rfl) rfl]
  rw [dClasses_val]
  have one := dClasses_one h
  simp only at one
  obtain ⟨h1, h2⟩ := h
  simp only at h1 h2
  obtain ⟨d1, d2, d3⟩ := List.nodup_append.1 hd
  have dis : ∀ i ∈ VM.ids v2, i ∉ VM.ids v1 := fun i hi hh => d3 i hh i hi rfl
  have dis' : ∀ i ∈ VM.ids v1, i ∉ VM.ids v2 := fun i hi hh => d3 i hi i hh rfl
  have lt1 := dIntS.lt h1
  have lt2 := dIntS.lt h2
  simp [one]
  have m1 := markTable_d (frz := frz) (k := k) (H := H ++ [⟨[v1, v2], 0, 57⟩]) (v := v1) (a := a1) (Dt.app (T := dIntS) h1) d1 (by omega) (fun i hi => hf i (List.mem_append.2 (.inl hi)))
  simp only [dTable_val] at m1
  refine wp_thn m1 ?_
  rintro _ H1 ⟨n1, b1, rfl, hn1, _, o1, c1, he1⟩
  have bx : H1[H.length]? = some ⟨[v1, v2], 0, 57⟩ := box_chg (by simp) c1 (fun hh => by have := lt1 _ hh; omega)
  have o2 := Dt.chg (T := dIntS) (Dt.app (T := dIntS) h2) c1 dis
  simp [VM.look, bx, one]
  have m2 := markTable_d (frz := frz) (k := k + n1) (H := H1) (v := v2) (a := a2) o2 d2 (by omega) (fun i hi => hf i (List.mem_append.2 (.inr hi)))
  simp only [dTable_val] at m2
  refine wp_thn m2 ?_
  rintro _ H2 ⟨n2, b2, rfl, hn2, _, o2', c2, he2⟩
  simp
  refine ⟨n1 + n2, (b1, b2), by rw [Int.add_assoc], by omega, rfl, ⟨Dt.chg (T := dIntS) o1 c2 dis', o2'⟩, ?_, fun F H3 h3 => ?_⟩
  · refine ((Chg.app (dClasses.ids (v1, v2))).trans' (c1.mono fun i hi => List.mem_append.2 (.inl hi)) (fun i hi => .inl hi)).trans' (c2.mono fun i hi => List.mem_append.2 (.inr hi)) (fun i hi => .inl hi)
  · rw [vcall_go (fn := Try.f46) Try.func46 rfl (by kernel_rfl) rfl]
    rw [dClasses_val]
    have g1 := fun F => he1 F (H3 ++ [⟨[v1, v2], 0, 57⟩]) (Dt.app (T := dIntS) h3.1)
    have g2 := fun F => he2 F (H3 ++ [⟨[v1, v2], 0, 57⟩]) (Dt.app (T := dIntS) h3.2)
    simp only [dTable_val] at g1 g2
    have e0 : ¬ k + n1 < 0 := by omega
    have e1 : ¬ k + n1 + n2 < 0 := by omega
    simp [one, g1, e0, g2, e1, Int.add_assoc]
    simp [← Int.add_assoc, e1]
end Go.Proofs.Ytnakhkfgheapoaa.V
/-! RepairClasses. -/
set_option linter.all false
namespace Go.Proofs.Ytnakhkfgheapoaa.V
open Go Go.VM Go.Proofs
set_option maxRecDepth 10000
variable {frz : Nat} {H : Heap}
theorem sTreeTable_w (w h : Int) (v : Value) (b : List Int) (root : Int) (hI : IsI H v b) (hl : b.length ≤ 1073741824) :
   wp (vcall C frz 34 [.agg #[.int .i64 w, .int .i64 h, v], .int .i64 root] H) (Made2 dTable H (treeTable w h b root) (decide (treeOk w h b root))) := by
  rw [vcall_go (fn := Try.f34) Try.func34 rfl (by kernel_rfl) rfl]
  have one := And.intro hI.one' hI.cells
  have hc := cnt_range w h
  have no : ∀ (L : Heap), ¬ treeOk w h b root → Made2 dTable H (treeTable w h b root) (decide (treeOk w h b root)) (.tuple #[.agg #[.slice none 0 0], .bool false]) (H ++ L) := fun L hh => by
    refine ⟨.agg #[.slice none 0 0], by simp [hh], .slice none 0 0, rfl, ⟨.inl ⟨rfl, by simp [treeTable, hh]⟩, ?_⟩, Chg.app _, by simp [dTable], by simp [dTable]⟩
    simp [treeTable, hh]
  by_cases hcn : conn w h b
  · by_cases hr : isN w h root
    · have hok : treeOk w h b root := ⟨hcn, hr⟩
      simp [one, sIsConnected_c _ _ _ _ (hI.app _) hl, hcn, l02Has_c, hr]
      refine wp_thn (l33Table_w w h v b root (hI.app _) hl hok) ?_
      rintro _ H1 ⟨vt, rfl, ot, c1, nt, dt⟩
      have b4 : H1[H.length + 1]? = some ⟨[.slice none 0 0], 0, 48⟩ := box_chg (by simp) c1 (by simp)
      have l4 := box_lt b4
      simp at nt
      have g4 := set_get (r' := ⟨[vt], 0, 48⟩) b4
      simp [dTable_val, dTable_one ot, VM.look, b4, g4]
      refine ⟨.agg #[vt], by simp [hok], vt, rfl, Dt.chg (T := dTable) ot (chg_set _ _) (fun i hi hh => by have := nt i hi; simp at hh; omega), ((Chg.app []).trans c1).trans' (chg_set _ _) (fun i hi => .inr (by simp at hi; omega)), fun i hi => by have := nt i hi; omega, dt⟩
    · simp [one, sIsConnected_c _ _ _ _ (hI.app _) hl, hcn, l02Has_c, hr]
      exact no _ (fun hh => hr hh.2)
  · simp [one, sIsConnected_c _ _ _ _ (hI.app _) hl, hcn]
    exact no _ (fun hh => hcn hh.1)
theorem copyTable_w (v : Value) (xs : List Int) (hI : IsI H v xs) (hl : xs.length ≤ 1073741824) : wp (vcall C frz 96 [.agg #[v]] H) (dTable.Made H xs) := by
  rw [vcall_go (fn := Try.f96) Try.func96 rfl (by kernel_rfl) rfl]
  have one := And.intro hI.one' hI.cells
  simp [one, (hI.app _).src]
  by_cases h0 : xs = []
  · subst h0
    simp
    exact ⟨_, rfl, ⟨Ow.new (D := Fl.int) (e := 3) (xs := []) (k := 2) (by simp) rfl rfl rfl, by simp⟩, Chg.app _, by simp [dTable], ids_nodup (.slice (some ⟨H.length + 2, 0, some 0⟩) 0 0)⟩
  · simp [h0, hl]
    exact ⟨_, rfl, ⟨Ow.new (D := Fl.int) (e := 3) (xs := xs) (k := 2) (by simp) (cellsOf_int _).symm (by simp) rfl, hl⟩, Chg.app _, by simp [dTable], ids_nodup (.slice (some ⟨H.length + 2, 0, some 1⟩) xs.length 0)⟩
theorem l12Copy_w (v : Value) (xs : List Int) (hI : IsI H v xs) (hl : xs.length ≤ 1073741824) : wp (vcall C frz 95 [.agg #[v]] H) (dTable.Made H xs) := by
  rw [vcall_go (fn := Try.f95) Try.func95 rfl (by kernel_rfl) rfl]
  have one := And.intro hI.one' hI.cells
  simp [one, (hI.app _).src]
  by_cases h0 : xs = []
  · subst h0
    simp
    exact ⟨_, rfl, ⟨Ow.new (D := Fl.int) (e := 3) (xs := []) (k := 2) (by simp) rfl rfl rfl, by simp⟩, Chg.app _, by simp [dTable], ids_nodup (.slice (some ⟨H.length + 2, 0, some 0⟩) 0 0)⟩
  · simp [h0, hl]
    exact ⟨_, rfl, ⟨Ow.new (D := Fl.int) (e := 3) (xs := xs) (k := 2) (by simp) (cellsOf_int _).symm (by simp) rfl, hl⟩, Chg.app _, by simp [dTable], ids_nodup (.slice (some ⟨H.length + 2, 0, some 1⟩) xs.length 0)⟩
noncomputable def repair (w h : Int) (b : List Int) : ClassesD := (treeTable w h b (bestRoot w h b), treeTable w h b (bestRoot w h b))
noncomputable def repairOk (w h : Int) (b : List Int) : Bool := decide (treeOk w h b (bestRoot w h b))
theorem repair_w (w h : Int) (v : Value) (b : List Int) (hI : IsI H v b) (hl : b.length ≤ 1073741824) :
   wp (vcall C frz 43 [.agg #[.int .i64 w, .int .i64 h, v]] H) (Made2 dClasses H (repair w h b) (repairOk w h b)) := by
  rw [vcall_go (fn := Try.f43) Try.func43 rfl (by kernel_rfl) rfl]
  have one := And.intro hI.one' hI.cells
  simp [one]
  rw [go_draw (h := by kernel_rfl)]
  simp [one, bestRoot_c _ _ _ _ (hI.app _) hl]
  refine wp_thn (treeTable_w w h v b (bestRoot w h b) (hI.app _) hl) ?_
  rintro _ H1 ⟨_, rfl, vt, rfl, ot, c1, nt, dt⟩
  have b1 : H1[H.length + 1]? = some ⟨[.slice none 0 0, .slice none 0 0], 0, 57⟩ := box_chg (by simp) c1 (by simp)
  have l1 := box_lt b1
  simp at nt
  have cH : Chg H H1 [] := (Chg.app []).trans c1
  have hle := treeTable_len w h b (bestRoot w h b)
  have hne : ¬ treeOk w h b (bestRoot w h b) → treeTable w h b (bestRoot w h b) = [] := fun hh => if_neg hh
  unfold repair repairOk
  generalize treeTable w h b (bestRoot w h b) = tt at *
  have one1 := dTable_one ot
  simp [dTable_val, one1, VM.look, b1]
  by_cases hok : treeOk w h b (bestRoot w h b)
  · have l0 := cH.1
    simp [hok, l0]
    rw [go_draw (h := by kernel_rfl)]
    simp [one1, l0]
    refine wp_thn (copyTable_w vt tt (ot.1.rd.isI.app _) (by omega)) ?_
    rintro _ H2 ⟨vu, rfl, ou, c2, nu, du⟩
    have b2 : H2[H.length + 1]? = some ⟨[.slice none 0 0, .slice none 0 0], 0, 57⟩ := box_chg (get_app' b1 _) c2 (by simp)
    have ot2 := Dt.chg0 (T := dIntS) (Dt.app (T := dIntS) ot) c2
    have lt1 := dIntS.lt ot
    simp at nu
    have one2 := dTable_one ou
    have g4 := set_get (r' := ⟨[vt, vu], 0, 57⟩) b2
    simp [dTable_val, one1, one2, VM.look, b2, g4]
    have h1 : ∀ i ∈ VM.ids vt, i ∉ [H.length + 1] := fun i hi hh => by have := nt i hi; simp at hh; omega
    have h2 : ∀ i ∈ VM.ids vu, i ∉ [H.length + 1] := fun i hi hh => by have := nu i hi; simp at hh; omega
    refine ⟨.agg #[vt, vu], by simp [hok], (vt, vu), rfl, ⟨Dt.chg (T := dIntS) ot2 (chg_set _ _) h1, Dt.chg (T := dIntS) ou (chg_set _ _) h2⟩, ((cH.trans (Chg.app [])).trans c2).trans' (chg_set _ _) (fun i hi => .inr (by simp at hi; omega)), fun i hi => ?_, List.nodup_append.2 ⟨ids_nodup vt, ids_nodup vu, fun i hi j hj hh => ?_⟩⟩
    · rcases List.mem_append.1 hi with hi | hi
      · have := nt i hi; omega
      · have := nu i hi; omega
    · have := lt1 i hi; have := nu j hj; omega
  · obtain rfl := hne hok
    have l0 := cH.1
    have g4 := set_get (r' := ⟨[.slice none 0 0, .slice none 0 0], 0, 57⟩) (get_app' b1 [⟨[vt], 0, 48⟩])
    have b1' := get_app' b1 [⟨[vt], 0, 48⟩]
    simp [hok, l0, VM.look, b1, b1', g4]
    refine ⟨.agg #[.slice none 0 0, .slice none 0 0], by simp [hok], (.slice none 0 0, .slice none 0 0), rfl, ⟨⟨.inl ⟨rfl, rfl⟩, by simp⟩, .inl ⟨rfl, rfl⟩, by simp⟩, (cH.trans (Chg.app [])).trans' (chg_set _ _) (fun i hi => .inr (by simp at hi; omega)), by simp [dClasses], by simp [dClasses]⟩
theorem sRepair_w (w h : Int) (v : Value) (b : List Int) (hI : IsI H v b) (hl : b.length ≤ 1073741824) :
   wp (vcall C frz 42 [.agg #[.int .i64 w, .int .i64 h, v]] H) (Made2 dClasses H (repair w h b) (repairOk w h b)) := by
  rw [vcall_go (fn := Try.f42) Try.func42 rfl (by kernel_rfl) rfl]
  have one := And.intro hI.one' hI.cells
  simp [one]
  rw [go_draw (h := by kernel_rfl)]
  simp [one, sBestRoot_c _ _ _ _ (hI.app _) hl]
  refine wp_thn (sTreeTable_w w h v b (bestRoot w h b) (hI.app _) hl) ?_
  rintro _ H1 ⟨_, rfl, vt, rfl, ot, c1, nt, dt⟩
  have b1 : H1[H.length + 1]? = some ⟨[.slice none 0 0, .slice none 0 0], 0, 57⟩ := box_chg (by simp) c1 (by simp)
  have l1 := box_lt b1
  simp at nt
  have cH : Chg H H1 [] := (Chg.app []).trans c1
  have hle := treeTable_len w h b (bestRoot w h b)
  have hne : ¬ treeOk w h b (bestRoot w h b) → treeTable w h b (bestRoot w h b) = [] := fun hh => if_neg hh
  unfold repair repairOk
  generalize treeTable w h b (bestRoot w h b) = tt at *
  have one1 := dTable_one ot
  simp [dTable_val, one1, VM.look, b1]
  by_cases hok : treeOk w h b (bestRoot w h b)
  · have l0 := cH.1
    simp [hok, l0]
    rw [go_draw (h := by kernel_rfl)]
    simp [one1, l0]
    refine wp_thn (l12Copy_w vt tt (ot.1.rd.isI.app _) (by omega)) ?_
    rintro _ H2 ⟨vu, rfl, ou, c2, nu, du⟩
    have b2 : H2[H.length + 1]? = some ⟨[.slice none 0 0, .slice none 0 0], 0, 57⟩ := box_chg (get_app' b1 _) c2 (by simp)
    have ot2 := Dt.chg0 (T := dIntS) (Dt.app (T := dIntS) ot) c2
    have lt1 := dIntS.lt ot
    simp at nu
    have one2 := dTable_one ou
    have g4 := set_get (r' := ⟨[vt, vu], 0, 57⟩) b2
    simp [dTable_val, one1, one2, VM.look, b2, g4]
    have h1 : ∀ i ∈ VM.ids vt, i ∉ [H.length + 1] := fun i hi hh => by have := nt i hi; simp at hh; omega
    have h2 : ∀ i ∈ VM.ids vu, i ∉ [H.length + 1] := fun i hi hh => by have := nu i hi; simp at hh; omega
    refine ⟨.agg #[vt, vu], by simp [hok], (vt, vu), rfl, ⟨Dt.chg (T := dIntS) ot2 (chg_set _ _) h1, Dt.chg (T := dIntS) ou (chg_set _ _) h2⟩, ((cH.trans (Chg.app [])).trans c2).trans' (chg_set _ _) (fun i hi => .inr (by simp at hi; omega)), fun i hi => ?_, List.nodup_append.2 ⟨ids_nodup vt, ids_nodup vu, fun i hi j hj hh => ?_⟩⟩
    · rcases List.mem_append.1 hi with hi | hi
      · have := nt i hi; omega
      · have := nu i hi; omega
    · have := lt1 i hi; have := nu j hj; omega
  · obtain rfl := hne hok
    have l0 := cH.1
    have g4 := set_get (r' := ⟨[.slice none 0 0, .slice none 0 0], 0, 57⟩) (get_app' b1 [⟨[vt], 0, 48⟩])
    have b1' := get_app' b1 [⟨[vt], 0, 48⟩]
    simp [hok, l0, VM.look, b1, b1', g4]
    refine ⟨.agg #[.slice none 0 0, .slice none 0 0], by simp [hok], (.slice none 0 0, .slice none 0 0), rfl, ⟨⟨.inl ⟨rfl, rfl⟩, by simp⟩, .inl ⟨rfl, rfl⟩, by simp⟩, (cH.trans (Chg.app [])).trans' (chg_set _ _) (fun i hi => .inr (by simp at hi; omega)), by simp [dClasses], by simp [dClasses]⟩
end Go.Proofs.Ytnakhkfgheapoaa.V
/-! Contracts on data. -/
set_option linter.all false
namespace Go.Proofs.Ytnakhkfgheapoaa.V
open Go Go.VM Go.Proofs
variable {frz : Nat} {H : Heap} {v : Value} {w h : Int} {b : List Int} {root : Int}
theorem treeTable_d (o : dMesh.Ow H v (w, h, b)) : wp (vcall C frz 36 [dMesh.val v (w, h, b), .int .i64 root] H) (Made2 dTable H (treeTable w h b root) (decide (treeOk w h b root))) := treeTable_w w h v b root o.1.rd.isI o.2
theorem sTreeTable_d (o : dMesh.Ow H v (w, h, b)) : wp (vcall C frz 34 [dMesh.val v (w, h, b), .int .i64 root] H) (Made2 dTable H (treeTable w h b root) (decide (treeOk w h b root))) := sTreeTable_w w h v b root o.1.rd.isI o.2
theorem repair_d (o : dMesh.Ow H v (w, h, b)) : wp (vcall C frz 43 [dMesh.val v (w, h, b)] H) (Made2 dClasses H (repair w h b) (repairOk w h b)) := repair_w w h v b o.1.rd.isI o.2
theorem sRepair_d (o : dMesh.Ow H v (w, h, b)) : wp (vcall C frz 42 [dMesh.val v (w, h, b)] H) (Made2 dClasses H (repair w h b) (repairOk w h b)) := sRepair_w w h v b o.1.rd.isI o.2
end Go.Proofs.Ytnakhkfgheapoaa.V
/-! Distances, detours. -/
set_option linter.all false
namespace Go.Proofs.Ytnakhkfgheapoaa.V
open Go Go.VM Go.Proofs
set_option maxRecDepth 10000
variable {frz : Nat} {H : Heap}
theorem wrap_add (a b : Int) : IntKind.i64.wrap (IntKind.i64.wrap a + b) = IntKind.i64.wrap (a + b) := by simp only [IntKind.wrap_i64]; omega
theorem wrap_add' (a b : Int) : IntKind.i64.wrap (a + IntKind.i64.wrap b) = IntKind.i64.wrap (a + b) := by simp only [IntKind.wrap_i64]; omega
theorem wrap_sub (a b : Int) : IntKind.i64.wrap (IntKind.i64.wrap a - b) = IntKind.i64.wrap (a - b) := by simp only [IntKind.wrap_i64]; omega
def dist (w h a c : Int) : Int := if isN w h a ∧ isN w h c then max (a % w - c % w) (c % w - a % w) + max (a / w - c / w) (c / w - a / w) else -1
theorem dist_parts {w h a c : Int} (ha : isN w h a) (hc : isN w h c) : (1 ≤ w ∧ w ≤ 4) ∧ (0 ≤ a % w ∧ a % w < 4) ∧ (0 ≤ c % w ∧ c % w < 4) ∧ (0 ≤ a / w ∧ a / w < 16) ∧ (0 ≤ c / w ∧ c / w < 16) := by
  obtain ⟨⟨⟨a1, a2⟩, b1, b2⟩, g2, g3, g4⟩ := isN_ok ha
  obtain ⟨_, k2, k3, k4⟩ := isN_ok hc
  exact ⟨⟨a1, a2⟩, mod_small a1 a2, mod_small a1 a2, div_small g2 a1 g4, div_small k2 a1 k4⟩
theorem gap_c (a c : Int) (ha : -1000 ≤ a ∧ a ≤ 1000) (hc : -1000 ≤ c ∧ c ≤ 1000) : vcall C frz 85 [.int .i64 a, .int .i64 c] H = some (.int .i64 (max (a - c) (c - a)), H) := by
  rw [vcall_go (fn := Try.f85) Try.func85 rfl (by kernel_rfl) rfl]
  simp [ite_max]
  rw [w64 (by omega) (by omega), w64 (by omega) (by omega)]
theorem distance_c (w h a c : Int) : vcall C frz 30 [.agg #[.int .i64 w, .int .i64 h], .int .i64 a, .int .i64 c] H = some (.int .i64 (dist w h a c), H) := by
  rw [vcall_go (fn := Try.f30) Try.func30 rfl (by kernel_rfl) rfl]
  by_cases ha : isN w h a
  · by_cases hc : isN w h c
    · obtain ⟨⟨w1, w2⟩, p1, p2, p3, p4⟩ := dist_parts ha hc
      have ha' := isN_ok ha
      have hc' := isN_ok hc
      simp [isNode_c, ha, hc]
      rw [go_draw (h := by kernel_rfl)]
      simp
      refine vneed_eq (by omega) ?_
      refine vneed_eq (by omega) ?_
      rw [tmod_of ha'.2.1, tmod_of hc'.2.1]
      simp [gap_c _ _ (show -1000 ≤ a % w ∧ a % w ≤ 1000 by omega) (show -1000 ≤ c % w ∧ c % w ≤ 1000 by omega)]
      refine vneed_eq (by omega) ?_
      refine vneed_eq (by omega) ?_
      rw [tdiv_of ha'.2.1 w1 ha'.2.2.2, tdiv_of hc'.2.1 w1 hc'.2.2.2]
      simp [gap_c _ _ (show -1000 ≤ a / w ∧ a / w ≤ 1000 by omega) (show -1000 ≤ c / w ∧ c / w ≤ 1000 by omega)]
      rw [dist, if_pos ⟨ha, hc⟩, w64 (by omega) (by omega)]
    · simp [isNode_c, ha, hc, dist]
  · simp [isNode_c, ha, dist]
theorem abs_c (a : Int) (ha : -1000 ≤ a ∧ a ≤ 1000) : vcall C frz 134 [.int .i64 a] H = some (.int .i64 (max a (-a)), H) := by
  rw [vcall_go (fn := Try.f134) Try.func134 rfl (by kernel_rfl) rfl]
  simp [ite_max]
  rw [w64 (by omega) (by omega)]
theorem sDistance_c (w h a c : Int) : vcall C frz 99 [.agg #[.int .i64 w, .int .i64 h], .int .i64 a, .int .i64 c] H = some (.int .i64 (dist w h a c), H) := by
  rw [vcall_go (fn := Try.f99) Try.func99 rfl (by kernel_rfl) rfl]
  by_cases ha : isN w h a
  · by_cases hc : isN w h c
    · obtain ⟨⟨w1, w2⟩, p1, p2, p3, p4⟩ := dist_parts ha hc
      have ha' := isN_ok ha
      have hc' := isN_ok hc
      simp [l02Has_c, ha, hc]
      rw [go_draw (h := by kernel_rfl)]
      simp
      refine vneed_eq (by omega) ?_
      refine vneed_eq (by omega) ?_
      rw [tmod_of ha'.2.1, tmod_of hc'.2.1, w64 (x := a % w - c % w) (by omega) (by omega)]
      simp [abs_c _ (show -1000 ≤ a % w - c % w ∧ a % w - c % w ≤ 1000 by omega)]
      refine vneed_eq (by omega) ?_
      refine vneed_eq (by omega) ?_
      rw [tdiv_of ha'.2.1 w1 ha'.2.2.2, tdiv_of hc'.2.1 w1 hc'.2.2.2, w64 (x := a / w - c / w) (by omega) (by omega)]
      simp [abs_c _ (show -1000 ≤ a / w - c / w ∧ a / w - c / w ≤ 1000 by omega)]
      rw [dist, if_pos ⟨ha, hc⟩, w64 (by omega) (by omega)]
      omega
    · simp [l02Has_c, ha, hc, dist]
  · simp [l02Has_c, ha, dist]
/-- how much longer than the distance a way is -/
def extra (w h : Int) (b T : List Int) (a c : Nat) : Int := (walk w h b T a c).length - dist w h a c
def pairSum (f : Nat → Nat → Int) (l : List (Nat × Nat)) : Int := (l.map fun p => f p.1 p.2).sum
theorem pairSum_app (f : Nat → Nat → Int) (l m : List (Nat × Nat)) : pairSum f (l ++ m) = pairSum f l + pairSum f m := by simp [pairSum]
def rowSum (f : Nat → Nat → Int) (n m : Nat) : Int := ((List.range m).map fun i => f (i / n) (i % n)).sum
theorem rowSum_succ (f : Nat → Nat → Int) (n m : Nat) : rowSum f n (m + 1) = rowSum f n m + f (m / n) (m % n) := by simp [rowSum, List.range_succ]
theorem row_sum {f : Nat → Nat → Int} {n a : Nat} (h0 : f a a = 0) (hn : 0 < n) : ∀ m, m ≤ n → rowSum f n (a * n + m) = rowSum f n (a * n) + pairSum f (rowPairs n a m) := by
  intro m
  induction m with
  | zero => intro _; simp [rowPairs, pairSum]
  | succ m ih =>
    intro hm
    rw [← Nat.add_assoc, rowSum_succ, ih (by omega)]
    have hdv : (a * n + m) / n = a := by rw [Nat.mul_comm, Nat.mul_add_div hn, Nat.div_eq_of_lt (by omega)]; omega
    have hmd : (a * n + m) % n = m := by rw [Nat.mul_comm, Nat.mul_add_mod, Nat.mod_eq_of_lt (by omega)]
    rw [hdv, hmd]
    by_cases h : a = m
    · rw [rowPairs_eq _ _ _ h]; subst h; omega
    · rw [rowPairs_ne _ _ _ h, pairSum_app]; simp [pairSum]; omega
theorem all_sum {f : Nat → Nat → Int} {n : Nat} (hn : 0 < n) : ∀ m, (∀ a < m, f a a = 0) → rowSum f n (m * n) = pairSum f (allPairs n m) := by
  intro m
  induction m with
  | zero => intro _; simp [rowSum, allPairs, pairSum]
  | succ m ih =>
    intro h0
    rw [Nat.succ_mul, row_sum (h0 m (by omega)) hn n (Nat.le_refl _), ih (fun a ha => h0 a (by omega)), allPairs_succ, pairSum_app]
theorem walk_self {w h : Int} {b T : List Int} {a : Int} (h4 : portOf w h T a a = 4) : walk w h b T a a = [] := by
  unfold walk
  cases (cnt w h).toNat <;> simp [walkN, h4]
theorem treeTab_self {w h : Int} {b : List Int} {r : Int} {a : Nat} (ha : a < (cnt w h).toNat) : portOf w h (treeTab w h b r) a a = 4 := by
  have hc := cnt_range w h
  have hlt : a * (cnt w h).toNat + a < (cnt w h).toNat * (cnt w h).toNat := by
    have := Nat.mul_le_mul_right (cnt w h).toNat (show a + 1 ≤ (cnt w h).toNat by omega)
    rw [Nat.succ_mul] at this; omega
  have e : (a : Int) * cnt w h + a = ((a * (cnt w h).toNat + a : Nat) : Int) := by
    rw [Int.natCast_add, Int.natCast_mul, Int.toNat_of_nonneg hc.1]
  unfold portOf
  rw [e, rd_at (by simpa [treeTab] using hlt)]
  have hdv : (a * (cnt w h).toNat + a) / (cnt w h).toNat = a := by rw [Nat.mul_comm, Nat.mul_add_div (by omega), Nat.div_eq_of_lt ha]; omega
  have hmd : (a * (cnt w h).toNat + a) % (cnt w h).toNat = a := by rw [Nat.mul_comm, Nat.mul_add_mod, Nat.mod_eq_of_lt ha]
  simp only [treeTab, List.getElem_map, List.getElem_range, treePort]
  rw [hdv, hmd, if_pos rfl]
theorem treeTab_sized {w h : Int} {b : List Int} {r : Int} (hm : meshOk w h b) : tsized w h b (treeTab w h b r) := by
  have hc := cnt_range w h
  refine ⟨hm, ?_⟩
  simp only [treeTab, List.length_map, List.length_range]
  rw [Int.natCast_mul, Int.toNat_of_nonneg hc.1]
theorem dist_self {w h a : Int} (ha : isN w h a) : dist w h a a = 0 := by rw [dist, if_pos ⟨ha, ha⟩]; omega
theorem extra_self {w h : Int} {b : List Int} {r : Int} {a : Nat} (ha : a < (cnt w h).toNat) : extra w h b (treeTab w h b r) a a = 0 := by
  unfold extra
  rw [walk_self (treeTab_self ha), dist_self (isN_nat ha)]; rfl
noncomputable def detour (w h : Int) (b : List Int) : Int := if treeOk w h b (bestRoot w h b) then IntKind.i64.wrap (pairSum (extra w h b (treeTab w h b (bestRoot w h b))) (allPairs (cnt w h).toNat (cnt w h).toNat)) else -1
theorem detour1_w (w h : Int) (v u : Value) (b T : List Int) (s : Int) (a c : Nat) (r0 r1 r2 : Nat) (hI : IsI H v b) (hT : IsI H u T) (hl : b.length ≤ 1073741824) (hz : tsized w h b T) (ha : a < (cnt w h).toNat) (hc : c < (cnt w h).toNat) (hne : a ≠ c)
    (g0 : H[r0]? = some ⟨[.int .i64 s], 0, 3⟩) (g1 : H[r1]? = some ⟨[.int .i64 w, .int .i64 h, v], 0, 33⟩) (g2 : H[r2]? = some ⟨[u], 0, 48⟩) (hf : frz ≤ r0) :
   wp (vcall C frz 101 [.int .i64 a, .int .i64 c, .pointer (some ⟨r0, 0, some 0⟩), .pointer (some ⟨r1, 0, some 0⟩), .pointer (some ⟨r2, 0, some 0⟩)] H)
    (fun r H' => r = .bool true ∧ Chg H H' [r0] ∧ H'[r0]? = some ⟨[.int .i64 (IntKind.i64.wrap (s + extra w h b T a c))], 0, 3⟩) := by
  rw [vcall_go (fn := Try.f101) Try.func101 rfl (by kernel_rfl) rfl]
  simp
  rw [go_draw (h := by kernel_rfl)]
  simp [VM.look, g0, g1, g2, hI.one', hI.cells, hT.one', hT.cells]
  refine wp_thn (made_ret (walk_c w h v u b T a c hI hT hl hz (isN_nat ha) (isN_nat hc) (by omega))) ?_
  rintro vw _ ⟨L, rfl, ow, nw⟩
  have lt0 := box_lt g0
  have k0 := get_app' g0 L
  have k1 := get_app' g1 L
  have k2 := get_app' g2 L
  have g4 := set_get (r' := ⟨[.int .i64 (IntKind.i64.wrap (s + extra w h b T a c))], 0, 3⟩) k0
  have e1 : IntKind.i64.wrap (s + (((walk w h b T a c).length : Int) - dist w h a c)) = IntKind.i64.wrap (s + extra w h b T a c) := rfl
  simp [VM.look, k0, k1, k2, ow.rd.len, distance_c, wrap_add', e1, hf]
  exact ⟨(Chg.app _).trans (chg_set _ _), g4⟩
theorem detour_c (w h : Int) (v : Value) (b : List Int) (hI : IsI H v b) (hl : b.length ≤ 1073741824) :
   vcall C frz 48 [.agg #[.int .i64 w, .int .i64 h, v]] H = some (.int .i64 (detour w h b), H) := by
  refine wp.exact (by simp) ?_ rfl
  rw [vcall_go (fn := Try.f48) Try.func48 rfl (by kernel_rfl) rfl]
  have one := And.intro hI.one' hI.cells
  simp [one]
  rw [go_draw (h := by kernel_rfl)]
  simp [one, bestRoot_c _ _ _ _ (hI.app _) hl]
  refine wp_thn (treeTable_w w h v b (bestRoot w h b) (hI.app _) hl) ?_
  rintro _ H1 ⟨_, rfl, vt, rfl, ot, c1, nt, dt⟩
  have b1 : H1[H.length]? = some ⟨[.int .i64 w, .int .i64 h, v], 0, 33⟩ := box_chg (by simp) c1 (by simp)
  have cH : Chg H H1 [] := (Chg.app []).trans c1
  have l0 := cH.1
  have l1 := box_lt b1
  have one1 := dTable_one ot
  by_cases hok : treeOk w h b (bestRoot w h b)
  · have ett : treeTable w h b (bestRoot w h b) = treeTab w h b (bestRoot w h b) := if_pos hok
    have hz := treeTab_sized (r := bestRoot w h b) hok.1.1
    rw [ett] at ot
    have ed : detour w h b = IntKind.i64.wrap (pairSum (extra w h b (treeTab w h b (bestRoot w h b))) (allPairs (cnt w h).toNat (cnt w h).toNat)) := if_pos hok
    rw [ed]
    generalize treeTab w h b (bestRoot w h b) = T at *
    simp [dTable_val, one1, VM.look, b1, get_app' b1, hok, l0, Nat.le_add_right_of_le l0]
    have oT := ot.1.rd.isI
    have hIT := (hI.rd.chg cH (by simp)).isI
    refine wp_thn (pairs_w (frz := H.length) w h _ (Q := fun r H' => H'[H1.length + 1]? = some ⟨[.int .i64 (IntKind.i64.wrap (pairSum (extra w h b T) (allPairs (cnt w h).toNat (cnt w h).toNat)))], 0, 3⟩)
      (fun done H' => Chg (H1 ++ [⟨[vt], 0, 48⟩]) H' [H1.length + 1] ∧ H'[H1.length + 1]? = some ⟨[.int .i64 (IntKind.i64.wrap (pairSum (extra w h b T) done))], 0, 3⟩) ⟨?_, ?_⟩ ?_ ?_) ?_
    · have := (Chg.app (H := H1 ++ [⟨[vt], 0, 48⟩]) (L := [⟨[.int .i64 0], 0, 3⟩, ⟨[.int .i64 w, .int .i64 h], 0, 31⟩]) [H1.length + 1]); simp only [List.append_assoc, List.cons_append, List.nil_append] at this ⊢; exact this
    · simp [pairSum]; decide
    · rintro done a c H' ha hc hne ⟨cD, bD⟩
      have bm : H'[H.length]? = some ⟨[.int .i64 w, .int .i64 h, v], 0, 33⟩ := box_chg (get_app' b1 _) cD (by simp; omega)
      have bt : H'[H1.length]? = some ⟨[vt], 0, 48⟩ := box_chg (by simp) cD (by simp)
      have iB := (hIT.app [⟨[vt], 0, 48⟩]).rd.chg cD (fun i hi hh => by have := hIT.rd.lt i hi; simp at hh; omega)
      have iT := (oT.app [⟨[vt], 0, 48⟩]).rd.chg cD (fun i hi hh => by have := oT.rd.lt i hi; simp at hh; omega)
      simp
      refine (detour1_w w h v vt b T _ a c (H1.length + 1) H.length H1.length iB.isI iT.isI hl hz ha hc hne bD bm bt (by omega)).mono ?_
      rintro r H'' ⟨rfl, cE, bE⟩
      refine .inl ⟨rfl, cD.trans cE, ?_⟩
      rw [bE, wrap_add, pairSum_app]; simp [pairSum]
    · rintro H' ⟨_, bD⟩; exact bD
    · intro r H' hq
      simp [VM.look, hq]
  · simp [dTable_val, one1, VM.look, b1, get_app' b1, hok, l0, Nat.le_add_right_of_le l0, detour]
theorem sDetour_c (w h : Int) (v : Value) (b : List Int) (hI : IsI H v b) (hl : b.length ≤ 1073741824) :
   vcall C frz 47 [.agg #[.int .i64 w, .int .i64 h, v]] H = some (.int .i64 (detour w h b), H) := by
  refine wp.exact (by simp) ?_ rfl
  rw [vcall_go (fn := Try.f47) Try.func47 rfl (by kernel_rfl) rfl]
  have one := And.intro hI.one' hI.cells
  have hc := cnt_range w h
  simp [one]
  rw [go_draw (h := by kernel_rfl)]
  simp [one, sBestRoot_c _ _ _ _ (hI.app _) hl]
  refine wp_thn (sTreeTable_w w h v b (bestRoot w h b) (hI.app _) hl) ?_
  rintro _ H1 ⟨_, rfl, vt, rfl, ot, c1, nt, dt⟩
  have b1 : H1[H.length]? = some ⟨[.int .i64 w, .int .i64 h, v], 0, 33⟩ := box_chg (by simp) c1 (by simp)
  have cH : Chg H H1 [] := (Chg.app []).trans c1
  have l0 := cH.1
  have l1 := box_lt b1
  have one1 := dTable_one ot
  by_cases hok : treeOk w h b (bestRoot w h b)
  · have ett : treeTable w h b (bestRoot w h b) = treeTab w h b (bestRoot w h b) := if_pos hok
    have hz := treeTab_sized (r := bestRoot w h b) hok.1.1
    have hself := fun {a : Nat} (ha : a < (cnt w h).toNat) => extra_self (b := b) (r := bestRoot w h b) ha
    rw [ett] at ot
    have ed : detour w h b = IntKind.i64.wrap (pairSum (extra w h b (treeTab w h b (bestRoot w h b))) (allPairs (cnt w h).toNat (cnt w h).toNat)) := if_pos hok
    rw [ed]
    generalize treeTab w h b (bestRoot w h b) = T at *
    have oT := ot.1.rd.isI
    have hIT := (hI.rd.chg cH (by simp)).isI
    obtain ⟨N, hN⟩ : ∃ N : Nat, cnt w h = N := ⟨(cnt w h).toNat, by omega⟩
    have hNt : (cnt w h).toNat = N := by omega
    rw [hNt] at hself ⊢
    have hn0 : 0 < N := by have := hok.2.1; have := hok.2.2; omega
    have nc := fun F L => (sNodeCount_c (frz := F) (H := L) w h).trans (by rw [hN])
    have isNN := fun {q : Nat} (hq : q < N) => isN_nat (w := w) (h := h) (a := q) (by omega)
    have hcc : N ≤ 16 := by omega
    have hlt2 : N * N ≤ 256 := Nat.mul_le_mul hcc hcc
    have esq : IntKind.i64.wrap ((N : Int) * N) = ((N * N : Nat) : Int) := by
      rw [← Int.natCast_mul, w64 (by omega) (by omega)]
    rw [← all_sum hn0 N (fun a ha => hself ha)]
    simp [dTable_val, one1, VM.look, b1, get_app' b1, hok, l0, Nat.le_add_right_of_le l0, nc]
    refine wp_inv (fun n t H' => ∃ (i : Nat), n = N * N - i ∧ i ≤ N * N ∧ t 1 = .pointer (some ⟨H.length, 0, some 0⟩) ∧ t 3 = .pointer (some ⟨H1.length, 0, some 0⟩) ∧ t 5 = .int .i64 (IntKind.i64.wrap (rowSum (extra w h b T) N i)) ∧ t 6 = .int .i64 N ∧ t 7 = .int .i64 i ∧ Chg (H1 ++ [⟨[vt], 0, 48⟩]) H' []) ?_ (n := N * N)
      ⟨0, by simp, by omega, by simp, by simp, by simp [rowSum]; decide, by simp, by simp, Chg.refl _⟩
    rintro n t H' ⟨i, rfl, hi, h1, h3, h5, h6, h7, cD⟩ ih
    simp [h1, h3, h5, h6, h7, esq]
    have bm : H'[H.length]? = some ⟨[.int .i64 w, .int .i64 h, v], 0, 33⟩ := box_chg (get_app' b1 _) cD (by simp)
    have bt : H'[H1.length]? = some ⟨[vt], 0, 48⟩ := box_chg (by simp) cD (by simp)
    have iB := ((hIT.app [⟨[vt], 0, 48⟩]).rd.chg cD (by simp)).isI
    have iT := ((oT.app [⟨[vt], 0, 48⟩]).rd.chg cD (by simp)).isI
    refine wp_dec ?_ ?_ <;> intro hin
    · have hin' : i < N * N := by
        have : (i : Int) < ((N * N : Nat) : Int) := by simpa using hin
        omega
      have hdv := tdiv_nat (i := i) hn0 (by omega)
      have hmd := tmod_nat (i := i) (n := N)
      have hd1 : i / N < N := Nat.div_lt_of_lt_mul hin'
      have hm1 : i % N < N := Nat.mod_lt _ hn0
      have hne0 : ¬ N = 0 := by omega
      have hdv2 : IntKind.i64.wrap ((i : Int) / (N : Int)) = ((i / N : Nat) : Int) := by
        rw [← Int.natCast_ediv]
        have : i / N ≤ i := Nat.div_le_self _ _
        generalize i / N = q at *
        exact w64 (by omega) (by omega)
      have hmd2 : (i : Int) % (N : Int) = ((i % N : Nat) : Int) := rfl
      have hrs := rowSum_succ (extra w h b T) N i
      generalize hqa : i / N = qa at *
      generalize hqc : i % N = qc at *
      simp [h1, h3, h5, h6, h7]
      rw [go_draw (h := by kernel_rfl)]
      simp [h1, h3, h5, h6, h7, hdv, hmd, hdv2, hmd2, hne0, VM.look, bm, bt, one, one1]
      refine wp_thn (made_row (sWalk_c w h v vt b T qa qc iB iT hl hz (isNN hd1) (isNN hm1))) ?_
      rintro vw _ ⟨L, rfl, ow, nw⟩
      simp [h1, h3, h5, h6, h7, hdv, hmd, hdv2, hmd2, hne0, VM.look, get_app' bm, get_app' bt, ow.rd.len, sDistance_c, wrap_add, wrap_sub]
      refine ih (N * N - (i + 1)) _ _ ⟨i + 1, rfl, by omega, by simp [h1], by simp [h3], ?_, by simp [h6], ?_, cD.trans (Chg.app [])⟩ (by omega)
      · simp [hrs, extra]; congr 1; omega
      · simp; rw [w64 (by omega) (by omega)]
    · have hi2 : i = N * N := by
        have : ¬ (i : Int) < ((N * N : Nat) : Int) := by simpa using hin
        omega
      subst hi2
      simp [h5]
  · simp [dTable_val, one1, VM.look, b1, get_app' b1, hok, l0, Nat.le_add_right_of_le l0, detour]
theorem detour_d {v : Value} {w h : Int} {b : List Int} (o : dMesh.Ow H v (w, h, b)) : vcall C frz 48 [dMesh.val v (w, h, b)] H = some (.int .i64 (detour w h b), H) := detour_c w h v b o.1.rd.isI o.2
theorem sDetour_d {v : Value} {w h : Int} {b : List Int} (o : dMesh.Ow H v (w, h, b)) : vcall C frz 47 [dMesh.val v (w, h, b)] H = some (.int .i64 (detour w h b), H) := sDetour_c w h v b o.1.rd.isI o.2
end Go.Proofs.Ytnakhkfgheapoaa.V
/-! The search, computed. -/
set_option linter.all false
namespace Go.Proofs.Ytnakhkfgheapoaa.V
open Go Go.VM Go.Proofs
def runF (w h : Int) (b : List Int) : Nat → List Int → List Int → List Int → Int → List Int
  | 0, s, _, _, _ => s
  | _ + 1, s, [], [], _ => s
  | m + 1, s, [], x :: nx, d => runF w h b m s (x :: nx) [] (d + 1)
  | m + 1, s, a :: rest, nx, d => runF w h b m (vis w h b a d (s, nx)).1 rest (vis w h b a d (s, nx)).2 d
theorem runF_eq {w h : Int} {b s rest nx : List Int} {d : Int} {r : List Int} (R : Run w h b s rest nx d r) : Inv w h s rest nx d → ∀ m, 3 * neg s + 2 * nx.length + rest.length ≤ m → runF w h b m s rest nx d = r := by
  induction R with
  | done s d => intro _ m _; cases m <;> rfl
  | level _ ih =>
    intro i m hm
    cases m with
    | zero => simp at hm
    | succ m => exact ih i.level m (by simp at hm ⊢; omega)
  | @node s a rest nx d r _ ih =>
    intro i m hm
    cases m with
    | zero => simp at hm
    | succ m =>
      have e := (vis_ext (w := w) (h := h) (b := b) (a := a) (d := d) (by have := i.one; omega) (s, nx)).sum
      have h1 : nx.length ≤ (vis w h b a d (s, nx)).2.length := by
        have := vis_app (w := w) (h := h) (b := b) (a := a) (d := d) nx s []
        rw [List.append_nil] at this; rw [this]; simp
      simp only at e
      exact ih i.node m (by simp at hm; omega)
def depthsC (w h : Int) (b : List Int) (root : Int) : List Int := if rootOk w h b root then runF w h b 60 (start w h root) [root] [] 1 else []
theorem depths_eq (w h : Int) (b : List Int) (root : Int) : depths w h b root = depthsC w h b root := by
  unfold depthsC
  by_cases H : rootOk w h b root
  · rw [if_pos H]
    obtain ⟨h1, h2⟩ := start_inv H.2
    have hc := cnt_range w h
    exact (runF_eq (depths_run H) h1 60 (by simp; omega)).symm
  · rw [if_neg H]; exact depths_no H
def connC (w h : Int) (b : List Int) : Prop := meshOk w h b ∧ -1 ∉ depthsC w h b 0
instance (w h : Int) (b : List Int) : Decidable (connC w h b) := inferInstanceAs (Decidable (_ ∧ _))
theorem conn_eq (w h : Int) (b : List Int) : conn w h b ↔ connC w h b := by unfold conn connC; rw [depths_eq]
def depthOfC (w h : Int) (b : List Int) (root : Int) : Int := (depthsC w h b root).foldl max (-1)
theorem depthOf_eq (w h : Int) (b : List Int) (root : Int) : depthOf w h b root = depthOfC w h b root := by unfold depthOf depthOfC; rw [depths_eq]
def betterC (w h : Int) (b : List Int) (best : Int) (root : Nat) : Int := if depthOfC w h b (root : Int) < depthOfC w h b best then (root : Int) else best
def bestRootC (w h : Int) (b : List Int) : Int := if connC w h b then (List.range (cnt w h).toNat).foldl (betterC w h b) 0 else -1
theorem bestRoot_eq (w h : Int) (b : List Int) : bestRoot w h b = bestRootC w h b := by
  have e : better w h b = betterC w h b := by
    funext x y; unfold better betterC; rw [depthOf_eq, depthOf_eq]
  unfold bestRoot bestRootC
  rw [e]
  by_cases hc : connC w h b
  · rw [if_pos hc, if_pos ((conn_eq w h b).2 hc)]
  · rw [if_neg hc, if_neg (fun hh => hc ((conn_eq w h b).1 hh))]
noncomputable def detourC (w h : Int) (b : List Int) : Int :=
  if connC w h b ∧ isN w h (bestRootC w h b) then IntKind.i64.wrap (pairSum (extra w h b ((List.range ((cnt w h).toNat * (cnt w h).toNat)).map (treePort w h (pars w h b (depthsC w h b (bestRootC w h b))) (cnt w h).toNat))) (allPairs (cnt w h).toNat (cnt w h).toNat)) else -1
theorem detour_eq (w h : Int) (b : List Int) : detour w h b = detourC w h b := by
  have e : treeTab w h b (bestRoot w h b) = (List.range ((cnt w h).toNat * (cnt w h).toNat)).map (treePort w h (pars w h b (depthsC w h b (bestRootC w h b))) (cnt w h).toNat) := by
    unfold treeTab parents; rw [depths_eq, bestRoot_eq]
  unfold detour detourC
  rw [e]
  by_cases hc : connC w h b ∧ isN w h (bestRootC w h b)
  · rw [if_pos hc, if_pos ⟨(conn_eq w h b).2 hc.1, by rw [bestRoot_eq]; exact hc.2⟩]
  · rw [if_neg hc, if_neg (fun hh => hc ⟨(conn_eq w h b).1 hh.1, by rw [← bestRoot_eq]; exact hh.2⟩)]
theorem lines : ∀ k : Fin 4, detourC (k.val + 1 : Nat) 1 [] = 0 ∧ detourC 1 (k.val + 1 : Nat) [] = 0 ∧ bestRootC (k.val + 1 : Nat) 1 [] = (k.val : Int) / 2 ∧ depthOfC (k.val + 1 : Nat) 1 [] 0 = k.val := by decide +kernel
end Go.Proofs.Ytnakhkfgheapoaa.V
/-! The law FnLineDetours. -/
set_option linter.all false
namespace Go.Proofs.Ytnakhkfgheapoaa.V
open Go Go.VM Go.Proofs
set_option maxRecDepth 10000
variable {frz : Nat} {H : Heap}
theorem ow_ix0 {v : Value} {xs : List Int} {e : TypeId} (o : Ow Fl.int e H v xs) {i : Nat} (h1 : i < xs.length) : vindexAddr Try.prog H 22 v (.int .i64 (i : Nat)) = some (elp v i) ∧ vload Try.prog H 3 (elp v i) = some (.int .i64 xs[i]) := by
  have h2 := o.rd.isI.idx (P := Try.prog) (ty := 22) (e := 3) (by simp) (i := (i : Int)) (by omega) (by omega)
  have h3 := (o.rd.isI.load (P := Try.prog) (e := 3) (by simp) h1).trans (by rw [getD_get _ _ h1])
  exact ⟨by simpa using h2, h3⟩
theorem law_FnLineDetours_w {a0 : List Int} {u0 : Value} (s0 : IsS (Kn.int .u8) H u0 a0)
    (w0 : a0.length ≤ maxLen ∧ ∀ x1 ∈ a0, (Lit.int .u8 x1).wf = true) :
    wp (vcall C frz 9 [u0] H) (fun r _ => r = .bool true) := by
  have r0 := IsS_bytes s0
  rw [vcall_go (fn := Try.f9) Try.func9 rfl (by kernel_rfl) rfl]
  simp [big_c _ _ r0]
  refine wp_dec ?_ ?_ <;> intro g0
  · simp
  · simp
    refine wp_thn (drawPlaces_w u0 a0 r0 (by omega)) ?_
    rintro u H1 ⟨xs, o, hx, hr, nu, c1⟩
    have e0 := hr xs[0] (List.getElem_mem (by omega))
    have e1 := hr xs[1] (List.getElem_mem (by omega))
    have q0 := ow_ix0 o (i := 0) (by omega)
    have q1 := fun (L : Heap) => ow_ix0 (o.app (L := L)) (i := 1) (by omega)
    simp only [Int.natCast_zero, Int.natCast_one] at q0 q1
    obtain ⟨k0, hk0⟩ : ∃ k0 : Fin 4, xs[0] % 4 = (k0.val : Int) := ⟨⟨(xs[0] % 4).toNat, by omega⟩, by simp; omega⟩
    obtain ⟨k1, hk1⟩ : ∃ k1 : Fin 4, xs[1] % 4 = (k1.val : Int) := ⟨⟨(xs[1] % 4).toNat, by omega⟩, by simp; omega⟩
    have t0 : (xs[0]).tmod 4 = (k0.val : Int) := by rw [Int.tmod_eq_emod_of_nonneg e0.1]; exact hk0
    have t1 : (xs[1]).tmod 4 = (k1.val : Int) := by rw [Int.tmod_eq_emod_of_nonneg e1.1]; exact hk1
    have l0 := k0.isLt
    have l1 := k1.isLt
    obtain ⟨d1, _, d3, d4⟩ := lines k0
    obtain ⟨_, d2, _, _⟩ := lines k1
    obtain ⟨A, hA⟩ : ∃ A : Int, A = ((k0.val + 1 : Nat) : Int) := ⟨_, rfl⟩
    obtain ⟨B, hB⟩ : ∃ B : Int, B = ((k1.val + 1 : Nat) : Int) := ⟨_, rfl⟩
    rw [← hA] at d1 d3 d4
    rw [← hB] at d2
    obtain ⟨x0, hx0⟩ : ∃ x0 : Int, x0 = (k0.val : Int) := ⟨_, rfl⟩
    obtain ⟨x1, hx1⟩ : ∃ x1 : Int, x1 = (k1.val : Int) := ⟨_, rfl⟩
    rw [← hx0] at t0 d3 d4
    rw [← hx1] at t1
    have f0 : ∀ [Inhabited Unit], IntKind.i64.wrap x0 = x0 := by intro _; exact w64 (by omega) (by omega)
    have f1 : ∀ [Inhabited Unit], IntKind.i64.wrap x1 = x1 := by intro _; exact w64 (by omega) (by omega)
    have f2 : ∀ [Inhabited Unit], IntKind.i64.wrap (1 + x0) = A := by intro _; rw [w64 (by omega) (by omega)]; omega
    have f3 : ∀ [Inhabited Unit], IntKind.i64.wrap (1 + x1) = B := by intro _; rw [w64 (by omega) (by omega)]; omega
    have f4 : ∀ [Inhabited Unit], IntKind.i64.wrap (A - 1) = x0 := by intro _; rw [w64 (by omega) (by omega)]; omega
    have f5 : ∀ [Inhabited Unit], IntKind.i64.wrap (x0 / 2) = x0 / 2 := by intro _; rw [w64 (by omega) (by omega)]
    have f6 : x0.tdiv 2 = x0 / 2 := Int.tdiv_eq_ediv_of_nonneg (by omega)
    have q0a := q0.1
    have q0b := q0.2
    have q1a := fun L => (q1 L).1
    have q1b := fun L => (q1 L).2
    have nil := fun (L : Heap) => (show IsI L (.slice none 0 0) [] from .inl ⟨rfl, rfl⟩)
    have dA := fun F L => (detour_c (frz := F) (H := L) A 1 _ [] (nil L) (by simp)).trans (by rw [detour_eq, d1])
    have dB := fun F L => (detour_c (frz := F) (H := L) 1 B _ [] (nil L) (by simp)).trans (by rw [detour_eq, d2])
    have bA := fun F L => (bestRoot_c (frz := F) (H := L) A 1 _ [] (nil L) (by simp)).trans (by rw [bestRoot_eq, d3])
    have pA := fun F L => (depthOfTree_c (frz := F) (H := L) A 1 _ [] 0 (nil L) (by simp)).trans (by rw [depthOf_eq, d4])
    simp [q0a, q0b, hx, t0, f0, f2, c1.1, Nat.le_add_right_of_le c1.1]
    simp [q1a, q1b, hx, t1, f1, f3, c1.1, Nat.le_add_right_of_le c1.1]
    rw [go_draw (h := by kernel_rfl)]
    simp [VM.look, dA, dB, bA, pA, f4, f5, f6]
theorem law_FnLineDetours {a0 : List Int} {u0 : Value} (s0 : IsS (Kn.int .u8) H u0 a0)
    (w0 : a0.length ≤ maxLen ∧ ∀ x1 ∈ a0, (Lit.int .u8 x1).wf = true) :
    vcall C frz 9 [u0] H = some (.bool true, H) :=
  (law_FnLineDetours_w s0 w0).exact (by simp) rfl
end Go.Proofs.Ytnakhkfgheapoaa.V
