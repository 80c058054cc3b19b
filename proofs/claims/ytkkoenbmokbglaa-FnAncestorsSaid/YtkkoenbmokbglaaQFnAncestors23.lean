/- Parts of a proof that the law FnAncestors holds for every input: contracts of the program's functions and plain laws on what they compute. -/
import Derived.Test.YtkkoenbmokbglaaQFnAncestors22
import Derived.Test.YtkkoenbmokbglaaQFnAncestors12
import Derived.Test.YtkkoenbmokbglaaQFnAncestors13
import Derived.Test.YtkkoenbmokbglaaQFnAncestors14
import Derived.Test.YtkkoenbmokbglaaQFnAncestors19
import Derived.Test.YtkkoenbmokbglaaQFnAncestors15
import Derived.Test.YtkkoenbmokbglaaQFnAncestors16
import Derived.Test.YtkkoenbmokbglaaQFnAncestors17
import Derived.Test.YtkkoenbmokbglaaQFnAncestors18
import Derived.Laws.BitsLemmas
section
namespace Go.Proofs.Ytkkoenbmokbglaa.Pure
open Go.RowKit Go.Proofs.Ytkkoenbmokbglaa.F Go.Proofs.YtkkoenbmokbglaaW.PrintWords Go.Proofs.YtkkoenbmokbglaaW.PrintLast Go.Proofs.YtkkoenbmokbglaaW.PrintMore
set_option linter.unusedVariables false
set_option linter.unusedSimpArgs false
def rootOk (w h : Int) (b : List Int) (root : Int) : Prop := meshOk w h b ∧ isN w h root
instance (w h : Int) (b : List Int) (root : Int) : Decidable (rootOk w h b root) := inferInstanceAs (Decidable (_ ∧ _))
theorem run_start {w h : Int} (b : List Int) {root : Int} (hr : isN w h root) : ∃ r, Run w h b (start w h root) [root] [] 1 r := run_ex _ _ _ _ _ (Nat.le_refl _) (start_inv hr).1
noncomputable def depths (w h : Int) (b : List Int) (root : Int) : List Int := if H : rootOk w h b root then Classical.choose (run_start b H.2) else []
theorem depths_run {w h : Int} {b : List Int} {root : Int} (H : rootOk w h b root) : Run w h b (start w h root) [root] [] 1 (depths w h b root) := by
  unfold depths; rw [dif_pos H]; exact Classical.choose_spec (run_start b H.2)
theorem depths_no {w h : Int} {b : List Int} {root : Int} (H : ¬ rootOk w h b root) : depths w h b root = [] := dif_neg H
theorem depths_inv {w h : Int} {b : List Int} {root : Int} (H : rootOk w h b root) : (((depths w h b root).length : Nat) : Int) = cnt w h ∧ ∀ v ∈ depths w h b root, -1 ≤ v ∧ v ≤ 16 := by
  obtain ⟨d, i⟩ := (depths_run H).inv (start_inv H.2).1
  have hc := cnt_range w h
  refine ⟨i.len, fun v hv => ?_⟩
  have := i.low v hv; have := i.sum; omega
theorem depths_length (w h : Int) (b : List Int) (root : Int) : (depths w h b root).length ≤ 16 := by
  have hc := cnt_range w h
  by_cases H : rootOk w h b root
  · have := (depths_inv H).1; omega
  · rw [depths_no H]; simp
theorem depths_ev {w h : Int} {b : List Int} {root : Int} (hb : b.length ≤ 1048576) : Ev (fun k => impl_TreeDepths.f k w h b root) (depths w h b root) := by
  by_cases H : rootOk w h b root
  · exact treeDepths_ev hb H.1 H.2 (depths_run H)
  · rw [depths_no H]; exact treeDepths_no hb H
theorem specDepths_ev {w h : Int} {b : List Int} {root : Int} (hb : b.length ≤ 1048576) : Ev (fun k => spec_TreeDepths.f k w h b root) (depths w h b root) := by
  by_cases H : rootOk w h b root
  · exact specTreeDepths_ev hb H.1 H.2 (depths_run H)
  · rw [depths_no H]; exact specTreeDepths_no hb H
theorem okG_isN {w h : Int} (h1 : okG w h) : isN w h 0 := by
  have := mul_small h1
  refine ⟨by omega, ?_⟩
  unfold cnt; rw [if_pos h1]; omega

def conn (w h : Int) (b : List Int) : Prop := meshOk w h b ∧ -1 ∉ depths w h b 0
noncomputable instance (w h : Int) (b : List Int) : Decidable (conn w h b) := inferInstanceAs (Decidable (_ ∧ _))
theorem specIsConnected_ev {w h : Int} {b : List Int} (hb : b.length ≤ 1048576) : Ev (fun k => spec_IsConnected.f k w h b) (decide (conn w h b)) := by
  have hl := depths_length w h b 0
  refine Ev.bind (specDepths_ev hb) ?_
  by_cases hm : meshOk w h b
  · have hr := okG_isN hm.2
    have i := depths_inv (root := 0) ⟨hm, hr⟩
    have hr2 := hr.2
    have key : ∀ r : List Int, r.length ≤ 16 → 0 < r.length → (∀ v ∈ r, -1 ≤ v) → Ev (fun k => spec_IsConnected.l0 k r 0) (decide (-1 ∉ r)) := by
      intro r hl h0 low
      have := ev_all (g := fun k i => spec_IsConnected.l0 k r i) r.length (fun j => ¬ rd r (j : Int) < 0) (decide ((r.length : Int) > 0))
        (Ev.step (f := fun _ => some (decide ((r.length : Int) > 0))) (fun k => by simp only [spec_IsConnected.l0]; rw [if_neg (by omega)]) (Ev.now _))
        (fun j hj hn q hq => Ev.step (fun k => by simp only [spec_IsConnected.l0]; rw [if_pos (by omega), if_pos (by omega), if_neg hn, w64 (by omega) (by omega)]; rfl) hq)
        (fun j hj _ hy => Ev.step (f := fun _ => some false) (fun k => by simp only [spec_IsConnected.l0]; rw [if_pos (by omega), if_pos (by omega), if_pos (Classical.not_not.1 hy)]) (Ev.now _))
      have h0 : decide ((r.length : Int) > 0) = true := decide_eq_true (by omega)
      rw [h0, Bool.and_true] at this
      rw [decide_eq_decide.2 (show -1 ∉ r ↔ ∀ j, j < r.length → ¬ rd r (j : Int) < 0 from ?_)]; exact this
      constructor
      · intro hn j hj e
        have h1 : rd r (j : Int) ∈ r := rd_mem (by omega) (by omega)
        have := low _ h1
        rw [show rd r (j : Int) = -1 by omega] at h1
        exact hn h1
      · intro hn hm
        obtain ⟨j, hj, e⟩ := List.getElem_of_mem hm
        exact hn j hj (by rw [rd_at hj, e]; omega)
    rw [show decide (conn w h b) = decide (-1 ∉ depths w h b 0) from decide_eq_decide.2 ⟨fun e => e.2, fun e => ⟨hm, e⟩⟩]
    exact key _ hl (by omega) (fun v hv => (i.2 v hv).1)
  · rw [depths_no (fun e => hm e.1), decide_eq_false (fun e : conn w h b => hm e.1)]
    exact Ev.step (f := fun _ => some false) (fun k => by simp [spec_IsConnected.l0]) (Ev.now _)
end Go.Proofs.Ytkkoenbmokbglaa.Pure
end
section
namespace Go.Proofs.Ytkkoenbmokbglaa.Pure
open Go.RowKit Go.Proofs.Ytkkoenbmokbglaa.F Go.Proofs.YtkkoenbmokbglaaW.PrintWords Go.Proofs.YtkkoenbmokbglaaW.PrintLast Go.Proofs.YtkkoenbmokbglaaW.PrintMore
set_option linter.unusedVariables false
set_option linter.unusedSimpArgs false
def toRoot (w h : Int) (b d : List Int) (i : Int) (p : Nat) : Prop := link w h b (4 * i + p) ∧ rd d (next w h i p) = rd d i - 1
instance (w h : Int) (b d : List Int) (i : Int) (p : Nat) : Decidable (toRoot w h b d i p) := inferInstanceAs (Decidable (_ ∧ _))
def par (w h : Int) (b d : List Int) (i : Int) : Int :=
  if rd d i > 0 then
    (if toRoot w h b d i 0 then next w h i (0 : Nat) else if toRoot w h b d i 1 then next w h i (1 : Nat) else if toRoot w h b d i 2 then next w h i (2 : Nat) else if toRoot w h b d i 3 then next w h i (3 : Nat) else -1)
  else -1
def pars (w h : Int) (b d : List Int) : List Int := (List.range d.length).map fun i : Nat => par w h b d (i : Int)

section
set_option linter.unusedSectionVars false
variable {w h : Int} {b d : List Int} (hb : b.length ≤ 1048576) (hm : meshOk w h b) (hl : ((d.length : Nat) : Int) = cnt w h) (hv : ∀ v ∈ d, -1 ≤ v ∧ v ≤ 16)
include hb hm hl hv
theorem implParStep {out : List Int} {n : Int} {i p : Nat} {x : Int} {r : List Int} (hp : p < 4) (hi : i < d.length) (h0 : rd d (i : Int) > 0)
    (hr : Ev (fun k => impl_TreeParents.l1 k d out (i : Int) (rd d (i : Int)) (if toRoot w h b d (i : Int) p then next w h (i : Int) p else x) ((p : Int) - 1) d n (i : Int) w h b) r) :
    Ev (fun k => impl_TreeParents.l1 k d out (i : Int) (rd d (i : Int)) x (p : Int) d n (i : Int) w h b) r := by
  have hc := cnt_range w h
  have hd := hv _ (rd_mem (l := d) (i := (i : Int)) (by omega) (by omega))
  refine Ev.step (fun k => by simp only [impl_TreeParents.l1]; rw [if_pos (by omega), decide_eq_true h0]) (Ev.step (fun k => by
    simp only [impl_TreeParents.j2]
    rw [if_pos trivial, w64 (x := 4 * (i : Int)) (by omega) (by omega), w64 (x := 4 * (i : Int) + p) (by omega) (by omega), w64 (x := (p : Int) - 1) (by omega) (by omega), w64 (x := rd d (i : Int) - 1) (by omega) (by omega)]) (Ev.bind (isLink_ev w h b _ (by omega)) ?_))
  by_cases hk : link w h b (4 * (i : Int) + p)
  · obtain ⟨_, hn, he⟩ := link_next hp hk
    refine Ev.ifp (by simp [hm, hk]) ?_
    simp only [endOf_f w h b (4 * (i : Int) + (p : Int)) (by omega) (by omega), he, Option.bind_some]
    refine Ev.ifp hn.1 (Ev.ifp (by have := hn.2; omega) ?_)
    by_cases hq : rd d (next w h (i : Int) p) = rd d (i : Int) - 1
    · refine Ev.ifp hq ?_
      rw [if_pos ⟨hk, hq⟩] at hr; exact hr
    · refine Ev.ifn hq ?_
      rw [if_neg (fun e => hq e.2)] at hr; exact hr
  · refine Ev.ifn (by simp [hk]) ?_
    rw [if_neg (fun e => hk e.1)] at hr; exact hr
theorem implParNode {out : List Int} {i : Nat} {r : List Int} (hi : i < d.length) (ho : out.length ≤ 16)
    (hr : Ev (fun k => impl_TreeParents.l0 k d (out ++ [par w h b d (i : Int)]) d (d.length : Int) ((i : Int) + 1) w h b) r) :
    Ev (fun k => impl_TreeParents.l1 k d out (i : Int) (rd d (i : Int)) (-1) 3 d (d.length : Int) (i : Int) w h b) r := by
  have hc := cnt_range w h
  by_cases h0 : rd d (i : Int) > 0
  · refine implParStep hb hm hl hv (p := 3) (by omega) hi h0 ?_
    refine implParStep hb hm hl hv (p := 2) (by omega) hi h0 ?_
    refine implParStep hb hm hl hv (p := 1) (by omega) hi h0 ?_
    refine implParStep hb hm hl hv (p := 0) (by omega) hi h0 ?_
    refine Ev.step (fun k => by simp only [impl_TreeParents.l1]; rw [if_neg (by omega)]) (Ev.step (fun k => by simp only [impl_TreeParents.j2]; rw [if_neg (by simp), if_pos (by omega), w64 (by omega) (by omega)]) ?_)
    unfold par at hr; rw [if_pos h0] at hr; exact hr
  · refine Ev.step (fun k => by simp only [impl_TreeParents.l1]; rw [if_pos (by omega), decide_eq_false h0]) (Ev.step (fun k => by simp only [impl_TreeParents.j2]; rw [if_neg (by simp), if_pos (by omega), w64 (by omega) (by omega)]) ?_)
    unfold par at hr; rw [if_neg h0] at hr; exact hr
theorem implPars_ev : Ev (fun k => impl_TreeParents.l0 k d [] d (d.length : Int) 0 w h b) (pars w h b d) := by
  have hc := cnt_range w h
  have := ev_for (g := fun k s i => impl_TreeParents.l0 k d s d (d.length : Int) i w h b) d.length (fun s i => s ++ [par w h b d (i : Int)]) (fun j s => s.length = j) (fun s => s) [] rfl
    (fun s _ => Ev.step (f := fun _ => some s) (fun k => by simp only [impl_TreeParents.l0]; rw [if_neg (by omega)]) (Ev.now _))
    (fun j s hj hs => ⟨by simp [hs], fun r hr => Ev.step (fun k => by simp only [impl_TreeParents.l0]; rw [if_pos (by omega), if_pos (by omega), if_pos (by omega)]) (implParNode hb hm hl hv hj (by omega) hr)⟩)
  rw [foldl_map (fun i : Nat => par w h b d (i : Int))] at this
  simpa [pars] using this
end
noncomputable def parents (w h : Int) (b : List Int) (root : Int) : List Int := pars w h b (depths w h b root)
theorem parents_length (w h : Int) (b : List Int) (root : Int) : (parents w h b root).length = (depths w h b root).length := by simp [parents, pars]
theorem parents_ev {w h : Int} {b : List Int} {root : Int} (hb : b.length ≤ 1048576) : Ev (fun k => impl_TreeParents.f k w h b root) (parents w h b root) := by
  refine Ev.bind (depths_ev hb) ?_
  by_cases H : rootOk w h b root
  · exact implPars_ev hb H.1 (depths_inv H).1 (depths_inv H).2
  · unfold parents; rw [depths_no H]
    exact Ev.step (f := fun _ => some []) (fun k => by simp [impl_TreeParents.l0]) (Ev.now _)
end Go.Proofs.Ytkkoenbmokbglaa.Pure
end
section
namespace Go.Proofs.Ytkkoenbmokbglaa.Pure
open Go.RowKit Go.Proofs.Ytkkoenbmokbglaa.F Go.Proofs.YtkkoenbmokbglaaW.PrintWords Go.Proofs.YtkkoenbmokbglaaW.PrintLast Go.Proofs.YtkkoenbmokbglaaW.PrintMore
set_option linter.unusedVariables false
set_option linter.unusedSimpArgs false
def ancGo (p : List Int) : Nat → Int → List Int → List Int
  | 0, v, out => if 0 ≤ v ∧ v < p.length then [] else if v = -1 ∧ out ≠ [] then out else []
  | n + 1, v, out => if 0 ≤ v ∧ v < p.length then ancGo p n (rd p v) (out ++ [v]) else if v = -1 ∧ out ≠ [] then out else []
def anc (p : List Int) (v : Int) : List Int := ancGo p p.length v []

theorem ancGo_length (p : List Int) : ∀ n v out, (ancGo p n v out).length ≤ out.length + n
  | 0, v, out => by unfold ancGo; split <;> (try split) <;> simp
  | n + 1, v, out => by
    unfold ancGo
    split
    · have := ancGo_length p n (rd p v) (out ++ [v]); simp at this; omega
    · split <;> simp
theorem anc_length (p : List Int) (v : Int) : (anc p v).length ≤ p.length := by have := ancGo_length p p.length v []; simpa [anc] using this

theorem implAnc_ev (p : List Int) (v : Int) (hp : p.length ≤ 1048576) : Ev (fun k => impl_AncestorsOf.f k p v) (anc p v) := by
  have key : ∀ n v out, out.length + n = p.length → Ev (fun k => impl_AncestorsOf.l0 k p out v) (ancGo p n v out) := by
    have j1 : ∀ n v out, out.length + n = p.length → (∀ v out, n ≠ 0 → out.length + (n - 1) = p.length → Ev (fun k => impl_AncestorsOf.l0 k p out v) (ancGo p (n - 1) v out)) → (v ≠ -1 ∨ out = []) → Ev (fun k => impl_AncestorsOf.j1 k p out v true) (ancGo p n v out) := by
      intro n v out h ih h0
      by_cases h1 : 0 ≤ v ∧ v < p.length
      · cases n with
        | zero =>
          refine Ev.step (f := fun _ => some (ancGo p 0 v out)) (fun k => ?_) (Ev.now _)
          simp only [impl_AncestorsOf.j1, inside_f, Option.bind_some, ancGo]
          rw [if_pos trivial, w64 (by omega) (by omega), if_pos (by simp; omega), if_pos (by omega), if_pos h1]
        | succ n =>
          refine Ev.step (fun k => ?_) (show Ev _ (ancGo p (n + 1) v out) from (by
            rw [ancGo, if_pos h1]; exact ih (rd p v) (out ++ [v]) (by omega) (by simp; omega)))
          simp only [impl_AncestorsOf.j1, inside_f, Option.bind_some]
          rw [if_pos trivial, w64 (by omega) (by omega), if_pos (by simp; omega), if_neg (by omega), if_pos (by omega), if_pos h1.1, if_pos h1.2]
      · have e : ancGo p n v out = [] := by
          have : ¬ (v = -1 ∧ out ≠ []) := fun h => by rcases h0 with h0 | h0 <;> simp_all
          cases n <;> rw [ancGo, if_neg h1, if_neg this]
        refine Ev.step (f := fun _ => some (ancGo p n v out)) (fun k => ?_) (Ev.now _)
        simp only [impl_AncestorsOf.j1, inside_f, Option.bind_some]
        rw [if_pos trivial, w64 (by omega) (by omega), if_neg (by simp; omega), e]
    intro n
    induction n with
    | zero =>
      intro v out h
      by_cases h2 : v = -1
      · by_cases h3 : out = []
        · refine Ev.step (fun k => ?_) (j1 0 v out h (fun _ _ h => absurd rfl h) (.inr h3))
          simp [impl_AncestorsOf.l0, len_beq0, h2, h3]
        · refine Ev.step (f := fun k => impl_AncestorsOf.j1 k p out v false) (fun k => ?_) (Ev.step (f := fun _ => some (ancGo p 0 v out)) (fun k => ?_) (Ev.now _))
          · simp [impl_AncestorsOf.l0, len_beq0, h2, h3]
          · simp [impl_AncestorsOf.j1, ancGo, h2, h3]
      · refine Ev.step (fun k => ?_) (j1 0 v out h (fun _ _ h => absurd rfl h) (.inl h2))
        simp [impl_AncestorsOf.l0, h2]
    | succ n ih =>
      intro v out h
      by_cases h2 : v = -1
      · by_cases h3 : out = []
        · refine Ev.step (fun k => ?_) (j1 (n + 1) v out h (fun v out _ h => ih v out h) (.inr h3))
          simp [impl_AncestorsOf.l0, len_beq0, h2, h3]
        · refine Ev.step (f := fun k => impl_AncestorsOf.j1 k p out v false) (fun k => ?_) (Ev.step (f := fun _ => some (ancGo p (n + 1) v out)) (fun k => ?_) (Ev.now _))
          · simp [impl_AncestorsOf.l0, len_beq0, h2, h3]
          · simp [impl_AncestorsOf.j1, ancGo, h2, h3]
      · refine Ev.step (fun k => ?_) (j1 (n + 1) v out h (fun v out _ h => ih v out h) (.inl h2))
        simp [impl_AncestorsOf.l0, h2]
  exact key p.length v [] (by simp)
def Hi (d : Int) (x : List Int × List Int) : Prop := ∀ v ∈ x.1, v < d ∨ (v = d ∧ x.2 ≠ [])
theorem vst_hi {w h : Int} {b : List Int} {a d : Int} {x : List Int × List Int} {p : Nat} (hx : Hi d x) : Hi d (vst w h b a d x p) := by
  unfold vst
  split
  · intro v hv
    rcases List.mem_or_eq_of_mem_set hv with h6 | rfl
    · rcases hx v h6 with h7 | h7
      · exact .inl h7
      · exact .inr ⟨h7.1, by simp⟩
    · exact .inr ⟨rfl, by simp⟩
  · exact hx
theorem foldl_hi {w h : Int} {b : List Int} {a d : Int} : ∀ (l : List Nat) (x : List Int × List Int), Hi d x → Hi d (l.foldl (vst w h b a d) x)
  | [], x, hx => hx
  | p :: l, x, hx => foldl_hi l _ (vst_hi hx)
theorem Run.hi {w h : Int} {b s rest nx : List Int} {d : Int} {r : List Int} (R : Run w h b s rest nx d r) : Inv w h s rest nx d → Hi d (s, nx) → ∀ v ∈ r, v < cnt w h := by
  induction R with
  | done s d =>
    intro i hh v hv
    rcases hh v hv with h1 | h1
    · have := i.sum; simp at this; omega
    · exact absurd rfl h1.2
  | level _ ih =>
    exact fun i hh => ih i.level (fun v hv => by rcases hh v hv with h1 | h1 <;> exact .inl (by omega))
  | node _ ih => exact fun i hh => ih i.node (foldl_hi _ _ hh)
theorem depths_lt {w h : Int} {b : List Int} {root : Int} (H : rootOk w h b root) : ∀ v ∈ depths w h b root, v < cnt w h := by
  refine (depths_run H).hi (start_inv H.2).1 (fun v hv => ?_)
  have := (start_inv H.2).1.low v hv
  rcases List.mem_or_eq_of_mem_set hv with h6 | rfl
  · have := List.eq_of_mem_replicate h6; exact .inl (by omega)
  · exact .inl (by omega)
theorem par_cases (w h : Int) (b d : List Int) (i : Int) : par w h b d i = -1 ∨ ∃ p : Nat, p < 4 ∧ par w h b d i = next w h i p ∧ toRoot w h b d i p ∧ rd d i > 0 := by
  unfold par
  by_cases h0 : rd d i > 0
  · rw [if_pos h0]
    by_cases e0 : toRoot w h b d i 0
    · rw [if_pos e0]; exact .inr ⟨0, by omega, rfl, e0, h0⟩
    rw [if_neg e0]
    by_cases e1 : toRoot w h b d i 1
    · rw [if_pos e1]; exact .inr ⟨1, by omega, rfl, e1, h0⟩
    rw [if_neg e1]
    by_cases e2 : toRoot w h b d i 2
    · rw [if_pos e2]; exact .inr ⟨2, by omega, rfl, e2, h0⟩
    rw [if_neg e2]
    by_cases e3 : toRoot w h b d i 3
    · rw [if_pos e3]; exact .inr ⟨3, by omega, rfl, e3, h0⟩
    rw [if_neg e3]; exact .inl rfl
  · rw [if_neg h0]; exact .inl rfl

def Tree (t : List Int) (m : Int → Int) : Prop := ∀ i : Int, 0 ≤ i → i < t.length → m i < t.length ∧ (rd t i = -1 ∨ (0 ≤ rd t i ∧ rd t i < t.length ∧ 0 ≤ m (rd t i) ∧ m (rd t i) + 1 = m i))
theorem parents_tree {w h : Int} {b : List Int} {root : Int} (H : rootOk w h b root) : Tree (parents w h b root) (rd (depths w h b root)) := by
  have hl := parents_length w h b root
  obtain ⟨hc, _⟩ := depths_inv H
  intro i h0 h1
  have h2 : i < ((depths w h b root).length : Int) := by omega
  refine ⟨by have := depths_lt H _ (rd_mem h0 h2); omega, ?_⟩
  have e : rd (parents w h b root) i = par w h b (depths w h b root) i := by
    obtain ⟨j, rfl⟩ := Int.eq_ofNat_of_zero_le h0
    rw [rd_at (by omega)]; simp [parents, pars]
  rw [e]
  rcases par_cases w h b (depths w h b root) i with h3 | ⟨p, hp, h3, h4, h5⟩
  · exact .inl h3
  · obtain ⟨_, hn, _⟩ := link_next hp h4.1
    rw [h3]
    refine .inr ⟨hn.1, by have := hn.2; omega, ?_, ?_⟩
    · have := h4.2; omega
    · have := h4.2; omega

def chain (t : List Int) : Nat → Int → List Int
  | 0, _ => []
  | k + 1, v => if 0 ≤ v ∧ v < t.length then v :: chain t k (rd t v) else []
def Ends (t : List Int) : Nat → Int → Prop
  | 0, v => v = -1
  | k + 1, v => v = -1 ∨ ((0 ≤ v ∧ v < t.length) ∧ Ends t k (rd t v))
theorem Tree.ends {t : List Int} {m : Int → Int} (T : Tree t m) : ∀ (k : Nat) (v : Int), 0 ≤ v → v < t.length → m v < k → (0 ≤ m v ∨ 0 < k) → Ends t k v := by
  intro k
  induction k with
  | zero => intro v h0 h1 h2 h3; omega
  | succ k ih =>
    intro v h0 h1 h2 _
    refine .inr ⟨⟨h0, h1⟩, ?_⟩
    rcases (T v h0 h1).2 with h3 | ⟨h3, h4, h5, h6⟩
    · rw [h3]; cases k <;> simp [Ends]
    · exact ih _ h3 h4 (by omega) (.inl h5)
theorem ancGo_chain {t : List Int} : ∀ (k : Nat) (v : Int) (out : List Int), Ends t k v → (out ≠ [] ∨ (0 ≤ v ∧ v < t.length)) → ancGo t k v out = out ++ chain t k v := by
  intro k
  induction k with
  | zero =>
    intro v out he ho
    have he : v = -1 := he
    subst he
    have ho : out ≠ [] := ho.resolve_right (by omega)
    simp [ancGo, chain, ho]
  | succ k ih =>
    intro v out he ho
    rcases he with rfl | ⟨h1, h2⟩
    · have ho : out ≠ [] := ho.resolve_right (by omega)
      simp [ancGo, chain, ho]
    · simp only [ancGo, chain]
      rw [if_pos h1, if_pos h1, ih _ _ h2 (.inl (by simp))]
      simp
theorem chain_any {t : List Int} : ∀ (k k' : Nat) (v : Int), Ends t k v → Ends t k' v → chain t k v = chain t k' v := by
  intro k
  induction k with
  | zero =>
    intro k' v h1 h2
    have h1 : v = -1 := h1
    subst h1
    cases k' with
    | zero => rfl
    | succ k' => simp [chain]
  | succ k ih =>
    intro k' v h1 h2
    cases k' with
    | zero => have h2 : v = -1 := h2
              subst h2; simp [chain]
    | succ k' =>
      rcases h1 with rfl | ⟨h1, h3⟩
      · simp [chain]
      · rcases h2 with rfl | ⟨_, h4⟩
        · omega
        · simp only [chain]; rw [if_pos h1, if_pos h1, ih _ _ h3 h4]
theorem anc_cons {t : List Int} {m : Int → Int} (T : Tree t m) {v : Int} (h0 : 0 ≤ v) (h1 : v < t.length) : anc t v = v :: (if rd t v = -1 then [] else anc t (rd t v)) := by
  have hE : ∀ u : Int, 0 ≤ u → u < t.length → Ends t t.length u := fun u a b => T.ends t.length u a b (T u a b).1 (.inr (by omega))
  have e : ∀ u : Int, 0 ≤ u → u < t.length → anc t u = chain t t.length u := fun u a b => by
    have := ancGo_chain t.length u [] (hE u a b) (.inr ⟨a, b⟩); simpa [anc] using this
  rw [e v h0 h1]
  obtain ⟨n, hn⟩ : ∃ n, t.length = n + 1 := ⟨t.length - 1, by omega⟩
  have h2 := hE v h0 h1
  rw [hn] at h2 ⊢
  rcases h2 with h2 | ⟨_, h3⟩
  · omega
  simp only [chain]
  rw [if_pos ⟨h0, by omega⟩]
  rcases (T v h0 h1).2 with h4 | ⟨h4, h5, _, _⟩
  · rw [if_pos h4, h4]; cases n <;> simp [chain]
  · rw [if_neg (by omega), e _ h4 h5, chain_any n t.length _ h3 (hE _ h4 h5)]
theorem anc_suffix {t : List Int} {m : Int → Int} (T : Tree t m) : ∀ (n : Nat) (v : Int), 0 ≤ v → v < t.length → m v < n → ∀ u ∈ anc t v, (0 ≤ u ∧ u < t.length) ∧ ∃ l, anc t v = l ++ anc t u ∧ ∀ x ∈ l, m u < m x := by
  intro n
  induction n with
  | zero =>
    intro v h0 h1 h2 u hu
    rw [anc_cons T h0 h1] at hu ⊢
    rcases (T v h0 h1).2 with h4 | ⟨h4, h5, h6, h7⟩
    · rw [if_pos h4] at hu ⊢
      simp only [List.mem_singleton] at hu; subst hu
      refine ⟨⟨h0, h1⟩, [], ?_, by simp⟩
      rw [anc_cons T h0 h1, if_pos h4]; rfl
    · omega
  | succ n ih =>
    intro v h0 h1 h2 u hu
    rcases (T v h0 h1).2 with h4 | ⟨h4, h5, h6, h7⟩
    · have e := anc_cons T h0 h1
      rw [if_pos h4] at e
      rw [e] at hu
      simp only [List.mem_singleton] at hu; subst hu
      exact ⟨⟨h0, h1⟩, [], rfl, by simp⟩
    · have e := anc_cons T h0 h1
      rw [if_neg (by omega)] at e
      rw [e] at hu
      rcases List.mem_cons.1 hu with rfl | hu
      · exact ⟨⟨h0, h1⟩, [], rfl, by simp⟩
      · obtain ⟨hb, l, e1, hx⟩ := ih _ h4 h5 (by omega) u hu
        refine ⟨hb, v :: l, by rw [e, e1]; rfl, fun x hx' => ?_⟩
        have hle : m u ≤ m (rd t v) := by
          cases l with
          | nil =>
            have e2 := anc_cons T h4 h5
            have e3 := anc_cons T hb.1 hb.2
            rw [List.nil_append] at e1
            rw [e1, e3] at e2
            have := (List.cons.inj e2).1
            rw [this]; omega
          | cons y l =>
            have e2 := anc_cons T h4 h5
            rw [e1, List.cons_append] at e2
            have e4 := (List.cons.inj e2).1
            have := hx y (by simp)
            rw [e4] at this; omega
        rcases List.mem_cons.1 hx' with rfl | hx'
        · omega
        · exact hx x hx'
def common (p : List Int) (a b : Int) : Int := ((anc p a).find? (fun x => decide (x ∈ anc p b))).getD (-1)
theorem find_at {l : List Int} {q : Int → Bool} {j : Nat} (h : j < l.length) (hq : ∀ x ∈ l.take j, q x = false) (hx : q l[j] = true) : l.find? q = some l[j] := by
  have e : l = l.take j ++ (l[j] :: l.drop (j + 1)) := split_at h
  have e2 := congrArg (List.find? q) e
  rw [e2, List.find?_append, List.find?_eq_none.2 (by simpa using hq), List.find?_cons_of_pos hx]; rfl
theorem implCommon_ev (p : List Int) (a b : Int) (hp : p.length ≤ 1048576) : Ev (fun k => impl_CommonAncestor.f k p a b) (common p a b) := by
  have ha := anc_length p a
  have hb := anc_length p b
  refine Ev.bind (implAnc_ev p b hp) (Ev.bind (implAnc_ev p a hp) ?_)
  have key : ∀ d j, j + d = (anc p a).length → (∀ x ∈ (anc p a).take j, decide (x ∈ anc p b) = false) → Ev (fun k => impl_CommonAncestor.l0 k (anc p b) (anc p a) ((anc p a).length : Int) (j : Int)) (common p a b) := by
    intro d
    induction d with
    | zero =>
      intro j hj hv
      rw [List.take_of_length_le (by omega)] at hv
      have : common p a b = -1 := by unfold common; rw [List.find?_eq_none.2 (by simpa using hv)]; rfl
      rw [this]
      exact Ev.step (f := fun _ => some (-1)) (fun k => by simp only [impl_CommonAncestor.l0]; rw [if_neg (by omega)]) (Ev.now _)
    | succ d ih =>
      intro j hj hv
      refine Ev.step (fun k => by simp only [impl_CommonAncestor.l0]; rw [if_pos (by omega), if_pos (by omega), if_pos (by omega), rd_at (by omega)]) ?_
      refine Ev.bind (contains_ev _ _ (by omega)) ?_
      by_cases h : (anc p a)[j]'(by omega) ∈ anc p b
      · refine Ev.ifp (by simpa using h) ?_
        have : common p a b = (anc p a)[j]'(by omega) := by unfold common; rw [find_at (by omega) hv (by simpa using h)]; rfl
        rw [this]; exact Ev.now _
      · refine Ev.ifn (by simpa using h) ?_
        refine Ev.congr (fun k => ?_) (ih (j + 1) (by omega) (fun x hx => by
          rcases (mem_take_succ (l := anc p a) (j := j) (by omega)).1 hx with hx | hx
          · exact hv x hx
          · subst hx; simpa using h))
        rw [w64 (by omega) (by omega)]; rfl
  exact key (anc p a).length 0 (by omega) (by simp)
theorem asc_iff (b : List Int) : (∀ j, j < b.length → 0 < j → rd b ((j - 1 : Nat) : Int) < rd b (j : Int)) ↔ b.Pairwise (· < ·) := by
  rw [List.pairwise_iff_getElem]
  constructor
  · intro h i j hi hj hij
    obtain ⟨d, rfl⟩ : ∃ d, j = i + 1 + d := ⟨j - i - 1, by omega⟩
    induction d with
    | zero => have := h (i + 1) hj (by omega); rw [show i + 1 - 1 = i by omega, rd_at (by omega), rd_at (by omega)] at this; exact this
    | succ d ih =>
      have h1 := ih (by omega) (by omega)
      have h2 := h (i + 1 + (d + 1)) hj (by omega)
      rw [show i + 1 + (d + 1) - 1 = i + 1 + d by omega, rd_at (by omega), rd_at (by omega)] at h2
      omega
  · intro h j hj h0
    rw [rd_at (by omega), rd_at (by omega)]
    exact h (j - 1) j (by omega) hj (by omega)
theorem meshOk_iff (w h : Int) (b : List Int) : meshOk w h b ↔ okG w h ∧ (∀ c ∈ b, leads w h c) ∧ b.Pairwise (· < ·) := by
  rw [← asc_iff]
  constructor
  · rintro ⟨h1, h2⟩
    refine ⟨h2, fun c hc => ?_, fun j hj h0 => (h1 j hj).2 h0⟩
    obtain ⟨j, hj, rfl⟩ := List.getElem_of_mem hc
    have := (h1 j hj).1; rwa [rd_at hj] at this
  · rintro ⟨h1, h2, h3⟩
    exact ⟨fun j hj => ⟨by rw [rd_at hj]; exact h2 _ (List.getElem_mem _), fun h0 => h3 j hj h0⟩, h1⟩
theorem asc_length {n : Nat} : ∀ {b : List Int}, b.Pairwise (· < ·) → (∀ c ∈ b, 0 ≤ c ∧ c < (n : Int)) → b.length ≤ n := by
  intro b hb hc
  have key : ∀ (b : List Int) (lo : Int), b.Pairwise (· < ·) → (∀ c ∈ b, lo ≤ c ∧ c < (n : Int)) → 0 ≤ lo → (b.length : Int) ≤ max 0 (n - lo) := by
    intro b
    induction b with
    | nil => intro lo _ _ _; simp; omega
    | cons a l ih =>
      intro lo hp hm h0
      have h1 := hm a (by simp)
      have h2 := ih (a + 1) (List.pairwise_cons.1 hp).2 (fun c hc => ⟨by have := (List.pairwise_cons.1 hp).1 c hc; omega, (hm c (by simp [hc])).2⟩) (by omega)
      simp; omega
  have := key b 0 hb (fun c h => ⟨(hc c h).1, (hc c h).2⟩) (by omega)
  omega
theorem meshOk_length {w h : Int} {b : List Int} (hm : meshOk w h b) : b.length ≤ 64 := by
  obtain ⟨_, h1, h2⟩ := (meshOk_iff w h b).1 hm
  exact asc_length h2 (fun c hc => leads_lt (h1 c hc))
def V (b : List Int) (i : Int) : Prop := 0 ≤ i ∧ i ≤ b.length ∧ b.length ≤ 1048576
theorem and255 (x : Int) : 0 ≤ Go.bits .and .i64 x 255 ∧ Go.bits .and .i64 x 255 ≤ 255 := by
  have h : ∃ n : Nat, n ≤ 255 ∧ Go.bits .and .i64 x 255 = IntKind.i64.wrap (n : Int) := by
    refine ⟨((BitVec.ofInt 64 x) &&& (BitVec.ofInt 64 255)).toNat, ?_, rfl⟩
    rw [BitVec.toNat_and]; exact Nat.le_trans Nat.and_le_right (by decide)
  obtain ⟨n, hn, e⟩ := h
  rw [e, IntKind.wrap_i64]; omega
theorem byte_d {b : List Int} {i : Int} (h : Int) (hv : V b i) : ∃ r i' h', spec_l01Byte.f b i h = some (r, i', h') ∧ (0 ≤ r ∧ r ≤ 255) ∧ V b i' := by
  obtain ⟨h0, h1, h2⟩ := hv
  unfold spec_l01Byte.f
  by_cases hi : i < b.length
  · rw [if_pos hi, if_pos h0]
    exact ⟨_, _, _, rfl, and255 _, by rw [w64 (by omega) (by omega)]; exact ⟨by omega, by omega, h2⟩⟩
  · rw [if_neg hi]
    exact ⟨_, _, _, rfl, and255 _, h0, h1, h2⟩
theorem below_d {b : List Int} {i : Int} (h n : Int) (hv : V b i) (hn : 1 ≤ n) : ∃ r i' h', spec_l01Below.f b i h n = some (r, i', h') ∧ (0 ≤ r ∧ r < n) ∧ V b i' := by
  unfold spec_l01Below.f
  rw [if_neg (by omega)]
  by_cases h1 : n ≤ 256
  · rw [if_pos h1]
    obtain ⟨r, i', h', e, hr, hv'⟩ := byte_d h hv
    rw [e]; simp only [Option.bind_some]
    rw [if_neg (by omega), Int.tmod_eq_emod_of_nonneg hr.1]
    exact ⟨_, _, _, rfl, ⟨Int.emod_nonneg _ (by omega), Int.emod_lt_of_pos _ (by omega)⟩, hv'⟩
  · rw [if_neg h1]
    obtain ⟨r1, i1, h1, e1, hr1, hv1⟩ := byte_d h hv
    obtain ⟨r2, i2, h2, e2, hr2, hv2⟩ := byte_d h1 hv1
    obtain ⟨r3, i3, h3, e3, hr3, hv3⟩ := byte_d h2 hv2
    obtain ⟨r4, i4, h4, e4, hr4, hv4⟩ := byte_d h3 hv3
    rw [e1]; simp only [Option.bind_some]; rw [e2]; simp only [Option.bind_some]; rw [e3]; simp only [Option.bind_some]; rw [e4]; simp only [Option.bind_some]
    rw [if_neg (by omega), w64 (x := r1 * 16777216) (by omega) (by omega), w64 (x := r2 * 65536) (by omega) (by omega), w64 (x := r3 * 256) (by omega) (by omega), w64 (x := r1 * 16777216 + r2 * 65536) (by omega) (by omega), w64 (x := r1 * 16777216 + r2 * 65536 + r3 * 256) (by omega) (by omega), w64 (by omega) (by omega), Int.tmod_eq_emod_of_nonneg (by omega)]
    exact ⟨_, _, _, rfl, ⟨Int.emod_nonneg _ (by omega), Int.emod_lt_of_pos _ (by omega)⟩, hv4⟩
theorem once_d {b : List Int} {i : Int} (h n : Int) (hv : V b i) (hn : 1 ≤ n) : ∃ t i' h', spec_l01Once.f b i h n = some (t, i', h') ∧ V b i' := by
  obtain ⟨r, i', h', e, _, hv'⟩ := below_d h n hv hn
  unfold spec_l01Once.f; rw [e]; exact ⟨_, _, _, rfl, hv'⟩
theorem pickInt_d {b : List Int} {i : Int} (h : Int) (l : List Int) (hv : V b i) (hl : l ≠ []) : ∃ r i' h', spec_l01PickInt.f b i h l = some (r, i', h') ∧ r ∈ l ∧ V b i' := by
  have h0 : 1 ≤ (l.length : Int) := by cases l; exact absurd rfl hl; simp; omega
  obtain ⟨r, i', h', e, hr, hv'⟩ := below_d h l.length hv h0
  unfold spec_l01PickInt.f; rw [e]; simp only [Option.bind_some]
  rw [if_pos hr.1, if_pos hr.2]; exact ⟨_, _, _, rfl, rd_mem hr.1 hr.2, hv'⟩
theorem new_d (b : List Int) (hb : b.length ≤ 1048576) : ∃ h, Ev (fun k => spec_l01New.f k b) (b, 0, h) := by
  have key : ∀ d j h, j + d = min b.length 4000 → ∃ h', Ev (fun k => spec_l01New.l0 k b h (j : Int)) (b, 0, h') := by
    intro d
    induction d with
    | zero =>
      intro j h hj
      refine ⟨h, Ev.step (f := fun _ => some (b, 0, h)) (fun k => ?_) (Ev.now _)⟩
      simp only [spec_l01New.l0]
      by_cases h1 : (j : Int) < b.length
      · rw [if_pos h1, if_neg (by omega)]
      · rw [if_neg h1]
    | succ d ih =>
      intro j h hj
      obtain ⟨h', e⟩ := ih (j + 1) (Go.bits .and .i64 (wrap64 ((wrap64 ((wrap64 (h * 131)) + (wrap64 (rd b (j : Int))))) + 7)) 1073741823) (by omega)
      refine ⟨h', Ev.step (fun k => ?_) e⟩
      simp only [spec_l01New.l0]
      rw [if_pos (by omega), if_pos (by omega), if_pos (by omega), w64 (x := (j : Int) + 1) (by omega) (by omega)]; rfl
  exact key _ 0 _ (by simp; rfl)
theorem V_new {b : List Int} (hb : b.length ≤ 1048576) : V b 0 := ⟨by omega, by omega, hb⟩
theorem grid_d {b : List Int} {i : Int} (h : Int) (hv : V b i) : ∃ x y i' h', spec_l02Grid.f b i h = some (x, y, i', h') ∧ okG x y ∧ V b i' := by
  obtain ⟨x, i1, h1, e1, hx, hv1⟩ := pickInt_d h [1, 2, 2, 3, 3, 4] hv (by simp)
  obtain ⟨y, i2, h2, e2, hy, hv2⟩ := pickInt_d h1 [1, 2, 2, 3, 3, 4] hv1 (by simp)
  unfold spec_l02Grid.f; rw [e1]; simp only [Option.bind_some]; rw [e2]
  refine ⟨x, y, i2, h2, rfl, ?_, hv2⟩
  simp at hx hy
  exact ⟨by omega, by omega⟩
theorem ins_ok {w h : Int} {b : List Int} {c : Int} {i : Nat} (hm : meshOk w h b) (hc : has w h b c) (h1 : ∀ x ∈ b.take i, x < c) (h2 : ∀ x ∈ b.drop i, c ≤ x) : meshOk w h (b.take i ++ [c] ++ b.drop i) := by
  obtain ⟨hg, hl, hp⟩ := (meshOk_iff w h b).1 hm
  have h3 : ∀ x ∈ b.drop i, c < x := fun x hx => by
    have := h2 x hx
    have hne : c ≠ x := fun e => hc.2 (e ▸ List.mem_of_mem_drop hx)
    omega
  refine (meshOk_iff _ _ _).2 ⟨hg, fun x hx => ?_, ?_⟩
  · simp only [List.mem_append, List.mem_singleton] at hx
    rcases hx with (hx | rfl) | hx
    · exact hl x (List.mem_of_mem_take hx)
    · exact hc.1
    · exact hl x (List.mem_of_mem_drop hx)
  · rw [List.pairwise_append, List.pairwise_append]
    refine ⟨⟨hp.sublist (List.take_sublist _ _), by simp, fun x hx y hy => ?_⟩, hp.sublist (List.drop_sublist _ _), fun x hx y hy => ?_⟩
    · simp only [List.mem_singleton] at hy; subst hy; exact h1 x hx
    · simp only [List.mem_append, List.mem_singleton] at hx
      have := h3 y hy
      rcases hx with hx | rfl
      · have := h1 x hx; omega
      · exact this
theorem withBroken_d {w h : Int} {b : List Int} {c : Int} (hm : meshOk w h b) : ∃ b' q, Ev (fun k => spec_WithBroken.f k w h b c) (w, h, b', q) ∧ meshOk w h b' := by
  have hb := meshOk_length hm
  unfold spec_WithBroken.f spec_l15Mesh.f
  simp only [Option.bind_some]
  simp only [List.length_nil, List.nil_append]
  have e0 : (if 0 + b.length < 17592186044416 then some (w, h, b) else none) = some (w, h, b) := if_pos (by omega)
  simp only [e0, Option.bind_some]
  have eH : Ev (fun k => spec_HasChannel.f k w h b c) (decide (has w h b c)) :=
    Ev.bind (specMeshOk_ev w h b (by omega)) (Ev.ifp (by simpa using hm) (Ev.bind (specHas_ev w h b c (by omega)) (Ev.now _)))
  by_cases hc : has w h b c
  · have key : ∀ d j, j + d = b.length → (∀ x ∈ b.take j, x < c) → ∃ b' q, Ev (fun k => spec_WithBroken.l0 k c (j : Int) w h b w h (b.take j)) (w, h, b', q) ∧ meshOk w h b' := by
      intro d
      induction d with
      | zero =>
        intro j hj h1
        have e1 : (b.take j).length = j := by simp; omega
        have e2 : b.drop j = [] := List.drop_eq_nil_of_le (by omega)
        refine ⟨_, _, Ev.step (f := fun _ => some (w, h, (b.take j ++ [c] ++ b.drop j), true)) (fun k => ?_) (Ev.now _), ins_ok hm hc h1 (by simp [e2])⟩
        simp only [spec_WithBroken.l0]
        rw [if_neg (by omega), e1, if_pos (by omega)]
        simp only [Option.bind_some, Int.toNat_natCast]
        rw [if_pos (by omega), if_pos (by omega), if_pos (by simp; omega)]
      | succ d ih =>
        intro j hj h1
        have hj' : j < b.length := by omega
        have e1 : (b.take j).length = j := by simp; omega
        by_cases h2 : rd b (j : Int) < c
        · obtain ⟨b', q, e, hm'⟩ := ih (j + 1) (by omega) (fun x hx => by
            rcases (mem_take_succ hj').1 hx with hx | hx
            · exact h1 x hx
            · subst hx; rwa [rd_at hj'] at h2)
          refine ⟨b', q, Ev.step (fun k => ?_) e, hm'⟩
          simp only [spec_WithBroken.l0]
          rw [if_pos (by omega), if_pos (by omega), if_pos h2, e1, if_pos (by omega), w64 (by omega) (by omega), rd_at hj', List.take_succ_eq_append_getElem hj']; rfl
        · refine ⟨_, _, Ev.step (f := fun _ => some (w, h, (b.take j ++ [c] ++ b.drop j), true)) (fun k => ?_) (Ev.now _), ins_ok hm hc h1 (fun x hx => ?_)⟩
          · simp only [spec_WithBroken.l0]
            rw [if_pos (by omega), if_pos (by omega), if_neg h2, e1, if_pos (by omega)]
            simp only [Option.bind_some, Int.toNat_natCast]
            rw [if_pos (by omega), if_pos (by omega), if_pos (by simp; omega)]
          · rw [List.drop_eq_getElem_cons hj'] at hx
            rw [rd_at hj'] at h2
            have hp := ((meshOk_iff w h b).1 hm).2.2.sublist (List.drop_sublist j b)
            rw [List.drop_eq_getElem_cons hj', List.pairwise_cons] at hp
            rcases List.mem_cons.1 hx with rfl | hx
            · omega
            · have := hp.1 x hx; omega
    obtain ⟨b', q, e, hm'⟩ := key b.length 0 (by omega) (by simp)
    exact ⟨b', q, Ev.bind eH (Ev.ifp (by simpa using hc) (by simpa using e)), hm'⟩
  · exact ⟨b, false, Ev.bind eH (Ev.ifn (by simpa using hc) (Ev.now _)), hm⟩
theorem l33Mesh_d {b : List Int} {i : Int} (h : Int) (hv : V b i) : ∃ x y l i' h', Ev (fun k => spec_l33Mesh.f k b i h) (x, y, l, i', h') ∧ meshOk x y l := by
  have hgr : ∃ x y i' h', spec_l14Grid.f b i h = some (x, y, i', h') ∧ okG x y ∧ V b i' := by
    obtain ⟨x, y, i1, h1, e1, hg, hv1⟩ := grid_d h hv
    unfold spec_l14Grid.f
    rw [e1]
    simp only [specNodeCount_eq, nodeCount_f, Option.bind_some]
    split
    · exact ⟨_, _, _, _, rfl, ⟨⟨by omega, by omega⟩, hg.2⟩, hv1⟩
    · exact ⟨_, _, _, _, rfl, hg, hv1⟩
  obtain ⟨x, y, i1, h1, e1, hg, hv1⟩ := hgr
  have hc := cnt_range x y
  have h0 := (okG_isN hg).2
  have key : ∀ (d j : Nat) (l : List Int) (i h : Int), j + d = 5 → V b i → meshOk x y l → ∃ l' i' h', Ev (fun k => spec_l33Mesh.l0 k (j : Int) b i h x y l) (x, y, l', i', h') ∧ meshOk x y l' := by
    intro d
    induction d with
    | zero =>
      intro j l i h hj hv hm
      obtain ⟨r, i2, h2, e2, hr, hv2⟩ := below_d h 5 hv (by omega)
      refine ⟨l, i2, h2, Ev.step (f := fun _ => some (x, y, l, i2, h2)) (fun k => ?_) (Ev.now _), hm⟩
      simp only [spec_l33Mesh.l0, e2, Option.bind_some]
      rw [if_neg (by omega)]
    | succ d ih =>
      intro j l i h hj hv hm
      have hlen := meshOk_length hm
      obtain ⟨r, i2, h2, e2, hr, hv2⟩ := below_d h 5 hv (by omega)
      by_cases hjr : (j : Int) < r
      · obtain ⟨c, i3, h3, e3, hr3, hv3⟩ := below_d h2 (4 * cnt x y) hv2 (by omega)
        obtain ⟨l2, q, e4, hm2⟩ := withBroken_d (c := c) hm
        have hlen2 := meshOk_length hm2
        by_cases hcn : conn x y l2
        · obtain ⟨l', i', h', e, hm'⟩ := ih (j + 1) l2 i3 h3 (by omega) hv3 hm2
          refine ⟨l', i', h', Ev.step (fun k => by simp only [spec_l33Mesh.l0, e2, Option.bind_some, specNodeCount_eq, nodeCount_f]; rw [if_pos hjr, w64 (x := 4 * cnt x y) (by omega) (by omega), e3, w64 (x := (j : Int) + 1) (by omega) (by omega)]; exact rfl) (Ev.bind e4 (Ev.bind (specIsConnected_ev (b := l2) (by omega)) ?_)), hm'⟩
          exact Ev.ifp (by simpa using hcn) e
        · obtain ⟨t, i4, h4, e5, hv4⟩ := once_d h3 8 hv3 (by omega)
          cases t with
          | true =>
            obtain ⟨l', i', h', e, hm'⟩ := ih (j + 1) l2 i4 h4 (by omega) hv4 hm2
            refine ⟨l', i', h', Ev.step (fun k => by simp only [spec_l33Mesh.l0, e2, Option.bind_some, specNodeCount_eq, nodeCount_f]; rw [if_pos hjr, w64 (x := 4 * cnt x y) (by omega) (by omega), e3, w64 (x := (j : Int) + 1) (by omega) (by omega)]; exact rfl) (Ev.bind e4 (Ev.bind (specIsConnected_ev (b := l2) (by omega)) ?_)), hm'⟩
            refine Ev.ifn (by simpa using hcn) ?_
            simp only [e5, Option.bind_some]
            first | exact e | exact Ev.ifp (c := true = true) rfl e
          | false =>
            obtain ⟨l', i', h', e, hm'⟩ := ih (j + 1) l i4 h4 (by omega) hv4 hm
            refine ⟨l', i', h', Ev.step (fun k => by simp only [spec_l33Mesh.l0, e2, Option.bind_some, specNodeCount_eq, nodeCount_f]; rw [if_pos hjr, w64 (x := 4 * cnt x y) (by omega) (by omega), e3, w64 (x := (j : Int) + 1) (by omega) (by omega)]; exact rfl) (Ev.bind e4 (Ev.bind (specIsConnected_ev (b := l2) (by omega)) ?_)), hm'⟩
            refine Ev.ifn (by simpa using hcn) ?_
            simp only [e5, Option.bind_some]
            first | exact e | exact Ev.ifn (c := false = true) (by simp) e
      · refine ⟨l, i2, h2, Ev.step (f := fun _ => some (x, y, l, i2, h2)) (fun k => ?_) (Ev.now _), hm⟩
        simp only [spec_l33Mesh.l0, e2, Option.bind_some]
        rw [if_neg hjr]
  unfold spec_l33Mesh.f
  simp only [e1, Option.bind_some]
  obtain ⟨l', i', h', e, hm⟩ := key 5 0 [] i1 h1 (by omega) hv1 ((meshOk_iff x y []).2 ⟨hg, by simp, by simp⟩)
  exact ⟨x, y, l', i', h', e, hm⟩
theorem drawDamaged_d (b : List Int) (hb : b.length ≤ 1048576) : ∃ x y l, Ev (fun k => spec_DrawDamaged.f k b) (x, y, l) ∧ meshOk x y l := by
  obtain ⟨h, e⟩ := new_d b hb
  obtain ⟨x, y, l, i', h', e', hm⟩ := l33Mesh_d h (V_new hb)
  exact ⟨x, y, l, Ev.bind e (Ev.bind e' (Ev.now _)), hm⟩
theorem drawPlaces_d (b : List Int) (hb : b.length ≤ 1048576) : ∃ l, Ev (fun k => spec_DrawPlaces.f k b) l ∧ l.length = 12 ∧ ∀ v ∈ l, 0 ≤ v ∧ v < 10000 := by
  obtain ⟨h, e⟩ := new_d b hb
  have key : ∀ (d j : Nat) (l : List Int) (i h : Int), j + d = 12 → V b i → l.length = j → (∀ v ∈ l, 0 ≤ v ∧ v < 10000) → ∃ l', Ev (fun k => spec_DrawPlaces.l0 k l (j : Int) b i h) l' ∧ l'.length = 12 ∧ ∀ v ∈ l', 0 ≤ v ∧ v < 10000 := by
    intro d
    induction d with
    | zero =>
      intro j l i h hj hv hl hx
      exact ⟨l, Ev.step (f := fun _ => some l) (fun k => by simp only [spec_DrawPlaces.l0]; rw [if_neg (by omega)]) (Ev.now _), by omega, hx⟩
    | succ d ih =>
      intro j l i h hj hv hl hx
      obtain ⟨r, i2, h2, e2, hr, hv2⟩ := below_d h 10000 hv (by omega)
      obtain ⟨l', e', h3, h4⟩ := ih (j + 1) (l ++ [r]) i2 h2 (by omega) hv2 (by simp; omega) (fun v hv => by
        rcases List.mem_append.1 hv with hv | hv
        · exact hx v hv
        · simp at hv; subst hv; exact hr)
      refine ⟨l', Ev.step (fun k => ?_) e', h3, h4⟩
      simp only [spec_DrawPlaces.l0, e2, Option.bind_some]
      rw [if_pos (by omega), if_pos (by omega), w64 (by omega) (by omega)]; rfl
  obtain ⟨l, e', h3, h4⟩ := key 12 0 [] 0 h (by omega) (V_new hb) rfl (by simp)
  exact ⟨l, Ev.bind e e', h3, h4⟩
end Go.Proofs.Ytkkoenbmokbglaa.Pure
end
section
namespace Go.Proofs.Ytkkoenbmokbglaa.Pure
open Go.RowKit Go.Proofs.Ytkkoenbmokbglaa.F Go.Proofs.YtkkoenbmokbglaaW.PrintWords Go.Proofs.YtkkoenbmokbglaaW.PrintLast Go.Proofs.YtkkoenbmokbglaaW.PrintMore
set_option linter.unusedVariables false
set_option linter.unusedSimpArgs false
section
variable {t : List Int} {m : Int → Int} (T : Tree t m)
include T
theorem anc_down : ∀ (n : Nat) (v : Int), 0 ≤ v → v < t.length → m v < n → (∀ u ∈ anc t v, m u ≤ m v) ∧ (anc t v).Pairwise (fun x y => m y < m x) := by
  intro n
  induction n with
  | zero =>
    intro v h0 h1 h2
    rw [anc_cons T h0 h1]
    rcases (T v h0 h1).2 with h4 | ⟨h4, h5, h6, h7⟩
    · rw [if_pos h4]; simp
    · omega
  | succ n ih =>
    intro v h0 h1 h2
    rw [anc_cons T h0 h1]
    rcases (T v h0 h1).2 with h4 | ⟨h4, h5, h6, h7⟩
    · rw [if_pos h4]; simp
    · rw [if_neg (by omega)]
      obtain ⟨a, b⟩ := ih _ h4 h5 (by omega)
      refine ⟨fun u hu => ?_, List.pairwise_cons.2 ⟨fun u hu => by have := a u hu; omega, b⟩⟩
      rcases List.mem_cons.1 hu with rfl | hu
      · omega
      · have := a u hu; omega
theorem anc_same {a u v : Int} (h0 : 0 ≤ a) (h1 : a < t.length) (hu : u ∈ anc t a) (hv : v ∈ anc t a) (e : m u = m v) : u = v := by
  have hlt := (T a h0 h1).1
  obtain ⟨hb, l, e1, hx⟩ := anc_suffix T t.length a h0 h1 hlt u hu
  rw [e1] at hv
  rcases List.mem_append.1 hv with hv | hv
  · have := hx v hv; omega
  · rw [anc_cons T hb.1 hb.2] at hv
    rcases List.mem_cons.1 hv with rfl | hv
    · rfl
    · rcases (T u hb.1 hb.2).2 with h4 | ⟨h4, h5, h6, h7⟩
      · rw [if_pos h4] at hv; simp at hv
      · rw [if_neg (by omega)] at hv
        have := (anc_down T t.length _ h4 h5 (T _ h4 h5).1).1 v hv
        omega
theorem common_some {a b u : Int} (h0 : 0 ≤ a) (h1 : a < t.length) (h : (anc t a).find? (fun x => decide (x ∈ anc t b)) = some u) : (u ∈ anc t a ∧ u ∈ anc t b) ∧ ∀ x ∈ anc t a, x ∈ anc t b → m x ≤ m u := by
  obtain ⟨h2, l1, l2, h3, h4⟩ := List.find?_eq_some_iff_append.1 h
  refine ⟨⟨by rw [h3]; simp, by simpa using h2⟩, fun x hx hxb => ?_⟩
  have hp := (anc_down T t.length a h0 h1 (T a h0 h1).1).2
  rw [h3] at hx hp
  rcases List.mem_append.1 hx with hx | hx
  · have := h4 x hx; simp [hxb] at this
  · rcases List.mem_cons.1 hx with rfl | hx
    · omega
    · have := (List.pairwise_cons.1 (List.pairwise_append.1 hp).2.1).1 x hx; omega
theorem common_comm {a b : Int} (ha : 0 ≤ a ∧ a < t.length) (hb : 0 ≤ b ∧ b < t.length) : common t a b = common t b a := by
  unfold common
  cases h1 : (anc t a).find? (fun x => decide (x ∈ anc t b)) with
  | none =>
    have h2 : (anc t b).find? (fun x => decide (x ∈ anc t a)) = none := by
      rw [List.find?_eq_none] at h1 ⊢
      intro x hx e
      exact h1 x (by simpa using e) (by simpa using hx)
    rw [h2]
  | some u =>
    obtain ⟨⟨a1, a2⟩, a3⟩ := common_some T ha.1 ha.2 h1
    cases h2 : (anc t b).find? (fun x => decide (x ∈ anc t a)) with
    | none => rw [List.find?_eq_none] at h2; exact absurd (by simpa using a1) (h2 u a2)
    | some v =>
      obtain ⟨⟨b1, b2⟩, b3⟩ := common_some T hb.1 hb.2 h2
      have e1 := a3 v b2 b1
      have e2 := b3 u a2 a1
      rw [anc_same T ha.1 ha.2 a1 b2 (by omega)]
theorem common_anc {a u : Int} (h0 : 0 ≤ a) (h1 : a < t.length) (hu : u ∈ anc t a) : common t a u = u := by
  obtain ⟨hb, l, e1, hx⟩ := anc_suffix T t.length a h0 h1 (T a h0 h1).1 u hu
  have hd := (anc_down T t.length u hb.1 hb.2 (T u hb.1 hb.2).1).1
  have h2 : (anc t a).find? (fun x => decide (x ∈ anc t u)) = some u := by
    have e2 : anc t a = l ++ u :: (if rd t u = -1 then [] else anc t (rd t u)) := by rw [e1, anc_cons T hb.1 hb.2]
    refine List.find?_eq_some_iff_append.2 ⟨?_, l, _, e2, fun x hx' => ?_⟩
    · rw [anc_cons T hb.1 hb.2]; simp
    · have h3 := hx x hx'
      have h4 : x ∉ anc t u := fun e => by have := hd x e; omega
      simp [h4]
  unfold common; rw [h2]; rfl
end
theorem FnAncestors (l : List Int) (w0 : l.length ≤ maxLen ∧ ∀ x ∈ l, (Go.Lit.int .u8 x).wf = true) : ∃ k, laws_FnAncestors.f k l = some true := by
  refine Ev.rounds (?_ : Ev (fun k => laws_FnAncestors.f k l) true)
  unfold laws_FnAncestors.f laws_big.f
  simp only [Option.bind_some]
  by_cases hs : (l.length : Int) > 1048576
  · simp only [if_pos (decide_eq_true hs)]; exact Ev.now _
  refine Ev.ifn (by simpa using hs) ?_
  obtain ⟨w, h, b, e, hm⟩ := drawDamaged_d l (by omega)
  obtain ⟨p, e2, hpl, hpr⟩ := drawPlaces_d l (by omega)
  have hb := meshOk_length hm
  have hn := mul_small hm.2
  have hcn : cnt w h = w * h := if_pos hm.2
  have hw : wrap64 (w * h) = cnt w h := by rw [hcn]; exact w64 (by omega) (by omega)
  have hp : ∀ i : Nat, i < 12 → isN w h (Int.tmod (rd p (i : Int)) (cnt w h)) := fun i hi => by
    have := hpr _ (rd_mem (l := p) (i := (i : Int)) (by omega) (by omega))
    rw [Int.tmod_eq_emod_of_nonneg this.1]
    exact ⟨Int.emod_nonneg _ (by omega), Int.emod_lt_of_pos _ (by omega)⟩
  have p0 := hp 0 (by omega); have p1 := hp 1 (by omega); have p2 := hp 2 (by omega)
  refine Ev.bind e (Ev.bind e2 (Ev.ifp (by omega) ?_))
  simp only [hw]
  refine Ev.ifn (by omega) (Ev.bind (parents_ev (by omega)) (Ev.ifp (by omega) (Ev.ifp (by omega) ?_)))
  have H : rootOk w h b (Int.tmod (rd p 0) (cnt w h)) := ⟨hm, p0⟩
  have T := parents_tree H
  have hl : (((parents w h b (Int.tmod (rd p 0) (cnt w h))).length : Nat) : Int) = cnt w h := by rw [parents_length]; exact (depths_inv H).1
  generalize parents w h b (Int.tmod (rd p 0) (cnt w h)) = t at T hl
  generalize depths w h b (Int.tmod (rd p 0) (cnt w h)) = dd at T
  have p1 : isN w h (Int.tmod (rd p 1) (cnt w h)) := p1
  have p2 : isN w h (Int.tmod (rd p 2) (cnt w h)) := p2
  generalize Int.tmod (rd p 1) (cnt w h) = a at p1
  generalize Int.tmod (rd p 2) (cnt w h) = c at p2
  have ha : 0 ≤ a ∧ a < t.length := ⟨p1.1, by have := p1.2; omega⟩
  have hc : 0 ≤ c ∧ c < t.length := ⟨p2.1, by have := p2.2; omega⟩
  have hlen := anc_length t a
  refine Ev.bind (implAnc_ev t a (by omega)) ?_
  have hcons := anc_cons T ha.1 ha.2
  have hpos : 0 < (anc t a).length := by rw [hcons]; simp
  have h0 : rd (anc t a) 0 = a := by
    rw [show (0 : Int) = ((0 : Nat) : Int) from rfl, rd_at hpos]
    simp only [hcons, List.getElem_cons_zero]
  have := ev_all (g := fun k i => laws_FnAncestors.l0 k t a c (anc t a) i) (anc t a).length (fun _ => True) true
    (by
      refine Ev.step (fun k => by simp only [laws_FnAncestors.l0]; rw [if_neg (by omega), if_pos (by omega), if_pos (by omega), if_pos h0]) (Ev.bind (implCommon_ev t a c (by omega)) (Ev.bind (implCommon_ev t c a (by omega)) ?_))
      rw [common_comm T ha hc]; simp only [beq_self_eq_true]; exact Ev.now _)
    (fun j hj _ r hr => by
      refine Ev.step (fun k => by simp only [laws_FnAncestors.l0]; rw [if_pos (by omega), if_pos (by omega), w64 (x := (j : Int) + 1) (by omega) (by omega)]) (Ev.bind (implCommon_ev t a _ (by omega)) ?_)
      rw [common_anc T ha.1 ha.2 (rd_mem (by omega) (by omega))]
      exact Ev.ifp rfl hr)
    (fun j hj _ h => absurd trivial h)
  simpa using this
end Go.Proofs.Ytkkoenbmokbglaa.Pure
end
