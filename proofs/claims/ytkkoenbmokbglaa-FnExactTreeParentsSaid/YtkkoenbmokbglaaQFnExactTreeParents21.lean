/- Parts of a proof that the law FnExactTreeParents holds for every input: contracts of the program's functions and plain laws on what they compute. -/
import Derived.Test.YtkkoenbmokbglaaQFnExactTreeParents7
import Derived.Test.YtkkoenbmokbglaaQFnExactTreeParents11
import Derived.Test.YtkkoenbmokbglaaQFnExactTreeParents14
import Derived.Test.YtkkoenbmokbglaaQFnExactTreeParents12
import Derived.Test.YtkkoenbmokbglaaQFnExactTreeParents15
import Derived.Test.YtkkoenbmokbglaaQFnExactTreeParents13
import Derived.Test.YtkkoenbmokbglaaQFnExactTreeParents17
import Derived.Test.YtkkoenbmokbglaaQFnExactTreeParents16
import Derived.Test.YtkkoenbmokbglaaQFnExactTreeParents18
import Derived.Test.YtkkoenbmokbglaaQFnExactTreeParents19
import Derived.Test.YtkkoenbmokbglaaQFnExactTreeParents20
section
namespace Go.Proofs.Ytkkoenbmokbglaa.Pure
open Go.RowKit Go.Proofs.YtkkoenbmokbglaaW.PrintWords Go.Proofs.YtkkoenbmokbglaaW.PrintLast Go.Proofs.YtkkoenbmokbglaaW.PrintMore
set_option linter.unusedVariables false
set_option linter.unusedSimpArgs false
theorem w64 {x : Int} (h : -9223372036854775808 ≤ x) (h' : x ≤ 9223372036854775807) : wrap64 x = x := by unfold wrap64; omega
theorem rd_at {l : List Int} {j : Nat} (h : j < l.length) : rd l (j : Int) = l[j] := by simp [rd, h]
theorem rd_mem {l : List Int} {i : Int} (h0 : 0 ≤ i) (h : i < l.length) : rd l i ∈ l := by
  obtain ⟨j, rfl⟩ := Int.eq_ofNat_of_zero_le h0
  rw [rd_at (by omega)]; exact List.getElem_mem _

theorem Ev.ifp {α : Type} {c : Prop} [Decidable c] {f g : Nat → Option α} {r : α} (h : c) (e : Ev f r) : Ev (fun k => if c then f k else g k) r := Ev.congr (fun k => if_pos h) e
theorem Ev.ifn {α : Type} {c : Prop} [Decidable c] {f g : Nat → Option α} {r : α} (h : ¬ c) (e : Ev g r) : Ev (fun k => if c then f k else g k) r := Ev.congr (fun k => if_neg h) e
theorem split_at {α : Type} {l : List α} {j : Nat} (h : j < l.length) : l = l.take j ++ (l[j] :: l.drop (j + 1)) := by
  rw [← List.drop_eq_getElem_cons h, List.take_append_drop]
theorem mem_take_succ {α : Type} {l : List α} {j : Nat} (h : j < l.length) {x : α} : x ∈ l.take (j + 1) ↔ x ∈ l.take j ∨ x = l[j] := by
  rw [List.take_succ_eq_append_getElem h, List.mem_append, List.mem_singleton]
end Go.Proofs.Ytkkoenbmokbglaa.Pure
end
section
namespace Go.Proofs.Ytkkoenbmokbglaa.Pure
open Go.RowKit Go.Proofs.Ytkkoenbmokbglaa.F Go.Proofs.YtkkoenbmokbglaaW.PrintWords Go.Proofs.YtkkoenbmokbglaaW.PrintLast Go.Proofs.YtkkoenbmokbglaaW.PrintMore
theorem inside_f (a b c : Int) : impl_inside.f a b c = some (decide (b ≤ a ∧ a ≤ c)) := by
  unfold impl_inside.f; by_cases h : b ≤ a <;> simp [h]
theorem l01In_f (a b c : Int) : spec_l01In.f a b c = some (decide (b ≤ a ∧ a ≤ c)) := by
  unfold spec_l01In.f; by_cases h : b ≤ a <;> simp [h]

end Go.Proofs.Ytkkoenbmokbglaa.Pure
end
section
namespace Go.Proofs.Ytkkoenbmokbglaa.Pure
open Go.RowKit Go.Proofs.Ytkkoenbmokbglaa.F Go.Proofs.YtkkoenbmokbglaaW.PrintWords Go.Proofs.YtkkoenbmokbglaaW.PrintLast Go.Proofs.YtkkoenbmokbglaaW.PrintMore
set_option linter.unusedVariables false
set_option linter.unusedSimpArgs false
def okG (w h : Int) : Prop := (1 ≤ w ∧ w ≤ 4) ∧ 1 ≤ h ∧ h ≤ 4
instance (w h : Int) : Decidable (okG w h) := inferInstanceAs (Decidable (_ ∧ _))
def cnt (w h : Int) : Int := if okG w h then w * h else 0
def isN (w h n : Int) : Prop := 0 ≤ n ∧ n < cnt w h
instance (w h n : Int) : Decidable (isN w h n) := inferInstanceAs (Decidable (_ ∧ _))
def nodeAt (w h x y : Int) : Int := if okG w h ∧ (0 ≤ x ∧ x < w) ∧ 0 ≤ y ∧ y < h then y * w + x else -1
def next (w h n p : Int) : Int :=
  if isN w h n then
    (if p = 0 then nodeAt w h (n % w) (n / w - 1) else if p = 1 then nodeAt w h (n % w + 1) (n / w) else if p = 2 then nodeAt w h (n % w) (n / w + 1) else if p = 3 then nodeAt w h (n % w - 1) (n / w) else if p = 4 then n else -1)
  else -1
def leads (w h c : Int) : Prop := (0 ≤ c ∧ c < 4 * cnt w h) ∧ 0 ≤ next w h (c / 4) (c % 4)
instance (w h c : Int) : Decidable (leads w h c) := inferInstanceAs (Decidable (_ ∧ _))
def opp (p : Int) : Int := if p = 4 then 4 else if 0 ≤ p ∧ p ≤ 3 then (p + 2) % 4 else -1

theorem mul_small {w h : Int} (h1 : okG w h) : 1 ≤ w * h ∧ w * h ≤ 16 := by
  obtain ⟨⟨a, b⟩, c, d⟩ := h1
  have e1 : w = 1 ∨ w = 2 ∨ w = 3 ∨ w = 4 := by omega
  rcases e1 with rfl | rfl | rfl | rfl <;> omega
theorem cnt_range (w h : Int) : 0 ≤ cnt w h ∧ cnt w h ≤ 16 := by
  unfold cnt; split
  · rename_i h1; have := mul_small h1; omega
  · omega
theorem isN_ok {w h n : Int} (h1 : isN w h n) : okG w h ∧ 0 ≤ n ∧ n < w * h ∧ n < 16 := by
  obtain ⟨a, b⟩ := h1
  unfold cnt at b
  split at b
  · rename_i h2; have := mul_small h2; exact ⟨h2, a, b, by omega⟩
  · omega
theorem gridOk_f (w h : Int) : impl_GridOk.f w h = some (decide (okG w h)) := by
  unfold impl_GridOk.f okG
  simp only [inside_f, Option.bind_some]
  by_cases h1 : 1 ≤ w ∧ w ≤ 4 <;> simp [h1]
theorem specGridOk_eq : spec_GridOk.f = impl_GridOk.f := by
  funext w h; unfold spec_GridOk.f impl_GridOk.f; simp only [l01In_f, inside_f]
theorem nodeCount_f (w h : Int) : impl_NodeCount.f w h = some (cnt w h) := by
  unfold impl_NodeCount.f cnt
  simp only [gridOk_f, Option.bind_some]
  by_cases h1 : okG w h
  · have := mul_small h1
    simp only [h1, decide_true, if_true]; rw [w64 (by omega) (by omega)]
  · simp [h1]
theorem specNodeCount_eq : spec_NodeCount.f = impl_NodeCount.f := by
  funext w h; unfold spec_NodeCount.f impl_NodeCount.f; rw [specGridOk_eq]
theorem isNode_f (w h n : Int) : impl_isNode.f w h n = some (decide (isN w h n)) := by
  have := cnt_range w h
  unfold impl_isNode.f
  simp only [nodeCount_f, Option.bind_some, inside_f]
  rw [w64 (by omega) (by omega)]
  exact congrArg some (decide_eq_decide.2 (by unfold isN; omega))
theorem specHas_eq : spec_l02Has.f = impl_isNode.f := by
  funext w h n; unfold spec_l02Has.f impl_isNode.f; rw [specNodeCount_eq]; simp only [l01In_f, inside_f]
theorem nodeAt_f (w h x y : Int) : impl_NodeAt.f w h x y = some (nodeAt w h x y) := by
  unfold impl_NodeAt.f nodeAt
  simp only [gridOk_f, Option.bind_some, inside_f]
  by_cases h1 : okG w h
  · have h2 := mul_small h1
    have h3 := h1
    obtain ⟨⟨a, b⟩, c, d⟩ := h3
    rw [if_pos (by simpa using h1), w64 (by omega) (by omega)]
    by_cases hx : 0 ≤ x ∧ x < w
    · rw [if_pos (by simp; omega), w64 (by omega) (by omega)]
      by_cases hy : 0 ≤ y ∧ y < h
      · rw [if_pos (by simp; omega), if_pos ⟨h1, hx, hy⟩]
        have h5 : 0 ≤ y * w ∧ y * w ≤ 12 := by
          have e1 : w = 1 ∨ w = 2 ∨ w = 3 ∨ w = 4 := by omega
          rcases e1 with rfl | rfl | rfl | rfl <;> omega
        rw [w64 (x := y * w) (by omega) (by omega), w64 (by omega) (by omega)]
      · rw [if_neg (by simp; omega), if_neg (fun e => hy e.2.2)]
    · rw [if_neg (by simp; omega), if_neg (fun e => hx e.2.1)]
  · rw [if_neg (by simpa using h1), if_neg (fun e => h1 e.1)]
theorem specNodeAt_eq : spec_NodeAt.f = impl_NodeAt.f := by
  funext w h x y; unfold spec_NodeAt.f impl_NodeAt.f; rw [specGridOk_eq]; simp only [l01In_f, inside_f]
theorem next_f (w h n p : Int) : impl_NextNode.f w h n p = some (next w h n p) := by
  unfold impl_NextNode.f next
  simp only [isNode_f, Option.bind_some, nodeAt_f]
  by_cases h1 : isN w h n
  · obtain ⟨⟨⟨a, b⟩, c, d⟩, e, f, g⟩ := isN_ok h1
    have m1 : Int.tmod n w = n % w := Int.tmod_eq_emod_of_nonneg e
    have m2 : Int.tdiv n w = n / w := Int.tdiv_eq_ediv_of_nonneg e
    have m3 : 0 ≤ n / w := Int.ediv_nonneg e (by omega)
    have m4 : n / w ≤ n := Int.ediv_le_self _ e
    have m5 : 0 ≤ n % w := Int.emod_nonneg _ (by omega)
    have m6 : n % w < w := Int.emod_lt_of_pos _ (by omega)
    rw [if_pos (by simpa using h1), if_pos h1, if_neg (by omega), m1, m2, w64 (x := n / w) (by omega) (by omega), w64 (x := n / w - 1) (by omega) (by omega), w64 (x := n / w + 1) (by omega) (by omega), w64 (x := n % w + 1) (by omega) (by omega), w64 (x := n % w - 1) (by omega) (by omega)]
    repeat' split
    all_goals rfl
  · rw [if_neg (by simpa using h1), if_neg h1]
theorem specNext_eq : spec_NextNode.f = impl_NextNode.f := by
  funext w h n p; unfold spec_NextNode.f impl_NextNode.f; rw [specHas_eq, specNodeAt_eq]
theorem leads_f (w h c : Int) : impl_leads.f w h c = some (decide (leads w h c)) := by
  have := cnt_range w h
  unfold impl_leads.f leads
  simp only [nodeCount_f, Option.bind_some, inside_f, next_f]
  rw [w64 (x := 4 * cnt w h) (by omega) (by omega), w64 (x := 4 * cnt w h - 1) (by omega) (by omega)]
  by_cases h1 : 0 ≤ c ∧ c < 4 * cnt w h
  · rw [if_pos (by simp; omega), Int.tdiv_eq_ediv_of_nonneg h1.1, Int.tmod_eq_emod_of_nonneg h1.1, w64 (by omega) (by omega)]
    simp [h1]
  · rw [if_neg (by simp; omega)]; simp [h1]
theorem specLeads_eq : spec_l03Leads.f = impl_leads.f := by
  funext w h c; unfold spec_l03Leads.f impl_leads.f; rw [specNodeCount_eq, specNext_eq]; simp only [l01In_f, inside_f]
theorem opp_f (p : Int) : impl_Opposite.f p = some (opp p) := by
  unfold impl_Opposite.f opp
  simp only [inside_f, Option.bind_some]
  split
  · rfl
  · by_cases h : 0 ≤ p ∧ p ≤ 3
    · rw [if_pos (by simpa using h), if_pos h, w64 (by omega) (by omega), Int.tmod_eq_emod_of_nonneg (by omega)]
    · rw [if_neg (by simpa using h), if_neg h]
theorem specOpp_eq : spec_Opposite.f = impl_Opposite.f := by
  funext p; unfold spec_Opposite.f impl_Opposite.f; simp only [l01In_f, inside_f]
theorem next_range (w h n p : Int) : -1 ≤ next w h n p ∧ next w h n p < max 1 (cnt w h) := by
  unfold next
  by_cases h1 : isN w h n
  · obtain ⟨h2, e, f, g⟩ := isN_ok h1
    have hc : cnt w h = w * h := if_pos h2
    have k : ∀ x y, -1 ≤ nodeAt w h x y ∧ nodeAt w h x y < w * h := by
      intro x y; unfold nodeAt
      split
      · rename_i h3
        obtain ⟨⟨⟨a, b⟩, c, d⟩, ⟨x0, x1⟩, y0, y1⟩ := h3
        have e1 : w = 1 ∨ w = 2 ∨ w = 3 ∨ w = 4 := by omega
        rcases e1 with rfl | rfl | rfl | rfl <;> omega
      · have := mul_small h2; omega
    have := mul_small h2
    rw [if_pos h1, hc]
    have k1 := k (n % w) (n / w - 1); have k2 := k (n % w + 1) (n / w); have k3 := k (n % w) (n / w + 1); have k4 := k (n % w - 1) (n / w)
    repeat' split
    all_goals omega
  · rw [if_neg h1]; omega
theorem l03Find_ev (l : List Int) (v : Int) (hl : l.length ≤ 9223372036854775807) : Ev (fun k => spec_l03Find.f k l v) (decide (v ∈ l)) := by
  have key : ∀ d j, j + d = l.length → v ∉ l.take j → Ev (fun k => spec_l03Find.l0 k l v (j : Int)) (decide (v ∈ l)) := by
    intro d
    induction d with
    | zero =>
      intro j hj hv
      rw [List.take_of_length_le (by omega)] at hv
      rw [decide_eq_false hv]
      exact Ev.step (f := fun _ => some false) (fun k => by simp only [spec_l03Find.l0]; rw [if_neg (by omega)]) (Ev.now _)
    | succ d ih =>
      intro j hj hv
      by_cases h : l[j]'(by omega) = v
      · rw [decide_eq_true (h ▸ List.getElem_mem _)]
        refine Ev.step (f := fun _ => some true) (fun k => ?_) (Ev.now _)
        simp only [spec_l03Find.l0]
        rw [if_pos (by omega), if_pos (by omega), rd_at (by omega), if_pos h]
      · refine Ev.step (fun k => ?_) (ih (j + 1) (by omega) (fun hm => by
          rcases (mem_take_succ (by omega)).1 hm with hm | hm
          · exact hv hm
          · exact h hm.symm))
        simp only [spec_l03Find.l0]
        rw [if_pos (by omega), if_pos (by omega), rd_at (by omega), if_neg h, w64 (by omega) (by omega)]; rfl
  exact key l.length 0 (by omega) (by simp)
def idx (l : List Int) (v : Int) : Int := if v ∈ l then (l.idxOf v : Int) else -1
theorem index_ev (l : List Int) (v : Int) (hl : l.length ≤ 9223372036854775807) : Ev (fun k => slices_Index_int_int.f k l v) (idx l v) := by
  have key : ∀ d j, j + d = l.length → v ∉ l.take j → Ev (fun k => slices_Index_int_int.l0 k l v (l.length : Int) (j : Int)) (idx l v) := by
    intro d
    induction d with
    | zero =>
      intro j hj hv
      rw [List.take_of_length_le (by omega)] at hv
      unfold idx; rw [if_neg hv]
      exact Ev.step (f := fun _ => some (-1)) (fun k => by simp only [slices_Index_int_int.l0]; rw [if_neg (by omega)]) (Ev.now _)
    | succ d ih =>
      intro j hj hv
      by_cases h : v = l[j]'(by omega)
      · have hm : v ∈ l := h ▸ List.getElem_mem _
        have hi : l.idxOf v = j := by
          have e : l = l.take j ++ (v :: l.drop (j + 1)) := by rw [h]; exact split_at (by omega)
          rw [e, List.idxOf_append]; simp [hv]; omega
        unfold idx; rw [if_pos hm, hi]
        refine Ev.step (f := fun _ => some (j : Int)) (fun k => ?_) (Ev.now _)
        simp only [slices_Index_int_int.l0]
        rw [if_pos (by omega), if_pos (by omega), if_pos (by omega), rd_at (by omega), if_pos h]
      · refine Ev.step (fun k => ?_) (ih (j + 1) (by omega) (fun hm => by
          rcases (mem_take_succ (by omega)).1 hm with hm | hm
          · exact hv hm
          · exact h hm))
        simp only [slices_Index_int_int.l0]
        rw [if_pos (by omega), if_pos (by omega), if_pos (by omega), rd_at (by omega), if_neg h, w64 (by omega) (by omega)]; rfl
  exact key l.length 0 (by omega) (by simp)
theorem contains_ev (l : List Int) (v : Int) (hl : l.length ≤ 9223372036854775807) : Ev (fun k => slices_Contains_int_int.f k l v) (decide (v ∈ l)) := by
  refine Ev.bind (index_ev l v hl) ?_
  have : decide (idx l v ≥ 0) = decide (v ∈ l) := by
    unfold idx; by_cases h : v ∈ l <;> simp [h]
  rw [this]; exact Ev.now _
end Go.Proofs.Ytkkoenbmokbglaa.Pure
end
section
namespace Go.Proofs.Ytkkoenbmokbglaa.Pure
open Go.RowKit Go.Proofs.YtkkoenbmokbglaaW.PrintWords Go.Proofs.YtkkoenbmokbglaaW.PrintLast Go.Proofs.YtkkoenbmokbglaaW.PrintMore
set_option linter.unusedVariables false
set_option linter.unusedSimpArgs false
theorem ev_from {σ α : Type} {g : Nat → σ → Int → Option α} (n : Nat) (step : σ → Nat → σ) (inv : Nat → σ → Prop) (fin : σ → α)
    (he : ∀ s, inv n s → Ev (fun k => g k s (n : Int)) (fin s))
    (hs : ∀ j s, j < n → inv j s → inv (j + 1) (step s j) ∧ ∀ r, Ev (fun k => g k (step s j) ((j + 1 : Nat) : Int)) r → Ev (fun k => g k s (j : Int)) r) :
    ∀ d j s, j + d = n → inv j s → Ev (fun k => g k s (j : Int)) (fin ((List.range' j d).foldl step s)) := by
  intro d
  induction d with
  | zero => intro j s hj hi; have : j = n := by omega
            subst this; exact he s hi
  | succ d ih =>
    intro j s hj hi
    obtain ⟨h1, h2⟩ := hs j s (by omega) hi
    exact h2 _ (by simpa [List.range'_succ] using ih (j + 1) (step s j) (by omega) h1)
theorem ev_for {σ α : Type} {g : Nat → σ → Int → Option α} (n : Nat) (step : σ → Nat → σ) (inv : Nat → σ → Prop) (fin : σ → α) (s0 : σ) (h0 : inv 0 s0)
    (he : ∀ s, inv n s → Ev (fun k => g k s (n : Int)) (fin s))
    (hs : ∀ j s, j < n → inv j s → inv (j + 1) (step s j) ∧ ∀ r, Ev (fun k => g k (step s j) ((j + 1 : Nat) : Int)) r → Ev (fun k => g k s (j : Int)) r) :
    Ev (fun k => g k s0 0) (fin ((List.range n).foldl step s0)) := by
  rw [List.range_eq_range']; exact ev_from n step inv fin he hs n 0 s0 (by omega) h0
theorem ev_all {g : Nat → Int → Option Bool} (n : Nat) (good : Nat → Prop) [DecidablePred good] (fin : Bool) (he : Ev (fun k => g k (n : Int)) fin)
    (hy : ∀ j, j < n → good j → ∀ r, Ev (fun k => g k ((j + 1 : Nat) : Int)) r → Ev (fun k => g k (j : Int)) r) (hn : ∀ j, j < n → (∀ i, i < j → good i) → ¬ good j → Ev (fun k => g k (j : Int)) false) :
    Ev (fun k => g k 0) (decide (∀ j, j < n → good j) && fin) := by
  have key : ∀ d j, j + d = n → (∀ i, i < j → good i) → Ev (fun k => g k (j : Int)) (decide (∀ i, i < n → good i) && fin) := by
    intro d
    induction d with
    | zero => intro j hj hg; have : j = n := by omega
              subst this; rw [decide_eq_true hg]; exact he
    | succ d ih =>
      intro j hj hg
      by_cases h : good j
      · exact hy j (by omega) h _ (ih (j + 1) (by omega) (fun i hi => by
          by_cases e : i = j
          · exact e ▸ h
          · exact hg i (by omega)))
      · rw [decide_eq_false (fun a => h (a j (by omega)))]; exact hn j (by omega) hg h
  exact key n 0 (by omega) (by intro i hi; omega)
theorem foldl_map {α : Type} (f : Nat → α) (l : List Nat) (s : List α) : l.foldl (fun s j => s ++ [f j]) s = s ++ l.map f := by
  induction l generalizing s with
  | nil => simp
  | cons a l ih => rw [List.foldl_cons, ih]; simp
end Go.Proofs.Ytkkoenbmokbglaa.Pure
end
section
namespace Go.Proofs.Ytkkoenbmokbglaa.Pure
open Go.RowKit Go.Proofs.Ytkkoenbmokbglaa.F Go.Proofs.YtkkoenbmokbglaaW.PrintWords Go.Proofs.YtkkoenbmokbglaaW.PrintLast Go.Proofs.YtkkoenbmokbglaaW.PrintMore
set_option linter.unusedVariables false
set_option linter.unusedSimpArgs false
def goodAt (w h : Int) (b : List Int) (j : Nat) : Prop := leads w h (rd b (j : Int)) ∧ (0 < j → rd b ((j - 1 : Nat) : Int) < rd b (j : Int))
instance (w h : Int) (b : List Int) (j : Nat) : Decidable (goodAt w h b j) := inferInstanceAs (Decidable (_ ∧ _))
def meshOk (w h : Int) (b : List Int) : Prop := (∀ j, j < b.length → goodAt w h b j) ∧ okG w h
instance (w h : Int) (b : List Int) : Decidable (meshOk w h b) := inferInstanceAs (Decidable (_ ∧ _))
def has (w h : Int) (b : List Int) (c : Int) : Prop := leads w h c ∧ c ∉ b
instance (w h : Int) (b : List Int) (c : Int) : Decidable (has w h b c) := inferInstanceAs (Decidable (_ ∧ _))
def hasC (w h : Int) (b : List Int) (c : Int) : Prop := meshOk w h b ∧ has w h b c
instance (w h : Int) (b : List Int) (c : Int) : Decidable (hasC w h b c) := inferInstanceAs (Decidable (_ ∧ _))
def endC (w h c : Int) : Int := next w h (c / 4) (c % 4)
def backC (w h c : Int) : Int := 4 * endC w h c + opp (c % 4)
def link (w h : Int) (b : List Int) (c : Int) : Prop := has w h b c ∧ has w h b (backC w h c)
instance (w h : Int) (b : List Int) (c : Int) : Decidable (link w h b c) := inferInstanceAs (Decidable (_ ∧ _))
theorem meshOk_ev (w h : Int) (b : List Int) (hb : b.length ≤ 9223372036854775806) : Ev (fun k => impl_MeshOk.f k w h b) (decide (meshOk w h b)) := by
  have := ev_all (g := fun k i => impl_MeshOk.l0 k b (b.length : Int) i w h b) b.length (goodAt w h b) (decide (okG w h))
    (Ev.step (f := fun _ => some (decide (okG w h))) (fun k => by simp only [impl_MeshOk.l0, gridOk_f, Option.bind_some]; rw [if_neg (by omega)]) (Ev.now _))
    (fun j hj hg r hr => Ev.step (fun k => by
      simp only [impl_MeshOk.l0, leads_f, Option.bind_some]
      rw [if_pos (by omega), if_pos (by omega), if_pos (by omega), if_pos (by simpa using hg.1), w64 (x := (j : Int) + 1) (by omega) (by omega)]
      by_cases h0 : 0 < j
      · have := hg.2 h0
        rw [if_pos (by omega), w64 (by omega) (by omega), show ((j : Int) - 1) = ((j - 1 : Nat) : Int) by omega, if_pos (by omega), if_pos (by omega), if_neg (by omega)]; rfl
      · rw [if_neg (by omega)]; rfl) hr)
    (fun j hj hp hg => Ev.step (f := fun _ => some false) (fun k => by
      simp only [impl_MeshOk.l0, leads_f, Option.bind_some]
      rw [if_pos (by omega), if_pos (by omega), if_pos (by omega)]
      by_cases hl : leads w h (rd b (j : Int))
      · rw [if_pos (by simpa using hl)]
        by_cases h0 : 0 < j
        · have : ¬ rd b ((j - 1 : Nat) : Int) < rd b (j : Int) := fun h => hg ⟨hl, fun _ => h⟩
          rw [if_pos (by omega), w64 (by omega) (by omega), show ((j : Int) - 1) = ((j - 1 : Nat) : Int) by omega, if_pos (by omega), if_pos (by omega), if_pos (by omega)]
        · exact absurd ⟨hl, fun h => absurd h h0⟩ hg
      · rw [if_neg (by simpa using hl)]) (Ev.now _))
  rw [show decide (meshOk w h b) = (decide (∀ j, j < b.length → goodAt w h b j) && decide (okG w h)) from Bool.decide_and ..]
  exact this
theorem specMeshOk_ev (w h : Int) (b : List Int) (hb : b.length ≤ 9223372036854775806) : Ev (fun k => spec_MeshOk.f k w h b) (decide (meshOk w h b)) := by
  have := ev_all (g := fun k i => spec_MeshOk.l0 k i w h b) b.length (goodAt w h b) true
    (Ev.step (f := fun _ => some true) (fun k => by simp only [spec_MeshOk.l0]; rw [if_neg (by omega)]) (Ev.now _))
    (fun j hj hg r hr => Ev.step (fun k => by
      simp only [spec_MeshOk.l0, specLeads_eq, leads_f, Option.bind_some]
      rw [if_pos (by omega), if_pos (by omega), if_pos (by simpa using hg.1), w64 (x := (j : Int) + 1) (by omega) (by omega)]
      by_cases h0 : 0 < j
      · have := hg.2 h0
        rw [if_pos (by omega), w64 (by omega) (by omega), show ((j : Int) - 1) = ((j - 1 : Nat) : Int) by omega, if_pos (by omega), if_pos (by omega), if_neg (by omega)]; rfl
      · rw [if_neg (by omega)]; rfl) hr)
    (fun j hj hp hg => Ev.step (f := fun _ => some false) (fun k => by
      simp only [spec_MeshOk.l0, specLeads_eq, leads_f, Option.bind_some]
      rw [if_pos (by omega), if_pos (by omega)]
      by_cases hl : leads w h (rd b (j : Int))
      · rw [if_pos (by simpa using hl)]
        by_cases h0 : 0 < j
        · have : ¬ rd b ((j - 1 : Nat) : Int) < rd b (j : Int) := fun h => hg ⟨hl, fun _ => h⟩
          rw [if_pos (by omega), w64 (by omega) (by omega), show ((j : Int) - 1) = ((j - 1 : Nat) : Int) by omega, if_pos (by omega), if_pos (by omega), if_pos (by omega)]
        · exact absurd ⟨hl, fun h => absurd h h0⟩ hg
      · rw [if_neg (by simpa using hl)]) (Ev.now _))
  unfold spec_MeshOk.f
  simp only [specGridOk_eq, gridOk_f, Option.bind_some]
  by_cases h0 : okG w h
  · refine Ev.ifp (by simpa using h0) ?_
    rw [show decide (meshOk w h b) = (decide (∀ j, j < b.length → goodAt w h b j) && true) by
      rw [show decide (meshOk w h b) = (decide (∀ j, j < b.length → goodAt w h b j) && decide (okG w h)) from Bool.decide_and .., decide_eq_true h0]]
    exact this
  · refine Ev.ifn (by simpa using h0) ?_
    rw [decide_eq_false (fun e : meshOk w h b => h0 e.2)]; exact Ev.now _
theorem hasChannel_ev (w h : Int) (b : List Int) (c : Int) (hb : b.length ≤ 9223372036854775806) : Ev (fun k => impl_HasChannel.f k w h b c) (decide (hasC w h b c)) := by
  refine Ev.bind (meshOk_ev w h b hb) ?_
  by_cases h1 : meshOk w h b
  · refine Ev.ifp (by simpa using h1) ?_
    simp only [leads_f, Option.bind_some]
    by_cases h2 : leads w h c
    · refine Ev.ifp (by simpa using h2) (Ev.bind (contains_ev b c (by omega)) ?_)
      have : (!decide (c ∈ b)) = decide (hasC w h b c) := by simp [hasC, has, h1, h2]
      rw [this]; exact Ev.now _
    · refine Ev.ifn (by simpa using h2) ?_
      rw [decide_eq_false (fun e : hasC w h b c => h2 e.2.1)]; exact Ev.now _
  · refine Ev.ifn (by simpa using h1) ?_
    rw [decide_eq_false (fun e : hasC w h b c => h1 e.1)]; exact Ev.now _
theorem specHas_ev (w h : Int) (b : List Int) (c : Int) (hb : b.length ≤ 9223372036854775806) : Ev (fun k => spec_l03Has.f k w h b c) (decide (has w h b c)) := by
  unfold spec_l03Has.f
  simp only [specLeads_eq, leads_f, Option.bind_some]
  by_cases h2 : leads w h c
  · refine Ev.ifp (by simpa using h2) (Ev.bind (l03Find_ev b c (by omega)) ?_)
    have : (!decide (c ∈ b)) = decide (has w h b c) := by simp [has, h2]
    rw [this]; exact Ev.now _
  · refine Ev.ifn (by simpa using h2) ?_
    rw [decide_eq_false (fun e : has w h b c => h2 e.1)]; exact Ev.now _
theorem leads_lt {w h c : Int} (h1 : leads w h c) : 0 ≤ c ∧ c < 64 := by
  have := cnt_range w h; have := h1.1; omega
theorem endOf_f (w h : Int) (b : List Int) (c : Int) (h0 : 0 ≤ c) (h1 : c ≤ 9223372036854775807) : impl_endOf.f w h b c = some (endC w h c) := by
  unfold impl_endOf.f endC
  simp only [next_f, Option.bind_some]
  rw [Int.tdiv_eq_ediv_of_nonneg h0, Int.tmod_eq_emod_of_nonneg h0, w64 (by omega) (by omega)]
theorem endC_range (w h c : Int) : -1 ≤ endC w h c ∧ endC w h c < 16 := by
  have := next_range w h (c / 4) (c % 4); have := cnt_range w h; unfold endC; omega
theorem opp_range (p : Int) : -1 ≤ opp p ∧ opp p ≤ 4 := by unfold opp; split <;> (try split) <;> omega
theorem back_f (w h : Int) (b : List Int) (c : Int) (h0 : 0 ≤ c) (h1 : c ≤ 9223372036854775807) : impl_back.f w h b c = some (backC w h c) := by
  unfold impl_back.f backC
  have := endC_range w h c; have := opp_range (c % 4)
  simp only [endOf_f w h b c h0 h1, Option.bind_some]
  rw [Int.tmod_eq_emod_of_nonneg h0, opp_f]; simp only [Option.bind_some]
  rw [w64 (x := 4 * endC w h c) (by omega) (by omega), w64 (by omega) (by omega)]
theorem isLink_ev (w h : Int) (b : List Int) (c : Int) (hb : b.length ≤ 9223372036854775806) : Ev (fun k => impl_IsLink.f k w h b c) (decide (meshOk w h b ∧ link w h b c)) := by
  refine Ev.bind (hasChannel_ev w h b c hb) ?_
  by_cases h1 : hasC w h b c
  · have := leads_lt h1.2.1
    refine Ev.ifp (by simpa using h1) ?_
    simp only [back_f w h b c (by omega) (by omega), Option.bind_some]
    refine Ev.bind (hasChannel_ev w h b _ hb) ?_
    have : decide (hasC w h b (backC w h c)) = decide (meshOk w h b ∧ link w h b c) := decide_eq_decide.2 ⟨fun e => ⟨e.1, h1.2, e.2⟩, fun e => ⟨e.1, e.2.2⟩⟩
    rw [this]; exact Ev.now _
  · refine Ev.ifn (by simpa using h1) ?_
    rw [decide_eq_false (fun e => h1 ⟨e.1, e.2.1⟩)]; exact Ev.now _
theorem l31Link_ev (w h : Int) (b : List Int) (c : Int) (hb : b.length ≤ 9223372036854775806) : Ev (fun k => spec_l31Link.f k w h b c) (decide (link w h b c)) := by
  refine Ev.bind (specHas_ev w h b c hb) ?_
  by_cases h1 : has w h b c
  · have := leads_lt h1.1
    have := endC_range w h c; have := opp_range (c % 4)
    refine Ev.ifp (by simpa using h1) ?_
    simp only [specNext_eq, next_f, specOpp_eq, opp_f, Option.bind_some]
    rw [Int.tdiv_eq_ediv_of_nonneg (by omega), Int.tmod_eq_emod_of_nonneg (by omega), w64 (x := c / 4) (by omega) (by omega), show next w h (c / 4) (c % 4) = endC w h c from rfl, w64 (x := 4 * endC w h c) (by omega) (by omega), w64 (by omega) (by omega)]
    refine Ev.bind (specHas_ev w h b _ hb) ?_
    have : decide (has w h b (4 * endC w h c + opp (c % 4))) = decide (link w h b c) := decide_eq_decide.2 ⟨fun e => ⟨h1, e⟩, fun e => e.2⟩
    rw [this]; exact Ev.now _
  · refine Ev.ifn (by simpa using h1) ?_
    rw [decide_eq_false (fun e : link w h b c => h1 e.1)]; exact Ev.now _
theorem ev_run {σ α : Type} {g : Nat → σ → Int → Option α} (n : Nat) (step : σ → Nat → σ) (inv : Nat → σ → Prop) (r : α)
    (hs : ∀ j s, j < n → inv j s → inv (j + 1) (step s j) ∧ (Ev (fun k => g k (step s j) ((j + 1 : Nat) : Int)) r → Ev (fun k => g k s (j : Int)) r)) (s0 : σ) (h0 : inv 0 s0)
    (he : inv n ((List.range n).foldl step s0) → Ev (fun k => g k ((List.range n).foldl step s0) (n : Int)) r) : Ev (fun k => g k s0 0) r := by
  have key : ∀ d j s, j + d = n → inv j s → (inv n ((List.range' j d).foldl step s) → Ev (fun k => g k ((List.range' j d).foldl step s) (n : Int)) r) → Ev (fun k => g k s (j : Int)) r := by
    intro d
    induction d with
    | zero => intro j s hj hi h; have : j = n := by omega
              subst this; exact h hi
    | succ d ih =>
      intro j s hj hi h
      obtain ⟨h1, h2⟩ := hs j s (by omega) hi
      exact h2 (ih (j + 1) (step s j) (by omega) h1 (by simpa [List.range'_succ] using h))
  rw [List.range_eq_range'] at he
  exact key n 0 s0 (by omega) h0 he

def neg (s : List Int) : Nat := s.countP (· < 0)
theorem rd_set {s : List Int} {k x v : Int} (h0 : 0 ≤ k) (h1 : k < s.length) (hx : 0 ≤ x) : rd (s.set k.toNat v) x = if x = k then v else rd s x := by
  obtain ⟨i, rfl⟩ := Int.eq_ofNat_of_zero_le h0
  obtain ⟨j, rfl⟩ := Int.eq_ofNat_of_zero_le hx
  simp only [Int.toNat_natCast]
  by_cases hj : j < s.length
  · rw [rd_at (by simpa using hj), rd_at hj, List.getElem_set]
    by_cases e : i = j
    · subst e; simp
    · rw [if_neg e, if_neg (by omega)]
  · rw [if_neg (by omega)]
    simp [rd, hj]
theorem rd_neg_lt {s : List Int} {x : Int} (h0 : 0 ≤ x) (h : rd s x < 0) : x < s.length := by
  obtain ⟨j, rfl⟩ := Int.eq_ofNat_of_zero_le h0
  by_cases hj : j < s.length
  · omega
  · simp [rd, hj] at h
theorem neg_set {s : List Int} {k v : Int} (h0 : 0 ≤ k) (h1 : k < s.length) (h : rd s k < 0) (hv : 0 ≤ v) : neg (s.set k.toNat v) + 1 = neg s := by
  obtain ⟨i, rfl⟩ := Int.eq_ofNat_of_zero_le h0
  have hi : i < s.length := by omega
  rw [rd_at hi] at h
  unfold neg
  rw [Int.toNat_natCast, List.countP_set hi]
  have : 0 < s.countP (· < 0) := List.countP_pos_iff.2 ⟨_, List.getElem_mem hi, by simpa using h⟩
  rw [if_pos (by simpa using h), if_neg (by simp; omega)]
  omega

def vst (w h : Int) (b : List Int) (a d : Int) (x : List Int × List Int) (p : Nat) : List Int × List Int :=
  if link w h b (4 * a + p) ∧ rd x.1 (next w h a p) < 0 then (x.1.set (next w h a p).toNat d, x.2 ++ [next w h a p]) else x
def vis (w h : Int) (b : List Int) (a d : Int) (x : List Int × List Int) : List Int × List Int := (List.range 4).foldl (vst w h b a d) x

theorem link_next {w h : Int} {b : List Int} {a : Int} {p : Nat} (hp : p < 4) (h1 : link w h b (4 * a + p)) : isN w h a ∧ isN w h (next w h a p) ∧ endC w h (4 * a + p) = next w h a p := by
  obtain ⟨⟨⟨h2, h3⟩, _⟩, _⟩ := h1
  have e1 : (4 * a + (p : Int)) / 4 = a := by omega
  have e2 : (4 * a + (p : Int)) % 4 = p := by omega
  have := next_range w h a p
  unfold endC
  rw [e1, e2] at h3 ⊢
  refine ⟨⟨by omega, by omega⟩, ⟨h3, by omega⟩, rfl⟩

structure Ext (w h : Int) (d : Int) (x y : List Int × List Int) : Prop where
  len : y.1.length = x.1.length
  old : ∀ v, 0 ≤ v → 0 ≤ rd x.1 v → rd y.1 v = rd x.1 v
  new : ∀ v ∈ y.2, v ∈ x.2 ∨ (isN w h v ∧ rd y.1 v = d)
  sum : neg y.1 + y.2.length = neg x.1 + x.2.length
  pre : ∀ v ∈ x.2, v ∈ y.2
  low : (∀ v ∈ x.1, -1 ≤ v ∧ v ≤ d) → ∀ v ∈ y.1, -1 ≤ v ∧ v ≤ d
theorem Ext.rfl' {w h d : Int} {x : List Int × List Int} : Ext w h d x x := ⟨rfl, fun _ _ _ => rfl, fun _ h => .inl h, rfl, fun _ h => h, fun h => h⟩
theorem Ext.trans {w h d : Int} {x y z : List Int × List Int} (hd : 0 ≤ d) (a : Ext w h d x y) (b : Ext w h d y z) : Ext w h d x z where
  len := b.len.trans a.len
  old v h0 h1 := by
    have e := a.old v h0 h1
    rw [b.old v h0 (by omega), e]
  new v hv := by
    rcases b.new v hv with h1 | h1
    · rcases a.new v h1 with h2 | ⟨h2, h3⟩
      · exact .inl h2
      · exact .inr ⟨h2, by rw [b.old v h2.1 (by omega), h3]⟩
    · exact .inr h1
  sum := b.sum.trans a.sum
  pre v h := b.pre v (a.pre v h)
  low h := b.low (a.low h)
theorem vst_ext {w h : Int} {b : List Int} {a d : Int} {x : List Int × List Int} {p : Nat} (hp : p < 4) (hd : 0 ≤ d) : Ext w h d x (vst w h b a d x p) := by
  unfold vst
  by_cases hc : link w h b (4 * a + p) ∧ rd x.1 (next w h a p) < 0
  · rw [if_pos hc]
    obtain ⟨h1, h2, h3⟩ := link_next hp hc.1
    have h4 := rd_neg_lt h2.1 hc.2
    have := neg_set h2.1 h4 hc.2 hd
    refine ⟨by simp, fun v h0 h5 => ?_, fun v hv => ?_, by simp; omega, fun v hv => by simp [hv], fun hl v hv => ?_⟩
    · simp only
      rw [rd_set h2.1 h4 h0, if_neg (by intro e; subst e; omega)]
    · simp only [List.mem_append, List.mem_singleton] at hv
      rcases hv with hv | rfl
      · exact .inl hv
      · exact .inr ⟨h2, by simp only; rw [rd_set h2.1 h4 h2.1, if_pos rfl]⟩
    · rcases List.mem_or_eq_of_mem_set hv with h6 | rfl
      · exact hl v h6
      · omega
  · rw [if_neg hc]; exact Ext.rfl'
theorem foldl_ext {w h : Int} {b : List Int} {a d : Int} (hd : 0 ≤ d) : ∀ (l : List Nat) (x : List Int × List Int), (∀ p ∈ l, p < 4) → Ext w h d x (l.foldl (vst w h b a d) x)
  | [], x, _ => Ext.rfl'
  | p :: l, x, hp => (vst_ext (hp p (by simp)) hd).trans hd (foldl_ext hd l _ (fun q hq => hp q (by simp [hq])))
theorem vis_ext {w h : Int} {b : List Int} {a d : Int} (hd : 0 ≤ d) (x : List Int × List Int) : Ext w h d x (vis w h b a d x) := foldl_ext hd _ _ (by simp)
theorem vst_app {w h : Int} {b : List Int} {a d : Int} (s q q' : List Int) (p : Nat) : vst w h b a d (s, q ++ q') p = ((vst w h b a d (s, q') p).1, q ++ (vst w h b a d (s, q') p).2) := by
  unfold vst
  simp only
  split <;> simp
theorem foldl_app {w h : Int} {b : List Int} {a d : Int} (q : List Int) : ∀ (l : List Nat) (s q' : List Int), l.foldl (vst w h b a d) (s, q ++ q') = ((l.foldl (vst w h b a d) (s, q')).1, q ++ (l.foldl (vst w h b a d) (s, q')).2)
  | [], s, q' => rfl
  | p :: l, s, q' => by
    rw [List.foldl_cons, List.foldl_cons, vst_app]
    exact foldl_app q l _ _
theorem vis_app {w h : Int} {b : List Int} {a d : Int} (q s q' : List Int) : vis w h b a d (s, q ++ q') = ((vis w h b a d (s, q')).1, q ++ (vis w h b a d (s, q')).2) := foldl_app q _ _ _

inductive Run (w h : Int) (b : List Int) : List Int → List Int → List Int → Int → List Int → Prop
  | done (s : List Int) (d : Int) : Run w h b s [] [] d s
  | level {s : List Int} {x : Int} {nx : List Int} {d : Int} {r : List Int} : Run w h b s (x :: nx) [] (d + 1) r → Run w h b s [] (x :: nx) d r
  | node {s : List Int} {a : Int} {rest nx : List Int} {d : Int} {r : List Int} : Run w h b (vis w h b a d (s, nx)).1 rest (vis w h b a d (s, nx)).2 d r → Run w h b s (a :: rest) nx d r

structure Inv (w h : Int) (s rest nx : List Int) (d : Int) : Prop where
  len : (s.length : Int) = cnt w h
  fr : ∀ v ∈ rest, isN w h v ∧ rd s v = d - 1
  nw : ∀ v ∈ nx, isN w h v ∧ rd s v = d
  one : 1 ≤ d
  sum : d + neg s + nx.length ≤ cnt w h
  low : ∀ v ∈ s, -1 ≤ v ∧ v ≤ d
theorem Inv.level {w h : Int} {s nx : List Int} {x d : Int} (i : Inv w h s [] (x :: nx) d) : Inv w h s (x :: nx) [] (d + 1) :=
  ⟨i.len, fun v hv => ⟨(i.nw v hv).1, by have := (i.nw v hv).2; omega⟩, by simp, by have := i.one; omega, by have := i.sum; simp at this ⊢; omega, fun v hv => by have := i.low v hv; omega⟩
theorem Inv.node {w h : Int} {b s rest nx : List Int} {a d : Int} (i : Inv w h s (a :: rest) nx d) : Inv w h (vis w h b a d (s, nx)).1 rest (vis w h b a d (s, nx)).2 d := by
  have h1 := i.one
  have e := vis_ext (w := w) (h := h) (b := b) (a := a) (d := d) (by omega) (s, nx)
  refine ⟨by rw [e.len]; exact i.len, fun v hv => ?_, fun v hv => ?_, h1, ?_, e.low i.low⟩
  · obtain ⟨h2, h3⟩ := i.fr v (by simp [hv])
    exact ⟨h2, by rw [e.old v h2.1 (by simp only; omega)]; exact h3⟩
  · rcases e.new v hv with h2 | h2
    · obtain ⟨h3, h4⟩ := i.nw v h2
      exact ⟨h3, by rw [e.old v h3.1 (by simp only; omega)]; exact h4⟩
    · exact h2
  · have := e.sum; have := i.sum; simp only at *; omega
theorem run_ex {w h : Int} {b : List Int} : ∀ (m : Nat) (s rest nx : List Int) (d : Int), 3 * neg s + 2 * nx.length + rest.length ≤ m → Inv w h s rest nx d → ∃ r, Run w h b s rest nx d r := by
  intro m
  induction m with
  | zero =>
    intro s rest nx d hm i
    cases rest with
    | nil => cases nx with
      | nil => exact ⟨s, .done s d⟩
      | cons x nx => simp at hm
    | cons a rest => simp at hm
  | succ m ih =>
    intro s rest nx d hm i
    cases rest with
    | nil => cases nx with
      | nil => exact ⟨s, .done s d⟩
      | cons x nx =>
        obtain ⟨r, hr⟩ := ih s (x :: nx) [] (d + 1) (by simp at hm ⊢; omega) i.level
        exact ⟨r, .level hr⟩
    | cons a rest =>
      have e := (vis_ext (w := w) (h := h) (b := b) (a := a) (d := d) (by have := i.one; omega) (s, nx)).sum
      have e2 := (vis_ext (w := w) (h := h) (b := b) (a := a) (d := d) (by have := i.one; omega) (s, nx))
      have h1 : nx.length ≤ (vis w h b a d (s, nx)).2.length := by
        have := vis_app (w := w) (h := h) (b := b) (a := a) (d := d) nx s []
        rw [List.append_nil] at this; rw [this]; simp
      simp only at e
      obtain ⟨r, hr⟩ := ih (vis w h b a d (s, nx)).1 rest (vis w h b a d (s, nx)).2 d (by simp at hm; omega) i.node
      exact ⟨r, .node hr⟩

theorem implBfs_ev {w h : Int} {b : List Int} (hm : meshOk w h b) (hb : b.length ≤ 1048576) {s rest nx : List Int} {d : Int} {r : List Int} (R : Run w h b s rest nx d r) :
    ∀ don : List Int, Inv w h s rest nx d → ((don.length + rest.length + nx.length + neg s : Nat) : Int) = cnt w h → Ev (fun k => impl_TreeDepths.l0 k s (don ++ rest ++ nx) (don.length : Int) w h b) r := by
  have hc := cnt_range w h
  induction R with
  | done s d =>
    intro don i hq
    exact Ev.step (f := fun _ => some s) (fun k => by simp only [impl_TreeDepths.l0]; rw [if_neg (by simp)]) (Ev.now _)
  | @level s x nx d r _ ih =>
    intro don i hq
    have := ih don i.level (by simp at hq ⊢; omega)
    simpa using this
  | @node s a rest nx d r _ ih =>
    intro don i hq
    have h1 := i.one
    have hs := i.sum
    obtain ⟨ha, hd⟩ := i.fr a (by simp)
    have ha1 := (isN_ok ha).2
    have e := vis_ext (w := w) (h := h) (b := b) (a := a) (d := d) (by omega) (s, nx)
    have := ih (don ++ [a]) i.node (by have := e.sum; simp at this hq ⊢; omega)
    have hra : rd (don ++ a :: rest ++ nx) (don.length : Int) = a := by rw [rd_at (by simp)]; simp
    refine Ev.step (fun k => by simp only [impl_TreeDepths.l0]; rw [if_pos (by simp; omega), if_pos (by omega), hra]) ?_
    refine ev_run (g := fun k x p => impl_TreeDepths.l1 k x.1 x.2 (don.length : Int) a p w h b) 4 (vst w h b a d) (fun _ x => Ext w h d (s, don ++ a :: rest ++ nx) x) r (fun p x hp hx => ?_) (s, don ++ a :: rest ++ nx) Ext.rfl' (fun _ => ?_)
    · have hv := vst_ext (w := w) (h := h) (b := b) (a := a) (x := x) hp (by omega : 0 ≤ d)
      refine ⟨hx.trans (by omega) hv, fun hr => ?_⟩
      have hrs : rd x.1 a = d - 1 := by rw [hx.old a ha.1 (by simp only; omega)]; exact hd
      have hlen : (x.1.length : Int) = cnt w h := by rw [hx.len]; exact i.len
      have hql : x.2.length ≤ 16 := by have := hx.sum; simp at this hq; omega
      refine Ev.step (fun k => by
        simp only [impl_TreeDepths.l1]
        rw [if_pos (by omega), w64 (x := 4 * a) (by omega) (by omega), w64 (x := 4 * a + p) (by omega) (by omega), w64 (x := (p : Int) + 1) (by omega) (by omega)]) (Ev.bind (isLink_ev w h b _ (by omega)) ?_)
      by_cases hl : link w h b (4 * a + p)
      · obtain ⟨_, hn, he⟩ := link_next hp hl
        refine Ev.ifp (by simp [hm, hl]) ?_
        simp only [endOf_f w h b (4 * a + (p : Int)) (by omega) (by omega), he, Option.bind_some]
        refine Ev.ifp hn.1 (Ev.ifp (by have := hn.2; omega) ?_)
        by_cases hz : rd x.1 (next w h a p) < 0
        · refine Ev.ifp hz (Ev.ifp (by omega) (Ev.ifp (by have := ha.2; omega) (Ev.ifp (by omega) ?_)))
          rw [hrs, w64 (by omega) (by omega), show d - 1 + 1 = d by omega]
          have e1 : vst w h b a d x p = (x.1.set (next w h a p).toNat d, x.2 ++ [next w h a p]) := if_pos ⟨hl, hz⟩
          rw [e1] at hr; exact hr
        · refine Ev.ifn hz ?_
          have e1 : vst w h b a d x p = x := if_neg (fun e => hz e.2)
          rw [e1] at hr; exact hr
      · refine Ev.ifn (by simp [hl]) ?_
        have e1 : vst w h b a d x p = x := if_neg (fun e => hl e.1)
        rw [e1] at hr; exact hr
    · refine Ev.step (fun k => by simp only [impl_TreeDepths.l1]; rw [if_neg (by omega), w64 (x := (don.length : Int) + 1) (by omega) (by simp at hq; omega)]) ?_
      have e2 : (List.range 4).foldl (vst w h b a d) (s, don ++ a :: rest ++ nx) = ((vis w h b a d (s, nx)).1, (don ++ a :: rest) ++ (vis w h b a d (s, nx)).2) := vis_app (don ++ a :: rest) s nx
      rw [e2]
      simpa using this

theorem specBfs_ev {w h : Int} {b : List Int} (hm : meshOk w h b) (hb : b.length ≤ 1048576) {s rest nx : List Int} {d : Int} {r : List Int} (R : Run w h b s rest nx d r) :
    ∀ don : List Int, Inv w h s rest nx d → (don.length + rest.length ≤ 1048576) → Ev (fun k => spec_l31Depths.l2 k s (don ++ rest) d nx (don.length : Int) w h b) r := by
  have hc := cnt_range w h
  induction R with
  | done s d =>
    intro don i hq
    have h1 := i.one
    have hs := i.sum
    exact Ev.step (fun k => by simp only [spec_l31Depths.l2]; rw [if_neg (by simp)]) (Ev.step (f := fun _ => some s) (fun k => by simp only [spec_l31Depths.l1]; rw [if_neg (by simp)]) (Ev.now _))
  | @level s x nx d r _ ih =>
    intro don i hq
    have h1 := i.one
    have hs := i.sum
    have := ih [] i.level (by simp at hs ⊢; omega)
    exact Ev.step (fun k => by simp only [spec_l31Depths.l2]; rw [if_neg (by simp)]) (Ev.step (fun k => by simp only [spec_l31Depths.l1]; rw [if_pos (by simp), w64 (by omega) (by omega)]) (by simpa using this))
  | @node s a rest nx d r _ ih =>
    intro don i hq
    have h1 := i.one
    have hs := i.sum
    obtain ⟨ha, hd⟩ := i.fr a (by simp)
    have ha1 := (isN_ok ha).2
    have e := vis_ext (w := w) (h := h) (b := b) (a := a) (d := d) (by omega) (s, nx)
    have := ih (don ++ [a]) i.node (by simp at hq ⊢; omega)
    have hra : rd (don ++ a :: rest) (don.length : Int) = a := by rw [rd_at (by simp)]; simp
    refine Ev.step (fun k => by simp only [spec_l31Depths.l2]; rw [if_pos (by simp; omega)]) ?_
    refine ev_run (g := fun k x p => spec_l31Depths.l3 k x.1 (don ++ a :: rest) d x.2 (don.length : Int) p w h b) 4 (vst w h b a d) (fun _ x => Ext w h d (s, nx) x) r (fun p x hp hx => ?_) (s, nx) Ext.rfl' (fun _ => ?_)
    · have hv := vst_ext (w := w) (h := h) (b := b) (a := a) (x := x) hp (by omega : 0 ≤ d)
      refine ⟨hx.trans (by omega) hv, fun hr => ?_⟩
      have hlen : (x.1.length : Int) = cnt w h := by rw [hx.len]; exact i.len
      have hql : x.2.length ≤ 16 := by have := hx.sum; simp at this; omega
      refine Ev.step (fun k => by
        simp only [spec_l31Depths.l3]
        rw [if_pos (by omega), if_pos (by omega), if_pos (by simp; omega), hra, w64 (x := 4 * a) (by omega) (by omega), w64 (x := 4 * a + p) (by omega) (by omega), w64 (x := (p : Int) + 1) (by omega) (by omega)]) (Ev.bind (l31Link_ev w h b _ (by omega)) ?_)
      by_cases hl : link w h b (4 * a + p)
      · obtain ⟨_, hn, he⟩ := link_next hp hl
        refine Ev.ifp (by simp [hl]) ?_
        simp only [specNext_eq, next_f, Option.bind_some]
        refine Ev.ifp hn.1 (Ev.ifp (by have := hn.2; omega) ?_)
        by_cases hz : rd x.1 (next w h a p) < 0
        · refine Ev.ifp hz (Ev.ifp (by omega) ?_)
          have e1 : vst w h b a d x p = (x.1.set (next w h a p).toNat d, x.2 ++ [next w h a p]) := if_pos ⟨hl, hz⟩
          rw [e1] at hr; exact hr
        · refine Ev.ifn hz ?_
          have e1 : vst w h b a d x p = x := if_neg (fun e => hz e.2)
          rw [e1] at hr; exact hr
      · refine Ev.ifn (by simp [hl]) ?_
        have e1 : vst w h b a d x p = x := if_neg (fun e => hl e.1)
        rw [e1] at hr; exact hr
    · refine Ev.step (fun k => by simp only [spec_l31Depths.l3]; rw [if_neg (by omega), w64 (x := (don.length : Int) + 1) (by omega) (by omega)]) ?_
      have e2 : (List.range 4).foldl (vst w h b a d) (s, nx) = ((vis w h b a d (s, nx)).1, (vis w h b a d (s, nx)).2) := rfl
      rw [e2]
      simpa using this

def start (w h root : Int) : List Int := (List.replicate (cnt w h).toNat (-1)).set root.toNat 0
theorem start_inv {w h root : Int} (hr : isN w h root) : Inv w h (start w h root) [root] [] 1 ∧ ((neg (start w h root) : Nat) : Int) + 1 = cnt w h := by
  have hc := cnt_range w h
  have hl : root < ((List.replicate (cnt w h).toNat (-1 : Int)).length : Int) := by have := hr.2; simp; omega
  have h0 : rd (List.replicate (cnt w h).toNat (-1 : Int)) root = -1 := by
    have := rd_mem hr.1 hl
    exact List.eq_of_mem_replicate this
  have h1 := neg_set (v := 0) hr.1 hl (by omega) (by omega)
  have h2 : neg (List.replicate (cnt w h).toNat (-1 : Int)) = (cnt w h).toNat := by unfold neg; simp [List.countP_replicate]
  rw [h2] at h1
  have h3 : ((neg (start w h root) : Nat) : Int) + 1 = cnt w h := by unfold start; omega
  refine ⟨⟨by unfold start; simp; omega, fun v hv => ?_, by simp, by omega, by simp; omega, fun v hv => ?_⟩, h3⟩
  · simp only [List.mem_singleton] at hv
    subst hv
    refine ⟨hr, ?_⟩
    unfold start; rw [rd_set hr.1 hl hr.1, if_pos rfl]; omega
  · rcases List.mem_or_eq_of_mem_set hv with h6 | rfl
    · have := List.eq_of_mem_replicate h6; omega
    · omega
theorem Run.inv {w h : Int} {b s rest nx : List Int} {d : Int} {r : List Int} (R : Run w h b s rest nx d r) : Inv w h s rest nx d → ∃ d', Inv w h r [] [] d' := by
  induction R with
  | done s d => exact fun i => ⟨d, i⟩
  | level _ ih => exact fun i => ih i.level
  | node _ ih => exact fun i => ih i.node

theorem isRoot_ev (w h : Int) (b : List Int) (root : Int) (hb : b.length ≤ 1048576) : Ev (fun k => impl_isRoot.f k w h b root) (decide (meshOk w h b ∧ isN w h root)) := by
  refine Ev.bind (meshOk_ev w h b (by omega)) ?_
  by_cases h1 : meshOk w h b
  · refine Ev.ifp (by simpa using h1) ?_
    simp only [isNode_f, Option.bind_some]
    rw [decide_eq_decide.2 (show isN w h root ↔ meshOk w h b ∧ isN w h root from ⟨fun e => ⟨h1, e⟩, fun e => e.2⟩)]; exact Ev.now _
  · refine Ev.ifn (by simpa using h1) ?_
    rw [decide_eq_false (fun e => h1 e.1)]; exact Ev.now _
theorem l31Ok_ev (w h : Int) (b : List Int) (root : Int) (hb : b.length ≤ 1048576) : Ev (fun k => spec_l31Ok.f k w h b root) (decide (meshOk w h b ∧ isN w h root)) := by
  refine Ev.bind (specMeshOk_ev w h b (by omega)) ?_
  by_cases h1 : meshOk w h b
  · refine Ev.ifp (by simpa using h1) ?_
    simp only [specHas_eq, isNode_f, Option.bind_some]
    rw [decide_eq_decide.2 (show isN w h root ↔ meshOk w h b ∧ isN w h root from ⟨fun e => ⟨h1, e⟩, fun e => e.2⟩)]; exact Ev.now _
  · refine Ev.ifn (by simpa using h1) ?_
    rw [decide_eq_false (fun e => h1 e.1)]; exact Ev.now _

theorem treeDepths_no {w h : Int} {b : List Int} {root : Int} (hb : b.length ≤ 1048576) (hn : ¬ (meshOk w h b ∧ isN w h root)) : Ev (fun k => impl_TreeDepths.f k w h b root) [] :=
  Ev.bind (isRoot_ev w h b root hb) (Ev.ifn (by simpa using hn) (Ev.now _))
theorem treeDepths_ev {w h : Int} {b : List Int} {root : Int} (hb : b.length ≤ 1048576) (hm : meshOk w h b) (hr : isN w h root) {r : List Int} (R : Run w h b (start w h root) [root] [] 1 r) : Ev (fun k => impl_TreeDepths.f k w h b root) r := by
  have hc := cnt_range w h
  obtain ⟨i, hq⟩ := start_inv hr
  have hr1 := hr.2
  have hr0 := hr.1
  have key := implBfs_ev hm hb R [] i (by simp; omega)
  refine Ev.bind (isRoot_ev w h b root hb) (Ev.ifp (by simp [hm, hr]) ?_)
  have e1 : slices_Repeat_int_int.f [-1] (cnt w h) = some (List.replicate (cnt w h).toNat (-1)) := by
    unfold slices_Repeat_int_int.f
    rw [if_pos (by simp), if_pos (by omega), if_pos (by omega)]; rfl
  simp only [nodeCount_f, e1, Option.bind_some]
  exact Ev.ifp (by omega) (Ev.ifp (by simp; omega) (by simpa [start] using key))
theorem specL31Depths_ev {w h : Int} {b : List Int} {root : Int} (hb : b.length ≤ 1048576) (hm : meshOk w h b) (hr : isN w h root) {r : List Int} (R : Run w h b (start w h root) [root] [] 1 r) : Ev (fun k => spec_l31Depths.f k w h b root) r := by
  have hc := cnt_range w h
  obtain ⟨i, hq⟩ := start_inv hr
  have hr1 := hr.2
  have hr0 := hr.1
  have key := specBfs_ev hm hb R [] i (by simp)
  unfold spec_l31Depths.f
  have hrep : (List.range (cnt w h).toNat).foldl (fun (s : List Int) _ => s ++ [-1]) [] = List.replicate (cnt w h).toNat (-1) := by
    rw [foldl_map (fun _ => (-1 : Int)), List.nil_append]; simp [List.map_const']
  refine ev_run (g := fun k s i => spec_l31Depths.l0 k root s i w h b) (cnt w h).toNat (fun s _ => s ++ [-1]) (fun j s => s.length = j) r (fun j s hj hs => ⟨by simp [hs], fun hr => ?_⟩) [] rfl (fun _ => ?_)
  · exact Ev.step (fun k => by
      simp only [spec_l31Depths.l0, specNodeCount_eq, nodeCount_f, Option.bind_some]
      rw [if_pos (by omega), if_pos (by omega), w64 (by omega) (by omega)]; rfl) hr
  · rw [hrep]
    refine Ev.step (fun k => by
      simp only [spec_l31Depths.l0, specNodeCount_eq, nodeCount_f, Option.bind_some]
      rw [if_neg (by omega), if_pos (by omega), if_pos (by simp; omega)]) ?_
    exact Ev.step (fun k => by simp only [spec_l31Depths.l1]; rw [if_pos (by simp)]) (by simpa [start] using key)
def rootOk (w h : Int) (b : List Int) (root : Int) : Prop := meshOk w h b ∧ isN w h root
instance (w h : Int) (b : List Int) (root : Int) : Decidable (rootOk w h b root) := inferInstanceAs (Decidable (_ ∧ _))
theorem run_start {w h : Int} (b : List Int) {root : Int} (hr : isN w h root) : ∃ r, Run w h b (start w h root) [root] [] 1 r := run_ex _ _ _ _ _ (Nat.le_refl _) (start_inv hr).1
noncomputable def depths (w h : Int) (b : List Int) (root : Int) : List Int := if H : rootOk w h b root then Classical.choose (run_start b H.2) else []
theorem depths_run {w h : Int} {b : List Int} {root : Int} (H : rootOk w h b root) : Run w h b (start w h root) [root] [] 1 (depths w h b root) := by
  unfold depths; rw [dif_pos H]; exact Classical.choose_spec (run_start b H.2)
theorem depths_no {w h : Int} {b : List Int} {root : Int} (H : ¬ rootOk w h b root) : depths w h b root = [] := dif_neg H
theorem depths_inv {w h : Int} {b : List Int} {root : Int} (H : rootOk w h b root) : (((depths w h b root).length : Nat) : Int) = cnt w h ∧ ∀ v ∈ depths w h b root, -1 ≤ v ∧ v ≤ 16 := by
  obtain ⟨d, i⟩ := (depths_run H).inv (start_inv H.2).1
  have hc := cnt_range w h
  refine ⟨i.len, fun v hv => ?_⟩
  have := i.low v hv; have := i.sum; omega
theorem depths_length (w h : Int) (b : List Int) (root : Int) : (depths w h b root).length ≤ 16 := by
  have hc := cnt_range w h
  by_cases H : rootOk w h b root
  · have := (depths_inv H).1; omega
  · rw [depths_no H]; simp
theorem depths_ev {w h : Int} {b : List Int} {root : Int} (hb : b.length ≤ 1048576) : Ev (fun k => impl_TreeDepths.f k w h b root) (depths w h b root) := by
  by_cases H : rootOk w h b root
  · exact treeDepths_ev hb H.1 H.2 (depths_run H)
  · rw [depths_no H]; exact treeDepths_no hb H
end Go.Proofs.Ytkkoenbmokbglaa.Pure
end
section
namespace Go.Proofs.Ytkkoenbmokbglaa.Pure
open Go.RowKit Go.Proofs.Ytkkoenbmokbglaa.F Go.Proofs.YtkkoenbmokbglaaW.PrintWords Go.Proofs.YtkkoenbmokbglaaW.PrintLast Go.Proofs.YtkkoenbmokbglaaW.PrintMore
set_option linter.unusedVariables false
set_option linter.unusedSimpArgs false
def toRoot (w h : Int) (b d : List Int) (i : Int) (p : Nat) : Prop := link w h b (4 * i + p) ∧ rd d (next w h i p) = rd d i - 1
instance (w h : Int) (b d : List Int) (i : Int) (p : Nat) : Decidable (toRoot w h b d i p) := inferInstanceAs (Decidable (_ ∧ _))
def par (w h : Int) (b d : List Int) (i : Int) : Int :=
  if rd d i > 0 then
    (if toRoot w h b d i 0 then next w h i (0 : Nat) else if toRoot w h b d i 1 then next w h i (1 : Nat) else if toRoot w h b d i 2 then next w h i (2 : Nat) else if toRoot w h b d i 3 then next w h i (3 : Nat) else -1)
  else -1
def pars (w h : Int) (b d : List Int) : List Int := (List.range d.length).map fun i : Nat => par w h b d (i : Int)

section
set_option linter.unusedSectionVars false
variable {w h : Int} {b d : List Int} (hb : b.length ≤ 1048576) (hm : meshOk w h b) (hl : ((d.length : Nat) : Int) = cnt w h) (hv : ∀ v ∈ d, -1 ≤ v ∧ v ≤ 16)
include hb hm hl hv
theorem implParStep {out : List Int} {n : Int} {i p : Nat} {x : Int} {r : List Int} (hp : p < 4) (hi : i < d.length) (h0 : rd d (i : Int) > 0)
    (hr : Ev (fun k => impl_TreeParents.l1 k d out (i : Int) (rd d (i : Int)) (if toRoot w h b d (i : Int) p then next w h (i : Int) p else x) ((p : Int) - 1) d n (i : Int) w h b) r) :
    Ev (fun k => impl_TreeParents.l1 k d out (i : Int) (rd d (i : Int)) x (p : Int) d n (i : Int) w h b) r := by
  have hc := cnt_range w h
  have hd := hv _ (rd_mem (l := d) (i := (i : Int)) (by omega) (by omega))
  refine Ev.step (fun k => by simp only [impl_TreeParents.l1]; rw [if_pos (by omega), decide_eq_true h0]) (Ev.step (fun k => by
    simp only [impl_TreeParents.j2]
    rw [if_pos trivial, w64 (x := 4 * (i : Int)) (by omega) (by omega), w64 (x := 4 * (i : Int) + p) (by omega) (by omega), w64 (x := (p : Int) - 1) (by omega) (by omega), w64 (x := rd d (i : Int) - 1) (by omega) (by omega)]) (Ev.bind (isLink_ev w h b _ (by omega)) ?_))
  by_cases hk : link w h b (4 * (i : Int) + p)
  · obtain ⟨_, hn, he⟩ := link_next hp hk
    refine Ev.ifp (by simp [hm, hk]) ?_
    simp only [endOf_f w h b (4 * (i : Int) + (p : Int)) (by omega) (by omega), he, Option.bind_some]
    refine Ev.ifp hn.1 (Ev.ifp (by have := hn.2; omega) ?_)
    by_cases hq : rd d (next w h (i : Int) p) = rd d (i : Int) - 1
    · refine Ev.ifp hq ?_
      rw [if_pos ⟨hk, hq⟩] at hr; exact hr
    · refine Ev.ifn hq ?_
      rw [if_neg (fun e => hq e.2)] at hr; exact hr
  · refine Ev.ifn (by simp [hk]) ?_
    rw [if_neg (fun e => hk e.1)] at hr; exact hr
theorem implParNode {out : List Int} {i : Nat} {r : List Int} (hi : i < d.length) (ho : out.length ≤ 16)
    (hr : Ev (fun k => impl_TreeParents.l0 k d (out ++ [par w h b d (i : Int)]) d (d.length : Int) ((i : Int) + 1) w h b) r) :
    Ev (fun k => impl_TreeParents.l1 k d out (i : Int) (rd d (i : Int)) (-1) 3 d (d.length : Int) (i : Int) w h b) r := by
  have hc := cnt_range w h
  by_cases h0 : rd d (i : Int) > 0
  · refine implParStep hb hm hl hv (p := 3) (by omega) hi h0 ?_
    refine implParStep hb hm hl hv (p := 2) (by omega) hi h0 ?_
    refine implParStep hb hm hl hv (p := 1) (by omega) hi h0 ?_
    refine implParStep hb hm hl hv (p := 0) (by omega) hi h0 ?_
    refine Ev.step (fun k => by simp only [impl_TreeParents.l1]; rw [if_neg (by omega)]) (Ev.step (fun k => by simp only [impl_TreeParents.j2]; rw [if_neg (by simp), if_pos (by omega), w64 (by omega) (by omega)]) ?_)
    unfold par at hr; rw [if_pos h0] at hr; exact hr
  · refine Ev.step (fun k => by simp only [impl_TreeParents.l1]; rw [if_pos (by omega), decide_eq_false h0]) (Ev.step (fun k => by simp only [impl_TreeParents.j2]; rw [if_neg (by simp), if_pos (by omega), w64 (by omega) (by omega)]) ?_)
    unfold par at hr; rw [if_neg h0] at hr; exact hr
theorem specParOut {out : List Int} {i : Nat} {p : Nat} {x : Int} {r : List Int} (hi : i < d.length) (ho : out.length ≤ 16) (hx : 0 ≤ x ∨ 4 ≤ p ∨ ¬ rd d (i : Int) > 0)
    (hr : Ev (fun k => spec_TreeParents.l0 k (out ++ [x]) d ((i : Int) + 1) w h b) r) : Ev (fun k => spec_TreeParents.l1 k out d (i : Int) x (p : Int) w h b) r := by
  have hc := cnt_range w h
  have fin : Ev (fun k => spec_TreeParents.j2 k out d (i : Int) x (p : Int) false w h b) r := Ev.step (fun k => by simp only [spec_TreeParents.j2]; rw [if_neg (by simp), if_pos (by omega), w64 (by omega) (by omega)]) hr
  refine Ev.step (fun k => by simp only [spec_TreeParents.l1]; exact rfl) ?_
  by_cases h1 : (p : Int) < 4
  · refine Ev.ifp h1 ?_
    by_cases h2 : x < 0
    · refine Ev.ifp h2 (Ev.ifp (by omega) (Ev.ifp (by omega) ?_))
      rw [decide_eq_false (by omega : ¬ rd d (i : Int) > 0)]; exact fin
    · exact Ev.ifn h2 fin
  · exact Ev.ifn h1 fin
theorem specParStep {out : List Int} {i p : Nat} {r : List Int} (hp : p < 4) (hi : i < d.length) (ho : out.length ≤ 16) (h0 : rd d (i : Int) > 0)
    (hy : toRoot w h b d (i : Int) p → Ev (fun k => spec_TreeParents.l0 k (out ++ [next w h (i : Int) p]) d ((i : Int) + 1) w h b) r)
    (hn : ¬ toRoot w h b d (i : Int) p → Ev (fun k => spec_TreeParents.l1 k out d (i : Int) (-1) ((p + 1 : Nat) : Int) w h b) r) :
    Ev (fun k => spec_TreeParents.l1 k out d (i : Int) (-1) (p : Int) w h b) r := by
  have hc := cnt_range w h
  have hd := hv _ (rd_mem (l := d) (i := (i : Int)) (by omega) (by omega))
  refine Ev.step (fun k => by simp only [spec_TreeParents.l1]; rw [if_pos (by omega), if_pos (by omega), if_pos (by omega), if_pos (by omega), decide_eq_true h0]) (Ev.step (fun k => by
    simp only [spec_TreeParents.j2]
    rw [if_pos trivial, w64 (x := 4 * (i : Int)) (by omega) (by omega), w64 (x := 4 * (i : Int) + p) (by omega) (by omega), w64 (x := (p : Int) + 1) (by omega) (by omega), w64 (x := rd d (i : Int) - 1) (by omega) (by omega)]) (Ev.bind (l31Link_ev w h b _ (by omega)) ?_))
  by_cases hk : link w h b (4 * (i : Int) + p)
  · obtain ⟨_, hn', he⟩ := link_next hp hk
    refine Ev.ifp (by simp [hk]) ?_
    simp only [specNext_eq, next_f, Option.bind_some]
    refine Ev.ifp hn'.1 (Ev.ifp (by have := hn'.2; omega) (Ev.ifp (by omega) (Ev.ifp (by omega) ?_)))
    by_cases hq : rd d (next w h (i : Int) p) = rd d (i : Int) - 1
    · exact Ev.ifp hq (specParOut (p := p + 1) hb hm hl hv hi ho (.inl hn'.1) (hy ⟨hk, hq⟩))
    · exact Ev.ifn hq (hn (fun e => hq e.2))
  · exact Ev.ifn (by simp [hk]) (hn (fun e => hk e.1))
theorem specParNode {out : List Int} {i : Nat} {r : List Int} (hi : i < d.length) (ho : out.length ≤ 16)
    (hr : Ev (fun k => spec_TreeParents.l0 k (out ++ [par w h b d (i : Int)]) d ((i : Int) + 1) w h b) r) :
    Ev (fun k => spec_TreeParents.l1 k out d (i : Int) (-1) 0 w h b) r := by
  unfold par at hr
  by_cases h0 : rd d (i : Int) > 0
  · rw [if_pos h0] at hr
    refine specParStep hb hm hl hv (p := 0) (by omega) hi ho h0 (fun e => by rw [if_pos e] at hr; exact hr) (fun e0 => ?_)
    rw [if_neg e0] at hr
    refine specParStep hb hm hl hv (p := 1) (by omega) hi ho h0 (fun e => by rw [if_pos e] at hr; exact hr) (fun e1 => ?_)
    rw [if_neg e1] at hr
    refine specParStep hb hm hl hv (p := 2) (by omega) hi ho h0 (fun e => by rw [if_pos e] at hr; exact hr) (fun e2 => ?_)
    rw [if_neg e2] at hr
    refine specParStep hb hm hl hv (p := 3) (by omega) hi ho h0 (fun e => by rw [if_pos e] at hr; exact hr) (fun e3 => ?_)
    rw [if_neg e3] at hr
    exact specParOut hb hm hl hv (p := 4) hi ho (.inr (.inl (by omega))) hr
  · rw [if_neg h0] at hr
    exact specParOut hb hm hl hv (p := 0) hi ho (.inr (.inr h0)) hr
theorem implPars_ev : Ev (fun k => impl_TreeParents.l0 k d [] d (d.length : Int) 0 w h b) (pars w h b d) := by
  have hc := cnt_range w h
  have := ev_for (g := fun k s i => impl_TreeParents.l0 k d s d (d.length : Int) i w h b) d.length (fun s i => s ++ [par w h b d (i : Int)]) (fun j s => s.length = j) (fun s => s) [] rfl
    (fun s _ => Ev.step (f := fun _ => some s) (fun k => by simp only [impl_TreeParents.l0]; rw [if_neg (by omega)]) (Ev.now _))
    (fun j s hj hs => ⟨by simp [hs], fun r hr => Ev.step (fun k => by simp only [impl_TreeParents.l0]; rw [if_pos (by omega), if_pos (by omega), if_pos (by omega)]) (implParNode hb hm hl hv hj (by omega) hr)⟩)
  rw [foldl_map (fun i : Nat => par w h b d (i : Int))] at this
  simpa [pars] using this
theorem specPars_ev : Ev (fun k => spec_TreeParents.l0 k [] d 0 w h b) (pars w h b d) := by
  have hc := cnt_range w h
  have := ev_for (g := fun k s i => spec_TreeParents.l0 k s d i w h b) d.length (fun s i => s ++ [par w h b d (i : Int)]) (fun j s => s.length = j) (fun s => s) [] rfl
    (fun s _ => Ev.step (f := fun _ => some s) (fun k => by simp only [spec_TreeParents.l0]; rw [if_neg (by omega)]) (Ev.now _))
    (fun j s hj hs => ⟨by simp [hs], fun r hr => Ev.step (fun k => by simp only [spec_TreeParents.l0]; rw [if_pos (by omega)]) (specParNode hb hm hl hv hj (by omega) hr)⟩)
  rw [foldl_map (fun i : Nat => par w h b d (i : Int))] at this
  simpa [pars] using this
end
noncomputable def parents (w h : Int) (b : List Int) (root : Int) : List Int := pars w h b (depths w h b root)
theorem parents_length (w h : Int) (b : List Int) (root : Int) : (parents w h b root).length = (depths w h b root).length := by simp [parents, pars]
theorem parents_ev {w h : Int} {b : List Int} {root : Int} (hb : b.length ≤ 1048576) : Ev (fun k => impl_TreeParents.f k w h b root) (parents w h b root) := by
  refine Ev.bind (depths_ev hb) ?_
  by_cases H : rootOk w h b root
  · exact implPars_ev hb H.1 (depths_inv H).1 (depths_inv H).2
  · unfold parents; rw [depths_no H]
    exact Ev.step (f := fun _ => some []) (fun k => by simp [impl_TreeParents.l0]) (Ev.now _)
theorem specParents_ev {w h : Int} {b : List Int} {root : Int} (hb : b.length ≤ 1048576) : Ev (fun k => spec_TreeParents.f k w h b root) (parents w h b root) := by
  unfold spec_TreeParents.f
  simp only [Option.bind_some]
  refine Ev.bind (l31Ok_ev w h b root hb) ?_
  by_cases H : rootOk w h b root
  · refine Ev.ifp (by have := H; unfold rootOk at this; simpa using this) (Ev.bind (a := depths w h b root) ?_ (specPars_ev hb H.1 (depths_inv H).1 (depths_inv H).2))
    exact specL31Depths_ev hb H.1 H.2 (depths_run H)
  · refine Ev.ifn (by have := H; unfold rootOk at this; simpa using this) ?_
    unfold parents; rw [depths_no H]; exact Ev.now _
end Go.Proofs.Ytkkoenbmokbglaa.Pure
end
section
namespace Go.Proofs.Ytkkoenbmokbglaa.Pure
open Go.RowKit Go.Proofs.Ytkkoenbmokbglaa.F Go.Proofs.YtkkoenbmokbglaaW.PrintWords Go.Proofs.YtkkoenbmokbglaaW.PrintLast Go.Proofs.YtkkoenbmokbglaaW.PrintMore
set_option linter.unusedVariables false
set_option linter.unusedSimpArgs false
theorem toIntS_ev (l : List Int) (hl : l.length ≤ 35184372088832) : Ev (fun k => laws_toIntS.f k l) l := by
  have key : ∀ d j (x : List Int), j + d = l.length → x.length = l.length → (∀ i, i < j → x[i]? = l[i]?) → Ev (fun k => laws_toIntS.l0 k l x (j : Int)) l := by
    intro d
    induction d with
    | zero =>
      intro j x hj hx hi
      refine Ev.step (f := fun _ => some x) (fun k => by simp only [laws_toIntS.l0]; rw [if_neg (by omega)]) ?_
      have : x = l := List.ext_getElem? (fun i => by
        by_cases h : i < j
        · exact hi i h
        · rw [List.getElem?_eq_none (by omega), List.getElem?_eq_none (by omega)])
      rw [this]; exact Ev.now _
    | succ d ih =>
      intro j x hj hx hi
      have h := ih (j + 1) (x.set j l[j]) (by omega) (by simpa using hx) (fun i hi' => by
        by_cases h : i = j
        · subst h; rw [List.getElem?_set_self (by omega)]; simp
        · rw [List.getElem?_set_ne (by omega)]; exact hi i (by omega))
      refine Ev.step (fun k => ?_) h
      simp only [laws_toIntS.l0]
      rw [if_pos (by omega), if_pos (by omega), if_pos (by omega), w64 (by omega) (by omega), rd_at (by omega)]
      simp
  have h := key l.length 0 (List.replicate l.length 0) (by omega) (by simp) (by intro i hi; omega)
  refine Ev.congr (fun k => ?_) h
  unfold laws_toIntS.f
  rw [if_pos (by omega)]
  simp only [Int.toNat_natCast]
  rw [if_pos hl]; rfl

theorem eqIntS_ev (a b : List Int) (ha : a.length ≤ 9223372036854775807) : Ev (fun k => laws_eqIntS.f k a b) (decide (a = b)) := by
  by_cases hl : a.length = b.length
  · have key : ∀ d j, j + d = a.length → (∀ i, i < j → a[i]? = b[i]?) → Ev (fun k => laws_eqIntS.l0 k a b (j : Int)) (decide (a = b)) := by
      intro d
      induction d with
      | zero =>
        intro j hj hi
        have e : a = b := List.ext_getElem? (fun i => by
          by_cases h : i < j
          · exact hi i h
          · rw [List.getElem?_eq_none (by omega), List.getElem?_eq_none (by omega)])
        rw [decide_eq_true e]
        exact Ev.step (f := fun _ => some true) (fun k => by simp only [laws_eqIntS.l0]; rw [if_neg (by omega)]) (Ev.now _)
      | succ d ih =>
        intro j hj hi
        by_cases h : a[j]'(by omega) = b[j]'(by omega)
        · refine Ev.step (fun k => ?_) (ih (j + 1) (by omega) (fun i hi' => by
            by_cases h' : i = j
            · subst h'; rw [List.getElem?_eq_getElem (by omega), List.getElem?_eq_getElem (by omega), h]
            · exact hi i (by omega)))
          simp only [laws_eqIntS.l0]
          rw [if_pos (by omega), if_pos (by omega), if_pos (by omega), w64 (by omega) (by omega), rd_at (by omega), rd_at (by omega), if_pos h]
          simp
        · have e : a ≠ b := by intro e; subst e; exact h rfl
          rw [decide_eq_false e]
          refine Ev.step (f := fun _ => some false) (fun k => ?_) (Ev.now _)
          simp only [laws_eqIntS.l0]
          rw [if_pos (by omega), if_pos (by omega), if_pos (by omega), rd_at (by omega), rd_at (by omega), if_neg h]
    refine Ev.congr (fun k => ?_) (key a.length 0 (by omega) (by intro i hi; omega))
    unfold laws_eqIntS.f
    rw [if_pos (by omega)]; rfl
  · have e : a ≠ b := by intro e; subst e; exact hl rfl
    rw [decide_eq_false e]
    exact Ev.congr (f := fun _ => some false) (fun k => by unfold laws_eqIntS.f; rw [if_neg (by omega)]) (Ev.now _)

def marks (m n : Nat) : List Int := (List.range n).map fun i => ((m + i : Nat) : Int)
theorem marks_length (m n : Nat) : (marks m n).length = n := by simp [marks]
theorem markIntS_ev (l : List Int) (m : Nat) (hm : m + l.length ≤ 9223372036854775807) : Ev (fun k => laws_markIntS.f k l (m : Int)) (((m + l.length : Nat) : Int), marks m l.length) := by
  have key : ∀ d j (x : List Int), j + d = l.length → x.length = l.length → (∀ i, i < j → x[i]? = (marks m l.length)[i]?) → Ev (fun k => laws_markIntS.l0 k x ((m + j : Nat) : Int) (j : Int)) (((m + l.length : Nat) : Int), marks m l.length) := by
    intro d
    induction d with
    | zero =>
      intro j x hj hx hi
      have e : x = marks m l.length := List.ext_getElem? (fun i => by
        by_cases h : i < j
        · exact hi i h
        · rw [List.getElem?_eq_none (by omega), List.getElem?_eq_none (by rw [marks_length]; omega)])
      have e2 : j = l.length := by omega
      subst e2
      rw [← e]
      exact Ev.step (f := fun _ => some (((m + l.length : Nat) : Int), x)) (fun k => by simp only [laws_markIntS.l0]; rw [if_neg (by omega)]) (Ev.now _)
    | succ d ih =>
      intro j x hj hx hi
      have h := ih (j + 1) (x.set j ((m + j : Nat) : Int)) (by omega) (by simpa using hx) (fun i hi' => by
        by_cases h : i = j
        · subst h; rw [List.getElem?_set_self (by omega)]; simp [marks, show i < l.length by omega]
        · rw [List.getElem?_set_ne (by omega)]; exact hi i (by omega))
      refine Ev.step (fun k => ?_) h
      simp only [laws_markIntS.l0]
      rw [if_pos (by omega), if_pos (by omega), w64 (by omega) (by omega), w64 (by omega) (by omega)]
      simp [Int.add_assoc]
  refine Ev.congr (fun k => ?_) (key l.length 0 l (by omega) rfl (by intro i hi; omega))
  rfl
theorem heldIntS_ev (n m : Nat) (hm : m + n ≤ 9223372036854775807) : Ev (fun k => laws_heldIntS.f k (marks m n) (m : Int)) ((m + n : Nat) : Int) := by
  have key : ∀ d j, j + d = n → Ev (fun k => laws_heldIntS.l0 k (marks m n) ((m + j : Nat) : Int) (j : Int)) ((m + n : Nat) : Int) := by
    intro d
    induction d with
    | zero =>
      intro j hj
      have e2 : j = n := by omega
      subst e2
      exact Ev.step (f := fun _ => some ((m + j : Nat) : Int)) (fun k => by simp only [laws_heldIntS.l0, marks_length]; rw [if_neg (by omega)]) (Ev.now _)
    | succ d ih =>
      intro j hj
      refine Ev.step (fun k => ?_) (ih (j + 1) (by omega))
      simp only [laws_heldIntS.l0, marks_length]
      rw [if_pos (by omega), if_pos (by omega), rd_at (by rw [marks_length]; omega), if_pos (by simp [marks]), w64 (by omega) (by omega), w64 (by omega) (by omega)]
      simp [Int.add_assoc]
  exact key n 0 (by omega)
theorem szIntS_f (l : List Int) (n : Int) (h0 : 0 ≤ n) (h1 : n ≤ 9223372036854775807) (hl : l.length ≤ 9223372036854775807) : laws_szIntS.f l n = some (if n < l.length then -1 else n - l.length) := by
  unfold laws_szIntS.f
  rw [w64 (by omega) (by omega)]
  split <;> split <;> (first | rfl | omega)
theorem szMesh_f (w h : Int) (l : List Int) (n : Int) (h0 : 0 ≤ n) (h1 : n ≤ 9223372036854775807) (hl : l.length ≤ 9223372036854775807) : laws_szMesh.f w h l n = some (if n < l.length then -1 else n - l.length) := by
  unfold laws_szMesh.f
  simp only [szIntS_f l n h0 h1 hl, Option.bind_some]
  split <;> split <;> (first | rfl | omega)
theorem toMesh_ev (w h : Int) (l : List Int) (hl : l.length ≤ 35184372088832) : Ev (fun k => laws_toMesh.f k w h l) (w, h, l) := by
  unfold laws_toMesh.f laws_toGrid.f
  simp only [Option.bind_some]
  exact Ev.bind (toIntS_ev l hl) (Ev.now _)
theorem eqMesh_ev (w h : Int) (l : List Int) (w' h' : Int) (l' : List Int) (hl : l.length ≤ 9223372036854775807) : Ev (fun k => laws_eqMesh.f k w h l w' h' l') (decide (w = w' ∧ h = h' ∧ l = l')) := by
  unfold laws_eqMesh.f laws_eqGrid.f
  by_cases h1 : w = w'
  · by_cases h2 : h = h'
    · simp only [if_pos h1, if_pos h2, Option.bind_some, if_true]
      refine Ev.bind (eqIntS_ev l l' hl) ?_
      by_cases h3 : l = l' <;> simp [h1, h2, h3] <;> exact Ev.now _
    · simp [h1, h2]; exact Ev.now _
  · simp [h1]; exact Ev.now _
theorem FnExactTreeParents (w h : Int) (b : List Int) (c : Int) (w0 : (((Go.Lit.int .i64 w).wf = true) ∧ ((Go.Lit.int .i64 h).wf = true)) ∧ (b.length ≤ maxLen ∧ ∀ x ∈ b, (Go.Lit.int .i64 x).wf = true)) (w1 : (Go.Lit.int .i64 c).wf = true) : ∃ k, laws_FnExactTreeParents.f k w h b c = some true := by
  refine Ev.rounds (?_ : Ev (fun k => laws_FnExactTreeParents.f k w h b c) true)
  have hl : b.length ≤ 9223372036854775807 := w0.2.1
  unfold laws_FnExactTreeParents.f
  simp only [szMesh_f w h b 1048576 (by omega) (by omega) hl, Option.bind_some]
  by_cases hs : (1048576 : Int) < b.length
  · simp only [if_pos hs]; exact Ev.now _
  simp only [if_neg hs]
  have hb : b.length ≤ 1048576 := by omega
  have hr : (parents w h b c).length ≤ 16 := by rw [parents_length]; exact depths_length w h b c
  have hr2 : (parents w h b c).length ≤ 9223372036854775807 := by omega
  refine Ev.ifn (by omega) (Ev.bind (toMesh_ev w h b (by omega)) (Ev.bind (specParents_ev hb) (Ev.bind (toMesh_ev w h b (by omega)) (Ev.bind (parents_ev hb) (Ev.bind (eqIntS_ev _ _ hr2) ?_)))))
  refine Ev.ifp (by simp) (Ev.bind (toMesh_ev w h b (by omega)) (Ev.bind (eqMesh_ev _ _ _ _ _ _ (by omega)) ?_))
  refine Ev.ifp (by simp) (Ev.bind (a := (((1 + b.length : Nat) : Int), marks 1 b.length)) (by
    unfold laws_markMesh.f; exact Ev.bind (markIntS_ev b 1 (by omega)) (Ev.now _)) ?_)
  refine Ev.ifn (by show ¬ ((_ : Nat) : Int) < 0; omega) ?_
  refine Ev.bind (eqIntS_ev _ _ hr2) ?_
  simp only [decide_true, Bool.not_true]
  refine Ev.step (fun k => by simp only [laws_FnExactTreeParents.j0]; rw [if_neg (by simp)]) ?_
  refine Ev.bind (markIntS_ev _ 1 (by omega)) (Ev.bind (heldIntS_ev _ 1 (by omega)) ?_)
  refine Ev.ifn (by omega) (Ev.ifp rfl ?_)
  refine Ev.bind (toMesh_ev w h b (by omega)) (Ev.bind (parents_ev hb) (Ev.bind (eqIntS_ev _ _ hr2) ?_))
  refine Ev.ifp (by simp) (Ev.bind (heldIntS_ev _ 1 (by omega)) ?_)
  exact Ev.ifn (by omega) (Ev.ifp rfl (Ev.now _))
end Go.Proofs.Ytkkoenbmokbglaa.Pure
end
