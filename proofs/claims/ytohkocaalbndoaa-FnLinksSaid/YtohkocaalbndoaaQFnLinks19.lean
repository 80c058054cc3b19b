/- Parts of a proof that the law FnLinks holds for every input: contracts of the program's functions and plain laws on what they compute. -/
import Derived.Test.YtohkocaalbndoaaQFnLinks7
import Derived.Test.YtohkocaalbndoaaQFnLinks11
import Derived.Test.YtohkocaalbndoaaQFnLinks13
import Derived.Test.YtohkocaalbndoaaQFnLinks14
import Derived.Test.YtohkocaalbndoaaQFnLinks12
import Derived.Test.YtohkocaalbndoaaQFnLinks17
import Derived.Test.YtohkocaalbndoaaQFnLinks16
import Derived.Laws.BitsLemmas
import Derived.Test.YtohkocaalbndoaaQFnLinks18
section
namespace Go.Proofs.Ytohkocaalbndoaa.Pure
open Go.RowKit Go.Proofs.YtohkocaalbndoaaW.PrintWords Go.Proofs.YtohkocaalbndoaaW.PrintLast Go.Proofs.YtohkocaalbndoaaW.PrintMore
set_option linter.unusedVariables false
set_option linter.unusedSimpArgs false
theorem w64 {x : Int} (h : -9223372036854775808 ≤ x) (h' : x ≤ 9223372036854775807) : wrap64 x = x := by unfold wrap64; omega
theorem rd_at {l : List Int} {j : Nat} (h : j < l.length) : rd l (j : Int) = l[j] := by simp [rd, h]
theorem rd_mem {l : List Int} {i : Int} (h0 : 0 ≤ i) (h : i < l.length) : rd l i ∈ l := by
  obtain ⟨j, rfl⟩ := Int.eq_ofNat_of_zero_le h0
  rw [rd_at (by omega)]; exact List.getElem_mem _

theorem Ev.ifp {α : Type} {c : Prop} [Decidable c] {f g : Nat → Option α} {r : α} (h : c) (e : Ev f r) : Ev (fun k => if c then f k else g k) r := Ev.congr (fun k => if_pos h) e
theorem Ev.ifn {α : Type} {c : Prop} [Decidable c] {f g : Nat → Option α} {r : α} (h : ¬ c) (e : Ev g r) : Ev (fun k => if c then f k else g k) r := Ev.congr (fun k => if_neg h) e
theorem split_at {α : Type} {l : List α} {j : Nat} (h : j < l.length) : l = l.take j ++ (l[j] :: l.drop (j + 1)) := by
  rw [← List.drop_eq_getElem_cons h, List.take_append_drop]
theorem mem_take_succ {α : Type} {l : List α} {j : Nat} (h : j < l.length) {x : α} : x ∈ l.take (j + 1) ↔ x ∈ l.take j ∨ x = l[j] := by
  rw [List.take_succ_eq_append_getElem h, List.mem_append, List.mem_singleton]
end Go.Proofs.Ytohkocaalbndoaa.Pure
end
section
namespace Go.Proofs.Ytohkocaalbndoaa.Pure
open Go.RowKit Go.Proofs.Ytohkocaalbndoaa.F Go.Proofs.YtohkocaalbndoaaW.PrintWords Go.Proofs.YtohkocaalbndoaaW.PrintLast Go.Proofs.YtohkocaalbndoaaW.PrintMore
set_option linter.unusedVariables false
set_option linter.unusedSimpArgs false
theorem inside_f (a b c : Int) : impl_inside.f a b c = some (decide (b ≤ a ∧ a ≤ c)) := by
  unfold impl_inside.f; by_cases h : b ≤ a <;> simp [h]
theorem l01In_f (a b c : Int) : spec_l01In.f a b c = some (decide (b ≤ a ∧ a ≤ c)) := by
  unfold spec_l01In.f; by_cases h : b ≤ a <;> simp [h]

def okG (w h : Int) : Prop := (1 ≤ w ∧ w ≤ 4) ∧ 1 ≤ h ∧ h ≤ 4
instance (w h : Int) : Decidable (okG w h) := inferInstanceAs (Decidable (_ ∧ _))
def cnt (w h : Int) : Int := if okG w h then w * h else 0
def isN (w h n : Int) : Prop := 0 ≤ n ∧ n < cnt w h
instance (w h n : Int) : Decidable (isN w h n) := inferInstanceAs (Decidable (_ ∧ _))
def nodeAt (w h x y : Int) : Int := if okG w h ∧ (0 ≤ x ∧ x < w) ∧ 0 ≤ y ∧ y < h then y * w + x else -1
def next (w h n p : Int) : Int :=
  if isN w h n then
    (if p = 0 then nodeAt w h (n % w) (n / w - 1) else if p = 1 then nodeAt w h (n % w + 1) (n / w) else if p = 2 then nodeAt w h (n % w) (n / w + 1) else if p = 3 then nodeAt w h (n % w - 1) (n / w) else if p = 4 then n else -1)
  else -1
def leads (w h c : Int) : Prop := (0 ≤ c ∧ c < 4 * cnt w h) ∧ 0 ≤ next w h (c / 4) (c % 4)
instance (w h c : Int) : Decidable (leads w h c) := inferInstanceAs (Decidable (_ ∧ _))
def opp (p : Int) : Int := if p = 4 then 4 else if 0 ≤ p ∧ p ≤ 3 then (p + 2) % 4 else -1

theorem mul_small {w h : Int} (h1 : okG w h) : 1 ≤ w * h ∧ w * h ≤ 16 := by
  obtain ⟨⟨a, b⟩, c, d⟩ := h1
  have e1 : w = 1 ∨ w = 2 ∨ w = 3 ∨ w = 4 := by omega
  rcases e1 with rfl | rfl | rfl | rfl <;> omega
theorem cnt_range (w h : Int) : 0 ≤ cnt w h ∧ cnt w h ≤ 16 := by
  unfold cnt; split
  · rename_i h1; have := mul_small h1; omega
  · omega
theorem isN_ok {w h n : Int} (h1 : isN w h n) : okG w h ∧ 0 ≤ n ∧ n < w * h ∧ n < 16 := by
  obtain ⟨a, b⟩ := h1
  unfold cnt at b
  split at b
  · rename_i h2; have := mul_small h2; exact ⟨h2, a, b, by omega⟩
  · omega
theorem gridOk_f (w h : Int) : impl_GridOk.f w h = some (decide (okG w h)) := by
  unfold impl_GridOk.f okG
  simp only [inside_f, Option.bind_some]
  by_cases h1 : 1 ≤ w ∧ w ≤ 4 <;> simp [h1]
theorem specGridOk_eq : spec_GridOk.f = impl_GridOk.f := by
  funext w h; unfold spec_GridOk.f impl_GridOk.f; simp only [l01In_f, inside_f]
theorem nodeCount_f (w h : Int) : impl_NodeCount.f w h = some (cnt w h) := by
  unfold impl_NodeCount.f cnt
  simp only [gridOk_f, Option.bind_some]
  by_cases h1 : okG w h
  · have := mul_small h1
    simp only [h1, decide_true, if_true]; rw [w64 (by omega) (by omega)]
  · simp [h1]
theorem specNodeCount_eq : spec_NodeCount.f = impl_NodeCount.f := by
  funext w h; unfold spec_NodeCount.f impl_NodeCount.f; rw [specGridOk_eq]
theorem isNode_f (w h n : Int) : impl_isNode.f w h n = some (decide (isN w h n)) := by
  have := cnt_range w h
  unfold impl_isNode.f
  simp only [nodeCount_f, Option.bind_some, inside_f]
  rw [w64 (by omega) (by omega)]
  exact congrArg some (decide_eq_decide.2 (by unfold isN; omega))
theorem specHas_eq : spec_l02Has.f = impl_isNode.f := by
  funext w h n; unfold spec_l02Has.f impl_isNode.f; rw [specNodeCount_eq]; simp only [l01In_f, inside_f]
theorem nodeAt_f (w h x y : Int) : impl_NodeAt.f w h x y = some (nodeAt w h x y) := by
  unfold impl_NodeAt.f nodeAt
  simp only [gridOk_f, Option.bind_some, inside_f]
  by_cases h1 : okG w h
  · have h2 := mul_small h1
    have h3 := h1
    obtain ⟨⟨a, b⟩, c, d⟩ := h3
    rw [if_pos (by simpa using h1), w64 (by omega) (by omega)]
    by_cases hx : 0 ≤ x ∧ x < w
    · rw [if_pos (by simp; omega), w64 (by omega) (by omega)]
      by_cases hy : 0 ≤ y ∧ y < h
      · rw [if_pos (by simp; omega), if_pos ⟨h1, hx, hy⟩]
        have h5 : 0 ≤ y * w ∧ y * w ≤ 12 := by
          have e1 : w = 1 ∨ w = 2 ∨ w = 3 ∨ w = 4 := by omega
          rcases e1 with rfl | rfl | rfl | rfl <;> omega
        rw [w64 (x := y * w) (by omega) (by omega), w64 (by omega) (by omega)]
      · rw [if_neg (by simp; omega), if_neg (fun e => hy e.2.2)]
    · rw [if_neg (by simp; omega), if_neg (fun e => hx e.2.1)]
  · rw [if_neg (by simpa using h1), if_neg (fun e => h1 e.1)]
theorem specNodeAt_eq : spec_NodeAt.f = impl_NodeAt.f := by
  funext w h x y; unfold spec_NodeAt.f impl_NodeAt.f; rw [specGridOk_eq]; simp only [l01In_f, inside_f]
theorem next_f (w h n p : Int) : impl_NextNode.f w h n p = some (next w h n p) := by
  unfold impl_NextNode.f next
  simp only [isNode_f, Option.bind_some, nodeAt_f]
  by_cases h1 : isN w h n
  · obtain ⟨⟨⟨a, b⟩, c, d⟩, e, f, g⟩ := isN_ok h1
    have m1 : Int.tmod n w = n % w := Int.tmod_eq_emod_of_nonneg e
    have m2 : Int.tdiv n w = n / w := Int.tdiv_eq_ediv_of_nonneg e
    have m3 : 0 ≤ n / w := Int.ediv_nonneg e (by omega)
    have m4 : n / w ≤ n := Int.ediv_le_self _ e
    have m5 : 0 ≤ n % w := Int.emod_nonneg _ (by omega)
    have m6 : n % w < w := Int.emod_lt_of_pos _ (by omega)
    rw [if_pos (by simpa using h1), if_pos h1, if_neg (by omega), m1, m2, w64 (x := n / w) (by omega) (by omega), w64 (x := n / w - 1) (by omega) (by omega), w64 (x := n / w + 1) (by omega) (by omega), w64 (x := n % w + 1) (by omega) (by omega), w64 (x := n % w - 1) (by omega) (by omega)]
    repeat' split
    all_goals rfl
  · rw [if_neg (by simpa using h1), if_neg h1]
theorem specNext_eq : spec_NextNode.f = impl_NextNode.f := by
  funext w h n p; unfold spec_NextNode.f impl_NextNode.f; rw [specHas_eq, specNodeAt_eq]
theorem leads_f (w h c : Int) : impl_leads.f w h c = some (decide (leads w h c)) := by
  have := cnt_range w h
  unfold impl_leads.f leads
  simp only [nodeCount_f, Option.bind_some, inside_f, next_f]
  rw [w64 (x := 4 * cnt w h) (by omega) (by omega), w64 (x := 4 * cnt w h - 1) (by omega) (by omega)]
  by_cases h1 : 0 ≤ c ∧ c < 4 * cnt w h
  · rw [if_pos (by simp; omega), Int.tdiv_eq_ediv_of_nonneg h1.1, Int.tmod_eq_emod_of_nonneg h1.1, w64 (by omega) (by omega)]
    simp [h1]
  · rw [if_neg (by simp; omega)]; simp [h1]
theorem specLeads_eq : spec_l03Leads.f = impl_leads.f := by
  funext w h c; unfold spec_l03Leads.f impl_leads.f; rw [specNodeCount_eq, specNext_eq]; simp only [l01In_f, inside_f]
theorem opp_f (p : Int) : impl_Opposite.f p = some (opp p) := by
  unfold impl_Opposite.f opp
  simp only [inside_f, Option.bind_some]
  split
  · rfl
  · by_cases h : 0 ≤ p ∧ p ≤ 3
    · rw [if_pos (by simpa using h), if_pos h, w64 (by omega) (by omega), Int.tmod_eq_emod_of_nonneg (by omega)]
    · rw [if_neg (by simpa using h), if_neg h]
theorem next_range (w h n p : Int) : -1 ≤ next w h n p ∧ next w h n p < max 1 (cnt w h) := by
  unfold next
  by_cases h1 : isN w h n
  · obtain ⟨h2, e, f, g⟩ := isN_ok h1
    have hc : cnt w h = w * h := if_pos h2
    have k : ∀ x y, -1 ≤ nodeAt w h x y ∧ nodeAt w h x y < w * h := by
      intro x y; unfold nodeAt
      split
      · rename_i h3
        obtain ⟨⟨⟨a, b⟩, c, d⟩, ⟨x0, x1⟩, y0, y1⟩ := h3
        have e1 : w = 1 ∨ w = 2 ∨ w = 3 ∨ w = 4 := by omega
        rcases e1 with rfl | rfl | rfl | rfl <;> omega
      · have := mul_small h2; omega
    have := mul_small h2
    rw [if_pos h1, hc]
    have k1 := k (n % w) (n / w - 1); have k2 := k (n % w + 1) (n / w); have k3 := k (n % w) (n / w + 1); have k4 := k (n % w - 1) (n / w)
    repeat' split
    all_goals omega
  · rw [if_neg h1]; omega
theorem l03Find_ev (l : List Int) (v : Int) (hl : l.length ≤ 9223372036854775807) : Ev (fun k => spec_l03Find.f k l v) (decide (v ∈ l)) := by
  have key : ∀ d j, j + d = l.length → v ∉ l.take j → Ev (fun k => spec_l03Find.l0 k l v (j : Int)) (decide (v ∈ l)) := by
    intro d
    induction d with
    | zero =>
      intro j hj hv
      rw [List.take_of_length_le (by omega)] at hv
      rw [decide_eq_false hv]
      exact Ev.step (f := fun _ => some false) (fun k => by simp only [spec_l03Find.l0]; rw [if_neg (by omega)]) (Ev.now _)
    | succ d ih =>
      intro j hj hv
      by_cases h : l[j]'(by omega) = v
      · rw [decide_eq_true (h ▸ List.getElem_mem _)]
        refine Ev.step (f := fun _ => some true) (fun k => ?_) (Ev.now _)
        simp only [spec_l03Find.l0]
        rw [if_pos (by omega), if_pos (by omega), rd_at (by omega), if_pos h]
      · refine Ev.step (fun k => ?_) (ih (j + 1) (by omega) (fun hm => by
          rcases (mem_take_succ (by omega)).1 hm with hm | hm
          · exact hv hm
          · exact h hm.symm))
        simp only [spec_l03Find.l0]
        rw [if_pos (by omega), if_pos (by omega), rd_at (by omega), if_neg h, w64 (by omega) (by omega)]; rfl
  exact key l.length 0 (by omega) (by simp)
def idx (l : List Int) (v : Int) : Int := if v ∈ l then (l.idxOf v : Int) else -1
theorem index_ev (l : List Int) (v : Int) (hl : l.length ≤ 9223372036854775807) : Ev (fun k => slices_Index_int_int.f k l v) (idx l v) := by
  have key : ∀ d j, j + d = l.length → v ∉ l.take j → Ev (fun k => slices_Index_int_int.l0 k l v (l.length : Int) (j : Int)) (idx l v) := by
    intro d
    induction d with
    | zero =>
      intro j hj hv
      rw [List.take_of_length_le (by omega)] at hv
      unfold idx; rw [if_neg hv]
      exact Ev.step (f := fun _ => some (-1)) (fun k => by simp only [slices_Index_int_int.l0]; rw [if_neg (by omega)]) (Ev.now _)
    | succ d ih =>
      intro j hj hv
      by_cases h : v = l[j]'(by omega)
      · have hm : v ∈ l := h ▸ List.getElem_mem _
        have hi : l.idxOf v = j := by
          have e : l = l.take j ++ (v :: l.drop (j + 1)) := by rw [h]; exact split_at (by omega)
          rw [e, List.idxOf_append]; simp [hv]; omega
        unfold idx; rw [if_pos hm, hi]
        refine Ev.step (f := fun _ => some (j : Int)) (fun k => ?_) (Ev.now _)
        simp only [slices_Index_int_int.l0]
        rw [if_pos (by omega), if_pos (by omega), if_pos (by omega), rd_at (by omega), if_pos h]
      · refine Ev.step (fun k => ?_) (ih (j + 1) (by omega) (fun hm => by
          rcases (mem_take_succ (by omega)).1 hm with hm | hm
          · exact hv hm
          · exact h hm))
        simp only [slices_Index_int_int.l0]
        rw [if_pos (by omega), if_pos (by omega), if_pos (by omega), rd_at (by omega), if_neg h, w64 (by omega) (by omega)]; rfl
  exact key l.length 0 (by omega) (by simp)
theorem contains_ev (l : List Int) (v : Int) (hl : l.length ≤ 9223372036854775807) : Ev (fun k => slices_Contains_int_int.f k l v) (decide (v ∈ l)) := by
  refine Ev.bind (index_ev l v hl) ?_
  have : decide (idx l v ≥ 0) = decide (v ∈ l) := by
    unfold idx; by_cases h : v ∈ l <;> simp [h]
  rw [this]; exact Ev.now _
end Go.Proofs.Ytohkocaalbndoaa.Pure
end
section
namespace Go.Proofs.Ytohkocaalbndoaa.Pure
open Go.RowKit Go.Proofs.YtohkocaalbndoaaW.PrintWords Go.Proofs.YtohkocaalbndoaaW.PrintLast Go.Proofs.YtohkocaalbndoaaW.PrintMore
set_option linter.unusedVariables false
set_option linter.unusedSimpArgs false
theorem ev_from {σ α : Type} {g : Nat → σ → Int → Option α} (n : Nat) (step : σ → Nat → σ) (inv : Nat → σ → Prop) (fin : σ → α)
    (he : ∀ s, inv n s → Ev (fun k => g k s (n : Int)) (fin s))
    (hs : ∀ j s, j < n → inv j s → inv (j + 1) (step s j) ∧ ∀ r, Ev (fun k => g k (step s j) ((j + 1 : Nat) : Int)) r → Ev (fun k => g k s (j : Int)) r) :
    ∀ d j s, j + d = n → inv j s → Ev (fun k => g k s (j : Int)) (fin ((List.range' j d).foldl step s)) := by
  intro d
  induction d with
  | zero => intro j s hj hi; have : j = n := by omega
            subst this; exact he s hi
  | succ d ih =>
    intro j s hj hi
    obtain ⟨h1, h2⟩ := hs j s (by omega) hi
    exact h2 _ (by simpa [List.range'_succ] using ih (j + 1) (step s j) (by omega) h1)
theorem ev_for {σ α : Type} {g : Nat → σ → Int → Option α} (n : Nat) (step : σ → Nat → σ) (inv : Nat → σ → Prop) (fin : σ → α) (s0 : σ) (h0 : inv 0 s0)
    (he : ∀ s, inv n s → Ev (fun k => g k s (n : Int)) (fin s))
    (hs : ∀ j s, j < n → inv j s → inv (j + 1) (step s j) ∧ ∀ r, Ev (fun k => g k (step s j) ((j + 1 : Nat) : Int)) r → Ev (fun k => g k s (j : Int)) r) :
    Ev (fun k => g k s0 0) (fin ((List.range n).foldl step s0)) := by
  rw [List.range_eq_range']; exact ev_from n step inv fin he hs n 0 s0 (by omega) h0
theorem ev_all {g : Nat → Int → Option Bool} (n : Nat) (good : Nat → Prop) [DecidablePred good] (fin : Bool) (he : Ev (fun k => g k (n : Int)) fin)
    (hy : ∀ j, j < n → good j → ∀ r, Ev (fun k => g k ((j + 1 : Nat) : Int)) r → Ev (fun k => g k (j : Int)) r) (hn : ∀ j, j < n → (∀ i, i < j → good i) → ¬ good j → Ev (fun k => g k (j : Int)) false) :
    Ev (fun k => g k 0) (decide (∀ j, j < n → good j) && fin) := by
  have key : ∀ d j, j + d = n → (∀ i, i < j → good i) → Ev (fun k => g k (j : Int)) (decide (∀ i, i < n → good i) && fin) := by
    intro d
    induction d with
    | zero => intro j hj hg; have : j = n := by omega
              subst this; rw [decide_eq_true hg]; exact he
    | succ d ih =>
      intro j hj hg
      by_cases h : good j
      · exact hy j (by omega) h _ (ih (j + 1) (by omega) (fun i hi => by
          by_cases e : i = j
          · exact e ▸ h
          · exact hg i (by omega)))
      · rw [decide_eq_false (fun a => h (a j (by omega)))]; exact hn j (by omega) hg h
  exact key n 0 (by omega) (by intro i hi; omega)
theorem ev_any {g : Nat → Int → Option Bool} (n : Nat) (good : Nat → Prop) [DecidablePred good] (he : Ev (fun k => g k (n : Int)) false)
    (hn : ∀ j, j < n → ¬ good j → ∀ r, Ev (fun k => g k ((j + 1 : Nat) : Int)) r → Ev (fun k => g k (j : Int)) r) (hy : ∀ j, j < n → good j → Ev (fun k => g k (j : Int)) true) :
    Ev (fun k => g k 0) (decide (∃ j, j < n ∧ good j)) := by
  have key : ∀ d j, j + d = n → (∀ i, i < j → ¬ good i) → Ev (fun k => g k (j : Int)) (decide (∃ i, i < n ∧ good i)) := by
    intro d
    induction d with
    | zero => intro j hj hg; have : j = n := by omega
              subst this; rw [decide_eq_false (fun ⟨i, hi, h⟩ => hg i hi h)]; exact he
    | succ d ih =>
      intro j hj hg
      by_cases h : good j
      · rw [decide_eq_true ⟨j, by omega, h⟩]; exact hy j (by omega) h
      · exact hn j (by omega) h _ (ih (j + 1) (by omega) (fun i hi => by
          by_cases e : i = j
          · exact e ▸ h
          · exact hg i (by omega)))
  exact key n 0 (by omega) (by intro i hi; omega)
theorem foldl_filter {α : Type} (p : Nat → Bool) (f : Nat → α) (l : List Nat) (s : List α) : l.foldl (fun s j => if p j = true then s ++ [f j] else s) s = s ++ (l.filter p).map f := by
  induction l generalizing s with
  | nil => simp
  | cons a l ih => rw [List.foldl_cons, ih]; by_cases h : p a = true <;> simp [h]
theorem ite_append_le {α : Type} {c : Prop} [Decidable c] {s : List α} {x : α} {j : Nat} (h : s.length ≤ j) : (if c then s ++ [x] else s).length ≤ j + 1 := by
  split
  · rw [List.length_append, List.length_singleton]; omega
  · omega
end Go.Proofs.Ytohkocaalbndoaa.Pure
end
section
namespace Go.Proofs.Ytohkocaalbndoaa.Pure
open Go.RowKit Go.Proofs.Ytohkocaalbndoaa.F Go.Proofs.YtohkocaalbndoaaW.PrintWords Go.Proofs.YtohkocaalbndoaaW.PrintLast Go.Proofs.YtohkocaalbndoaaW.PrintMore
set_option linter.unusedVariables false
set_option linter.unusedSimpArgs false
def goodAt (w h : Int) (b : List Int) (j : Nat) : Prop := leads w h (rd b (j : Int)) ∧ (0 < j → rd b ((j - 1 : Nat) : Int) < rd b (j : Int))
instance (w h : Int) (b : List Int) (j : Nat) : Decidable (goodAt w h b j) := inferInstanceAs (Decidable (_ ∧ _))
def meshOk (w h : Int) (b : List Int) : Prop := (∀ j, j < b.length → goodAt w h b j) ∧ okG w h
instance (w h : Int) (b : List Int) : Decidable (meshOk w h b) := inferInstanceAs (Decidable (_ ∧ _))
def has (w h : Int) (b : List Int) (c : Int) : Prop := leads w h c ∧ c ∉ b
instance (w h : Int) (b : List Int) (c : Int) : Decidable (has w h b c) := inferInstanceAs (Decidable (_ ∧ _))
def hasC (w h : Int) (b : List Int) (c : Int) : Prop := meshOk w h b ∧ has w h b c
instance (w h : Int) (b : List Int) (c : Int) : Decidable (hasC w h b c) := inferInstanceAs (Decidable (_ ∧ _))
def endC (w h c : Int) : Int := next w h (c / 4) (c % 4)
def backC (w h c : Int) : Int := 4 * endC w h c + opp (c % 4)
def link (w h : Int) (b : List Int) (c : Int) : Prop := has w h b c ∧ has w h b (backC w h c)
instance (w h : Int) (b : List Int) (c : Int) : Decidable (link w h b c) := inferInstanceAs (Decidable (_ ∧ _))
def chans (w h : Int) (b : List Int) : List Int := ((List.range (4 * cnt w h).toNat).filter (fun c : Nat => decide (hasC w h b (c : Int)))).map fun c : Nat => (c : Int)

theorem meshOk_ev (w h : Int) (b : List Int) (hb : b.length ≤ 9223372036854775806) : Ev (fun k => impl_MeshOk.f k w h b) (decide (meshOk w h b)) := by
  have := ev_all (g := fun k i => impl_MeshOk.l0 k b (b.length : Int) i w h b) b.length (goodAt w h b) (decide (okG w h))
    (Ev.step (f := fun _ => some (decide (okG w h))) (fun k => by simp only [impl_MeshOk.l0, gridOk_f, Option.bind_some]; rw [if_neg (by omega)]) (Ev.now _))
    (fun j hj hg r hr => Ev.step (fun k => by
      simp only [impl_MeshOk.l0, leads_f, Option.bind_some]
      rw [if_pos (by omega), if_pos (by omega), if_pos (by omega), if_pos (by simpa using hg.1), w64 (x := (j : Int) + 1) (by omega) (by omega)]
      by_cases h0 : 0 < j
      · have := hg.2 h0
        rw [if_pos (by omega), w64 (by omega) (by omega), show ((j : Int) - 1) = ((j - 1 : Nat) : Int) by omega, if_pos (by omega), if_pos (by omega), if_neg (by omega)]; rfl
      · rw [if_neg (by omega)]; rfl) hr)
    (fun j hj hp hg => Ev.step (f := fun _ => some false) (fun k => by
      simp only [impl_MeshOk.l0, leads_f, Option.bind_some]
      rw [if_pos (by omega), if_pos (by omega), if_pos (by omega)]
      by_cases hl : leads w h (rd b (j : Int))
      · rw [if_pos (by simpa using hl)]
        by_cases h0 : 0 < j
        · have : ¬ rd b ((j - 1 : Nat) : Int) < rd b (j : Int) := fun h => hg ⟨hl, fun _ => h⟩
          rw [if_pos (by omega), w64 (by omega) (by omega), show ((j : Int) - 1) = ((j - 1 : Nat) : Int) by omega, if_pos (by omega), if_pos (by omega), if_pos (by omega)]
        · exact absurd ⟨hl, fun h => absurd h h0⟩ hg
      · rw [if_neg (by simpa using hl)]) (Ev.now _))
  rw [show decide (meshOk w h b) = (decide (∀ j, j < b.length → goodAt w h b j) && decide (okG w h)) from Bool.decide_and ..]
  exact this
theorem specMeshOk_ev (w h : Int) (b : List Int) (hb : b.length ≤ 9223372036854775806) : Ev (fun k => spec_MeshOk.f k w h b) (decide (meshOk w h b)) := by
  have := ev_all (g := fun k i => spec_MeshOk.l0 k i w h b) b.length (goodAt w h b) true
    (Ev.step (f := fun _ => some true) (fun k => by simp only [spec_MeshOk.l0]; rw [if_neg (by omega)]) (Ev.now _))
    (fun j hj hg r hr => Ev.step (fun k => by
      simp only [spec_MeshOk.l0, specLeads_eq, leads_f, Option.bind_some]
      rw [if_pos (by omega), if_pos (by omega), if_pos (by simpa using hg.1), w64 (x := (j : Int) + 1) (by omega) (by omega)]
      by_cases h0 : 0 < j
      · have := hg.2 h0
        rw [if_pos (by omega), w64 (by omega) (by omega), show ((j : Int) - 1) = ((j - 1 : Nat) : Int) by omega, if_pos (by omega), if_pos (by omega), if_neg (by omega)]; rfl
      · rw [if_neg (by omega)]; rfl) hr)
    (fun j hj hp hg => Ev.step (f := fun _ => some false) (fun k => by
      simp only [spec_MeshOk.l0, specLeads_eq, leads_f, Option.bind_some]
      rw [if_pos (by omega), if_pos (by omega)]
      by_cases hl : leads w h (rd b (j : Int))
      · rw [if_pos (by simpa using hl)]
        by_cases h0 : 0 < j
        · have : ¬ rd b ((j - 1 : Nat) : Int) < rd b (j : Int) := fun h => hg ⟨hl, fun _ => h⟩
          rw [if_pos (by omega), w64 (by omega) (by omega), show ((j : Int) - 1) = ((j - 1 : Nat) : Int) by omega, if_pos (by omega), if_pos (by omega), if_pos (by omega)]
        · exact absurd ⟨hl, fun h => absurd h h0⟩ hg
      · rw [if_neg (by simpa using hl)]) (Ev.now _))
  unfold spec_MeshOk.f
  simp only [specGridOk_eq, gridOk_f, Option.bind_some]
  by_cases h0 : okG w h
  · refine Ev.ifp (by simpa using h0) ?_
    rw [show decide (meshOk w h b) = (decide (∀ j, j < b.length → goodAt w h b j) && true) by
      rw [show decide (meshOk w h b) = (decide (∀ j, j < b.length → goodAt w h b j) && decide (okG w h)) from Bool.decide_and .., decide_eq_true h0]]
    exact this
  · refine Ev.ifn (by simpa using h0) ?_
    rw [decide_eq_false (fun e : meshOk w h b => h0 e.2)]; exact Ev.now _
theorem hasChannel_ev (w h : Int) (b : List Int) (c : Int) (hb : b.length ≤ 9223372036854775806) : Ev (fun k => impl_HasChannel.f k w h b c) (decide (hasC w h b c)) := by
  refine Ev.bind (meshOk_ev w h b hb) ?_
  by_cases h1 : meshOk w h b
  · refine Ev.ifp (by simpa using h1) ?_
    simp only [leads_f, Option.bind_some]
    by_cases h2 : leads w h c
    · refine Ev.ifp (by simpa using h2) (Ev.bind (contains_ev b c (by omega)) ?_)
      have : (!decide (c ∈ b)) = decide (hasC w h b c) := by simp [hasC, has, h1, h2]
      rw [this]; exact Ev.now _
    · refine Ev.ifn (by simpa using h2) ?_
      rw [decide_eq_false (fun e : hasC w h b c => h2 e.2.1)]; exact Ev.now _
  · refine Ev.ifn (by simpa using h1) ?_
    rw [decide_eq_false (fun e : hasC w h b c => h1 e.1)]; exact Ev.now _
theorem specHas_ev (w h : Int) (b : List Int) (c : Int) (hb : b.length ≤ 9223372036854775806) : Ev (fun k => spec_l03Has.f k w h b c) (decide (has w h b c)) := by
  unfold spec_l03Has.f
  simp only [specLeads_eq, leads_f, Option.bind_some]
  by_cases h2 : leads w h c
  · refine Ev.ifp (by simpa using h2) (Ev.bind (l03Find_ev b c (by omega)) ?_)
    have : (!decide (c ∈ b)) = decide (has w h b c) := by simp [has, h2]
    rw [this]; exact Ev.now _
  · refine Ev.ifn (by simpa using h2) ?_
    rw [decide_eq_false (fun e : has w h b c => h2 e.1)]; exact Ev.now _
theorem leads_lt {w h c : Int} (h1 : leads w h c) : 0 ≤ c ∧ c < 64 := by
  have := cnt_range w h; have := h1.1; omega
theorem endOf_f (w h : Int) (b : List Int) (c : Int) (h0 : 0 ≤ c) (h1 : c ≤ 9223372036854775807) : impl_endOf.f w h b c = some (endC w h c) := by
  unfold impl_endOf.f endC
  simp only [next_f, Option.bind_some]
  rw [Int.tdiv_eq_ediv_of_nonneg h0, Int.tmod_eq_emod_of_nonneg h0, w64 (by omega) (by omega)]
theorem endC_range (w h c : Int) : -1 ≤ endC w h c ∧ endC w h c < 16 := by
  have := next_range w h (c / 4) (c % 4); have := cnt_range w h; unfold endC; omega
theorem opp_range (p : Int) : -1 ≤ opp p ∧ opp p ≤ 4 := by unfold opp; split <;> (try split) <;> omega
theorem back_f (w h : Int) (b : List Int) (c : Int) (h0 : 0 ≤ c) (h1 : c ≤ 9223372036854775807) : impl_back.f w h b c = some (backC w h c) := by
  unfold impl_back.f backC
  have := endC_range w h c; have := opp_range (c % 4)
  simp only [endOf_f w h b c h0 h1, Option.bind_some]
  rw [Int.tmod_eq_emod_of_nonneg h0, opp_f]; simp only [Option.bind_some]
  rw [w64 (x := 4 * endC w h c) (by omega) (by omega), w64 (by omega) (by omega)]
theorem isLink_ev (w h : Int) (b : List Int) (c : Int) (hb : b.length ≤ 9223372036854775806) : Ev (fun k => impl_IsLink.f k w h b c) (decide (meshOk w h b ∧ link w h b c)) := by
  refine Ev.bind (hasChannel_ev w h b c hb) ?_
  by_cases h1 : hasC w h b c
  · have := leads_lt h1.2.1
    refine Ev.ifp (by simpa using h1) ?_
    simp only [back_f w h b c (by omega) (by omega), Option.bind_some]
    refine Ev.bind (hasChannel_ev w h b _ hb) ?_
    have : decide (hasC w h b (backC w h c)) = decide (meshOk w h b ∧ link w h b c) := decide_eq_decide.2 ⟨fun e => ⟨e.1, h1.2, e.2⟩, fun e => ⟨e.1, e.2.2⟩⟩
    rw [this]; exact Ev.now _
  · refine Ev.ifn (by simpa using h1) ?_
    rw [decide_eq_false (fun e => h1 ⟨e.1, e.2.1⟩)]; exact Ev.now _
theorem asc_iff (b : List Int) : (∀ j, j < b.length → 0 < j → rd b ((j - 1 : Nat) : Int) < rd b (j : Int)) ↔ b.Pairwise (· < ·) := by
  rw [List.pairwise_iff_getElem]
  constructor
  · intro h i j hi hj hij
    obtain ⟨d, rfl⟩ : ∃ d, j = i + 1 + d := ⟨j - i - 1, by omega⟩
    induction d with
    | zero => have := h (i + 1) hj (by omega); rw [show i + 1 - 1 = i by omega, rd_at (by omega), rd_at (by omega)] at this; exact this
    | succ d ih =>
      have h1 := ih (by omega) (by omega)
      have h2 := h (i + 1 + (d + 1)) hj (by omega)
      rw [show i + 1 + (d + 1) - 1 = i + 1 + d by omega, rd_at (by omega), rd_at (by omega)] at h2
      omega
  · intro h j hj h0
    rw [rd_at (by omega), rd_at (by omega)]
    exact h (j - 1) j (by omega) hj (by omega)
theorem meshOk_iff (w h : Int) (b : List Int) : meshOk w h b ↔ okG w h ∧ (∀ c ∈ b, leads w h c) ∧ b.Pairwise (· < ·) := by
  rw [← asc_iff]
  constructor
  · rintro ⟨h1, h2⟩
    refine ⟨h2, fun c hc => ?_, fun j hj h0 => (h1 j hj).2 h0⟩
    obtain ⟨j, hj, rfl⟩ := List.getElem_of_mem hc
    have := (h1 j hj).1; rwa [rd_at hj] at this
  · rintro ⟨h1, h2, h3⟩
    exact ⟨fun j hj => ⟨by rw [rd_at hj]; exact h2 _ (List.getElem_mem _), fun h0 => h3 j hj h0⟩, h1⟩
theorem asc_length {n : Nat} : ∀ {b : List Int}, b.Pairwise (· < ·) → (∀ c ∈ b, 0 ≤ c ∧ c < (n : Int)) → b.length ≤ n := by
  intro b hb hc
  have key : ∀ (b : List Int) (lo : Int), b.Pairwise (· < ·) → (∀ c ∈ b, lo ≤ c ∧ c < (n : Int)) → 0 ≤ lo → (b.length : Int) ≤ max 0 (n - lo) := by
    intro b
    induction b with
    | nil => intro lo _ _ _; simp; omega
    | cons a l ih =>
      intro lo hp hm h0
      have h1 := hm a (by simp)
      have h2 := ih (a + 1) (List.pairwise_cons.1 hp).2 (fun c hc => ⟨by have := (List.pairwise_cons.1 hp).1 c hc; omega, (hm c (by simp [hc])).2⟩) (by omega)
      simp; omega
  have := key b 0 hb (fun c h => ⟨(hc c h).1, (hc c h).2⟩) (by omega)
  omega
theorem meshOk_length {w h : Int} {b : List Int} (hm : meshOk w h b) : b.length ≤ 64 := by
  obtain ⟨_, h1, h2⟩ := (meshOk_iff w h b).1 hm
  exact asc_length h2 (fun c hc => leads_lt (h1 c hc))
def V (b : List Int) (i : Int) : Prop := 0 ≤ i ∧ i ≤ b.length ∧ b.length ≤ 1048576
theorem and255 (x : Int) : 0 ≤ Go.bits .and .i64 x 255 ∧ Go.bits .and .i64 x 255 ≤ 255 := by
  have h : ∃ n : Nat, n ≤ 255 ∧ Go.bits .and .i64 x 255 = IntKind.i64.wrap (n : Int) := by
    refine ⟨((BitVec.ofInt 64 x) &&& (BitVec.ofInt 64 255)).toNat, ?_, rfl⟩
    rw [BitVec.toNat_and]; exact Nat.le_trans Nat.and_le_right (by decide)
  obtain ⟨n, hn, e⟩ := h
  rw [e, IntKind.wrap_i64]; omega
theorem byte_d {b : List Int} {i : Int} (h : Int) (hv : V b i) : ∃ r i' h', spec_l01Byte.f b i h = some (r, i', h') ∧ (0 ≤ r ∧ r ≤ 255) ∧ V b i' := by
  obtain ⟨h0, h1, h2⟩ := hv
  unfold spec_l01Byte.f
  by_cases hi : i < b.length
  · rw [if_pos hi, if_pos h0]
    exact ⟨_, _, _, rfl, and255 _, by rw [w64 (by omega) (by omega)]; exact ⟨by omega, by omega, h2⟩⟩
  · rw [if_neg hi]
    exact ⟨_, _, _, rfl, and255 _, h0, h1, h2⟩
theorem below_d {b : List Int} {i : Int} (h n : Int) (hv : V b i) (hn : 1 ≤ n) : ∃ r i' h', spec_l01Below.f b i h n = some (r, i', h') ∧ (0 ≤ r ∧ r < n) ∧ V b i' := by
  unfold spec_l01Below.f
  rw [if_neg (by omega)]
  by_cases h1 : n ≤ 256
  · rw [if_pos h1]
    obtain ⟨r, i', h', e, hr, hv'⟩ := byte_d h hv
    rw [e]; simp only [Option.bind_some]
    rw [if_neg (by omega), Int.tmod_eq_emod_of_nonneg hr.1]
    exact ⟨_, _, _, rfl, ⟨Int.emod_nonneg _ (by omega), Int.emod_lt_of_pos _ (by omega)⟩, hv'⟩
  · rw [if_neg h1]
    obtain ⟨r1, i1, h1, e1, hr1, hv1⟩ := byte_d h hv
    obtain ⟨r2, i2, h2, e2, hr2, hv2⟩ := byte_d h1 hv1
    obtain ⟨r3, i3, h3, e3, hr3, hv3⟩ := byte_d h2 hv2
    obtain ⟨r4, i4, h4, e4, hr4, hv4⟩ := byte_d h3 hv3
    rw [e1]; simp only [Option.bind_some]; rw [e2]; simp only [Option.bind_some]; rw [e3]; simp only [Option.bind_some]; rw [e4]; simp only [Option.bind_some]
    rw [if_neg (by omega), w64 (x := r1 * 16777216) (by omega) (by omega), w64 (x := r2 * 65536) (by omega) (by omega), w64 (x := r3 * 256) (by omega) (by omega), w64 (x := r1 * 16777216 + r2 * 65536) (by omega) (by omega), w64 (x := r1 * 16777216 + r2 * 65536 + r3 * 256) (by omega) (by omega), w64 (by omega) (by omega), Int.tmod_eq_emod_of_nonneg (by omega)]
    exact ⟨_, _, _, rfl, ⟨Int.emod_nonneg _ (by omega), Int.emod_lt_of_pos _ (by omega)⟩, hv4⟩
theorem once_d {b : List Int} {i : Int} (h n : Int) (hv : V b i) (hn : 1 ≤ n) : ∃ t i' h', spec_l01Once.f b i h n = some (t, i', h') ∧ V b i' := by
  obtain ⟨r, i', h', e, _, hv'⟩ := below_d h n hv hn
  unfold spec_l01Once.f; rw [e]; exact ⟨_, _, _, rfl, hv'⟩
theorem pickInt_d {b : List Int} {i : Int} (h : Int) (l : List Int) (hv : V b i) (hl : l ≠ []) : ∃ r i' h', spec_l01PickInt.f b i h l = some (r, i', h') ∧ r ∈ l ∧ V b i' := by
  have h0 : 1 ≤ (l.length : Int) := by cases l; exact absurd rfl hl; simp; omega
  obtain ⟨r, i', h', e, hr, hv'⟩ := below_d h l.length hv h0
  unfold spec_l01PickInt.f; rw [e]; simp only [Option.bind_some]
  rw [if_pos hr.1, if_pos hr.2]; exact ⟨_, _, _, rfl, rd_mem hr.1 hr.2, hv'⟩
theorem new_d (b : List Int) (hb : b.length ≤ 1048576) : ∃ h, Ev (fun k => spec_l01New.f k b) (b, 0, h) := by
  have key : ∀ d j h, j + d = min b.length 4000 → ∃ h', Ev (fun k => spec_l01New.l0 k b h (j : Int)) (b, 0, h') := by
    intro d
    induction d with
    | zero =>
      intro j h hj
      refine ⟨h, Ev.step (f := fun _ => some (b, 0, h)) (fun k => ?_) (Ev.now _)⟩
      simp only [spec_l01New.l0]
      by_cases h1 : (j : Int) < b.length
      · rw [if_pos h1, if_neg (by omega)]
      · rw [if_neg h1]
    | succ d ih =>
      intro j h hj
      obtain ⟨h', e⟩ := ih (j + 1) (Go.bits .and .i64 (wrap64 ((wrap64 ((wrap64 (h * 131)) + (wrap64 (rd b (j : Int))))) + 7)) 1073741823) (by omega)
      refine ⟨h', Ev.step (fun k => ?_) e⟩
      simp only [spec_l01New.l0]
      rw [if_pos (by omega), if_pos (by omega), if_pos (by omega), w64 (x := (j : Int) + 1) (by omega) (by omega)]; rfl
  exact key _ 0 _ (by simp; rfl)
theorem V_new {b : List Int} (hb : b.length ≤ 1048576) : V b 0 := ⟨by omega, by omega, hb⟩
theorem grid_d {b : List Int} {i : Int} (h : Int) (hv : V b i) : ∃ x y i' h', spec_l02Grid.f b i h = some (x, y, i', h') ∧ okG x y ∧ V b i' := by
  obtain ⟨x, i1, h1, e1, hx, hv1⟩ := pickInt_d h [1, 2, 2, 3, 3, 4] hv (by simp)
  obtain ⟨y, i2, h2, e2, hy, hv2⟩ := pickInt_d h1 [1, 2, 2, 3, 3, 4] hv1 (by simp)
  unfold spec_l02Grid.f; rw [e1]; simp only [Option.bind_some]; rw [e2]
  refine ⟨x, y, i2, h2, rfl, ?_, hv2⟩
  simp at hx hy
  exact ⟨by omega, by omega⟩
theorem mesh_d {b : List Int} {i : Int} (h : Int) (hv : V b i) : ∃ x y l i' h', Ev (fun k => spec_l03Mesh.f k b i h) (x, y, l, i', h') ∧ meshOk x y l ∧ V b i' := by
  obtain ⟨x, y, i1, h1, e1, hg, hv1⟩ := grid_d h hv
  obtain ⟨t, i2, h2, e2, hv2⟩ := once_d h1 3 hv1 (by omega)
  have key : ∀ d j l i h, j + d = (4 * cnt x y).toNat → V b i → l.Pairwise (· < ·) → (∀ c ∈ l, leads x y c ∧ c < (j : Int)) → ∃ l' i' h', Ev (fun k => spec_l03Mesh.l0 k (j : Int) b i h x y l) (x, y, l', i', h') ∧ meshOk x y l' ∧ V b i' := by
    have hc := cnt_range x y
    intro d
    induction d with
    | zero =>
      intro j l i h hj hv hp hl
      refine ⟨l, i, h, Ev.step (f := fun _ => some (x, y, l, i, h)) (fun k => ?_) (Ev.now _), (meshOk_iff x y l).2 ⟨hg, fun c hc => (hl c hc).1, hp⟩, hv⟩
      simp only [spec_l03Mesh.l0, specNodeCount_eq, nodeCount_f, Option.bind_some]
      rw [w64 (by omega) (by omega), if_neg (by omega)]
    | succ d ih =>
      intro j l i h hj hv hp hl
      have ej : wrap64 ((j : Int) + 1) = ((j + 1 : Nat) : Int) := by rw [w64 (by omega) (by omega)]; omega
      have hlen : l.length ≤ 64 := asc_length hp (fun c hc => leads_lt (hl c hc).1)
      by_cases h1 : leads x y (j : Int)
      · obtain ⟨t, i3, h3, e3, hv3⟩ := once_d h 9 hv (by omega)
        cases t with
        | true =>
          obtain ⟨l', i', h', e, hm, hv'⟩ := ih (j + 1) (l ++ [(j : Int)]) i3 h3 (by omega) hv3 (by
            rw [List.pairwise_append]; refine ⟨hp, by simp, fun a ha c hc => ?_⟩
            simp at hc; subst hc; exact (hl a ha).2) (fun c hc => by
            rcases List.mem_append.1 hc with hc | hc
            · exact ⟨(hl c hc).1, by have := (hl c hc).2; omega⟩
            · simp at hc; subst hc; exact ⟨h1, by omega⟩)
          refine ⟨l', i', h', Ev.step (fun k => ?_) e, hm, hv'⟩
          simp only [spec_l03Mesh.l0, specNodeCount_eq, nodeCount_f, specLeads_eq, leads_f, Option.bind_some]
          rw [w64 (x := 4 * cnt x y) (by omega) (by omega), if_pos (by omega), if_pos (by simpa using h1), e3]
          simp only [Option.bind_some, if_true]
          rw [if_pos (by omega), ej]
        | false =>
          obtain ⟨l', i', h', e, hm, hv'⟩ := ih (j + 1) l i3 h3 (by omega) hv3 hp (fun c hc => ⟨(hl c hc).1, by have := (hl c hc).2; omega⟩)
          refine ⟨l', i', h', Ev.step (fun k => ?_) e, hm, hv'⟩
          simp only [spec_l03Mesh.l0, specNodeCount_eq, nodeCount_f, specLeads_eq, leads_f, Option.bind_some]
          rw [w64 (x := 4 * cnt x y) (by omega) (by omega), if_pos (by omega), if_pos (by simpa using h1), e3]
          simp only [Option.bind_some]
          rw [if_neg (by simp), ej]
      · obtain ⟨l', i', h', e, hm, hv'⟩ := ih (j + 1) l i h (by omega) hv hp (fun c hc => ⟨(hl c hc).1, by have := (hl c hc).2; omega⟩)
        refine ⟨l', i', h', Ev.step (fun k => ?_) e, hm, hv'⟩
        simp only [spec_l03Mesh.l0, specNodeCount_eq, nodeCount_f, specLeads_eq, leads_f, Option.bind_some]
        rw [w64 (x := 4 * cnt x y) (by omega) (by omega), if_pos (by omega), if_neg (by simpa using h1), ej]
  unfold spec_l03Mesh.f
  simp only [e1, Option.bind_some, e2]
  cases t with
  | true =>
    obtain ⟨l', i', h', e, hm, hv'⟩ := key (4 * cnt x y).toNat 0 [] i2 h2 (by omega) hv2 (by simp) (by simp)
    exact ⟨x, y, l', i', h', Ev.ifp rfl e, hm, hv'⟩
  | false => exact ⟨x, y, [], i2, h2, Ev.ifn (by simp) (Ev.now _), (meshOk_iff x y []).2 ⟨hg, by simp, by simp⟩, hv2⟩
theorem drawMesh_d (b : List Int) (hb : b.length ≤ 1048576) : ∃ x y l, Ev (fun k => spec_DrawMesh.f k b) (x, y, l) ∧ meshOk x y l := by
  obtain ⟨h, e⟩ := new_d b hb
  obtain ⟨x, y, l, i', h', e', hm, _⟩ := mesh_d h (V_new hb)
  exact ⟨x, y, l, Ev.bind e (Ev.bind e' (Ev.now _)), hm⟩
theorem channels_ev (w h : Int) (b : List Int) (hb : b.length ≤ 1048576) : Ev (fun k => impl_Channels.f k w h b) (chans w h b) := by
  have hc := cnt_range w h
  unfold impl_Channels.f
  simp only [nodeCount_f, Option.bind_some]
  have := ev_for (g := fun k s i => impl_Channels.l0 k s (wrap64 (4 * cnt w h)) i w h b) (4 * cnt w h).toNat (fun s j => if decide (hasC w h b (j : Int)) = true then s ++ [(j : Int)] else s) (fun j s => s.length ≤ j) (fun s => s) [] (by simp)
    (fun s hs => Ev.step (f := fun _ => some s) (fun k => by simp only [impl_Channels.l0]; rw [w64 (by omega) (by omega), if_neg (by omega)]) (Ev.now _))
    (fun j s hj (hs : s.length ≤ j) => ⟨ite_append_le hs, fun r hr => by
      refine Ev.step (fun k => by simp only [impl_Channels.l0]; rw [w64 (x := 4 * cnt w h) (by omega) (by omega), if_pos (by omega)]) (Ev.bind (hasChannel_ev w h b j (by omega)) ?_)
      rw [w64 (x := 4 * cnt w h) (by omega) (by omega)] at hr
      by_cases h1 : hasC w h b (j : Int)
      · rw [if_pos (by simpa using h1)] at hr
        refine Ev.ifp (by simpa using h1) (Ev.ifp (by omega) ?_)
        rw [w64 (by omega) (by omega)]; exact hr
      · rw [if_neg (by simpa using h1)] at hr
        refine Ev.ifn (by simpa using h1) ?_
        rw [w64 (by omega) (by omega)]; exact hr⟩)
  rw [foldl_filter (fun j => decide (hasC w h b (j : Int))) (fun j => (j : Int))] at this
  exact this
theorem specChannels_ev (w h : Int) (b : List Int) (hb : b.length ≤ 1048576) (hm : meshOk w h b) : Ev (fun k => spec_Channels.f k w h b) (chans w h b) := by
  have hc := cnt_range w h
  refine Ev.bind (specMeshOk_ev w h b (by omega)) ?_
  rw [decide_eq_true hm]
  have := ev_for (g := fun k s i => spec_Channels.l0 k s true i w h b) (4 * cnt w h).toNat (fun s j => if decide (hasC w h b (j : Int)) = true then s ++ [(j : Int)] else s) (fun j s => s.length ≤ j) (fun s => s) [] (by simp)
    (fun s hs => Ev.step (fun k => by simp only [spec_Channels.l0, specNodeCount_eq, nodeCount_f, Option.bind_some]; rw [w64 (by omega) (by omega), if_neg (by omega)]) (Ev.step (f := fun _ => some s) (fun k => by simp only [spec_Channels.j1]; rw [if_neg (by simp)]) (Ev.now _)))
    (fun j s hj (hs : s.length ≤ j) => ⟨ite_append_le hs, fun r hr => by
      refine Ev.step (fun k => by simp only [spec_Channels.l0, specNodeCount_eq, nodeCount_f, Option.bind_some]; rw [w64 (by omega) (by omega), if_pos (by omega)]) (Ev.step (fun k => by simp only [spec_Channels.j1]; rw [if_pos trivial]) (Ev.bind (specHas_ev w h b j (by omega)) ?_))
      have e : hasC w h b (j : Int) ↔ has w h b (j : Int) := ⟨fun h => h.2, fun h => ⟨hm, h⟩⟩
      by_cases h1 : has w h b (j : Int)
      · rw [if_pos (by simpa using e.2 h1)] at hr
        refine Ev.ifp (by simpa using h1) (Ev.ifp (by omega) ?_)
        rw [w64 (by omega) (by omega)]; exact hr
      · rw [if_neg (by simpa [e] using h1)] at hr
        refine Ev.ifn (by simpa using h1) ?_
        rw [w64 (by omega) (by omega)]; exact hr⟩)
  rw [foldl_filter (fun j => decide (hasC w h b (j : Int))) (fun j => (j : Int))] at this
  exact this
theorem mem_chans {w h : Int} {b : List Int} {c : Int} : c ∈ chans w h b ↔ hasC w h b c := by
  unfold chans
  simp only [List.mem_map, List.mem_filter, List.mem_range, decide_eq_true_eq]
  constructor
  · rintro ⟨a, ⟨_, h1⟩, rfl⟩; exact h1
  · intro h1
    have := h1.2.1.1
    exact ⟨c.toNat, ⟨by omega, by rw [Int.toNat_of_nonneg this.1]; exact h1⟩, Int.toNat_of_nonneg this.1⟩
theorem chans_length (w h : Int) (b : List Int) : (chans w h b).length ≤ 64 := by
  have hc := cnt_range w h
  unfold chans; rw [List.length_map]
  refine Nat.le_trans (List.length_filter_le _ _) ?_
  simp; omega
theorem lawsHas_ev (l : List Int) (v : Int) (hl : l.length ≤ 9223372036854775807) : Ev (fun k => laws_has.f k l v) (decide (v ∈ l)) := by
  have := ev_any (g := fun k i => laws_has.l0 k l v i) l.length (fun j => rd l (j : Int) = v)
    (Ev.step (f := fun _ => some false) (fun k => by simp only [laws_has.l0]; rw [if_neg (by omega)]) (Ev.now _))
    (fun j hj hn r hr => Ev.step (fun k => by simp only [laws_has.l0]; rw [if_pos (by omega), if_pos (by omega), if_neg hn, w64 (by omega) (by omega)]; rfl) hr)
    (fun j hj hy => Ev.step (f := fun _ => some true) (fun k => by simp only [laws_has.l0]; rw [if_pos (by omega), if_pos (by omega), if_pos hy]) (Ev.now _))
  have e : (∃ j, j < l.length ∧ rd l (j : Int) = v) ↔ v ∈ l := by
    constructor
    · rintro ⟨j, hj, rfl⟩; rw [rd_at hj]; exact List.getElem_mem _
    · intro hm; obtain ⟨j, hj, rfl⟩ := List.getElem_of_mem hm; exact ⟨j, hj, rd_at hj⟩
  rw [decide_eq_decide.2 e] at this
  exact this
theorem backs : ∀ w : Nat, w < 5 → ∀ h : Nat, h < 5 → ∀ c : Nat, c < 64 → leads (w : Int) (h : Int) (c : Int) → leads (w : Int) (h : Int) (backC (w : Int) (h : Int) (c : Int)) ∧ backC (w : Int) (h : Int) (backC (w : Int) (h : Int) (c : Int)) = (c : Int) := by
  decide +kernel
theorem back_back {w h c : Int} (h1 : okG w h) (h2 : leads w h c) : leads w h (backC w h c) ∧ backC w h (backC w h c) = c := by
  obtain ⟨⟨a, b⟩, d, e⟩ := h1
  have := leads_lt h2
  have k := backs w.toNat (by omega) h.toNat (by omega) c.toNat (by omega)
  rw [Int.toNat_of_nonneg (by omega), Int.toNat_of_nonneg (by omega), Int.toNat_of_nonneg (by omega)] at k
  exact k h2
theorem FnLinks (l : List Int) (w0 : l.length ≤ maxLen ∧ ∀ x ∈ l, (Go.Lit.int .u8 x).wf = true) : ∃ k, laws_FnLinks.f k l = some true := by
  refine Ev.rounds (?_ : Ev (fun k => laws_FnLinks.f k l) true)
  unfold laws_FnLinks.f laws_big.f
  simp only [Option.bind_some]
  by_cases hs : (l.length : Int) > 1048576
  · simp only [if_pos (decide_eq_true hs)]; exact Ev.now _
  refine Ev.ifn (by simpa using hs) ?_
  obtain ⟨w, h, b, e, hm⟩ := drawMesh_d l (by omega)
  have hb := meshOk_length hm
  refine Ev.bind e (Ev.bind (channels_ev w h b (by omega)) (Ev.bind (specChannels_ev w h b (by omega) hm) (Ev.ifp rfl ?_)))
  have hl := chans_length w h b
  have := ev_all (g := fun k i => laws_FnLinks.l0 k (chans w h b) i w h b) (chans w h b).length (fun _ => True) true
    (Ev.step (f := fun _ => some true) (fun k => by simp only [laws_FnLinks.l0]; rw [if_neg (by omega)]) (Ev.now _))
    (fun j hj _ r hr => by
      have hc : hasC w h b (rd (chans w h b) (j : Int)) := mem_chans.1 (rd_mem (by omega) (by omega))
      refine Ev.step (fun k => by simp only [laws_FnLinks.l0]; rw [if_pos (by omega), if_pos (by omega)]) ?_
      generalize rd (chans w h b) (j : Int) = c at hc
      obtain ⟨h1, h2⟩ := back_back hm.2 hc.2.1
      have := leads_lt hc.2.1
      have := endC_range w h c; have := opp_range (c % 4)
      have e4 : wrap64 (wrap64 (4 * next w h (wrap64 (Int.tdiv c 4)) (Int.tmod c 4)) + opp (Int.tmod c 4)) = backC w h c := by
        rw [Int.tdiv_eq_ediv_of_nonneg (by omega), Int.tmod_eq_emod_of_nonneg (by omega), w64 (x := c / 4) (by omega) (by omega), show next w h (c / 4) (c % 4) = endC w h c from rfl, w64 (x := 4 * endC w h c) (by omega) (by omega), w64 (by omega) (by omega)]; rfl
      simp only [next_f, opp_f, Option.bind_some, e4]
      have l1 : decide (meshOk w h b ∧ link w h b c) = decide (backC w h c ∈ chans w h b) := decide_eq_decide.2 (by rw [mem_chans]; exact ⟨fun e => ⟨hm, e.2.2⟩, fun e => ⟨hm, hc.2, e.2⟩⟩)
      have l2 : decide (meshOk w h b ∧ link w h b c) = decide (meshOk w h b ∧ link w h b (backC w h c)) := decide_eq_decide.2 (by unfold link; rw [h2]; exact ⟨fun e => ⟨hm, e.2.2, e.2.1⟩, fun e => ⟨hm, e.2.2, e.2.1⟩⟩)
      refine Ev.bind (isLink_ev w h b c (by omega)) (Ev.bind (lawsHas_ev _ _ (by omega)) (Ev.ifn (by rw [l1]; simp) ?_))
      refine Ev.bind (isLink_ev w h b c (by omega)) (Ev.bind (isLink_ev w h b _ (by omega)) (Ev.ifn (by rw [l2]; simp) ?_))
      rw [w64 (x := (j : Int) + 1) (by omega) (by omega)]; exact hr)
    (fun j hj _ h => absurd trivial h)
  simpa using this
end Go.Proofs.Ytohkocaalbndoaa.Pure
end
