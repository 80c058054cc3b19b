import Derived.Test.YtnakhkfgheapoaaVN3
/-! TreeNodes. -/
set_option linter.all false
namespace Go.Proofs.Ytnakhkfgheapoaa.V
open Go Go.VM Go.Proofs
set_option maxRecDepth 10000
variable {frz : Nat} {H : Heap}
theorem made_base {α : Type} {D : Fl α} {e : TypeId} {L H' : Heap} {xs : List α} {r : Value} (h : Made D e (H ++ L) xs r H') : Made D e H xs r H' := by
  obtain ⟨M, rfl, o, n⟩ := h
  exact ⟨L ++ M, by simp, by simpa using o, fun i hi => by have := n i hi; simp at this; omega⟩
theorem idx_get {y : List Int} {c : Int} (h : c ∈ y) : y[y.idxOf c]'(List.idxOf_lt_length_iff.2 h) = c := by
  have := List.findIdx_getElem (p := (· == c)) (xs := y) (w := List.idxOf_lt_length_iff.2 h)
  simpa using this
theorem idx_ne {y : List Int} {c : Int} {j : Nat} (h : j < y.idxOf c) (h' : j < y.length) : y[j] ≠ c := by
  have := List.not_of_lt_findIdx (p := (· == c)) (xs := y) h
  simpa using this
theorem idx_at {y : List Int} {c : Int} {j : Nat} (h : j < y.length) (h1 : y[j] = c) : y.idxOf c ≤ j := by
  by_cases hj : j < y.idxOf c
  · exact absurd h1 (idx_ne hj h)
  · omega
theorem swapI {A B : Heap} {v : Value} {xs : List Int} {r : Row} (r' : Row) (h : IsI (A ++ r :: B) v xs) (hn : ∀ i ∈ ids v, A.length + 1 ≤ i) : IsI (A ++ r' :: B) v xs :=
  (h.rd.frame fun i hi => by
    have := hn i hi
    obtain ⟨k, rfl⟩ : ∃ k, i = A.length + (k + 1) := ⟨i - A.length - 1, by omega⟩
    simp).isI
theorem treeNodes_w (v : Value) (P : List Int) (a b : Int) (hI : IsI H v P) (hl : P.length ≤ 536870911) :
   wp (vcall C frz 17 [v, .int .i64 a, .int .i64 b] H) (Made Fl.int 3 H (treeNodes P a b)) := by
  rw [vcall_go (fn := Try.f17) Try.func17 rfl (by kernel_rfl) rfl]
  simp [common_c _ _ _ _ hI (by omega)]
  refine wp_dec ?_ ?_ <;> intro h0
  · simp [treeNodes, h0]
    exact ⟨[], by simp, .inl ⟨rfl, rfl⟩, by simp⟩
  · simp
    refine wp_thn (anc_w v P a hI (by omega)) ?_
    rintro va _ ⟨L1, rfl, oa, na⟩
    simp
    refine wp_thn (anc_w v P b (hI.app _) (by omega)) ?_
    rintro vb _ ⟨L2, rfl, ob, nb⟩
    have ltA := oa.lt
    have oa := oa.app (L := L2)
    have hla := anc_len P a
    have hlb := anc_len P b
    simp only [List.append_assoc] at oa ob
    obtain ⟨ma, mb⟩ := common_mem (P := P) (a := a) (b := b) (by omega)
    have ia := List.idxOf_lt_length_iff.2 ma
    have ib := List.idxOf_lt_length_iff.2 mb
    simp
    rw [go_draw (h := by kernel_rfl)]
    have e1 : IntKind.i64.wrap (((anc P a).idxOf (common P a b) : Int) + 1) = (((anc P a).idxOf (common P a b) + 1 : Nat) : Int) := by rw [w64 (by omega) (by omega)]; omega
    obtain ⟨va', s1, oa', ida⟩ := oa.slice (P := Try.prog) (ty := 22) (by simp) (lo := none) (hi := some (.int .i64 (((anc P a).idxOf (common P a b) + 1 : Nat) : Int))) (l := 0) (u := (anc P a).idxOf (common P a b) + 1) rfl rfl (by omega) (by omega)
    obtain ⟨vb', s2, ob', idb⟩ := ob.slice (P := Try.prog) (ty := 22) (by simp) (lo := none) (hi := some (.int .i64 ((anc P b).idxOf (common P a b) : Int))) (l := 0) (u := (anc P b).idxOf (common P a b)) rfl rfl (by omega) (by omega)
    rw [List.drop_zero, Nat.sub_zero] at oa' ob'
    have e0 : place (anc P a) (common P a b) = ((anc P a).idxOf (common P a b) : Int) := if_pos ma
    have e00 : place (anc P b) (common P a b) = ((anc P b).idxOf (common P a b) : Int) := if_pos mb
    rw [e1.symm] at s1
    simp [index_c _ _ _ oa.rd.isI (by omega), e0]
    simp only [s1]
    simp [index_c _ _ _ ob.rd.isI (by omega), e00]
    simp only [s2]
    simp
    rw [ida.symm] at na ltA
    rw [idb.symm] at nb
    refine wp_thn (reverse_w vb' _ 3 ob' (by simp; omega) (fun i hi => by have := nb i hi; simp at this; omega)) ?_
    rintro _ H3 ⟨ob3, c3, l3⟩
    have oa3 := oa'.chg c3 (fun i hi hh => by have h1 := ltA i hi; have h2 := nb i hh; omega)
    obtain ⟨M, rfl⟩ : ∃ M, H3 = H ++ M := ((Chg.app (H := H) (L := L1 ++ L2) []).trans' c3 (fun i hi => .inr (by have := nb i hi; simp at this; omega))).ex (by simp)
    simp
    simp [oa3.rd.one', oa3.rd.cells, ob3.rd.one', ob3.rd.cells]
    refine wp_thn (Q' := Made Fl.int 3 H (treeNodes P a b)) ?_ ?_
    · refine (made_ret (H := H ++ (M ++ [⟨[va', vb'], 0, 22⟩])) (concat_c (H := H ++ (M ++ [⟨[va', vb'], 0, 22⟩])) (H.length + M.length) va' vb' ((anc P a).take ((anc P a).idxOf (common P a b) + 1)) ((anc P b).take ((anc P b).idxOf (common P a b))).reverse (by simp) ?_ ?_ (by simp; omega))).mono ?_
      · have := oa3.rd.isI.app [⟨[va', vb'], 0, 22⟩]; simpa using this
      · have := ob3.rd.isI.app [⟨[va', vb'], 0, 22⟩]; simpa using this
      · intro r H4 h4
        rw [treeNodes, if_neg h0]
        exact made_base h4
    · intro r H4 h4
      simp
      exact h4
end Go.Proofs.Ytnakhkfgheapoaa.V
