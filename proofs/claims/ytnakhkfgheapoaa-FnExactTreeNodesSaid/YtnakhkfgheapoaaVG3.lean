import Derived.Test.YtnakhkfgheapoaaVL2
/-! What the functions on meshes return. -/
set_option linter.all false
namespace Go.Proofs.Ytnakhkfgheapoaa.V
open Go Go.VM Go.Proofs
set_option maxRecDepth 10000
variable {frz : Nat} {H : Heap}
theorem goodAt_bad {w h : Int} {b : List Int} {i : Nat} (h5 : i < b.length) (hg : ¬ goodAt w h b i) : ¬ meshOk w h b := fun hh => hg (hh.1 i h5)
theorem goodAt_succ {w h : Int} {b : List Int} {i : Nat} (hj : ∀ j < i, goodAt w h b j) (hg : goodAt w h b i) : ∀ j < i + 1, goodAt w h b j := fun j hh => by
  by_cases hji : j < i
  · exact hj j hji
  · have : j = i := by omega
    rw [this]; exact hg
theorem goodAt_iff {w h : Int} {b : List Int} {i : Nat} (h5 : i < b.length) : goodAt w h b i ↔ leads w h b[i] ∧ (0 < i → b[i - 1] < b[i]) := by
  unfold goodAt
  rw [getD_get _ _ h5]
  refine and_congr Iff.rfl ⟨fun g p => ?_, fun g p => ?_⟩
  · have := g p; rwa [getD_get _ _ (by omega)] at this
  · rw [getD_get _ _ (by omega)]; exact g p
theorem sMeshOk_c (w h : Int) (v : Value) (b : List Int) (hI : IsI H v b) (hl : b.length ≤ 1073741824) :
   vcall C frz 106 [.agg #[.int .i64 w, .int .i64 h, v]] H = some (.bool (decide (meshOk w h b)), H) := by
  rw [vcall_go (fn := Try.f106) Try.func106 rfl (by kernel_rfl) rfl]
  simp [hI.one', hI.cells, hI.lenA, sGridOk_c]
  refine br_dec _ ?_ ?_ <;> intro hg <;> simp [hg]
  · refine go_inv (fun n t H' => ∃ i : Nat, n = b.length - i ∧ i ≤ b.length ∧ t 1 = .pointer (some ⟨H.length, 0, some 0⟩) ∧ t 3 = .int .i64 i ∧
      H' = H ++ [⟨[.int .i64 w, .int .i64 h, v], 0, 33⟩] ∧ ∀ j < i, goodAt w h b j) ?_ (n := b.length) ⟨0, by simp⟩
    rintro n t H' ⟨i, rfl, hi, h1, h3, rfl, hj⟩ ih
    have next := fun (t' : Env) (e1 : t' 1 = .pointer (some ⟨H.length, 0, some 0⟩)) (e2 : t' 3 = .int .i64 (i + 1 : Nat)) (e3 : i < b.length) (e4 : goodAt w h b i) =>
      ih (b.length - (i + 1)) t' _ ⟨i + 1, rfl, by omega, e1, e2, rfl, goodAt_succ hj e4⟩ (by omega)
    simp [h1, h3, hI.lenA]
    refine br_dec _ ?_ ?_ <;> intro h5
    · simp [h1, h3, h5]
      rw [go_draw (h := by kernel_rfl)]
      simp [h1, h3, h5, hI.idxA, hI.loadA, getD_get, l03Leads_c]

      refine gd_dec _ _ ?_ ?_ <;> intro hL <;> simp [h1, h3, h5, hL]
      · refine gd_dec _ _ ?_ ?_ <;> intro h0
        · have e : IntKind.i64.wrap ((i : Int) - 1) = ((i - 1 : Nat) : Int) := by rw [w64 (by omega) (by omega)]; omega
          have e' : i - 1 < b.length := by omega
          simp [h1, h3, h5, h0, hL, hI.idxA, hI.loadA, getD_get, e, e']
          refine br_dec _ ?_ ?_ <;> intro h6
          · simp [h1, h3, h5, h0, hL, h6]
            refine goodAt_bad h5 ?_
            rw [goodAt_iff h5]
            exact fun hh => absurd (hh.2 h0) (by omega)
          · simp [h1, h3, h5, h0, hL, h6]
            refine next _ (by simp [h1]) ?_ h5 ((goodAt_iff h5).2 ⟨hL, fun _ => by omega⟩)
            simp; rw [w64 (by omega) (by omega)]
        · simp [h1, h3, h5, h0, hL]
          refine next _ (by simp [h1]) ?_ h5 ((goodAt_iff h5).2 ⟨hL, fun hh => absurd hh h0⟩)
          simp; rw [w64 (by omega) (by omega)]
      · refine goodAt_bad h5 ?_
        rw [goodAt_iff h5]
        exact fun hh => hL hh.1
    · have : i = b.length := by omega
      subst this
      simp [h1, h3]
      exact ⟨hj, hg⟩
  · exact fun hh => hg hh.2
theorem notin_succ {b : List Int} {c : Int} {i : Nat} (h : i < b.length) (h1 : c ∉ b.take i) (h2 : ¬ b[i] = c) : c ∉ b.take (i + 1) := by
  rw [List.take_succ_eq_append_getElem h]
  simp only [List.mem_append, List.mem_singleton, not_or]
  exact ⟨h1, fun hh => h2 hh.symm⟩
/-- the place of a number, or -1 -/
def place (b : List Int) (c : Int) : Int := if c ∈ b then b.idxOf c else -1
theorem place_range (b : List Int) (c : Int) : -1 ≤ place b c ∧ place b c < b.length ∧ (0 ≤ place b c ↔ c ∈ b) := by
  unfold place
  split
  · rename_i h
    have := List.idxOf_lt_length_iff.2 h
    refine ⟨by omega, by omega, ?_⟩
    simp [h]
  · rename_i h
    refine ⟨by omega, by omega, ?_⟩
    simp [h]
theorem place_at {b : List Int} {c : Int} {i : Nat} (h : i < b.length) (h1 : c ∉ b.take i) (h2 : b[i] = c) : place b c = i := by
  have hm : c ∈ b := h2 ▸ List.getElem_mem h
  unfold place
  rw [if_pos hm]
  have e : b = b.take i ++ b.drop i := (List.take_append_drop i b).symm
  have e2 : b.drop i = c :: b.drop (i + 1) := by rw [List.drop_eq_getElem_cons h, h2]
  rw [e, List.idxOf_append, if_neg h1, e2, List.idxOf_cons_self]
  simp; omega
theorem find_c (v : Value) (b : List Int) (c : Int) (hI : IsI H v b) (hl : b.length ≤ 1073741824) :
   vcall C frz 119 [v, .int .i64 c] H = some (.bool (decide (c ∈ b)), H) := by
  rw [vcall_go (fn := Try.f119) Try.func119 rfl (by kernel_rfl) rfl]
  simp [hI.len]
  refine go_inv (fun n t H' => ∃ i : Nat, n = b.length - i ∧ i ≤ b.length ∧ t 0 = v ∧ t 1 = .int .i64 c ∧ t 5 = .int .i64 i ∧ H' = H ∧ c ∉ b.take i) ?_ (n := b.length) ⟨0, by simp⟩
  rintro n t H' ⟨i, rfl, hi, h1, h2, h3, rfl, hj⟩ ih
  simp [h1, h2, h3, hI.len]
  refine br_dec _ ?_ ?_ <;> intro h5
  · simp [h1, h2, h3, h5, hI.idx, hI.load, getD_get]
    refine br_dec _ ?_ ?_ <;> intro h6 <;> simp [h1, h2, h3, h6]
    · rw [← h6]; exact List.getElem_mem h5
    · refine ih (b.length - (i + 1)) _ _ ⟨i + 1, rfl, by omega, by simp [h1], by simp [h2], ?_, rfl, notin_succ h5 hj h6⟩ (by omega)
      simp; rw [w64 (by omega) (by omega)]
  · have : i = b.length := by omega
    subst this
    simp [h1, h2, h3]
    rwa [List.take_length] at hj
theorem index_c (v : Value) (b : List Int) (c : Int) (hI : IsI H v b) (hl : b.length ≤ 1073741824) :
   vcall C frz 71 [v, .int .i64 c] H = some (.int .i64 (place b c), H) := by
  rw [vcall_go (fn := Try.f71) Try.func71 rfl (by kernel_rfl) rfl]
  simp [hI.len]
  refine go_inv (fun n t H' => ∃ i : Nat, n = b.length - i ∧ i ≤ b.length ∧ t 0 = v ∧ t 1 = .int .i64 c ∧ t 6 = v ∧ t 7 = .int .i64 b.length ∧ t 8 = .int .i64 i ∧ H' = H ∧ c ∉ b.take i) ?_ (n := b.length) ⟨0, by simp⟩
  rintro n t H' ⟨i, rfl, hi, h0, h1, h2, h3, h4, rfl, hj⟩ ih
  simp [h0, h1, h2, h3, h4, hI.len]
  refine br_dec _ ?_ ?_ <;> intro h5
  · simp [h0, h1, h2, h3, h4, h5, hI.idx, hI.load, getD_get]
    refine br_dec _ ?_ ?_ <;> intro h6 <;> simp [h0, h1, h2, h3, h4, h6]
    · rw [place_at (c := b[i]) h5 (by first | exact hj | (rw [h6]; exact hj) | (rw [← h6]; exact hj)) rfl]
    · refine ih (b.length - (i + 1)) _ _ ⟨i + 1, rfl, by omega, by simp [h0], by simp [h1], by simp [h2], by simp [h3], ?_, rfl, notin_succ h5 hj (by omega)⟩ (by omega)
      simp; rw [w64 (by omega) (by omega)]
  · have : i = b.length := by omega
    subst this
    simp [h0, h1, h2, h3]
    rw [List.take_length] at hj
    rw [place, if_neg hj]
theorem contains_c (v : Value) (b : List Int) (c : Int) (hI : IsI H v b) (hl : b.length ≤ 1073741824) :
   vcall C frz 82 [v, .int .i64 c] H = some (.bool (decide (c ∈ b)), H) := by
  rw [vcall_go (fn := Try.f82) Try.func82 rfl (by kernel_rfl) rfl]
  simp [index_c _ _ _ hI hl, place_range]
theorem l03Has_c (w h : Int) (v : Value) (b : List Int) (c : Int) (hI : IsI H v b) (hl : b.length ≤ 1073741824) :
   vcall C frz 107 [.agg #[.int .i64 w, .int .i64 h, v], .int .i64 c] H = some (.bool (decide (has w h b c)), H) := by
  rw [vcall_go (fn := Try.f107) Try.func107 rfl (by kernel_rfl) rfl]
  simp [hI.one', hI.cells, l03Leads_c]
  refine gd_dec _ _ ?_ ?_ <;> intro h1 <;> simp [h1, find_c _ _ _ (hI.app _) hl, has, -Bool.decide_and]
theorem l31Ok_c (w h : Int) (v : Value) (b : List Int) (r : Int) (hI : IsI H v b) (hl : b.length ≤ 1073741824) :
   vcall C frz 148 [.agg #[.int .i64 w, .int .i64 h, v], .int .i64 r] H = some (.bool (decide (meshOk w h b ∧ isN w h r)), H) := by
  rw [vcall_go (fn := Try.f148) Try.func148 rfl (by kernel_rfl) rfl]
  simp [hI.one', hI.cells, sMeshOk_c _ _ _ _ (hI.app _) hl]
  refine gd_dec _ _ ?_ ?_ <;> intro h1 <;> simp [h1, l02Has_c, -Bool.decide_and]
theorem endOf_c (w h : Int) (v : Value) (b : List Int) (c : Int) (hI : IsI H v b) (h0 : leads w h c) :
   vcall C frz 81 [.agg #[.int .i64 w, .int .i64 h, v], .int .i64 c] H = some (.int .i64 (next w h (c / 4) (c % 4)), H) := by
  rw [vcall_go (fn := Try.f81) Try.func81 rfl (by kernel_rfl) rfl]
  obtain ⟨e1, e2⟩ := chan_div h0.1
  simp [hI.one', hI.cells, e1, e2, nextNode_c]
theorem meshOk_c (w h : Int) (v : Value) (b : List Int) (hI : IsI H v b) (hl : b.length ≤ 1073741824) :
   vcall C frz 56 [.agg #[.int .i64 w, .int .i64 h, v]] H = some (.bool (decide (meshOk w h b)), H) := by
  rw [vcall_go (fn := Try.f56) Try.func56 rfl (by kernel_rfl) rfl]
  simp [hI.one', hI.cells, hI.lenA]
  refine go_inv (fun n t H' => ∃ i : Nat, n = b.length - i ∧ i ≤ b.length ∧ t 1 = .pointer (some ⟨H.length, 0, some 0⟩) ∧ t 6 = v ∧ t 7 = .int .i64 b.length ∧ t 8 = .int .i64 i ∧
      H' = H ++ [⟨[.int .i64 w, .int .i64 h, v], 0, 33⟩] ∧ ∀ j < i, goodAt w h b j) ?_ (n := b.length) ⟨0, by simp⟩
  rintro n t H' ⟨i, rfl, hi, h1, h2, h3, h4, rfl, hj⟩ ih
  have next := fun (t' : Env) (e1 : t' 1 = .pointer (some ⟨H.length, 0, some 0⟩)) (e2 : t' 6 = v) (e3 : t' 7 = .int .i64 b.length) (e4 : t' 8 = .int .i64 (i + 1 : Nat)) (e5 : i < b.length) (e6 : goodAt w h b i) =>
      ih (b.length - (i + 1)) t' _ ⟨i + 1, rfl, by omega, e1, e2, e3, e4, rfl, goodAt_succ hj e6⟩ (by omega)
  simp [h1, h2, h3, h4]
  refine br_dec _ ?_ ?_ <;> intro h5
  · simp [h1, h2, h3, h4, h5, hI.idxA, hI.loadA, getD_get, leads_c]
    refine gd_dec _ _ ?_ ?_ <;> intro hL <;> simp [h1, h2, h3, h4, h5, hL]
    · refine gd_dec _ _ ?_ ?_ <;> intro h0
      · have e : IntKind.i64.wrap ((i : Int) - 1) = ((i - 1 : Nat) : Int) := by rw [w64 (by omega) (by omega)]; omega
        have e' : i - 1 < b.length := by omega
        simp [h1, h2, h3, h4, h5, h0, hL, hI.idxA, hI.loadA, getD_get, e, e']
        refine br_dec _ ?_ ?_ <;> intro h6
        · simp [h1, h2, h3, h4, h5, h0, hL, h6]
          refine goodAt_bad h5 ?_
          rw [goodAt_iff h5]
          exact fun hh => absurd (hh.2 h0) (by omega)
        · simp [h1, h2, h3, h4, h5, h0, hL, h6]
          refine next _ (by simp [h1]) (by simp [h2]) (by simp [h3]) ?_ h5 ((goodAt_iff h5).2 ⟨hL, fun _ => by omega⟩)
          simp; rw [w64 (by omega) (by omega)]
      · simp [h1, h2, h3, h4, h5, h0, hL]
        refine next _ (by simp [h1]) (by simp [h2]) (by simp [h3]) ?_ h5 ((goodAt_iff h5).2 ⟨hL, fun hh => absurd hh h0⟩)
        simp; rw [w64 (by omega) (by omega)]
    · refine goodAt_bad h5 ?_
      rw [goodAt_iff h5]
      exact fun hh => hL hh.1
  · have : i = b.length := by omega
    subst this
    simp [h1, h2, h3, h4, gridOk_c]
    exact ⟨fun hg => ⟨hj, hg⟩, fun hh => hh.2⟩
theorem isRoot_c (w h : Int) (v : Value) (b : List Int) (r : Int) (hI : IsI H v b) (hl : b.length ≤ 1073741824) :
   vcall C frz 77 [.agg #[.int .i64 w, .int .i64 h, v], .int .i64 r] H = some (.bool (decide (meshOk w h b ∧ isN w h r)), H) := by
  rw [vcall_go (fn := Try.f77) Try.func77 rfl (by kernel_rfl) rfl]
  simp [hI.one', hI.cells, meshOk_c _ _ _ _ (hI.app _) hl]
  refine gd_dec _ _ ?_ ?_ <;> intro h1 <;> simp [h1, isNode_c, -Bool.decide_and]
theorem hasChannel_c (w h : Int) (v : Value) (b : List Int) (c : Int) (hI : IsI H v b) (hl : b.length ≤ 1073741824) :
   vcall C frz 57 [.agg #[.int .i64 w, .int .i64 h, v], .int .i64 c] H = some (.bool (decide (meshOk w h b ∧ has w h b c)), H) := by
  rw [vcall_go (fn := Try.f57) Try.func57 rfl (by kernel_rfl) rfl]
  simp [hI.one', hI.cells, meshOk_c _ _ _ _ (hI.app _) hl]
  refine gd_dec _ _ ?_ ?_ <;> intro h1 <;> simp [h1, leads_c, -Bool.decide_and]
  refine gd_dec _ _ ?_ ?_ <;> intro h2 <;> simp [h2, has, contains_c _ _ _ (hI.app _) hl, -Bool.decide_and]
end Go.Proofs.Ytnakhkfgheapoaa.V
