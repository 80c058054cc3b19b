import Derived.Test.YtohkocaalbndoaaVG3
/-! Branching channels: the functions with closures. -/
set_option linter.all false
namespace Go.Proofs.Ytohkocaalbndoaa.V
open Go Go.VM Go.Proofs
set_option maxRecDepth 10000
variable {frz : Nat} {H : Heap}
/-- the first place where a test holds, or -1 -/
def placeP (p : Int → Bool) (b : List Int) : Int := if b.any p then b.findIdx p else -1
theorem placeP_range (p : Int → Bool) (b : List Int) : -1 ≤ placeP p b ∧ placeP p b < b.length ∧ (0 ≤ placeP p b ↔ b.any p = true) := by
  unfold placeP
  split
  · rename_i h
    obtain ⟨x, hx, hp⟩ := List.any_eq_true.1 h
    have := List.findIdx_lt_length_of_exists ⟨x, hx, hp⟩
    refine ⟨by omega, by omega, ?_⟩
    simp only [h, iff_true]; omega
  · rename_i h
    refine ⟨by omega, by omega, ?_⟩
    simp only [h]; simp
theorem placeP_at {p : Int → Bool} {b : List Int} {i : Nat} (h : i < b.length) (h1 : ∀ x ∈ b.take i, p x = false) (h2 : p b[i] = true) : placeP p b = i := by
  unfold placeP
  rw [if_pos (List.any_eq_true.2 ⟨b[i], List.getElem_mem h, h2⟩)]
  congr 1
  rw [List.findIdx_eq h]
  refine ⟨h2, fun j hj => ?_⟩
  refine Bool.eq_false_iff.1 ?_ |> fun hh => by simpa using hh
  exact h1 _ (by rw [List.mem_take_iff_getElem]; exact ⟨j, by omega, rfl⟩)
theorem indexFunc_c (v f : Value) (p : Int → Bool) (b : List Int) (hI : IsI H v b) (hl : b.length ≤ 1073741824)
    (hf : ∀ x ∈ b, vclos (vcall C H.length) f [.int .i64 x] H = some (.bool (p x), H)) :
   vcall C frz 92 [v, f] H = some (.int .i64 (placeP p b), H) := by
  rw [vcall_go (fn := Try.f92) Try.func92 rfl (by kernel_rfl) rfl]
  simp [hI.len]
  refine go_inv (fun n t H' => ∃ i : Nat, n = b.length - i ∧ i ≤ b.length ∧ t 0 = v ∧ t 1 = f ∧ t 6 = v ∧ t 7 = .int .i64 b.length ∧ t 8 = .int .i64 i ∧ H' = H ∧ ∀ x ∈ b.take i, p x = false) ?_ (n := b.length) ⟨0, by simp⟩
  rintro n t H' ⟨i, rfl, hi, h0, h1, h2, h3, h4, rfl, hj⟩ ih
  simp [h0, h1, h2, h3, h4, hI.len]
  refine br_dec _ ?_ ?_ <;> intro h5
  · simp [h0, h1, h2, h3, h4, h5, hI.idx, hI.load, getD_get, hf]
    refine br_eq _ ?_ ?_ <;> intro h6 <;> simp [h0, h1, h2, h3, h4, h6]
    · rw [placeP_at h5 hj h6]
    · refine ih (b.length - (i + 1)) _ _ ⟨i + 1, rfl, by omega, by simp [h0], by simp [h1], by simp [h2], by simp [h3], ?_, rfl, ?_⟩ (by omega)
      · simp; rw [w64 (by omega) (by omega)]
      · rw [List.take_succ_eq_append_getElem h5]
        intro x hx
        rcases List.mem_append.1 hx with hx | hx
        · exact hj x hx
        · rw [List.mem_singleton.1 hx]; exact h6
  · have : i = b.length := by omega
    subst this
    simp [h0, h1, h2, h3]
    rw [List.take_length] at hj
    rw [placeP, if_neg]
    rw [List.any_eq_true]
    rintro ⟨x, hx, hp⟩
    rw [hj x hx] at hp; cases hp
theorem containsFunc_c (v f : Value) (p : Int → Bool) (b : List Int) (hI : IsI H v b) (hl : b.length ≤ 1073741824)
    (hf : ∀ x ∈ b, vclos (vcall C H.length) f [.int .i64 x] H = some (.bool (p x), H)) :
   vcall C frz 74 [v, f] H = some (.bool (b.any p), H) := by
  rw [vcall_go (fn := Try.f74) Try.func74 rfl (by kernel_rfl) rfl]
  simp [indexFunc_c _ _ _ _ hI hl hf, (placeP_range p b).2.2, -List.any_eq_true]
end Go.Proofs.Ytohkocaalbndoaa.V
