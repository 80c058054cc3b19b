import Derived.Test.YtnakhkfgheapoaaVL1
/-! What the laws' own functions return: meshes copied and compared. -/
set_option linter.all false
namespace Go.Proofs.Ytnakhkfgheapoaa.V
open Go Go.VM Go.Proofs
set_option maxRecDepth 10000
variable {frz : Nat} {H : Heap}
theorem eqIntS_c (a b : Value) (xs ys : List Int) (ha : IsI H a xs) (hb : IsI H b ys) (hl : xs.length ≤ 1073741824) :
   vcall C frz 18 [a, b] H = some (.bool (decide (xs = ys)), H) := by
  rw [vcall_go (fn := Try.f18) Try.func18 rfl (by kernel_rfl) rfl]
  simp [ha.len, hb.len]
  refine br_dec _ ?_ ?_ <;> intro h0 <;> simp [h0]
  · refine go_inv (fun n t H' => ∃ i : Nat, n = xs.length - i ∧ i ≤ xs.length ∧ t 0 = a ∧ t 1 = b ∧ t 5 = .int .i64 i ∧ H' = H ∧ xs.take i = ys.take i) ?_ (n := xs.length) ⟨0, by simp⟩
    rintro n t H' ⟨i, rfl, hi, h1, h2, h3, rfl, h4⟩ ih
    simp [h1, h2, h3, ha.len]
    refine br_dec _ ?_ ?_ <;> intro h
    · have h' : i < ys.length := by omega
      simp [h1, h2, h3, h]
      rw [go_draw (h := by kernel_rfl)]
      simp [h1, h2, h3, h, h', ha.idx, ha.load, hb.idx, hb.load, getD_get]
      refine br_dec _ ?_ ?_ <;> intro h5 <;> simp [h1, h2, h3, h5]
      · refine ih (xs.length - (i + 1)) _ _ ⟨i + 1, rfl, by omega, by simp [h1], by simp [h2], ?_, rfl, ?_⟩ (by omega)
        · simp; rw [w64 (by omega) (by omega)]
        · rw [List.take_succ_eq_append_getElem h, List.take_succ_eq_append_getElem h', h4]; simp [h5]
      · intro hh; subst hh; simp at h5
    · have : i = xs.length := by omega
      subst this
      simp [h1, h2, h3]
      rw [List.take_length, List.take_of_length_le (by omega)] at h4
      exact h4
  · intro hh; exact h0 (by rw [hh])
theorem toGrid_c (w h : Int) : vcall C frz 91 [.agg #[.int .i64 w, .int .i64 h]] H = some (.agg #[.int .i64 w, .int .i64 h], H) := by
  rw [vcall_go (fn := Try.f91) Try.func91 rfl (by kernel_rfl) rfl]
  simp
theorem szMesh_c (w h : Int) (v : Value) (xs : List Int) (n : Int) (hI : IsI H v xs) (h0 : 0 ≤ n) (h1 : n ≤ 1048576) (h2 : xs.length ≤ 9223372036854775807) :
    vcall C frz 33 [.agg #[.int .i64 w, .int .i64 h, v], .int .i64 n] H = some (.int .i64 (if n < xs.length then -1 else n - xs.length), H) := by
  rw [vcall_go (fn := Try.f33) Try.func33 rfl (by kernel_rfl) rfl]
  simp [szIntS_c _ _ _ (hI.app _) h0 h1 h2, hI.one', hI.cells]
  refine br_dec _ ?_ ?_ <;> intro h <;> simp [h]
  · intro hh; omega
theorem toMesh_c (w h : Int) (v : Value) (xs : List Int) (hI : IsI H v xs) (hb : xs.length ≤ 1073741824) :
   vcall C frz 35 [.agg #[.int .i64 w, .int .i64 h, v]] H = some (.agg #[.int .i64 w, .int .i64 h, .slice (some ⟨H.length, 0, some 0⟩) xs.length 0], H ++ [⟨xs.map (.int .i64), 0, 3⟩]) := by
  rw [vcall_go (fn := Try.f35) Try.func35 rfl (by kernel_rfl) rfl]
  simp [toGrid_c, toIntS_c _ _ (hI.app _) hb, hI.one', hI.cells]
theorem eqGrid_c (w h w' h' : Int) : vcall C frz 93 [.agg #[.int .i64 w, .int .i64 h], .agg #[.int .i64 w', .int .i64 h']] H = some (.bool (decide (w = w' ∧ h = h')), H) := by
  rw [vcall_go (fn := Try.f93) Try.func93 rfl (by kernel_rfl) rfl]
  simp
  refine br_dec _ ?_ ?_ <;> intro h0 <;> simp [h0]
  refine br_dec _ ?_ ?_ <;> intro h0 <;> simp [h0]
theorem eqMesh_c (w h w' h' : Int) (a b : Value) (xs ys : List Int) (ha : IsI H a xs) (hb : IsI H b ys) (hl : xs.length ≤ 1073741824) :
   vcall C frz 38 [.agg #[.int .i64 w, .int .i64 h, a], .agg #[.int .i64 w', .int .i64 h', b]] H = some (.bool (decide ((w = w' ∧ h = h') ∧ xs = ys)), H) := by
  rw [vcall_go (fn := Try.f38) Try.func38 rfl (by kernel_rfl) rfl]
  simp [eqGrid_c, ha.one', hb.one', ha.cells, hb.cells, -Bool.decide_and]
  refine br_dec _ ?_ ?_ <;> intro h0 <;> simp [h0, eqIntS_c _ _ _ _ (ha.app _) (hb.app _) hl]
  refine br_dec _ ?_ ?_ <;> intro h0 <;> simp [h0]
end Go.Proofs.Ytnakhkfgheapoaa.V
