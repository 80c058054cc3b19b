import Derived.Test.YtnakhkfgheapoaaVG2
/-! What the laws' own functions return: arguments copied, compared, counted. -/
set_option linter.all false
namespace Go.Proofs.Ytnakhkfgheapoaa.V
open Go Go.VM Go.Proofs
set_option maxRecDepth 10000
variable {frz : Nat} {H : Heap}
theorem getD_get (xs : List Int) (i : Nat) (h : i < xs.length) : xs.getD i 0 = xs[i] := by simp [List.getD_eq_getElem?_getD, h]
theorem szIntS_c (v : Value) (xs : List Int) (n : Int) (hI : IsI H v xs) (h0 : 0 ≤ n) (h1 : n ≤ 1048576) (h2 : xs.length ≤ 9223372036854775807) :
    vcall C frz 87 [v, .int .i64 n] H = some (.int .i64 (if n < xs.length then -1 else n - xs.length), H) := by
  rw [vcall_go (fn := Try.f87) Try.func87 rfl (by kernel_rfl) rfl]
  simp [hI.len]
  rw [w64 (by omega) (by omega)]
  refine br_dec _ ?_ ?_ <;> intro h <;> simp [h]
  · intro hh; omega
  · intro hh; omega
theorem toIntS_c (v : Value) (xs : List Int) (hI : IsI H v xs) (hb : xs.length ≤ 1073741824) :
   vcall C frz 16 [v] H = some (.slice (some ⟨H.length, 0, some 0⟩) xs.length 0, H ++ [⟨xs.map (.int .i64), 0, 3⟩]) := by
  rw [vcall_go (fn := Try.f16) Try.func16 rfl (by kernel_rfl) rfl]
  simp [hI.len]
  refine vneed_eq (by omega) ?_
  refine go_inv (fun n t H' => ∃ i : Nat, n = xs.length - i ∧ i ≤ xs.length ∧ t 0 = v ∧ t 3 = .slice (some ⟨H.length, 0, some 0⟩) xs.length 0 ∧ t 4 = .int .i64 i ∧
    H' = H ++ [⟨(xs.map (.int .i64)).take i ++ List.replicate (xs.length - i) (.int .i64 0), 0, 3⟩]) ?_ (n := xs.length) ⟨0, by simp⟩
  rintro n t H' ⟨i, rfl, hi, h0, h3, h4, rfl⟩ ih
  simp [h0, h3, h4, hI.lenA]
  refine br_dec _ ?_ ?_ <;> intro h
  · simp [h0, h3, h4, h, hI.idxA, hI.loadA, getD_get]
    refine vneed_eq (by omega) ?_
    refine ih (xs.length - (i + 1)) _ _ ⟨i + 1, rfl, by omega, by simp [h0], by simp [h3], ?_, ?_⟩ (by omega)
    · simp; rw [w64 (by omega) (by omega)]
    · rw [splice_fill' _ _ _ _ h]
  · have : i = xs.length := by omega
    subst this
    simp [h0, h3, h4, scrub_ints]
end Go.Proofs.Ytnakhkfgheapoaa.V
