import Derived.Test.YtnakhkfgheapoaaVN1
import Derived.Test.YtnakhkfgheapoaaVP0
import Derived.Test.YtnakhkfgheapoaaVM24
/-! Ancestors. -/
set_option linter.all false
namespace Go.Proofs.Ytnakhkfgheapoaa.V
open Go Go.VM Go.Proofs
set_option maxRecDepth 10000
variable {frz : Nat} {H : Heap}
theorem sAnc_c (v : Value) (P : List Int) (a : Int) (hI : IsI H v P) (hl : P.length ≤ 1073741823) :
   vcall C frz 70 [v, .int .i64 a] H = some (.slice (some ⟨H.length, 0, some 0⟩) (anc P a).length 0, H ++ [⟨(anc P a).map (.int .i64), 0, 3⟩]) := by
  rw [vcall_go (fn := Try.f70) Try.func70 rfl (by kernel_rfl) rfl]
  simp
  refine go_inv (fun n t H' => ∃ (o : List Int) (g : Nat) (x : Int) (G : Heap), n = P.length - o.length ∧ t 0 = v ∧ t 5 = .slice (some ⟨H.length, 0, some g⟩) o.length 0 ∧ t 6 = .int .i64 x ∧
    H' = H ++ ⟨o.map (.int .i64), g, 3⟩ :: G ∧ o.length ≤ P.length ∧ ancN P (P.length - o.length) x o = anc P a) ?_ (n := P.length) ⟨[], 0, a, [], by simp [anc]⟩
  rintro n t H' ⟨o, g, x, G, rfl, h0, h5, h6, rfl, ho, hw⟩ ih
  have hin : inR 0 x (IntKind.i64.wrap ((P.length : Int) - 1)) ↔ inP P x := by
    rw [w64 (by omega) (by omega)]; simp only [inR, inP]; omega
  simp [h0, h5, h6, hI.lenA, l01In_c, inside_c, hin]
  refine br_dec _ ?_ ?_ <;> intro hx
  · simp [h0, h5, h6, hI.lenA]
    refine br_dec _ ?_ ?_ <;> intro hf
    · have hz : anc P a = [] := by
        rw [← hw, show P.length - o.length = 0 by omega, ancN, if_pos hx]
      simp [h0, h5, h6, hz]
    · have q1 : ∀ L, vindexAddr Try.prog (H ++ L) 22 v (.int .i64 x) = some (elp v x.toNat) := fun L => hI.idxA (e := 3) (by simp) hx.1 hx.2
      have q2 : ∀ L, vload Try.prog (H ++ L) 3 (elp v x.toNat) = some (.int .i64 (rd P x)) := fun L => hI.loadA (by simp) (by have := hx.1; have := hx.2; omega)
      simp [h0, h5, h6]
      refine vneed_eq (by omega) ?_
      simp [h0, h5, h6, q1, q2]
      refine ih (P.length - (o.length + 1)) _ _ ⟨o ++ [x], g + 1, rd P x, _, by simp, by simp [h0], by simp, by simp, by simp; rfl, by simp; omega, ?_⟩ (by omega)
      rw [show P.length - o.length = (P.length - (o ++ [x]).length) + 1 by simp; omega, ancN, if_pos hx] at hw
      exact hw
  · have hz : anc P a = if x = -1 ∧ o ≠ [] then o else [] := by
      rw [← hw]; cases P.length - o.length <;> simp only [ancN, if_neg hx]
    simp [h0, h5, h6]
    refine gd_dec _ _ ?_ ?_ <;> intro h1
    · simp [h0, h5, h6, h1]
      by_cases ho0 : o = []
      · simp [h0, h5, h6, h1, ho0, hz]
      · have : o.length ≠ 0 := fun hh => ho0 (List.length_eq_zero_iff.1 hh)
        simp [h0, h5, h6, h1, ho0, hz]
    · simp [h0, h5, h6, h1, hz]
theorem anc_c (v : Value) (P : List Int) (a : Int) (hI : IsI H v P) (hl : P.length ≤ 1073741823) :
   vcall C frz 29 [v, .int .i64 a] H = some (if anc P a = [] then (.slice none 0 0, H) else (.slice (some ⟨H.length, 0, some 0⟩) (anc P a).length 0, H ++ [⟨(anc P a).map (.int .i64), 0, 3⟩])) := by
  rw [vcall_go (fn := Try.f29) Try.func29 rfl (by kernel_rfl) rfl]
  simp
  refine go_inv (fun n t H' => ∃ (o : List Int) (g : Nat) (x : Int) (G : Heap), n = P.length - o.length ∧ t 0 = v ∧ t 5 = .slice (some ⟨H.length, 0, some g⟩) o.length 0 ∧ t 6 = .int .i64 x ∧
    H' = H ++ ⟨o.map (.int .i64), g, 3⟩ :: G ∧ o.length ≤ P.length ∧ ancN P (P.length - o.length) x o = anc P a) ?_ (n := P.length) ⟨[], 0, a, [], by simp [anc]⟩
  rintro n t H' ⟨o, g, x, G, rfl, h0, h5, h6, rfl, ho, hw⟩ ih
  have hin : inR 0 x (IntKind.i64.wrap ((P.length : Int) - 1)) ↔ inP P x := by
    rw [w64 (by omega) (by omega)]; simp only [inR, inP]; omega
  simp [h0, h5, h6, hI.lenA, l01In_c, inside_c, hin]
  have hz : ¬ inP P x → anc P a = if x = -1 ∧ o ≠ [] then o else [] := fun hx => by
    rw [← hw]; cases P.length - o.length <;> simp only [ancN, if_neg hx]
  have hm : ¬ inP P (-1) := fun hh => by have := hh.1; omega
  refine gd_dec _ _ ?_ ?_ <;> intro h1
  · have hx : ¬ inP P x := h1 ▸ hm
    by_cases ho0 : o = []
    · have := hz hx
      simp [ho0] at this
      have hm' : ¬ inR 0 (-1) (IntKind.i64.wrap ((P.length : Int) - 1)) := fun hh => by have := hh.1; omega
      simp [h0, h5, h6, h1, ho0, hI.lenA, inside_c, hm', this]
    · have hol : o.length ≠ 0 := fun hh => ho0 (List.length_eq_zero_iff.1 hh)
      have := hz hx
      simp [h1, ho0] at this
      simp [h0, h5, h6, h1, ho0, this]
  · simp [h0, h5, h6, h1, hI.lenA, inside_c, hin]
    refine gd_dec _ _ ?_ ?_ <;> intro hx
    · simp [h0, h5, h6, hx, hI.lenA]
      refine br_dec _ ?_ ?_ <;> intro hf
      · have hz' : anc P a = [] := by
          rw [← hw, show P.length - o.length = 0 by omega, ancN, if_pos hx]
        simp [h0, h5, h6, hz']
      · have q1 : ∀ L, vindexAddr Try.prog (H ++ L) 22 v (.int .i64 x) = some (elp v x.toNat) := fun L => hI.idxA (e := 3) (by simp) hx.1 hx.2
        have q2 : ∀ L, vload Try.prog (H ++ L) 3 (elp v x.toNat) = some (.int .i64 (rd P x)) := fun L => hI.loadA (by simp) (by have := hx.1; have := hx.2; omega)
        simp [h0, h5, h6]
        refine vneed_eq (by omega) ?_
        simp [h0, h5, h6, q1, q2]
        refine ih (P.length - (o.length + 1)) _ _ ⟨o ++ [x], g + 1, rd P x, _, by simp, by simp [h0], by simp, by simp, by simp; rfl, by simp; omega, ?_⟩ (by omega)
        rw [show P.length - o.length = (P.length - (o ++ [x]).length) + 1 by simp; omega, ancN, if_pos hx] at hw
        exact hw
    · have := hz hx
      simp [h1] at this
      simp [h0, h5, h6, hx, this]
end Go.Proofs.Ytnakhkfgheapoaa.V
