import Derived.Test.YtnakhkfgheapoaaVG3
import Derived.Test.YtnakhkfgheapoaaVM22
/-! Tables: the plain walk. -/
set_option linter.all false
namespace Go.Proofs.Ytnakhkfgheapoaa.V
open Go Go.VM Go.Proofs
set_option maxRecDepth 10000
def portOf (w h : Int) (T : List Int) (a to : Int) : Int := rd T (a * cnt w h + to)
def stepOk (w h : Int) (b T : List Int) (a to : Int) : Prop := inR 0 (portOf w h T a to) 3 ∧ has w h b (4 * a + portOf w h T a to)
instance (w h : Int) (b T : List Int) (a to : Int) : Decidable (stepOk w h b T a to) := inferInstanceAs (Decidable (_ ∧ _))
def walkN (w h : Int) (b T : List Int) (to : Int) : Nat → Int → List Int → List Int
  | 0, a, out => if portOf w h T a to = 4 then (if a = to then out else []) else []
  | f + 1, a, out => if portOf w h T a to = 4 then (if a = to then out else []) else
      if stepOk w h b T a to then walkN w h b T to f (next w h a (portOf w h T a to)) (out ++ [4 * a + portOf w h T a to]) else []
/-- the walk of a table -/
def walk (w h : Int) (b T : List Int) (a to : Int) : List Int := walkN w h b T to (cnt w h).toNat a []
def tsized (w h : Int) (b T : List Int) : Prop := meshOk w h b ∧ (T.length : Int) = cnt w h * cnt w h
instance (w h : Int) (b T : List Int) : Decidable (tsized w h b T) := inferInstanceAs (Decidable (_ ∧ _))
def tableOk (w h : Int) (b T : List Int) : Prop := tsized w h b T ∧ ∀ a, a < (cnt w h).toNat → ∀ c, c < (cnt w h).toNat → (a = c → portOf w h T a a = 4) ∧ (a ≠ c → walk w h b T a c ≠ [])
instance (w h : Int) (b T : List Int) : Decidable (tableOk w h b T) := inferInstanceAs (Decidable (_ ∧ _))
theorem walkN_len (w h : Int) (b T : List Int) (to : Int) : ∀ f a out, (walkN w h b T to f a out).length ≤ out.length + f := by
  intro f
  induction f with
  | zero => intro a out; simp only [walkN]; repeat' split
            all_goals simp
  | succ f ih =>
    intro a out; simp only [walkN]; repeat' split
    · omega
    · simp
    · have := ih (next w h a (portOf w h T a to)) (out ++ [4 * a + portOf w h T a to])
      simp at this; omega
    · simp
theorem nodeAt_isN {w h x y : Int} (hx : 0 ≤ nodeAt w h x y) : isN w h (nodeAt w h x y) := by
  refine ⟨hx, ?_⟩
  unfold nodeAt at hx ⊢
  split
  · rename_i h1
    obtain ⟨h1, h2, h3⟩ := h1
    have hm := mul_small h1
    have c2 : y * w ≤ (h - 1) * w := Int.mul_le_mul_of_nonneg_right (by omega) (by have := h1.1.1; omega)
    rw [Int.sub_mul, Int.mul_comm h w] at c2
    rw [cnt, if_pos h1]
    omega
  · rename_i h1; rw [if_neg h1] at hx; omega
theorem next_isN {w h a p : Int} (hx : 0 ≤ next w h a p) : isN w h (next w h a p) := by
  unfold next at hx ⊢
  by_cases h1 : isN w h a
  · rw [if_pos h1] at hx ⊢
    by_cases p0 : p = 0
    · rw [if_pos p0] at hx ⊢; exact nodeAt_isN hx
    rw [if_neg p0] at hx ⊢
    by_cases p1 : p = 1
    · rw [if_pos p1] at hx ⊢; exact nodeAt_isN hx
    rw [if_neg p1] at hx ⊢
    by_cases p2 : p = 2
    · rw [if_pos p2] at hx ⊢; exact nodeAt_isN hx
    rw [if_neg p2] at hx ⊢
    by_cases p3 : p = 3
    · rw [if_pos p3] at hx ⊢; exact nodeAt_isN hx
    rw [if_neg p3] at hx ⊢
    by_cases p4 : p = 4
    · rw [if_pos p4] at hx ⊢; exact h1
    rw [if_neg p4] at hx; omega
  · rw [if_neg h1] at hx; omega
theorem step_next {w h a p : Int} {b : List Int} (h0 : inR 0 p 3) (h1 : has w h b (4 * a + p)) : (4 * a + p) / 4 = a ∧ (4 * a + p) % 4 = p ∧ isN w h (next w h a p) := by
  obtain ⟨h2, h3⟩ := h0
  have e1 : (4 * a + p) / 4 = a := by omega
  have e2 : (4 * a + p) % 4 = p := by omega
  refine ⟨e1, e2, next_isN ?_⟩
  have := h1.1.2
  rwa [e1, e2] at this
theorem at_small {w h a to : Int} (h1 : isN w h a) (h2 : isN w h to) : 0 ≤ a * cnt w h + to ∧ a * cnt w h + to < cnt w h * cnt w h ∧ a * cnt w h ≤ 256 ∧ 0 ≤ a * cnt w h := by
  have hc := cnt_range w h
  obtain ⟨a1, a2⟩ := h1
  obtain ⟨b1, b2⟩ := h2
  have c1 : 0 * 0 ≤ a * cnt w h := Int.mul_le_mul a1 hc.1 (by omega) (by omega)
  have c2 : a * cnt w h ≤ (cnt w h - 1) * cnt w h := Int.mul_le_mul_of_nonneg_right (by omega) hc.1
  rw [Int.sub_mul] at c2
  have c3 : cnt w h * cnt w h ≤ 16 * 16 := Int.mul_le_mul hc.2 hc.2 hc.1 (by omega)
  omega
theorem rd_get {T : List Int} {k : Int} (h0 : 0 ≤ k) (h1 : k < T.length) : T.getD k.toNat 0 = rd T k := rfl
end Go.Proofs.Ytnakhkfgheapoaa.V
