import Derived.Test.YtnakhkfgheapoaaVBase
import Derived.Test.YtnakhkfgheapoaaVM21
/-! The plain side: grids, meshes. -/
set_option linter.all false
namespace Go.Proofs.Ytnakhkfgheapoaa.V
open Go Go.VM
def rd (b : List Int) (j : Int) : Int := b.getD j.toNat 0
/-- a range, told as one word -/
def inR (lo n hi : Int) : Prop := lo ≤ n ∧ n ≤ hi
instance (lo n hi : Int) : Decidable (inR lo n hi) := inferInstanceAs (Decidable (_ ∧ _))
def okG (w h : Int) : Prop := (1 ≤ w ∧ w ≤ 4) ∧ 1 ≤ h ∧ h ≤ 4
instance (w h : Int) : Decidable (okG w h) := inferInstanceAs (Decidable (_ ∧ _))
def cnt (w h : Int) : Int := if okG w h then w * h else 0
def isN (w h n : Int) : Prop := 0 ≤ n ∧ n < cnt w h
instance (w h n : Int) : Decidable (isN w h n) := inferInstanceAs (Decidable (_ ∧ _))
def nodeAt (w h x y : Int) : Int := if okG w h ∧ (0 ≤ x ∧ x < w) ∧ 0 ≤ y ∧ y < h then y * w + x else -1
def next (w h n p : Int) : Int :=
  if isN w h n then
    (if p = 0 then nodeAt w h (n % w) (n / w - 1) else if p = 1 then nodeAt w h (n % w + 1) (n / w) else if p = 2 then nodeAt w h (n % w) (n / w + 1)
     else if p = 3 then nodeAt w h (n % w - 1) (n / w) else if p = 4 then n else -1)
  else -1
def leads (w h c : Int) : Prop := (0 ≤ c ∧ c < 4 * cnt w h) ∧ 0 ≤ next w h (c / 4) (c % 4)
instance (w h c : Int) : Decidable (leads w h c) := inferInstanceAs (Decidable (_ ∧ _))
def opp (p : Int) : Int := if p = 4 then 4 else if 0 ≤ p ∧ p ≤ 3 then (p + 2) % 4 else -1
def goodAt (w h : Int) (b : List Int) (j : Nat) : Prop := leads w h (b.getD j 0) ∧ (0 < j → b.getD (j - 1) 0 < b.getD j 0)
instance (w h : Int) (b : List Int) (j : Nat) : Decidable (goodAt w h b j) := inferInstanceAs (Decidable (_ ∧ _))
def meshOk (w h : Int) (b : List Int) : Prop := (∀ j, j < b.length → goodAt w h b j) ∧ okG w h
instance (w h : Int) (b : List Int) : Decidable (meshOk w h b) := inferInstanceAs (Decidable (_ ∧ _))
def has (w h : Int) (b : List Int) (c : Int) : Prop := leads w h c ∧ c ∉ b
instance (w h : Int) (b : List Int) (c : Int) : Decidable (has w h b c) := inferInstanceAs (Decidable (_ ∧ _))

theorem mul_small {w h : Int} (h1 : okG w h) : 1 ≤ w * h ∧ w * h ≤ 16 := by
  obtain ⟨⟨a1, a2⟩, b1, b2⟩ := h1
  have c1 : 1 * 1 ≤ w * h := Int.mul_le_mul a1 b1 (by omega) (by omega)
  have c2 : w * h ≤ 4 * 4 := Int.mul_le_mul a2 b2 (by omega) (by omega)
  omega
theorem cnt_range (w h : Int) : 0 ≤ cnt w h ∧ cnt w h ≤ 16 := by
  unfold cnt; split
  · rename_i h1; have := mul_small h1; omega
  · omega
theorem isN_ok {w h n : Int} (h1 : isN w h n) : okG w h ∧ 0 ≤ n ∧ n < w * h ∧ n < 16 := by
  obtain ⟨a, b⟩ := h1
  have := cnt_range w h
  unfold cnt at b; split at b
  · rename_i hg; have := mul_small hg; exact ⟨hg, a, b, by omega⟩
  · omega
theorem w64 {x : Int} (h1 : -9223372036854775808 ≤ x) (h2 : x ≤ 9223372036854775807) : IntKind.i64.wrap x = x := by rw [IntKind.wrap_i64]; omega
end Go.Proofs.Ytnakhkfgheapoaa.V
