import Derived.Test.YtnakhkfgheapoaaVM24
/-! Data that lie in rows of their own. -/
set_option linter.all false
namespace Go.VM
open Go
variable {P : Program} {H H' H'' L : Heap}

/-- a kind of data: V names its slices, A tells what they hold -/
structure Dt (V A : Type) where
  val : V → A → Value
  Ow : Heap → V → A → Prop
  ids : V → List Nat
  frame : ∀ {H H' : Heap} {v : V} {a : A}, Ow H v a → (∀ i ∈ ids v, H'[i]? = H[i]?) → Ow H' v a
  lt : ∀ {H : Heap} {v : V} {a : A}, Ow H v a → ∀ i ∈ ids v, i < H.length
variable {V A : Type} {T : Dt V A} {v : V} {a : A} {is : List Nat}
theorem Dt.chg (h : T.Ow H v a) (c : Chg H H' is) (k : ∀ i ∈ T.ids v, i ∉ is) : T.Ow H' v a := T.frame h fun i hi => c.2 i (T.lt h i hi) (k i hi)
theorem Dt.chg0 (h : T.Ow H v a) (c : Chg H H' []) : T.Ow H' v a := Dt.chg h c (by simp)
theorem Dt.app (h : T.Ow H v a) : T.Ow (H ++ L) v a := Dt.chg0 h (Chg.app [])
/-- what a call hands back in rows of its own -/
def Dt.Made (T : Dt V A) (H : Heap) (a : A) (r : Value) (H' : Heap) : Prop := ∃ v, r = T.val v a ∧ T.Ow H' v a ∧ Chg H H' [] ∧ (∀ i ∈ T.ids v, H.length ≤ i) ∧ (T.ids v).Nodup
theorem Dt.Made.base {r : Value} (h : T.Made (H ++ L) a r H') : T.Made H a r H' := by
  obtain ⟨v, rfl, o, c, n, d⟩ := h
  exact ⟨v, rfl, o, (Chg.app []).trans c, fun i hi => by have := n i hi; simp at this; omega, d⟩
theorem Dt.Made.base' {r : Value} (h : T.Made H' a r H'') (c : Chg H H' []) : T.Made H a r H'' := by
  obtain ⟨v, rfl, o, c', n, d⟩ := h
  exact ⟨v, rfl, o, c.trans c', fun i hi => by have := n i hi; have := c.1; omega, d⟩
theorem box_chg {b : Nat} {r : Row} (h : H[b]? = some r) (c : Chg H H' is) (k : b ∉ is) : H'[b]? = some r := by
  rw [c.2 b (List.getElem?_eq_some_iff.1 h).1 k]; exact h
theorem box_lt {b : Nat} {r : Row} (h : H[b]? = some r) : b < H.length := (List.getElem?_eq_some_iff.1 h).1
theorem chg_lt {i n : Nat} (h : i < H.length) (c : Chg H H' is) : i < H'.length := Nat.lt_of_lt_of_le h c.1
/-- lists of ids that lie apart -/
theorem apart {l m : List Nat} {n : Nat} (h : ∀ i ∈ l, i < n) (k : ∀ i ∈ m, n ≤ i) : ∀ i ∈ l, i ∉ m := fun i hi hm => by have := h i hi; have := k i hm; omega
theorem apart' {l m : List Nat} {n : Nat} (h : ∀ i ∈ l, i < n) (k : ∀ i ∈ m, n ≤ i) : ∀ i ∈ m, i ∉ l := fun i hi hm => by have := h i hm; have := k i hi; omega
/-- one slice of flat elements -/
def dFlat {α : Type} (D : Fl α) (e : TypeId) (n : Nat) : Dt Value (List α) where
  val v _ := v
  Ow H v xs := VM.Ow D e H v xs ∧ xs.length ≤ n
  ids := VM.ids
  frame h k := ⟨h.1.frame k, h.2⟩
  lt h := h.1.lt
end Go.VM
