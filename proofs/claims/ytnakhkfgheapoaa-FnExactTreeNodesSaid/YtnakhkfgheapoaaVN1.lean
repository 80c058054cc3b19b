import Derived.Test.YtnakhkfgheapoaaVL2
import Derived.Test.YtnakhkfgheapoaaVM22
/-! slices.Concat on two slices of numbers. -/
set_option linter.all false
namespace Go.Proofs.Ytnakhkfgheapoaa.V
open Go Go.VM Go.Proofs
set_option maxRecDepth 10000
variable {frz : Nat} {H : Heap}
theorem wr0 : IntKind.i64.wrap 0 = 0 := by decide
theorem grow0_c : vcall C frz 121 [.slice none 0 0, .int .i64 0] H = some (.slice none 0 0, H) := by
  rw [vcall_go (fn := Try.f121) Try.func121 rfl (by kernel_rfl) rfl]
  simp [wr0]
theorem grow_c (n : Int) (h0 : 0 < n) (h1 : n ≤ 1073741824) :
   vcall C frz 121 [.slice none 0 0, .int .i64 n] H = some (.slice (some ⟨H.length, 0, some 0⟩) 0 0, H ++ [⟨[], 0, 3⟩]) := by
  rw [vcall_go (fn := Try.f121) Try.func121 rfl (by kernel_rfl) rfl]
  have e : IntKind.i64.wrap n = n := w64 (by omega) (by omega)
  simp [wr0, e, h0]
  refine br_dec _ ?_ ?_ <;> intro h2
  · omega
  simp [h2, wr0, e, h0]
  exact vneed_eq h1 (vneed_eq (by omega) rfl)
theorem concat_c (id : Nat) (x y : Value) (xs ys : List Int) (hr : H[id]? = some ⟨[x, y], 0, 22⟩) (hx : IsI H x xs) (hy : IsI H y ys) (hl : xs.length + ys.length ≤ 1073741824) :
   vcall C frz 73 [.slice (some ⟨id, 0, some 0⟩) 2 0] H = some (if xs ++ ys = [] then (.slice none 0 0, H) else (.slice (some ⟨H.length, 0, some 0⟩) (xs ++ ys).length 0, H ++ [⟨(xs ++ ys).map (.int .i64), 0, 3⟩])) := by
  rw [vcall_go (fn := Try.f73) Try.func73 rfl (by kernel_rfl) rfl]
  simp [VM.look, hr]
  have lk0 : ∀ o, VM.look H ⟨id, o, some 0⟩ = some ⟨[x, y], 0, 22⟩ := fun o => by simp [VM.look, hr]
  have lk : ∀ L o, VM.look (H ++ L) ⟨id, o, some 0⟩ = some ⟨[x, y], 0, 22⟩ := fun L o => by
    simp [VM.look, List.getElem?_append_left (List.getElem?_eq_some_iff.1 hr).1, hr]
  have e1 : IntKind.i64.wrap (xs.length : Int) = xs.length := w64 (by omega) (by omega)
  have e2 : IntKind.i64.wrap ((xs.length : Int) + ys.length) = xs.length + ys.length := w64 (by omega) (by omega)
  have n1 : ¬ (xs.length : Int) < 0 := by omega
  have n2 : ¬ (xs.length : Int) + ys.length < 0 := by omega
  have wr1 : IntKind.i64.wrap 1 = 1 := by decide
  have wr2 : IntKind.i64.wrap 2 = 2 := by decide
  rw [go_loop]
  simp [VM.look, hr, hx.len, hy.len, wr0, wr1, wr2, e1, n1]
  rw [go_again, go_loop]
  simp [VM.look, hr, hx.len, hy.len, wr0, wr1, wr2, e1, e2, n1, n2]
  rw [go_again, go_loop]
  simp [VM.look, hr, hx.len, hy.len, wr0, wr1, wr2, e1, e2, n1, n2]
  by_cases h0 : xs.length + ys.length = 0
  · obtain rfl : xs = [] := List.length_eq_zero_iff.1 (by omega)
    obtain rfl : ys = [] := List.length_eq_zero_iff.1 (by omega)
    simp [grow0_c, lk0]
    rw [go_loop]
    simp [lk0, hx.src, wr0, wr1]
    rw [go_again, go_loop]
    simp [lk0, hy.src, wr0, wr1, wr2]
    rw [go_again, go_loop]
    simp [lk0, wr0, wr1, wr2]
  · have hno : ¬ (xs = [] ∧ ys = []) := fun ⟨a, b⟩ => h0 (by rw [a, b]; rfl)
    simp [grow_c _ (show (0 : Int) < xs.length + ys.length by omega) (by omega), hno, lk]
    rw [go_loop]
    simp [lk, (hx.app _).src, wr0, wr1]
    by_cases hx0 : xs = []
    · have hy0 : ys ≠ [] := fun hh => hno ⟨hx0, hh⟩
      have hyl : ys.length ≤ 1073741824 := by omega
      simp [hx0]
      rw [go_again, go_loop]
      simp [lk, (hy.app _).src, wr0, wr1, wr2, hy0, hyl]
      rw [go_again, go_loop]
      simp [lk, wr0, wr1, wr2]
    · have hxl : xs.length ≤ 1073741824 := by omega
      simp [hx0, hxl]
      rw [go_again, go_loop]
      simp [lk, (hy.app _).src, wr0, wr1, wr2]
      by_cases hy0 : ys = []
      · simp [hy0]
        rw [go_again, go_loop]
        simp [lk, wr0, wr1, wr2]
      · simp [hy0, hl]
        rw [go_again, go_loop]
        simp [lk, wr0, wr1, wr2]
end Go.Proofs.Ytnakhkfgheapoaa.V
