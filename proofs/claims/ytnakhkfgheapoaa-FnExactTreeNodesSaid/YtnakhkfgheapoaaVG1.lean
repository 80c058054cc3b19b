import Derived.Test.YtnakhkfgheapoaaVG0
/-! What the functions on grids return. -/
set_option linter.all false
namespace Go.Proofs.Ytnakhkfgheapoaa.V
open Go Go.VM Go.Proofs
set_option maxRecDepth 10000
variable {frz : Nat} {H : Heap}
theorem inside_c (n lo hi : Int) : vcall C frz 83 [.int .i64 n, .int .i64 lo, .int .i64 hi] H = some (.bool (decide (inR lo n hi)), H) := by
  rw [vcall_go (fn := Try.f83) Try.func83 rfl (by kernel_rfl) rfl]
  simp
  repeat' (first | refine gd_dec _ _ ?_ ?_ | refine br_dec _ ?_ ?_) <;> intro h <;> simp [h, inR]
theorem l01In_c (n lo hi : Int) : vcall C frz 120 [.int .i64 n, .int .i64 lo, .int .i64 hi] H = some (.bool (decide (inR lo n hi)), H) := by
  rw [vcall_go (fn := Try.f120) Try.func120 rfl (by kernel_rfl) rfl]
  simp
  repeat' (first | refine gd_dec _ _ ?_ ?_ | refine br_dec _ ?_ ?_) <;> intro h <;> simp [h, inR]
theorem okG_of {w h : Int} (h1 : inR 1 w 4) (h2 : inR 1 h 4) : okG w h := ⟨h1, h2⟩
theorem gridOk_c (w h : Int) : vcall C frz 109 [.agg #[.int .i64 w, .int .i64 h]] H = some (.bool (decide (okG w h)), H) := by
  rw [vcall_go (fn := Try.f109) Try.func109 rfl (by kernel_rfl) rfl]
  simp [inside_c]
  refine gd_dec _ _ ?_ ?_ <;> intro h1 <;> simp [h1, inside_c]
  · have : okG w h ↔ inR 1 h 4 := ⟨fun g => g.2, fun g => ⟨h1, g⟩⟩
    simp [this]
  · exact fun g => h1 g.1
theorem sGridOk_c (w h : Int) : vcall C frz 132 [.agg #[.int .i64 w, .int .i64 h]] H = some (.bool (decide (okG w h)), H) := by
  rw [vcall_go (fn := Try.f132) Try.func132 rfl (by kernel_rfl) rfl]
  simp [l01In_c]
  refine gd_dec _ _ ?_ ?_ <;> intro h1 <;> simp [h1, l01In_c]
  · have : okG w h ↔ inR 1 h 4 := ⟨fun g => g.2, fun g => ⟨h1, g⟩⟩
    simp [this]
  · exact fun g => h1 g.1
theorem nodeCount_c (w h : Int) : vcall C frz 79 [.agg #[.int .i64 w, .int .i64 h]] H = some (.int .i64 (cnt w h), H) := by
  rw [vcall_go (fn := Try.f79) Try.func79 rfl (by kernel_rfl) rfl]
  simp [gridOk_c]
  refine br_dec _ ?_ ?_ <;> intro h1 <;> simp [h1, cnt]
  have := mul_small h1
  exact w64 (by omega) (by omega)
theorem sNodeCount_c (w h : Int) : vcall C frz 97 [.agg #[.int .i64 w, .int .i64 h]] H = some (.int .i64 (cnt w h), H) := by
  rw [vcall_go (fn := Try.f97) Try.func97 rfl (by kernel_rfl) rfl]
  simp [sGridOk_c]
  refine br_dec _ ?_ ?_ <;> intro h1 <;> simp [h1, cnt]
  have := mul_small h1
  exact w64 (by omega) (by omega)
theorem isN_inR (w h n : Int) : inR 0 n (IntKind.i64.wrap (cnt w h - 1)) ↔ isN w h n := by
  have := cnt_range w h
  rw [w64 (by omega) (by omega)]
  simp only [inR, isN]; omega
theorem isNode_c (w h n : Int) : vcall C frz 84 [.agg #[.int .i64 w, .int .i64 h], .int .i64 n] H = some (.bool (decide (isN w h n)), H) := by
  rw [vcall_go (fn := Try.f84) Try.func84 rfl (by kernel_rfl) rfl]
  simp [nodeCount_c, inside_c, isN_inR]
theorem l02Has_c (w h n : Int) : vcall C frz 89 [.agg #[.int .i64 w, .int .i64 h], .int .i64 n] H = some (.bool (decide (isN w h n)), H) := by
  rw [vcall_go (fn := Try.f89) Try.func89 rfl (by kernel_rfl) rfl]
  simp [sNodeCount_c, l01In_c, isN_inR]
end Go.Proofs.Ytnakhkfgheapoaa.V
