import Derived.Test.YtnakhkfgheapoaaVG1
/-! What the functions on grids return: places, neighbours, channels. -/
set_option linter.all false
namespace Go.Proofs.Ytnakhkfgheapoaa.V
open Go Go.VM Go.Proofs
set_option maxRecDepth 10000
variable {frz : Nat} {H : Heap}
theorem at_inR (w h x y : Int) (h1 : okG w h) : (inR 0 x (IntKind.i64.wrap (w - 1)) ↔ 0 ≤ x ∧ x < w) ∧ (inR 0 y (IntKind.i64.wrap (h - 1)) ↔ 0 ≤ y ∧ y < h) := by
  obtain ⟨⟨a1, a2⟩, b1, b2⟩ := h1
  rw [w64 (by omega) (by omega), w64 (by omega) (by omega)]
  simp only [inR]; omega
theorem at_val {w h x y : Int} (h1 : okG w h) (h2 : 0 ≤ x ∧ x < w) (h3 : 0 ≤ y ∧ y < h) : IntKind.i64.wrap (IntKind.i64.wrap (y * w) + x) = y * w + x := by
  have hm := mul_small h1
  obtain ⟨⟨a1, a2⟩, b1, b2⟩ := h1
  have c1 : 0 * 0 ≤ y * w := Int.mul_le_mul h3.1 (by omega) (by omega) (by omega)
  have c2 : y * w ≤ h * w := Int.mul_le_mul_of_nonneg_right (by omega) (by omega)
  rw [Int.mul_comm h w] at c2
  rw [w64 (x := y * w) (by omega) (by omega), w64 (by omega) (by omega)]
theorem nodeAt_c (w h x y : Int) : vcall C frz 147 [.agg #[.int .i64 w, .int .i64 h], .int .i64 x, .int .i64 y] H = some (.int .i64 (nodeAt w h x y), H) := by
  rw [vcall_go (fn := Try.f147) Try.func147 rfl (by kernel_rfl) rfl]
  simp [gridOk_c]
  refine gd_dec _ _ ?_ ?_ <;> intro h1 <;> simp [h1, inside_c, nodeAt]
  obtain ⟨e1, e2⟩ := at_inR w h x y h1
  simp only [e1, e2]
  refine gd_dec _ _ ?_ ?_ <;> intro h2 <;> simp [h2, inside_c]
  simp only [e2]
  refine br_dec _ ?_ ?_ <;> intro h3 <;> simp [h3]
  exact at_val h1 h2 h3
theorem sNodeAt_c (w h x y : Int) : vcall C frz 151 [.agg #[.int .i64 w, .int .i64 h], .int .i64 x, .int .i64 y] H = some (.int .i64 (nodeAt w h x y), H) := by
  rw [vcall_go (fn := Try.f151) Try.func151 rfl (by kernel_rfl) rfl]
  simp [sGridOk_c]
  refine gd_dec _ _ ?_ ?_ <;> intro h1 <;> simp [h1, l01In_c, nodeAt]
  obtain ⟨e1, e2⟩ := at_inR w h x y h1
  simp only [e1, e2]
  refine gd_dec _ _ ?_ ?_ <;> intro h2 <;> simp [h2, l01In_c]
  simp only [e2]
  refine br_dec _ ?_ ?_ <;> intro h3 <;> simp [h3]
  exact at_val h1 h2 h3
theorem nodeAt_range (w h x y : Int) : -1 ≤ nodeAt w h x y ∧ nodeAt w h x y < 16 := by
  unfold nodeAt
  split
  · rename_i h1
    obtain ⟨h1, h2, h3⟩ := h1
    have hm := mul_small h1
    obtain ⟨⟨a1, a2⟩, b1, b2⟩ := h1
    have c1 : 0 * 0 ≤ y * w := Int.mul_le_mul h3.1 (by omega) (by omega) (by omega)
    have c2 : y * w ≤ (h - 1) * w := Int.mul_le_mul_of_nonneg_right (by omega) (by omega)
    rw [Int.sub_mul, Int.mul_comm h w] at c2
    omega
  · omega
theorem tdiv_of {n w : Int} (h : 0 ≤ n) (h1 : 1 ≤ w) (h2 : n < 16) : IntKind.i64.wrap (n.tdiv w) = n / w := by
  rw [Int.tdiv_eq_ediv_of_nonneg h]
  have h3 := Int.ediv_le_self w h
  have h4 := Int.ediv_nonneg h (by omega : 0 ≤ w)
  exact w64 (by omega) (by omega)
theorem tmod_of {n w : Int} (h : 0 ≤ n) : n.tmod w = n % w := Int.tmod_eq_emod_of_nonneg h
theorem div_small {n w : Int} (h : 0 ≤ n) (h1 : 1 ≤ w) (h2 : n < 16) : 0 ≤ n / w ∧ n / w < 16 := ⟨Int.ediv_nonneg h (by omega), by have := Int.ediv_le_self w h; omega⟩
theorem mod_small {n w : Int} (h1 : 1 ≤ w) (h2 : w ≤ 4) : 0 ≤ n % w ∧ n % w < 4 := ⟨Int.emod_nonneg _ (by omega), by have := Int.emod_lt_of_pos n (by omega : 0 < w); omega⟩
theorem nextNode_c (w h n p : Int) : vcall C frz 127 [.agg #[.int .i64 w, .int .i64 h], .int .i64 n, .int .i64 p] H = some (.int .i64 (next w h n p), H) := by
  rw [vcall_go (fn := Try.f127) Try.func127 rfl (by kernel_rfl) rfl]
  simp [isNode_c]
  refine br_dec _ ?_ ?_ <;> intro h1 <;> simp [h1, next]
  obtain ⟨⟨⟨a1, a2⟩, b1, b2⟩, g2, g3, g4⟩ := isN_ok h1
  rw [go_draw (h := by kernel_rfl)]
  simp
  refine vneed_eq (by omega) ?_
  refine vneed_eq (by omega) ?_
  obtain ⟨d1, d2⟩ := div_small g2 a1 g4
  obtain ⟨m1, m2⟩ := mod_small (n := n) a1 a2
  rw [tdiv_of g2 a1 g4, tmod_of g2]
  refine br_dec _ ?_ ?_ <;> intro p0 <;> simp [p0, nodeAt_c]
  · rw [w64 (by omega) (by omega)]
  refine br_dec _ ?_ ?_ <;> intro p1 <;> simp [p1, nodeAt_c]
  · rw [w64 (by omega) (by omega)]
  refine br_dec _ ?_ ?_ <;> intro p2 <;> simp [p2, nodeAt_c]
  · rw [w64 (by omega) (by omega)]
  refine br_dec _ ?_ ?_ <;> intro p3 <;> simp [p3, nodeAt_c]
  · rw [w64 (by omega) (by omega)]
  refine br_dec _ ?_ ?_ <;> intro p4 <;> simp [p4, nodeAt_c]
theorem sNextNode_c (w h n p : Int) : vcall C frz 133 [.agg #[.int .i64 w, .int .i64 h], .int .i64 n, .int .i64 p] H = some (.int .i64 (next w h n p), H) := by
  rw [vcall_go (fn := Try.f133) Try.func133 rfl (by kernel_rfl) rfl]
  simp [l02Has_c]
  refine br_dec _ ?_ ?_ <;> intro h1 <;> simp [h1, next]
  obtain ⟨⟨⟨a1, a2⟩, b1, b2⟩, g2, g3, g4⟩ := isN_ok h1
  refine vneed_eq (by omega) ?_
  refine vneed_eq (by omega) ?_
  obtain ⟨d1, d2⟩ := div_small g2 a1 g4
  obtain ⟨m1, m2⟩ := mod_small (n := n) a1 a2
  rw [tdiv_of g2 a1 g4, tmod_of g2]
  refine br_dec _ ?_ ?_ <;> intro p0 <;> simp [p0, sNodeAt_c]
  · rw [w64 (by omega) (by omega)]
  refine br_dec _ ?_ ?_ <;> intro p1 <;> simp [p1, sNodeAt_c]
  · rw [w64 (by omega) (by omega)]
  refine br_dec _ ?_ ?_ <;> intro p2 <;> simp [p2, sNodeAt_c]
  · rw [w64 (by omega) (by omega)]
  refine br_dec _ ?_ ?_ <;> intro p3 <;> simp [p3, sNodeAt_c]
  · rw [w64 (by omega) (by omega)]
  refine br_dec _ ?_ ?_ <;> intro p4 <;> simp [p4, sNodeAt_c]
theorem next_range (w h n p : Int) : -1 ≤ next w h n p ∧ next w h n p < 16 := by
  unfold next
  split
  · rename_i h1
    have := isN_ok h1
    have a0 := nodeAt_range w h (n % w) (n / w - 1)
    have a1 := nodeAt_range w h (n % w + 1) (n / w)
    have a2 := nodeAt_range w h (n % w) (n / w + 1)
    have a3 := nodeAt_range w h (n % w - 1) (n / w)
    repeat' split
    all_goals omega
  · omega
theorem chan_inR (w h c : Int) : inR 0 c (IntKind.i64.wrap (IntKind.i64.wrap (4 * cnt w h) - 1)) ↔ 0 ≤ c ∧ c < 4 * cnt w h := by
  have := cnt_range w h
  rw [w64 (x := 4 * cnt w h) (by omega) (by omega), w64 (by omega) (by omega)]
  simp only [inR]; omega
theorem chan_div {w h c : Int} (h1 : 0 ≤ c ∧ c < 4 * cnt w h) : IntKind.i64.wrap (c.tdiv 4) = c / 4 ∧ c.tmod 4 = c % 4 := by
  have := cnt_range w h
  rw [Int.tdiv_eq_ediv_of_nonneg h1.1, Int.tmod_eq_emod_of_nonneg h1.1]
  exact ⟨w64 (by omega) (by omega), rfl⟩
theorem leads_c (w h c : Int) : vcall C frz 108 [.agg #[.int .i64 w, .int .i64 h], .int .i64 c] H = some (.bool (decide (leads w h c)), H) := by
  rw [vcall_go (fn := Try.f108) Try.func108 rfl (by kernel_rfl) rfl]
  simp [nodeCount_c, inside_c]
  refine gd_dec _ _ ?_ ?_ <;> intro h1 <;> simp [h1]
  · rw [chan_inR] at h1
    obtain ⟨e1, e2⟩ := chan_div h1
    simp [e1, e2, nextNode_c, leads, h1]
  · rw [chan_inR] at h1
    exact fun g => h1 g.1
theorem l03Leads_c (w h c : Int) : vcall C frz 123 [.agg #[.int .i64 w, .int .i64 h], .int .i64 c] H = some (.bool (decide (leads w h c)), H) := by
  rw [vcall_go (fn := Try.f123) Try.func123 rfl (by kernel_rfl) rfl]
  simp [sNodeCount_c, l01In_c]
  refine gd_dec _ _ ?_ ?_ <;> intro h1 <;> simp [h1]
  · rw [chan_inR] at h1
    obtain ⟨e1, e2⟩ := chan_div h1
    simp [e1, e2, sNextNode_c, leads, h1]
  · rw [chan_inR] at h1
    exact fun g => h1 g.1
end Go.Proofs.Ytnakhkfgheapoaa.V
