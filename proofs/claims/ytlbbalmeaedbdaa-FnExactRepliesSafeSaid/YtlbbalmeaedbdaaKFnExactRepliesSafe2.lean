/- Texts of a proof, joined. -/
import Derived.Test.YtlbbalmeaedbdaaKM0
import Derived.Test.YtlbbalmeaedbdaaKM1
import Derived.Test.YtlbbalmeaedbdaaKM2
import Derived.Test.YtlbbalmeaedbdaaKFnExactRepliesSafe0
import Derived.Test.YtlbbalmeaedbdaaKFnExactRepliesSafe1
/-! The law FnExactRepliesSafe. -/
set_option linter.all false
namespace Go.Proofs.Ytlbbalmeaedbdaa.V
open Go Go.VM Go.Proofs
set_option maxRecDepth 10000
variable {frz : Nat} {H : Heap}
theorem law_FnExactRepliesSafe_w {a0_0 : Int} {a0_1 : Int} {a0_2 : List (Int)} {u0_2 : Value} {a1_0 : List (Int)} {u1_0 : Value} {a1_1 : List (Int)} {u1_1 : Value} {a2 : Bool} (s0_2 : IsS (Kn.int .i64) H u0_2 a0_2) (s1_0 : IsS (Kn.int .i64) H u1_0 a1_0) (s1_1 : IsS (Kn.int .i64) H u1_1 a1_1)
    (w0 : (((Lit.int .i64 a0_0).wf = true) ∧ ((Lit.int .i64 a0_1).wf = true)) ∧ (a0_2.length ≤ maxLen ∧ ∀ x1 ∈ a0_2, (Lit.int .i64 x1).wf = true)) (w1 : ((a1_0.length ≤ maxLen ∧ ∀ x2 ∈ a1_0, (Lit.int .i64 x2).wf = true)) ∧ ((a1_1.length ≤ maxLen ∧ ∀ x3 ∈ a1_1, (Lit.int .i64 x3).wf = true))) :
    wp (vcall C frz 4 [.agg #[.int .i64 a0_0, .int .i64 a0_1, u0_2], .agg #[u1_0, u1_1], .bool a2] H) (fun r _ => r = .bool true) := by
  have r0_2 := s0_2.ints.rd
  have r1_0 := s1_0.ints.rd
  have r1_1 := s1_1.ints.rd
  have rl0_2 := fun (L : Heap) => (Rd.app (L := L) r0_2).len (P := Try.prog) (ty := 24) (by simp)
  have rm0_2 := r0_2.len (P := Try.prog) (ty := 24) (by simp)
  have rl1_0 := fun (L : Heap) => (Rd.app (L := L) r1_0).len (P := Try.prog) (ty := 24) (by simp)
  have rm1_0 := r1_0.len (P := Try.prog) (ty := 24) (by simp)
  have rl1_1 := fun (L : Heap) => (Rd.app (L := L) r1_1).len (P := Try.prog) (ty := 24) (by simp)
  have rm1_1 := r1_1.len (P := Try.prog) (ty := 24) (by simp)
  rw [vcall_go (fn := Try.f4) Try.func4 rfl (by kernel_rfl) rfl]
  have ro0_2 := And.intro r0_2.one' r0_2.cells
  have ro1_0 := And.intro r1_0.one' r1_0.cells
  have ro1_1 := And.intro r1_1.one' r1_1.cells
  simp [VM.look, ro0_2, rl0_2, rm0_2, ro1_0, rl1_0, rm1_0, ro1_1, rl1_1, rm1_1]
  have sz0 := fun F (L : Heap) => szMesh_c (frz := F) (H := H ++ L) a0_0 a0_1 u0_2 a0_2 1048576 (Rd.isI (Rd.chg r0_2 ((Chg.refl (H := H) []).trans (Chg.app [])) (by simp))) (by omega) (by omega) w0.2.1
  simp [VM.look, ro0_2, rl0_2, rm0_2, ro1_0, rl1_0, rm1_0, ro1_1, rl1_1, rm1_1, sz0]
  refine wp_dec ?_ ?_ <;> intro g1 <;> simp [g1]
  have t0 : (a0_2.length : Int) ≤ 1048576 := by split at g1 <;> omega
  have f0 : ¬ (1048576 : Int) < (a0_2.length : Int) := by omega
  simp only [if_neg f0]
  try simp [VM.look, ro0_2, rl0_2, rm0_2, ro1_0, rl1_0, rm1_0, ro1_1, rl1_1, rm1_1, f0]
  have sz1 := fun F (L : Heap) => szClasses_c (frz := F) (H := H ++ L) u1_0 u1_1 a1_0 a1_1 (1048576 - ((a0_2.length : Int))) (Rd.isI (Rd.chg r1_0 ((Chg.refl (H := H) []).trans (Chg.app [])) (by simp))) (Rd.isI (Rd.chg r1_1 ((Chg.refl (H := H) []).trans (Chg.app [])) (by simp))) (by omega) (by omega) (by have := w1.1.1; simpa [maxLen] using this) (by have := w1.2.1; simpa [maxLen] using this)
  simp [VM.look, ro0_2, rl0_2, rm0_2, ro1_0, rl1_0, rm1_0, ro1_1, rl1_1, rm1_1, sz1, f0]
  refine wp_dec ?_ ?_ <;> intro g2 <;> simp [g2]
  have t1 : ((a1_0.length : Int) + (a1_1.length : Int)) ≤ (1048576 - ((a0_2.length : Int))) := by split at g2 <;> omega
  have f1 : ¬ ((1048576 - ((a0_2.length : Int))) : Int) < ((a1_0.length : Int) + (a1_1.length : Int)) := by omega
  simp only [if_neg f1]
  try simp [VM.look, ro0_2, rl0_2, rm0_2, ro1_0, rl1_0, rm1_0, ro1_1, rl1_1, rm1_1, f0, f1]
  rw [go_draw (h := by kernel_rfl)]
  simp [VM.look, ro0_2, rl0_2, rm0_2, ro1_0, rl1_0, rm1_0, ro1_1, rl1_1, rm1_1, f0, f1]
  refine wp_thn (toMesh_w a0_0 a0_1 u0_2 a0_2 (Rd.isI (Rd.chg r0_2 ((Chg.refl (H := H) []).trans (Chg.app [])) (by simp))) (by omega)) ?_
  rintro _ H1 ⟨v_x0, rfl, o_x0, c1, n_x0, d_x0⟩
  have l1 := c1.1
  try simp at l1
  have b1_3 := box_chg ((app_get0 _ _).trans rfl) c1 (by simp)
  have b1_4 := box_chg ((app_get _ _ 1).trans rfl) c1 (by simp)
  have cH1 : Chg H H1 [] := ((Chg.refl (H := H) []).trans (Chg.app [])).trans c1
  have h_x0 := dMesh.lt o_x0
  try simp at n_x0
  have one_x0 := dMesh_one o_x0
  simp [VM.look, b1_3, b1_4, get_app' b1_3, get_app' b1_4, cH1.1, Nat.le_add_right_of_le cH1.1, one_x0, ro0_2, ro1_0, ro1_1, dMesh_val, f0, f1]
  refine wp_thn (toClasses_w u1_0 u1_1 a1_0 a1_1 (Rd.isI (Rd.chg r1_0 cH1 (by simp))) (Rd.isI (Rd.chg r1_1 cH1 (by simp))) (by omega) (by omega)) ?_
  rintro _ H2 ⟨v_x1, rfl, o_x1, c2, n_x1, d_x1⟩
  have l2 := c2.1
  try simp at l2
  have b2_3 := box_chg b1_3 c2 (by simp)
  have b2_4 := box_chg b1_4 c2 (by simp)
  have o2_x0 := Dt.chg0 o_x0 c2
  have cH2 : Chg H H2 [] := (cH1).trans c2
  have h_x1 := dClasses.lt o_x1
  try simp at n_x1
  have one_x1 := dClasses_one o_x1
  simp [VM.look, b2_3, b2_4, get_app' b2_3, get_app' b2_4, cH2.1, Nat.le_add_right_of_le cH2.1, one_x0, one_x1, ro0_2, ro1_0, ro1_1, dMesh_val, dClasses_val, f0, f1]
  have ex3 := fun F => sRepliesSafe_d (frz := F) (H := H2) (s := a2) o2_x0 o_x1
  try simp only [dMesh_val] at ex3
  try simp only [dClasses_val] at ex3
  simp [VM.look, b2_3, b2_4, get_app' b2_3, get_app' b2_4, cH2.1, Nat.le_add_right_of_le cH2.1, one_x0, one_x1, ro0_2, ro1_0, ro1_1, dMesh_val, dClasses_val, ex3, f0, f1]
  refine wp_thn (toMesh_w a0_0 a0_1 u0_2 a0_2 (Rd.isI (Rd.chg r0_2 cH2 (by simp))) (by omega)) ?_
  rintro _ H4 ⟨v_x2, rfl, o_x2, c4, n_x2, d_x2⟩
  have l4 := c4.1
  try simp at l4
  have b4_3 := box_chg b2_3 c4 (by simp)
  have b4_4 := box_chg b2_4 c4 (by simp)
  have o4_x0 := Dt.chg0 o2_x0 c4
  have o4_x1 := Dt.chg0 o_x1 c4
  have cH4 : Chg H H4 [] := (cH2).trans c4
  have h_x2 := dMesh.lt o_x2
  try simp at n_x2
  have one_x2 := dMesh_one o_x2
  simp [VM.look, b4_3, b4_4, get_app' b4_3, get_app' b4_4, cH4.1, Nat.le_add_right_of_le cH4.1, one_x0, one_x1, one_x2, ro0_2, ro1_0, ro1_1, dMesh_val, dClasses_val, f0, f1]
  refine wp_thn (toClasses_w u1_0 u1_1 a1_0 a1_1 (Rd.isI (Rd.chg r1_0 (cH4.trans (Chg.app [])) (by simp))) (Rd.isI (Rd.chg r1_1 (cH4.trans (Chg.app [])) (by simp))) (by omega) (by omega)) ?_
  rintro _ H5 ⟨v_x3, rfl, o_x3, c5, n_x3, d_x3⟩
  have l5 := c5.1
  try simp at l5
  have b5_9 := box_chg ((app_get0 _ _).trans rfl) c5 (by simp)
  have b5_3 := box_chg (get_app' b4_3 _) c5 (by simp)
  have b5_4 := box_chg (get_app' b4_4 _) c5 (by simp)
  have o5_x0 := Dt.chg0 (Dt.app o4_x0) c5
  have o5_x1 := Dt.chg0 (Dt.app o4_x1) c5
  have o5_x2 := Dt.chg0 (Dt.app o_x2) c5
  have cH5 : Chg H H5 [] := (cH4.trans (Chg.app [])).trans c5
  have h_x3 := dClasses.lt o_x3
  try simp at n_x3
  have one_x3 := dClasses_one o_x3
  simp [VM.look, b5_3, b5_4, b5_9, get_app' b5_3, get_app' b5_4, get_app' b5_9, cH5.1, Nat.le_add_right_of_le cH5.1, one_x0, one_x1, one_x2, one_x3, ro0_2, ro1_0, ro1_1, dMesh_val, dClasses_val, f0, f1]
  have ex6 := fun F (L : Heap) => repliesSafe_d (frz := F) (H := H5 ++ L) (s := a2) (Dt.app o5_x2) (Dt.app o_x3)
  try simp only [dMesh_val] at ex6
  try simp only [dClasses_val] at ex6
  simp [VM.look, b5_3, b5_4, b5_9, get_app' b5_3, get_app' b5_4, get_app' b5_9, cH5.1, Nat.le_add_right_of_le cH5.1, one_x0, one_x1, one_x2, one_x3, ro0_2, ro1_0, ro1_1, dMesh_val, dClasses_val, ex6, f0, f1]
  rw [go_draw (h := by kernel_rfl)]
  simp [VM.look, b5_3, b5_4, b5_9, get_app' b5_3, get_app' b5_4, get_app' b5_9, cH5.1, Nat.le_add_right_of_le cH5.1, one_x0, one_x1, one_x2, one_x3, ro0_2, ro1_0, ro1_1, dMesh_val, dClasses_val, f0, f1]
  refine wp_thn (toMesh_w a0_0 a0_1 u0_2 a0_2 (Rd.isI (Rd.chg r0_2 (cH5.trans (Chg.app [])) (by simp))) (by omega)) ?_
  rintro _ H7 ⟨v_x4, rfl, o_x4, c7, n_x4, d_x4⟩
  have l7 := c7.1
  try simp at l7
  have b7_10 := box_chg ((app_get0 _ _).trans rfl) c7 (by simp)
  have b7_3 := box_chg (get_app' b5_3 _) c7 (by simp)
  have b7_4 := box_chg (get_app' b5_4 _) c7 (by simp)
  have b7_9 := box_chg (get_app' b5_9 _) c7 (by simp)
  have o7_x0 := Dt.chg0 (Dt.app o5_x0) c7
  have o7_x1 := Dt.chg0 (Dt.app o5_x1) c7
  have o7_x2 := Dt.chg0 (Dt.app o5_x2) c7
  have o7_x3 := Dt.chg0 (Dt.app o_x3) c7
  have cH7 : Chg H H7 [] := (cH5.trans (Chg.app [])).trans c7
  have h_x4 := dMesh.lt o_x4
  try simp at n_x4
  have one_x4 := dMesh_one o_x4
  simp [VM.look, b7_3, b7_4, b7_9, b7_10, get_app' b7_3, get_app' b7_4, get_app' b7_9, get_app' b7_10, cH7.1, Nat.le_add_right_of_le cH7.1, one_x0, one_x1, one_x2, one_x3, one_x4, ro0_2, ro1_0, ro1_1, dMesh_val, dClasses_val, f0, f1]
  have eq8 := fun F => eqMesh_d (frz := F) (H := H7) o7_x2 o_x4
  try simp only [dMesh_val] at eq8
  simp [eq8, VM.look, b7_3, b7_4, b7_9, b7_10, get_app' b7_3, get_app' b7_4, get_app' b7_9, get_app' b7_10, cH7.1, Nat.le_add_right_of_le cH7.1, one_x0, one_x1, one_x2, one_x3, one_x4, ro0_2, ro1_0, ro1_1, dMesh_val, dClasses_val, f0, f1]
  rw [go_draw (h := by kernel_rfl)]
  simp [VM.look, b7_3, b7_4, b7_9, b7_10, get_app' b7_3, get_app' b7_4, get_app' b7_9, get_app' b7_10, cH7.1, Nat.le_add_right_of_le cH7.1, one_x0, one_x1, one_x2, one_x3, one_x4, ro0_2, ro1_0, ro1_1, dMesh_val, dClasses_val, f0, f1]
  refine wp_thn (toClasses_w u1_0 u1_1 a1_0 a1_1 (Rd.isI (Rd.chg r1_0 cH7 (by simp))) (Rd.isI (Rd.chg r1_1 cH7 (by simp))) (by omega) (by omega)) ?_
  rintro _ H9 ⟨v_x5, rfl, o_x5, c9, n_x5, d_x5⟩
  have l9 := c9.1
  try simp at l9
  have b9_3 := box_chg b7_3 c9 (by simp)
  have b9_4 := box_chg b7_4 c9 (by simp)
  have b9_9 := box_chg b7_9 c9 (by simp)
  have b9_10 := box_chg b7_10 c9 (by simp)
  have o9_x0 := Dt.chg0 o7_x0 c9
  have o9_x1 := Dt.chg0 o7_x1 c9
  have o9_x2 := Dt.chg0 o7_x2 c9
  have o9_x3 := Dt.chg0 o7_x3 c9
  have o9_x4 := Dt.chg0 o_x4 c9
  have cH9 : Chg H H9 [] := (cH7).trans c9
  have h_x5 := dClasses.lt o_x5
  try simp at n_x5
  have one_x5 := dClasses_one o_x5
  simp [VM.look, b9_3, b9_4, b9_9, b9_10, get_app' b9_3, get_app' b9_4, get_app' b9_9, get_app' b9_10, cH9.1, Nat.le_add_right_of_le cH9.1, one_x0, one_x1, one_x2, one_x3, one_x4, one_x5, ro0_2, ro1_0, ro1_1, dMesh_val, dClasses_val, f0, f1]
  have eq10 := fun F => eqClasses_d (frz := F) (H := H9) o9_x3 o_x5
  try simp only [dClasses_val] at eq10
  simp [eq10, VM.look, b9_3, b9_4, b9_9, b9_10, get_app' b9_3, get_app' b9_4, get_app' b9_9, get_app' b9_10, cH9.1, Nat.le_add_right_of_le cH9.1, one_x0, one_x1, one_x2, one_x3, one_x4, one_x5, ro0_2, ro1_0, ro1_1, dMesh_val, dClasses_val, f0, f1]
theorem law_FnExactRepliesSafe {a0_0 : Int} {a0_1 : Int} {a0_2 : List (Int)} {u0_2 : Value} {a1_0 : List (Int)} {u1_0 : Value} {a1_1 : List (Int)} {u1_1 : Value} {a2 : Bool} (s0_2 : IsS (Kn.int .i64) H u0_2 a0_2) (s1_0 : IsS (Kn.int .i64) H u1_0 a1_0) (s1_1 : IsS (Kn.int .i64) H u1_1 a1_1)
    (w0 : (((Lit.int .i64 a0_0).wf = true) ∧ ((Lit.int .i64 a0_1).wf = true)) ∧ (a0_2.length ≤ maxLen ∧ ∀ x1 ∈ a0_2, (Lit.int .i64 x1).wf = true)) (w1 : ((a1_0.length ≤ maxLen ∧ ∀ x2 ∈ a1_0, (Lit.int .i64 x2).wf = true)) ∧ ((a1_1.length ≤ maxLen ∧ ∀ x3 ∈ a1_1, (Lit.int .i64 x3).wf = true))) :
    vcall C frz 4 [.agg #[.int .i64 a0_0, .int .i64 a0_1, u0_2], .agg #[u1_0, u1_1], .bool a2] H = some (.bool true, H) :=
  (law_FnExactRepliesSafe_w s0_2 s1_0 s1_1 w0 w1).exact (by simp) rfl
end Go.Proofs.Ytlbbalmeaedbdaa.V
