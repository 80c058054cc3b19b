/- Texts of a proof, joined. -/
import Derived.Test.YtcigpclbhfkgaaaKM0
import Derived.Test.YtcigpclbhfkgaaaKM1
import Derived.Test.YtcigpclbhfkgaaaKFnExactChipNew0
import Derived.Test.YtcigpclbhfkgaaaKFnExactChipNew1
/-! The law FnExactChipNew. -/
set_option linter.all false
namespace Go.Proofs.Ytcigpclbhfkgaaa.V
open Go Go.VM Go.Proofs
set_option maxRecDepth 10000
variable {frz : Nat} {H : Heap}
theorem law_FnExactChipNew_w {a0_0 : Int} {a0_1 : Int} 
    (w0 : ((Lit.int .i64 a0_0).wf = true) ∧ ((Lit.int .i64 a0_1).wf = true)) :
    wp (vcall C frz 6 [.agg #[.int .i64 a0_0, .int .i64 a0_1]] H) (fun r _ => r = .bool true) := by
  rw [vcall_go (fn := Try.f6) Try.func6 rfl (by kernel_rfl) rfl]
  simp [VM.look]
  simp [VM.look, toGrid_c]
  have ex1 := fun (L : Heap) => sChipNew_w (frz := H.length) (H := H ++ L) (w := a0_0) (h := a0_1) 
  refine wp_thn (ex1 _) ?_
  rintro _ H1 ⟨_, rfl, v_w0, rfl, o_w0, c1, n_w0, d_w0⟩
  clear ex1
  have l1 := c1.1
  try simp at l1
  have b1_1 := box_chg ((app_get0 _ _).trans rfl) c1 (by simp)
  have cH1 : Chg H H1 [] := ((Chg.refl (H := H) []).trans (Chg.app [])).trans c1
  have h_w0 := dChip.lt o_w0
  try simp at n_w0
  have one_w0 := dChip_one o_w0
  simp [VM.look, b1_1, get_app' b1_1, cH1.1, Nat.le_add_right_of_le cH1.1, one_w0, dChip_val]
  simp [VM.look, b1_1, get_app' b1_1, cH1.1, Nat.le_add_right_of_le cH1.1, one_w0, dChip_val, toGrid_c]
  have ex2 := fun (L : Heap) => chipNew_w (frz := H.length) (H := H1 ++ L) (w := a0_0) (h := a0_1) 
  refine wp_thn (ex2 _) ?_
  rintro _ H2 ⟨_, rfl, v_g1, rfl, o_g1, c2, n_g1, d_g1⟩
  clear ex2
  have l2 := c2.1
  try simp at l2
  have b2_3 := box_chg ((app_get0 _ _).trans rfl) c2 (by simp)
  have b2_1 := box_chg (get_app' b1_1 _) c2 (by simp)
  have o2_w0 := Dt.chg0 (Dt.app o_w0) c2
  have cH2 : Chg H H2 [] := (cH1.trans (Chg.app [])).trans c2
  have h_g1 := dChip.lt o_g1
  try simp at n_g1
  have one_g1 := dChip_one o_g1
  simp [VM.look, b2_1, b2_3, get_app' b2_1, get_app' b2_3, cH2.1, Nat.le_add_right_of_le cH2.1, one_w0, one_g1, dChip_val]
  have eq3 := fun F (L : Heap) => eqChip_d (frz := F) (H := H2 ++ L) (Dt.app o_g1) (Dt.app o2_w0)
  try simp only [dChip_val] at eq3
  simp [eq3, VM.look, b2_1, b2_3, get_app' b2_1, get_app' b2_3, cH2.1, Nat.le_add_right_of_le cH2.1, one_w0, one_g1, dChip_val]
  have mk4 := fun (L : Heap) => markChip_d (frz := H.length) (H := H2 ++ L) (k := 1) (Dt.app o_g1) d_g1 (by omega) (fun i hi => by have := n_g1 i hi; have := cH2.1; omega)
  try simp only [dChip_val] at mk4
  refine wp_thn (mk4 _) ?_
  rintro _ H4 ⟨m4, a_g1, rfl, hm4, hv4, o4_g1, c4, he4⟩
  clear mk4
  have l4 := c4.1
  try simp at l4
  have b4_5 := box_chg ((app_get0 _ _).trans rfl) c4 (fun hh => by have := n_g1 _ hh; have := h_g1 _ hh; omega)
  have b4_1 := box_chg (get_app' b2_1 _) c4 (fun hh => by have := n_g1 _ hh; have := h_g1 _ hh; omega)
  have b4_3 := box_chg (get_app' b2_3 _) c4 (fun hh => by have := n_g1 _ hh; have := h_g1 _ hh; omega)
  have o4_w0 := Dt.chg (Dt.app o2_w0) c4 (fun i hi hh => by have := n_w0 i hi; have := h_w0 i hi; have := n_g1 i hh; have := h_g1 i hh; omega)
  have cH4 : Chg H H4 [] := (cH2.trans (Chg.app [])).trans' c4 (fun i hi => .inr (by have := n_g1 i hi; have := cH2.1; omega))
  try simp only [hv4, dChip_val] at he4
  have fl4 : ¬ (1 + m4 < 0) := by omega
  simp [VM.look, b4_1, b4_3, b4_5, get_app' b4_1, get_app' b4_3, get_app' b4_5, cH4.1, Nat.le_add_right_of_le cH4.1, one_w0, one_g1, dChip_val, fl4]
  have hd5 := fun F => he4 F _ o4_g1
  simp [hd5, VM.look, b4_1, b4_3, b4_5, get_app' b4_1, get_app' b4_3, get_app' b4_5, cH4.1, Nat.le_add_right_of_le cH4.1, one_w0, one_g1, dChip_val, fl4]
  simp [VM.look, b4_1, b4_3, b4_5, get_app' b4_1, get_app' b4_3, get_app' b4_5, cH4.1, Nat.le_add_right_of_le cH4.1, one_w0, one_g1, dChip_val, toGrid_c, fl4]
  have ex6 := chipNew_w (frz := H.length) (H := H4) (w := a0_0) (h := a0_1) 
  refine wp_thn ex6 ?_
  rintro _ H6 ⟨_, rfl, v_g2, rfl, o_g2, c6, n_g2, d_g2⟩
  clear ex6
  have l6 := c6.1
  try simp at l6
  have b6_1 := box_chg b4_1 c6 (by simp)
  have b6_3 := box_chg b4_3 c6 (by simp)
  have b6_5 := box_chg b4_5 c6 (by simp)
  have o6_w0 := Dt.chg0 o4_w0 c6
  have o6_g1 := Dt.chg0 o4_g1 c6
  have cH6 : Chg H H6 [] := (cH4).trans c6
  have h_g2 := dChip.lt o_g2
  try simp at n_g2
  have one_g2 := dChip_one o_g2
  simp [VM.look, b6_1, b6_3, b6_5, get_app' b6_1, get_app' b6_3, get_app' b6_5, cH6.1, Nat.le_add_right_of_le cH6.1, one_w0, one_g1, one_g2, dChip_val, fl4]
  have eq7 := fun F (L : Heap) => eqChip_d (frz := F) (H := H6 ++ L) (Dt.app o_g2) (Dt.app o6_w0)
  try simp only [dChip_val] at eq7
  simp [eq7, VM.look, b6_1, b6_3, b6_5, get_app' b6_1, get_app' b6_3, get_app' b6_5, cH6.1, Nat.le_add_right_of_le cH6.1, one_w0, one_g1, one_g2, dChip_val, fl4]
  have hd8 := fun F (L : Heap) => he4 F (H6 ++ L) (Dt.app o6_g1)
  simp [hd8, VM.look, b6_1, b6_3, b6_5, get_app' b6_1, get_app' b6_3, get_app' b6_5, cH6.1, Nat.le_add_right_of_le cH6.1, one_w0, one_g1, one_g2, dChip_val, fl4]
theorem law_FnExactChipNew {a0_0 : Int} {a0_1 : Int} 
    (w0 : ((Lit.int .i64 a0_0).wf = true) ∧ ((Lit.int .i64 a0_1).wf = true)) :
    vcall C frz 6 [.agg #[.int .i64 a0_0, .int .i64 a0_1]] H = some (.bool true, H) :=
  (law_FnExactChipNew_w  w0).exact (by simp) rfl
end Go.Proofs.Ytcigpclbhfkgaaa.V
