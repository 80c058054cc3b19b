import Derived.Test.YtnakhkfgheapoaaVM25
import Derived.Test.YtnakhkfgheapoaaVN6
/-! The law FnExactTreeNodes. -/
set_option linter.all false
namespace Go.Proofs.Ytnakhkfgheapoaa.V
open Go Go.VM Go.Proofs
set_option maxRecDepth 10000
variable {frz : Nat} {H : Heap}
theorem law_FnExactTreeNodes_w {a0 : List (Int)} {u0 : Value} {a1 : Int} {a2 : Int} (s0 : IsS (Kn.int .i64) H u0 a0)
    (w0 : a0.length ≤ maxLen ∧ ∀ x1 ∈ a0, (Lit.int .i64 x1).wf = true) (w1 : (Lit.int .i64 a1).wf = true) (w2 : (Lit.int .i64 a2).wf = true) :
    wp (vcall C frz 3 [u0, .int .i64 a1, .int .i64 a2] H) (fun r _ => r = .bool true) := by
  have r0 := s0.ints.rd
  have rl0 := fun (L : Heap) => (Rd.app (L := L) r0).len (P := Try.prog) (ty := 22) (by simp)
  have rm0 := r0.len (P := Try.prog) (ty := 22) (by simp)
  rw [vcall_go (fn := Try.f3) Try.func3 rfl (by kernel_rfl) rfl]
  have ro0 := And.intro r0.one' r0.cells
  simp [VM.look, ro0, rl0, rm0]
  refine wp_dec ?_ ?_ <;> intro g1 <;> simp [g1]
  try simp [VM.look, ro0, rl0, rm0]
  refine wp_thn (toIntS_w u0 a0 (Rd.isI (Rd.chg r0 (Chg.refl (H := H) []) (by simp))) (by omega)) ?_
  rintro _ H1 ⟨v_x0, rfl, o_x0, c1, n_x0, d_x0⟩
  have l1 := c1.1
  try simp at l1
  have cH1 : Chg H H1 [] := ((Chg.refl (H := H) [])).trans c1
  have h_x0 := dIntS.lt o_x0
  try simp at n_x0
  have one_x0 := dIntS_one o_x0
  simp [VM.look, one_x0, ro0, dIntS_val]
  have ex2 := sTreeNodes_d (frz := H.length) (a := a1) (b := a2) o_x0 (by omega)
  try simp only [dIntS_val] at ex2
  refine wp_thn ex2 ?_
  rintro _ H2 ⟨v_w1, rfl, o_w1, c2, n_w1, d_w1⟩
  clear ex2
  have l2 := c2.1
  try simp at l2
  have o2_x0 := Dt.chg0 o_x0 c2
  have cH2 : Chg H H2 [] := (cH1).trans c2
  have h_w1 := dIntS.lt o_w1
  try simp at n_w1
  have one_w1 := dIntS_one o_w1
  simp [VM.look, one_x0, one_w1, ro0, dIntS_val]
  refine wp_thn (toIntS_w u0 a0 (Rd.isI (Rd.chg r0 cH2 (by simp))) (by omega)) ?_
  rintro _ H3 ⟨v_x2, rfl, o_x2, c3, n_x2, d_x2⟩
  have l3 := c3.1
  try simp at l3
  have o3_x0 := Dt.chg0 o2_x0 c3
  have o3_w1 := Dt.chg0 o_w1 c3
  have cH3 : Chg H H3 [] := (cH2).trans c3
  have h_x2 := dIntS.lt o_x2
  try simp at n_x2
  have one_x2 := dIntS_one o_x2
  simp [VM.look, one_x0, one_w1, one_x2, ro0, dIntS_val]
  have ex4 := treeNodes_d (frz := H.length) (a := a1) (b := a2) o_x2 (by omega)
  try simp only [dIntS_val] at ex4
  refine wp_thn ex4 ?_
  rintro _ H4 ⟨v_g3, rfl, o_g3, c4, n_g3, d_g3⟩
  clear ex4
  have l4 := c4.1
  try simp at l4
  have o4_x0 := Dt.chg0 o3_x0 c4
  have o4_w1 := Dt.chg0 o3_w1 c4
  have o4_x2 := Dt.chg0 o_x2 c4
  have cH4 : Chg H H4 [] := (cH3).trans c4
  have h_g3 := dIntS.lt o_g3
  try simp at n_g3
  have one_g3 := dIntS_one o_g3
  simp [VM.look, one_x0, one_w1, one_x2, one_g3, ro0, dIntS_val]
  have eq5 := fun F => eqIntS_d (frz := F) o_g3 o4_w1
  try simp only [dIntS_val] at eq5
  simp [eq5, VM.look, one_x0, one_w1, one_x2, one_g3, ro0, dIntS_val]
  refine wp_thn (toIntS_w u0 a0 (Rd.isI (Rd.chg r0 cH4 (by simp))) (by omega)) ?_
  rintro _ H6 ⟨v_x4, rfl, o_x4, c6, n_x4, d_x4⟩
  have l6 := c6.1
  try simp at l6
  have o6_x0 := Dt.chg0 o4_x0 c6
  have o6_w1 := Dt.chg0 o4_w1 c6
  have o6_x2 := Dt.chg0 o4_x2 c6
  have o6_g3 := Dt.chg0 o_g3 c6
  have cH6 : Chg H H6 [] := (cH4).trans c6
  have h_x4 := dIntS.lt o_x4
  try simp at n_x4
  have one_x4 := dIntS_one o_x4
  simp [VM.look, one_x0, one_w1, one_x2, one_g3, one_x4, ro0, dIntS_val]
  have eq7 := fun F => eqIntS_d (frz := F) o6_x2 o_x4
  try simp only [dIntS_val] at eq7
  simp [eq7, VM.look, one_x0, one_w1, one_x2, one_g3, one_x4, ro0, dIntS_val]
  have mk8 := markIntS_d (frz := H.length) (k := 1) o6_x2 d_x2 (by omega) (fun i hi => by have := n_x2 i hi; have := cH6.1; omega)
  try simp only [dIntS_val] at mk8
  refine wp_thn mk8 ?_
  rintro _ H8 ⟨m8, a_x2, rfl, hm8, hv8, o8_x2, c8, he8⟩
  clear mk8
  have l8 := c8.1
  try simp at l8
  have o8_x0 := Dt.chg o6_x0 c8 (fun i hi hh => by have := n_x0 i hi; have := h_x0 i hi; have := n_x2 i hh; have := h_x2 i hh; omega)
  have o8_w1 := Dt.chg o6_w1 c8 (fun i hi hh => by have := n_w1 i hi; have := h_w1 i hi; have := n_x2 i hh; have := h_x2 i hh; omega)
  have o8_g3 := Dt.chg o6_g3 c8 (fun i hi hh => by have := n_g3 i hi; have := h_g3 i hi; have := n_x2 i hh; have := h_x2 i hh; omega)
  have o8_x4 := Dt.chg o_x4 c8 (fun i hi hh => by have := n_x4 i hi; have := h_x4 i hi; have := n_x2 i hh; have := h_x2 i hh; omega)
  have cH8 : Chg H H8 [] := (cH6).trans' c8 (fun i hi => .inr (by have := n_x2 i hi; have := cH6.1; omega))
  try simp only [hv8, dIntS_val] at he8
  have fl8 : ¬ (1 + m8 < 0) := by omega
  simp [VM.look, one_x0, one_w1, one_x2, one_g3, one_x4, ro0, dIntS_val, fl8]
  have eq9 := fun F => eqIntS_d (frz := F) o8_g3 o8_w1
  try simp only [dIntS_val] at eq9
  simp [eq9, VM.look, one_x0, one_w1, one_x2, one_g3, one_x4, ro0, dIntS_val, fl8]
  have mk10 := markIntS_d (frz := H.length) (k := 1) o8_g3 d_g3 (by omega) (fun i hi => by have := n_g3 i hi; have := cH8.1; omega)
  try simp only [dIntS_val] at mk10
  refine wp_thn mk10 ?_
  rintro _ H10 ⟨m10, a_g3, rfl, hm10, hv10, o10_g3, c10, he10⟩
  clear mk10
  have l10 := c10.1
  try simp at l10
  have o10_x0 := Dt.chg o8_x0 c10 (fun i hi hh => by have := n_x0 i hi; have := h_x0 i hi; have := n_g3 i hh; have := h_g3 i hh; omega)
  have o10_w1 := Dt.chg o8_w1 c10 (fun i hi hh => by have := n_w1 i hi; have := h_w1 i hi; have := n_g3 i hh; have := h_g3 i hh; omega)
  have o10_x2 := Dt.chg o8_x2 c10 (fun i hi hh => by have := n_x2 i hi; have := h_x2 i hi; have := n_g3 i hh; have := h_g3 i hh; omega)
  have o10_x4 := Dt.chg o8_x4 c10 (fun i hi hh => by have := n_x4 i hi; have := h_x4 i hi; have := n_g3 i hh; have := h_g3 i hh; omega)
  have cH10 : Chg H H10 [] := (cH8).trans' c10 (fun i hi => .inr (by have := n_g3 i hi; have := cH8.1; omega))
  try simp only [hv10, dIntS_val] at he10
  have fl10 : ¬ (1 + m10 < 0) := by omega
  simp [VM.look, one_x0, one_w1, one_x2, one_g3, one_x4, ro0, dIntS_val, fl8, fl10]
  have hd11 := fun F => he10 F _ o10_g3
  simp [hd11, VM.look, one_x0, one_w1, one_x2, one_g3, one_x4, ro0, dIntS_val, fl8, fl10]
  refine wp_thn (toIntS_w u0 a0 (Rd.isI (Rd.chg r0 cH10 (by simp))) (by omega)) ?_
  rintro _ H12 ⟨v_x5, rfl, o_x5, c12, n_x5, d_x5⟩
  have l12 := c12.1
  try simp at l12
  have o12_x0 := Dt.chg0 o10_x0 c12
  have o12_w1 := Dt.chg0 o10_w1 c12
  have o12_x2 := Dt.chg0 o10_x2 c12
  have o12_g3 := Dt.chg0 o10_g3 c12
  have o12_x4 := Dt.chg0 o10_x4 c12
  have cH12 : Chg H H12 [] := (cH10).trans c12
  have h_x5 := dIntS.lt o_x5
  try simp at n_x5
  have one_x5 := dIntS_one o_x5
  simp [VM.look, one_x0, one_w1, one_x2, one_g3, one_x4, one_x5, ro0, dIntS_val, fl8, fl10]
  have ex13 := treeNodes_d (frz := H.length) (a := a1) (b := a2) o_x5 (by omega)
  try simp only [dIntS_val] at ex13
  refine wp_thn ex13 ?_
  rintro _ H13 ⟨v_g6, rfl, o_g6, c13, n_g6, d_g6⟩
  clear ex13
  have l13 := c13.1
  try simp at l13
  have o13_x0 := Dt.chg0 o12_x0 c13
  have o13_w1 := Dt.chg0 o12_w1 c13
  have o13_x2 := Dt.chg0 o12_x2 c13
  have o13_g3 := Dt.chg0 o12_g3 c13
  have o13_x4 := Dt.chg0 o12_x4 c13
  have o13_x5 := Dt.chg0 o_x5 c13
  have cH13 : Chg H H13 [] := (cH12).trans c13
  have h_g6 := dIntS.lt o_g6
  try simp at n_g6
  have one_g6 := dIntS_one o_g6
  simp [VM.look, one_x0, one_w1, one_x2, one_g3, one_x4, one_x5, one_g6, ro0, dIntS_val, fl8, fl10]
  have eq14 := fun F => eqIntS_d (frz := F) o_g6 o13_w1
  try simp only [dIntS_val] at eq14
  simp [eq14, VM.look, one_x0, one_w1, one_x2, one_g3, one_x4, one_x5, one_g6, ro0, dIntS_val, fl8, fl10]
  have hd15 := fun F => he10 F _ o13_g3
  simp [hd15, VM.look, one_x0, one_w1, one_x2, one_g3, one_x4, one_x5, one_g6, ro0, dIntS_val, fl8, fl10]
theorem law_FnExactTreeNodes {a0 : List (Int)} {u0 : Value} {a1 : Int} {a2 : Int} (s0 : IsS (Kn.int .i64) H u0 a0)
    (w0 : a0.length ≤ maxLen ∧ ∀ x1 ∈ a0, (Lit.int .i64 x1).wf = true) (w1 : (Lit.int .i64 a1).wf = true) (w2 : (Lit.int .i64 a2).wf = true) :
    vcall C frz 3 [u0, .int .i64 a1, .int .i64 a2] H = some (.bool true, H) :=
  (law_FnExactTreeNodes_w s0 w0 w1 w2).exact (by simp) rfl
end Go.Proofs.Ytnakhkfgheapoaa.V
