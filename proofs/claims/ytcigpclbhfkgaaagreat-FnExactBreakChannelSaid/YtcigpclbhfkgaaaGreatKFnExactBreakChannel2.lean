/- Texts of a proof, joined. -/
import Derived.Test.YtcigpclbhfkgaaaGreatKM0
import Derived.Test.YtcigpclbhfkgaaaGreatKM1
import Derived.Test.YtcigpclbhfkgaaaGreatKFnExactBreakChannel0
import Derived.Test.YtcigpclbhfkgaaaGreatKFnExactBreakChannel1
/-! TreeParents of the reference. -/
set_option linter.all false
namespace Go.Proofs.YtcigpclbhfkgaaaGreat.V
open Go Go.VM Go.Proofs
set_option maxRecDepth 10000
variable {frz : Nat} {H : Heap}
theorem par_at {w h : Int} {b d : List Int} {i : Int} {p : Nat} (hp : p < 4) (h0 : rd d i > 0) (h1 : ∀ q < p, ¬ toRoot w h b d i q) (h2 : toRoot w h b d i p) : par w h b d i = next w h i p := by
  unfold par
  rw [if_pos h0]
  have : p = 0 ∨ p = 1 ∨ p = 2 ∨ p = 3 := by omega
  rcases this with rfl | rfl | rfl | rfl
  · rw [if_pos h2]
  · rw [if_neg (h1 0 (by omega)), if_pos h2]
  · rw [if_neg (h1 0 (by omega)), if_neg (h1 1 (by omega)), if_pos h2]
  · rw [if_neg (h1 0 (by omega)), if_neg (h1 1 (by omega)), if_neg (h1 2 (by omega)), if_pos h2]
theorem par_none {w h : Int} {b d : List Int} {i : Int} (h1 : rd d i > 0 → ∀ q < 4, ¬ toRoot w h b d i q) : par w h b d i = -1 := by
  unfold par
  by_cases h0 : rd d i > 0
  · have h1 := h1 h0
    rw [if_pos h0, if_neg (h1 0 (by omega)), if_neg (h1 1 (by omega)), if_neg (h1 2 (by omega)), if_neg (h1 3 (by omega))]
  · rw [if_neg h0]
theorem sTreeParents_w (w h : Int) (v : Value) (b : List Int) (root : Int) (hI : IsI H v b) (hl : b.length ≤ 1073741824) :
   wp (vcall C frz 195 [.agg #[.int .i64 w, .int .i64 h, v], .int .i64 root] H) (Made Fl.int 3 H (parents w h b root)) := by
  rw [vcall_go (fn := Tryz.f195) Tryz.func195 rfl (by kernel_rfl) rfl]
  have one := And.intro hI.one' hI.cells
  have hc := cnt_range w h
  simp [one, l31Ok_c _ _ _ _ _ (hI.app _) hl, -Bool.decide_and]
  refine wp_dec ?_ ?_ <;> intro hR
  · have hR' : rootOk w h b root := hR
    simp [one]
    refine wp_thn (l31Depths_w w h v b root (hI.app _) hl hR') ?_
    rintro vd _ ⟨L, rfl, od, nd⟩
    have od := od.rd.isI
    simp only [List.append_assoc, List.cons_append, List.nil_append] at od
    have hdl := depths_length w h b root
    have dm := fun v (hv : v ∈ depths w h b root) => depths_mem hv
    have hlc := (depths_inv hR').1
    have hm := hR.1
    unfold parents pars
    generalize depths w h b root = D at *
    have fD := fun (r : Row) (L' : Heap) => (swapI (A := H ++ [⟨[.int .i64 w, .int .i64 h, v], 0, 40⟩]) (B := L) (r := ⟨[], 0, 3⟩) r (by simpa using od) (fun i hi => by have := nd i hi; simp at this ⊢; omega)).app L'
    simp only [List.append_assoc, List.cons_append, List.nil_append] at fD
    have lD := fun r L' => (fD r L').len (P := Tryz.prog) (ty := 24) (by simp)
    simp
    refine wp_inv (fun n t H' => ∃ (i g : Nat) (G : Heap) (o : List Int), n = D.length - i ∧ i ≤ D.length ∧ o = (List.range i).map (fun i : Nat => par w h b D (i : Int)) ∧
      t 2 = .pointer (some ⟨H.length, 0, some 0⟩) ∧ t 5 = .slice (some ⟨H.length + 1, 0, some g⟩) o.length 0 ∧ t 6 = vd ∧ t 7 = .int .i64 i ∧
      H' = H ++ ⟨[.int .i64 w, .int .i64 h, v], 0, 40⟩ :: ⟨o.map (.int .i64), g, 3⟩ :: (L ++ G)) ?_ (n := D.length) ⟨0, 0, [], [], by simp⟩
    rintro n t H' ⟨i, g, G, o, rfl, hi, ho, h2, h5, h6, h7, rfl⟩ ih
    simp [h2, h5, h6, h7, lD]
    have hol : o.length = i := by rw [ho]; simp
    refine wp_dec ?_ ?_ <;> intro hid
    · have hid' : i < D.length := by omega
      have xD := fun r L' => (fD r L').idx (P := Tryz.prog) (ty := 24) (e := 3) (by simp) (i := (i : Int)) (by omega) (by omega)
      have rD := fun r L' => ((fD r L').load (P := Tryz.prog) (e := 3) (by simp) hid').trans (by rw [getD_get _ _ hid', ← rd_at hid'])
      simp only [Int.toNat_natCast] at xD
      have hd := dm _ (rd_mem (s := D) (k := (i : Int)) (by omega) (by omega))
      have w3 : IntKind.i64.wrap (rd D i - 1) = rd D i - 1 := w64 (by omega) (by omega)
      simp [h2, h5, h6, h7]
      refine wp_inv (fun n t H' => ∃ (p : Nat) (x : Int), n = 4 - p ∧ p ≤ 4 ∧ ((x = par w h b D i ∧ 0 ≤ x) ∨ (x = -1 ∧ (0 < p → rd D i > 0) ∧ ∀ q < p, ¬ toRoot w h b D i q)) ∧
        t 2 = .pointer (some ⟨H.length, 0, some 0⟩) ∧ t 5 = .slice (some ⟨H.length + 1, 0, some g⟩) o.length 0 ∧ t 6 = vd ∧ t 7 = .int .i64 i ∧ t 8 = .int .i64 x ∧ t 9 = .int .i64 p ∧
        H' = H ++ ⟨[.int .i64 w, .int .i64 h, v], 0, 40⟩ :: ⟨o.map (.int .i64), g, 3⟩ :: (L ++ G)) ?_ (n := 4) ⟨0, -1, by simp [h2, h5, h6, h7]⟩
      clear h2 h5 h6 h7
      rintro n t H' ⟨p, x, rfl, hp, hx, h2, h5, h6, h7, h8, h9, rfl⟩ ih2
      simp [h2, h5, h6, h7, h8, h9]
      refine wpg_dec ?_ ?_ <;> intro hp4
      · have hp4' : p < 4 := by omega
        simp [h2, h5, h6, h7, h8, h9, hp4]
        refine wpg_dec ?_ ?_ <;> intro hx0
        · obtain ⟨rfl, hpo, hno⟩ : x = -1 ∧ (0 < p → rd D i > 0) ∧ ∀ q < p, ¬ toRoot w h b D i q := by
            rcases hx with hx | hx
            · omega
            · exact hx
          simp [h2, h5, h6, h7, h8, h9, hp4, hx0, xD, rD]
          refine wp_dec ?_ ?_ <;> intro hd0
          · have e1 : IntKind.i64.wrap (4 * (i : Int)) = 4 * i := w64 (by omega) (by omega)
            have e2 : IntKind.i64.wrap (4 * (i : Int) + p) = 4 * i + p := w64 (by omega) (by omega)
            simp [h2, h5, h6, h7, h8, h9, e1, e2, one, l31Link_c _ _ _ _ _ (hI.app _) hl]
            refine wp_dec ?_ ?_ <;> intro hlk
            · obtain ⟨_, hn, he⟩ := link_next hp4' hlk
              have xE := fun r L' => (fD r L').idx (P := Tryz.prog) (ty := 24) (e := 3) (by simp) hn.1 (by have := hn.2; omega)
              have rE := fun r L' => ((fD r L').load (P := Tryz.prog) (e := 3) (by simp) (j := (next w h i p).toNat) (by have := hn.1; have := hn.2; omega))
              have rE' : D.getD (next w h i p).toNat 0 = rd D (next w h i p) := rfl
              rw [rE'] at rE
              simp [h2, h5, h6, h7, h8, h9, one, sNextNode_c]
              rw [go_draw (h := by kernel_rfl)]
              simp [h2, h5, h6, h7, h8, h9, one, xE, rE, xD, rD, w3]
              refine wp_dec ?_ ?_ <;> intro hdd
              · simp [h2, h5, h6, h7, h8, h9]
                refine ih2 (4 - (p + 1)) _ _ ⟨p + 1, next w h i p, rfl, by omega, .inl ⟨(par_at hp4' hd0 hno ⟨hlk, hdd⟩).symm, hn.1⟩, by simp [h2], by simp [h5], by simp [h6], by simp [h7], by simp, ?_, rfl⟩ (by omega)
                simp; rw [w64 (by omega) (by omega)]
              · simp [h2, h5, h6, h7, h8, h9, hdd]
                refine ih2 (4 - (p + 1)) _ _ ⟨p + 1, -1, rfl, by omega, .inr ⟨rfl, fun _ => hd0, fun q hq => ?_⟩, by simp [h2], by simp [h5], by simp [h6], by simp [h7], by simp [h8], ?_, rfl⟩ (by omega)
                · by_cases hqp : q < p
                  · exact hno q hqp
                  · have : q = p := by omega
                    subst this; exact fun hh => hdd hh.2
                · simp; rw [w64 (by omega) (by omega)]
            · simp [h2, h5, h6, h7, h8, h9, hlk]
              refine ih2 (4 - (p + 1)) _ _ ⟨p + 1, -1, rfl, by omega, .inr ⟨rfl, fun _ => hd0, fun q hq => ?_⟩, by simp [h2], by simp [h5], by simp [h6], by simp [h7], by simp [h8], ?_, rfl⟩ (by omega)
              · by_cases hqp : q < p
                · exact hno q hqp
                · have : q = p := by omega
                  subst this; exact fun hh => hlk hh.1
              · simp; rw [w64 (by omega) (by omega)]
          · have hxe : (-1 : Int) = par w h b D i := (par_none (fun hh => absurd hh hd0)).symm
            simp [h2, h5, h6, h7, h8, h9, hd0]
            refine wp_need (by omega) ?_
            refine ih (D.length - (i + 1)) _ _ ⟨i + 1, g + 1, G ++ [⟨[.int .i64 (-1)], 0, 3⟩], o ++ [-1], rfl, by omega, by rw [List.range_succ, List.map_append, ← ho, hxe]; rfl, by simp [h2], by simp, by simp [h6], ?_, by simp⟩ (by omega)
            simp; rw [w64 (by omega) (by omega)]
        · have hxe : x = par w h b D i := by
            rcases hx with hx | hx
            · exact hx.1
            · omega
          simp [h2, h5, h6, h7, h8, h9, hp4, hx0]
          refine wp_need (by omega) ?_
          refine ih (D.length - (i + 1)) _ _ ⟨i + 1, g + 1, G ++ [⟨[.int .i64 x], 0, 3⟩], o ++ [x], rfl, by omega, by rw [List.range_succ, List.map_append, ← ho, hxe]; rfl, by simp [h2], by simp, by simp [h6], ?_, by simp⟩ (by omega)
          simp; rw [w64 (by omega) (by omega)]
      · have hp4' : p = 4 := by omega
        have hxe : x = par w h b D i := by
          rcases hx with hx | ⟨rfl, hpo, hno⟩
          · exact hx.1
          · exact (par_none (fun _ q hq => hno q (by omega))).symm
        simp [h2, h5, h6, h7, h8, h9, hp4]
        refine wp_need (by omega) ?_
        refine ih (D.length - (i + 1)) _ _ ⟨i + 1, g + 1, G ++ [⟨[.int .i64 x], 0, 3⟩], o ++ [x], rfl, by omega, by rw [List.range_succ, List.map_append, ← ho, hxe]; rfl, by simp [h2], by simp, by simp [h6], ?_, by simp⟩ (by omega)
        simp; rw [w64 (by omega) (by omega)]
    · have : i = D.length := by omega
      subst this
      simp [h2, h5, h6, h7]
      rw [← ho]
      exact ⟨_, rfl, Ow.new (k := 1) (by simp) (cellsOf_int _).symm (by simp) rfl, by simp⟩
  · have : depths w h b root = [] := depths_no hR
    unfold parents pars
    rw [this]
    simp
    exact ⟨_, rfl, Ow.new (D := Fl.int) (e := 3) (k := 1) (g := 0) (cs := []) rfl rfl rfl rfl, by simp⟩
end Go.Proofs.YtcigpclbhfkgaaaGreat.V
/-! IsConnected, DepthOfTree, BestRoot. -/
set_option linter.all false
namespace Go.Proofs.YtcigpclbhfkgaaaGreat.V
open Go Go.VM Go.Proofs
set_option maxRecDepth 10000
variable {frz : Nat} {H : Heap}
theorem ite_max (a b : Int) : (if a < b then b else a) = max a b := by omega
theorem foldl_max_take {xs : List Int} {a : Int} {i : Nat} (h : i < xs.length) : (xs.take (i + 1)).foldl max a = max ((xs.take i).foldl max a) xs[i] := by
  rw [List.take_succ_eq_append_getElem h, List.foldl_append]; rfl
theorem max_c (v : Value) (xs : List Int) (hI : IsI H v xs) (h0 : 0 < xs.length) (hl : xs.length ≤ 1073741824) (hm : ∀ x ∈ xs, -1 ≤ x) :
   vcall C frz 218 [v] H = some (.int .i64 (xs.foldl max (-1)), H) := by
  rw [vcall_go (fn := Tryz.f218) Tryz.func218 rfl (by kernel_rfl) rfl]
  have q0 := hI.idx (P := Tryz.prog) (ty := 24) (e := 3) (by simp) (i := 0) (by omega) (by omega)
  have r0 := (hI.load (P := Tryz.prog) (e := 3) (by simp) h0).trans (by rw [getD_get _ _ h0])
  have n0 : ¬ (xs.length : Int) < 1 := by omega
  have e0 : xs ≠ [] := fun hh => by rw [hh] at h0; simp at h0
  simp [hI.len, e0, n0, q0, r0]
  refine go_inv (fun n t H' => ∃ i : Nat, n = xs.length - i ∧ 1 ≤ i ∧ i ≤ xs.length ∧ t 0 = v ∧ t 3 = .int .i64 ((xs.take i).foldl max (-1)) ∧ t 4 = .int .i64 i ∧ H' = H) ?_ (n := xs.length - 1) ⟨1, rfl, by omega, by omega, by simp, ?_, by simp, rfl⟩
  · rintro n t H' ⟨i, rfl, h1, hi, k0, k3, k4, rfl⟩ ih
    simp [k0, k3, k4, hI.len]
    refine br_dec _ ?_ ?_ <;> intro h5
    · have q1 := hI.idx (P := Tryz.prog) (ty := 24) (e := 3) (by simp) (i := (i : Int)) (by omega) (by omega)
      have r1 := (hI.load (P := Tryz.prog) (e := 3) (by simp) h5).trans (by rw [getD_get _ _ h5])
      simp only [Int.toNat_natCast] at q1
      simp [k0, k3, k4, q1, r1]
      refine ih (xs.length - (i + 1)) _ _ ⟨i + 1, rfl, by omega, by omega, by simp [k0], ?_, ?_, rfl⟩ (by omega)
      · simp [foldl_max_take h5, ite_max]
      · simp; rw [w64 (by omega) (by omega)]
    · have : i = xs.length := by omega
      subst this
      simp [k0, k3, k4]
  · have := hm _ (List.getElem_mem h0)
    rw [show (1 : Nat) = 0 + 1 from rfl, foldl_max_take h0]
    simp; omega
theorem depthOfTree_c (w h : Int) (v : Value) (b : List Int) (root : Int) (hI : IsI H v b) (hl : b.length ≤ 1073741824) :
   vcall C frz 170 [.agg #[.int .i64 w, .int .i64 h, v], .int .i64 root] H = some (.int .i64 (depthOf w h b root), H) := by
  refine wp.exact (by simp) ?_ rfl
  rw [vcall_go (fn := Tryz.f170) Tryz.func170 rfl (by kernel_rfl) rfl]
  have one := And.intro hI.one' hI.cells
  simp [one, isRoot_c _ _ _ _ _ (hI.app _) hl, -Bool.decide_and]
  refine wp_dec ?_ ?_ <;> intro hR
  · simp [one]
    refine wp_thn (treeDepths_w w h v b root (hI.app _) hl) ?_
    rintro vd _ ⟨L, rfl, od, nd⟩
    have hc := cnt_range w h
    have i := depths_inv hR
    have hn := isN_ok hR.2
    have hp := hR.2.2
    have hq := hR.2.1
    have od := od.rd.isI
    simp only [List.append_assoc, List.singleton_append] at od
    simp [max_c _ _ od (by omega) (by omega) (fun x hx => (i.2 x hx).1), depthOf]
  · have hd : depths w h b root = [] := depths_no hR
    simp [depthOf, hd]
theorem sDepthOfTree_c (w h : Int) (v : Value) (b : List Int) (root : Int) (hI : IsI H v b) (hl : b.length ≤ 1073741824) :
   vcall C frz 159 [.agg #[.int .i64 w, .int .i64 h, v], .int .i64 root] H = some (.int .i64 (depthOf w h b root), H) := by
  refine wp.exact (by simp) ?_ rfl
  rw [vcall_go (fn := Tryz.f159) Tryz.func159 rfl (by kernel_rfl) rfl]
  have one := And.intro hI.one' hI.cells
  simp [one]
  refine wp_thn (sTreeDepths_w w h v b root (hI.app _) hl) ?_
  rintro vd _ ⟨L, rfl, od, nd⟩
  have hl16 := depths_length w h b root
  unfold depthOf
  generalize depths w h b root = xs at *
  have od := od.rd.isI
  simp only [List.append_assoc, List.singleton_append] at od
  simp
  refine wp_inv (fun n t H' => ∃ i : Nat, n = xs.length - i ∧ i ≤ xs.length ∧ t 5 = vd ∧ t 6 = .int .i64 ((xs.take i).foldl max (-1)) ∧ t 7 = .int .i64 i ∧ H' = H ++ ⟨[.int .i64 w, .int .i64 h, v], 0, 40⟩ :: L) ?_ (n := xs.length) ⟨0, by simp⟩
  rintro n t H' ⟨i, rfl, hi, k5, k6, k7, rfl⟩ ih
  simp [k5, k6, k7, od.len]
  refine wp_dec ?_ ?_ <;> intro h5
  · have q1 := od.idx (P := Tryz.prog) (ty := 24) (e := 3) (by simp) (i := (i : Int)) (by omega) (by omega)
    have r1 := (od.load (P := Tryz.prog) (e := 3) (by simp) h5).trans (by rw [getD_get _ _ h5])
    simp only [Int.toNat_natCast] at q1
    simp [k5, k6, k7, q1, r1]
    refine ih (xs.length - (i + 1)) _ _ ⟨i + 1, rfl, by omega, by simp [k5], ?_, ?_, rfl⟩ (by omega)
    · simp [foldl_max_take h5, ite_max]
    · simp; rw [w64 (by omega) (by omega)]
  · have : i = xs.length := by omega
    subst this
    simp [k5, k6, k7]
theorem isConnected_c (w h : Int) (v : Value) (b : List Int) (hI : IsI H v b) (hl : b.length ≤ 1073741824) :
   vcall C frz 166 [.agg #[.int .i64 w, .int .i64 h, v]] H = some (.bool (decide (conn w h b)), H) := by
  refine wp.exact (by simp) ?_ rfl
  rw [vcall_go (fn := Tryz.f166) Tryz.func166 rfl (by kernel_rfl) rfl]
  have one := And.intro hI.one' hI.cells
  simp [one, meshOk_c _ _ _ _ (hI.app _) hl]
  refine wpg_dec ?_ ?_ <;> intro hm
  · simp [one, hm]
    refine wp_thn (treeDepths_w w h v b 0 (hI.app _) hl) ?_
    rintro vd _ ⟨L, rfl, od, nd⟩
    have hl16 := depths_length w h b 0
    have od := od.rd.isI
    simp only [List.append_assoc, List.singleton_append] at od
    simp [hm, contains_c _ _ _ od (by omega), conn]
  · simp [conn, hm]
theorem sIsConnected_c (w h : Int) (v : Value) (b : List Int) (hI : IsI H v b) (hl : b.length ≤ 1073741824) :
   vcall C frz 157 [.agg #[.int .i64 w, .int .i64 h, v]] H = some (.bool (decide (conn w h b)), H) := by
  refine wp.exact (by simp) ?_ rfl
  rw [vcall_go (fn := Tryz.f157) Tryz.func157 rfl (by kernel_rfl) rfl]
  have one := And.intro hI.one' hI.cells
  simp [one]
  refine wp_thn (sTreeDepths_w w h v b 0 (hI.app _) hl) ?_
  rintro vd _ ⟨L, rfl, od, nd⟩
  have hl16 := depths_length w h b 0
  have key : conn w h b ↔ (0 < (depths w h b 0).length ∧ ∀ x ∈ depths w h b 0, ¬ x < 0) := by
    constructor
    · rintro ⟨hm, hn⟩
      have hr := okG_isN hm.2
      have i := depths_inv (root := 0) ⟨hm, hr⟩
      have := hr.2
      refine ⟨by omega, fun x hx hlt => hn ?_⟩
      have := (i.2 x hx).1
      rwa [show x = -1 by omega] at hx
    · rintro ⟨h0, hn⟩
      have hR : rootOk w h b 0 := by
        by_cases hR : rootOk w h b 0
        · exact hR
        · rw [depths_no hR] at h0; simp at h0
      exact ⟨hR.1, fun hh => hn _ hh (by omega)⟩
  simp only [key]
  generalize depths w h b 0 = xs at *
  have od := od.rd.isI
  simp only [List.append_assoc, List.singleton_append] at od
  simp
  refine wp_inv (fun n t H' => ∃ i : Nat, n = xs.length - i ∧ i ≤ xs.length ∧ t 3 = vd ∧ t 4 = .int .i64 i ∧ H' = H ++ ⟨[.int .i64 w, .int .i64 h, v], 0, 40⟩ :: L ∧ ∀ x ∈ xs.take i, ¬ x < 0) ?_ (n := xs.length) ⟨0, by simp⟩
  rintro n t H' ⟨i, rfl, hi, k3, k4, rfl, hk⟩ ih
  simp [k3, k4, od.len]
  refine wp_dec ?_ ?_ <;> intro h5
  · have q1 := od.idx (P := Tryz.prog) (ty := 24) (e := 3) (by simp) (i := (i : Int)) (by omega) (by omega)
    have r1 := (od.load (P := Tryz.prog) (e := 3) (by simp) h5).trans (by rw [getD_get _ _ h5])
    simp only [Int.toNat_natCast] at q1
    simp [k3, k4, q1, r1]
    refine wp_dec ?_ ?_ <;> intro h6
    · simp [k3, k4, h6]
      exact fun _ => ⟨_, List.getElem_mem h5, h6⟩
    · simp [k3, k4, h6]
      refine ih (xs.length - (i + 1)) _ _ ⟨i + 1, rfl, by omega, by simp [k3], ?_, rfl, take_succ_no h5 hk h6⟩ (by omega)
      simp; rw [w64 (by omega) (by omega)]
  · have : i = xs.length := by omega
    subst this
    rw [List.take_length] at hk
    simp [k3, k4, od.len]
    by_cases h0 : xs = []
    · simp [h0]
    · have : 0 < xs.length := List.length_pos_iff.2 h0
      simp [this, h0]; exact fun x hx => by have := hk x hx; omega
theorem best_range {w h : Int} {b : List Int} (n : Nat) : 0 ≤ (List.range n).foldl (better w h b) 0 := by
  induction n with
  | zero => simp
  | succ n ih => rw [List.range_succ, List.foldl_append]; exact better_range ih
theorem bestRoot_c (w h : Int) (v : Value) (b : List Int) (hI : IsI H v b) (hl : b.length ≤ 1073741824) :
   vcall C frz 110 [.agg #[.int .i64 w, .int .i64 h, v]] H = some (.int .i64 (bestRoot w h b), H) := by
  refine wp.exact (by simp) ?_ rfl
  rw [vcall_go (fn := Tryz.f110) Tryz.func110 rfl (by kernel_rfl) rfl]
  have one := And.intro hI.one' hI.cells
  have hc := cnt_range w h
  simp [one, isConnected_c _ _ _ _ (hI.app _) hl]
  refine wp_dec ?_ ?_ <;> intro hcn
  · simp [one, nodeCount_c]
    refine wp_inv (fun n t H' => ∃ i : Nat, n = (cnt w h).toNat - i ∧ i ≤ (cnt w h).toNat ∧ t 1 = .pointer (some ⟨H.length, 0, some 0⟩) ∧ t 3 = .int .i64 ((List.range i).foldl (better w h b) 0) ∧ t 10 = .int .i64 (cnt w h) ∧ t 11 = .int .i64 i ∧ H' = H ++ [⟨[.int .i64 w, .int .i64 h, v], 0, 40⟩]) ?_ (n := (cnt w h).toNat) ⟨0, by simp⟩
    rintro n t H' ⟨i, rfl, hi, k1, k3, k10, k11, rfl⟩ ih
    simp [k1, k3, k10, k11]
    refine wp_dec ?_ ?_ <;> intro h5
    · simp [k1, k3, k10, k11]
      rw [go_draw (h := by kernel_rfl)]
      simp [k1, k3, k10, k11, one, depthOfTree_c _ _ _ _ _ (hI.app _) hl]
      have e : (List.range (i + 1)).foldl (better w h b) 0 = better w h b ((List.range i).foldl (better w h b) 0) i := by rw [List.range_succ, List.foldl_append]; rfl
      refine wp_dec ?_ ?_ <;> intro h6
      · simp [k1, k3, k10, k11, h6]
        refine ih ((cnt w h).toNat - (i + 1)) _ _ ⟨i + 1, rfl, by omega, by simp [k1], ?_, by simp [k10], ?_, rfl⟩ (by omega)
        · simp [e, better, h6]
        · simp; rw [w64 (by omega) (by omega)]
      · simp [k1, k3, k10, k11, h6]
        refine ih ((cnt w h).toNat - (i + 1)) _ _ ⟨i + 1, rfl, by omega, by simp [k1], ?_, by simp [k10], ?_, rfl⟩ (by omega)
        · simp [e, better, h6, k3]
        · simp; rw [w64 (by omega) (by omega)]
    · have : i = (cnt w h).toNat := by omega
      subst this
      simp [k1, k3, k10, k11, bestRoot, hcn]
  · simp [bestRoot, hcn]
theorem sBestRoot_c (w h : Int) (v : Value) (b : List Int) (hI : IsI H v b) (hl : b.length ≤ 1073741824) :
   vcall C frz 101 [.agg #[.int .i64 w, .int .i64 h, v]] H = some (.int .i64 (bestRoot w h b), H) := by
  refine wp.exact (by simp) ?_ rfl
  rw [vcall_go (fn := Tryz.f101) Tryz.func101 rfl (by kernel_rfl) rfl]
  have one := And.intro hI.one' hI.cells
  have hc := cnt_range w h
  simp [one, sIsConnected_c _ _ _ _ (hI.app _) hl]
  refine wp_inv (fun n t H' => ∃ (i : Nat) (best least : Int), n = (cnt w h).toNat - i ∧ i ≤ (cnt w h).toNat ∧ t 1 = .pointer (some ⟨H.length, 0, some 0⟩) ∧ t 3 = .int .i64 best ∧ t 4 = .int .i64 least ∧ t 5 = .bool (decide (conn w h b)) ∧ t 6 = .int .i64 i ∧ H' = H ++ [⟨[.int .i64 w, .int .i64 h, v], 0, 40⟩] ∧
    ((i = 0 ∧ best = -1) ∨ (conn w h b ∧ 0 < i ∧ best = (List.range i).foldl (better w h b) 0 ∧ least = depthOf w h b best))) ?_ (n := (cnt w h).toNat) ⟨0, -1, 0, by simp⟩
  rintro n t H' ⟨i, best, least, rfl, hi, k1, k3, k4, k5, k6, rfl, hb⟩ ih
  have e : (List.range (i + 1)).foldl (better w h b) 0 = better w h b ((List.range i).foldl (better w h b) 0) i := by rw [List.range_succ, List.foldl_append]; rfl
  simp [k1, k3, k4, k5, k6, one, sNodeCount_c]
  refine wpg_dec ?_ ?_ <;> intro h5
  · simp [k1, k3, k4, k5, k6, h5]
    refine wp_dec ?_ ?_ <;> intro hcn
    · simp [k1, k3, k4, k5, k6, one, sDepthOfTree_c _ _ _ _ _ (hI.app _) hl]
      refine wpg_dec ?_ ?_ <;> intro h7
      · have hi0 : i = 0 := by
          rcases hb with hb | ⟨_, h0, hbe, _⟩
          · exact hb.1
          · have := best_range (w := w) (h := h) (b := b) i; omega
        subst hi0
        simp [k1, k3, k4, k5, k6, h7]
        refine ih ((cnt w h).toNat - 1) _ _ ⟨1, 0, depthOf w h b 0, rfl, by omega, by simp [k1], by simp, by simp, by simp [k5], ?_, rfl, .inr ⟨hcn, by omega, by simp [better], rfl⟩⟩ (by omega)
        simp [wr1]
      · obtain ⟨_, h0, hbe, hle⟩ : conn w h b ∧ 0 < i ∧ best = (List.range i).foldl (better w h b) 0 ∧ least = depthOf w h b best := by
          rcases hb with hb | hb
          · omega
          · exact hb
        simp [k1, k3, k4, k5, k6, h7]
        refine wp_dec ?_ ?_ <;> intro h8
        · simp [k1, k3, k4, k5, k6, h8]
          refine ih ((cnt w h).toNat - (i + 1)) _ _ ⟨i + 1, i, depthOf w h b i, rfl, by omega, by simp [k1], by simp, by simp, by simp [k5], ?_, rfl, .inr ⟨hcn, by omega, ?_, rfl⟩⟩ (by omega)
          · simp; rw [w64 (by omega) (by omega)]
          · rw [e, ← hbe, better, if_pos (by omega)]
        · simp [k1, k3, k4, k5, k6, h8]
          refine ih ((cnt w h).toNat - (i + 1)) _ _ ⟨i + 1, best, least, rfl, by omega, by simp [k1], by simp [k3], by simp [k4], by simp [k5], ?_, rfl, .inr ⟨hcn, by omega, ?_, hle⟩⟩ (by omega)
          · simp; rw [w64 (by omega) (by omega)]
          · rw [e, ← hbe, better, if_neg (by omega)]
    · have hb1 : best = -1 := by
        rcases hb with hb | hb
        · exact hb.2
        · exact absurd hb.1 hcn
      simp [k1, k3, k4, k5, k6, hb1, bestRoot, hcn]
  · have : i = (cnt w h).toNat := by omega
    simp [k1, k3, k4, k5, k6, h5]
    rcases hb with ⟨h0, hb⟩ | ⟨hcn, h0, hb, _⟩
    · have hcn : ¬ conn w h b := fun hh => by
        have := (okG_isN hh.1.2).2
        omega
      simp [hb, bestRoot, hcn]
    · simp [hb, bestRoot, hcn, this]
end Go.Proofs.YtcigpclbhfkgaaaGreat.V
/-! TreeNodes of the reference. -/
set_option linter.all false
namespace Go.Proofs.YtcigpclbhfkgaaaGreat.V
open Go Go.VM Go.Proofs
set_option maxRecDepth 10000
variable {frz : Nat} {H : Heap}
theorem sTreeNodes_w (v : Value) (P : List Int) (a b : Int) (hI : IsI H v P) (hl : P.length ≤ 268435456) :
   wp (vcall C frz 197 [v, .int .i64 a, .int .i64 b] H) (Made Fl.int 3 H (treeNodes P a b)) := by
  rw [vcall_go (fn := Tryz.f197) Tryz.func197 rfl (by kernel_rfl) rfl]
  simp [sCommon_c _ _ _ _ (hI.app _) (show P.length ≤ 1073741823 by omega)]
  refine wp_dec ?_ ?_ <;> intro h0
  · simp [treeNodes, h0]
    exact ⟨_, rfl, Ow.new0 rfl rfl rfl rfl, by simp⟩
  · simp
    have hm : P.length ≤ 1073741823 := by omega
    refine wp_thn (sAnc_w v P a (hI.app _) hm) ?_
    rintro va _ ⟨L1, rfl, oa, na⟩
    simp
    refine wp_thn (sAnc_w v P b (hI.app _) hm) ?_
    rintro vb _ ⟨L2, rfl, ob, nb⟩
    have hla := anc_len P a
    have hlb := anc_len P b
    have oa := oa.rd.isI.app L2
    have ob := ob.rd.isI
    simp only [List.append_assoc, List.singleton_append, List.length_append, List.length_cons, List.length_nil, List.cons_append, List.nil_append] at oa ob na nb
    obtain ⟨ma, mb⟩ := common_mem (P := P) (a := a) (b := b) (by omega)
    have fa := fun (r : Row) (G : Heap) => (swapI r oa (fun i hi => na i hi)).app G
    have fb := fun (r : Row) (G : Heap) => (swapI r ob (fun i hi => by have := nb i hi; omega)).app G
    simp only [List.append_assoc, List.cons_append, List.nil_append] at fa fb
    clear oa ob na nb
    generalize hA : anc P a = A at *
    generalize hB : anc P b = B at *
    generalize hT : common P a b = top at *
    have ia := List.idxOf_lt_length_iff.2 ma
    have ib := List.idxOf_lt_length_iff.2 mb
    have ga := (getD_get _ _ ia).trans (idx_get ma)
    have gb := (getD_get _ _ ib).trans (idx_get mb)
    have na : ∀ j (h : j < A.length), A[j] = top → A.idxOf top ≤ j := fun j h => idx_at h
    have nb : ∀ j (h : j < B.length), (B[j] = top → B.idxOf top ≤ j) ∧ (j < B.idxOf top → B[j] ≠ top) := fun j h => ⟨idx_at h, fun h1 => idx_ne h1 h⟩
    have tn : treeNodes P a b = A.take (A.idxOf top + 1) ++ (B.take (B.idxOf top)).reverse := by rw [treeNodes, hT, hA, hB, if_neg h0]
    rw [tn]
    clear tn hA hB hT hI
    generalize hka : A.idxOf top = ka at *
    generalize hkb : B.idxOf top = kb at *
    have la := fun (r : Row) (G : Heap) => (fa r G).len (P := Tryz.prog) (ty := 24) (by simp)
    have lb := fun (r : Row) (G : Heap) => (fb r G).len (P := Tryz.prog) (ty := 24) (by simp)
    have xa := fun (r : Row) (G : Heap) (i : Nat) (hi : i < A.length) => (fa r G).idx (P := Tryz.prog) (ty := 24) (e := 3) (by simp) (i := (i : Int)) (by omega) (by omega)
    have xb := fun (r : Row) (G : Heap) (i : Nat) (hi : i < B.length) => (fb r G).idx (P := Tryz.prog) (ty := 24) (e := 3) (by simp) (i := (i : Int)) (by omega) (by omega)
    have da := fun (r : Row) (G : Heap) (i : Nat) (hi : i < A.length) => ((fa r G).load (P := Tryz.prog) (e := 3) (by simp) hi).trans (by rw [getD_get _ _ hi])
    have db := fun (r : Row) (G : Heap) (i : Nat) (hi : i < B.length) => ((fb r G).load (P := Tryz.prog) (e := 3) (by simp) hi).trans (by rw [getD_get _ _ hi])
    simp only [Int.toNat_natCast] at xa xb
    simp
    -- the way up
    refine wp_inv (fun n t H' => ∃ (i g : Nat) (G : Heap) (o : List Int), n = ka - i ∧ i ≤ ka ∧ o = A.take i ∧ t 7 = .slice (some ⟨H.length, 0, some g⟩) o.length 0 ∧ t 8 = .int .i64 top ∧ t 9 = va ∧ t 10 = vb ∧ t 11 = .int .i64 i ∧
      H' = H ++ ⟨o.map (.int .i64), g, 3⟩ :: (L1 ++ (L2 ++ G))) ?_ (n := ka) ⟨0, 0, [], [], by simp⟩
    rintro n t H' ⟨i, g, G, o, rfl, hi, ho, h7, h8, h9, h10, h11, rfl⟩ ih
    have hil : i < A.length := by omega
    have hol : o.length = i := by rw [ho]; simp; omega
    have q1 := fun r G => xa r G i hil
    have q2 := fun r G => da r G i hil
    simp [h7, h8, h9, h10, h11, q1, q2]
    refine wp_dec ?_ ?_ <;> intro h6
    · have hik : i = ka := by
        have := na _ hil h6
        omega
      subst hik
      simp [h7, h8, h9, h10, h11]
      refine wp_need (by omega) ?_
      simp [h7, h8, h9, h10, h11, lb]
      have e1 : IntKind.i64.wrap ((B.length : Int) - 1) = (B.length : Int) - 1 := w64 (by omega) (by omega)
      have et : A.take (i + 1) = A.take i ++ [top] := by rw [List.take_succ_eq_append_getElem hil, h6]
      -- the way down
      refine wp_inv (fun n t H' => ∃ (j g : Nat) (G : Heap) (o : List Int), n = j ∧ j ≤ B.length ∧ o = A.take (i + 1) ++ ((B.take kb).drop j).reverse ∧ t 7 = .slice (some ⟨H.length, 0, some g⟩) o.length 0 ∧ t 8 = .int .i64 top ∧ t 10 = vb ∧ t 12 = .int .i64 (j - 1 : Int) ∧
        H' = H ++ ⟨o.map (.int .i64), g, 3⟩ :: (L1 ++ (L2 ++ G))) ?_ (n := B.length) ⟨B.length, g + 1, G ++ [⟨[.int .i64 top], 0, 3⟩], _, rfl, by omega, rfl, ?_, by simp [h8], by simp [h10], by simp [e1], ?_⟩
      · clear h7 h8 h9 h10 h11 ih
        clear ho hol
        rintro n t H' ⟨j, g, G, o, rfl, hj, ho, h7, h8, h10, h12, rfl⟩ ih
        simp [h7, h8, h10, h12]
        refine wp_dec ?_ ?_ <;> intro hj0
        · obtain ⟨j', rfl⟩ : ∃ j', n = j' + 1 := ⟨n - 1, by omega⟩
          have ej : (((j' + 1 : Nat) : Int) - 1) = j' := by omega
          rw [ej] at h12
          simp [h7, h8, h10, h12]
          refine wp_inv (fun m t H' => ∃ (k : Nat), m = j' + 1 - k ∧ k ≤ j' + 1 ∧ t 7 = .slice (some ⟨H.length, 0, some g⟩) o.length 0 ∧ t 8 = .int .i64 top ∧ t 10 = vb ∧ t 12 = .int .i64 j' ∧ t 13 = .bool (decide (k ≤ kb)) ∧ t 14 = .int .i64 k ∧
            H' = H ++ ⟨o.map (.int .i64), g, 3⟩ :: (L1 ++ (L2 ++ G))) ?_ (n := j' + 1) ⟨0, by simp [h7, h8, h10, h12]⟩
          clear h7 h8 h10 h12
          rintro m t H' ⟨k, rfl, hk, h7, h8, h10, h12, h13, h14, rfl⟩ ih2
          simp [h7, h8, h10, h12, h13, h14]
          refine wp_dec ?_ ?_ <;> intro hkj
          · have hkl : k < B.length := by omega
            have q1 := fun r G => xb r G k hkl
            have q2 := fun r G => db r G k hkl
            simp [h7, h8, h10, h12, h13, h14]
            refine wpg_dec ?_ ?_ <;> intro hkb
            · simp [h7, h8, h10, h12, h13, h14, hkb, q1, q2]
              refine ih2 (j' + 1 - (k + 1)) _ _ ⟨k + 1, rfl, by omega, by simp [h7], by simp [h8], by simp [h10], by simp [h12], ?_, ?_, by simp⟩ (by omega)
              · have e : (k + 1 ≤ kb) ↔ ¬ B[k] = top := ⟨fun hh => (nb k hkl).2 (by omega), fun hh => by
                  by_cases hlt : k + 1 ≤ kb
                  · exact hlt
                  · have : kb = k := by omega
                    subst this; rw [getD_get _ _ hkl] at gb; exact absurd gb hh⟩
                simp [e]
              · simp; rw [w64 (by omega) (by omega)]
            · simp [h7, h8, h10, h12, h13, h14, hkb]
              refine ih2 (j' + 1 - (k + 1)) _ _ ⟨k + 1, rfl, by omega, by simp [h7], by simp [h8], by simp [h10], by simp [h12], ?_, ?_, by simp⟩ (by omega)
              · have e : ¬ (k + 1 ≤ kb) := by omega
                simp [e]
              · simp; rw [w64 (by omega) (by omega)]
          · have : k = j' + 1 := by omega
            subst this
            simp [h7, h8, h10, h12, h13, h14]
            refine wp_dec ?_ ?_ <;> intro hkb
            · have hjl : j' < B.length := by omega
              have q1 := fun r G => xb r G j' hjl
              have q2 := fun r G => db r G j' hjl
              have hol : o.length ≤ 536870912 := by rw [ho]; simp; omega
              simp [h7, h8, h10, h12, h13, h14, hkb, q1, q2]
              refine wp_need (by omega) ?_
              refine ih j' _ _ ⟨j', g + 1, G ++ [⟨[.int .i64 B[j']], 0, 3⟩], o ++ [B[j']], rfl, by omega, ?_, by simp, by simp [h8], by simp [h10], ?_, by simp⟩ (by omega)
              · rw [ho, List.append_assoc]
                congr 1
                rw [List.drop_eq_getElem_cons (i := j') (by simp; omega)]
                simp
              · simp; rw [w64 (by omega) (by omega)]
            · simp [h7, h8, h10, h12, h13, h14, hkb]
              refine ih j' _ _ ⟨j', g, G, o, rfl, by omega, ?_, by simp [h7], by simp [h8], by simp [h10], ?_, by simp⟩ (by omega)
              · rw [ho]
                congr 2
                rw [List.drop_of_length_le (by simp; omega), List.drop_of_length_le (by simp; omega)]
              · simp; rw [w64 (by omega) (by omega)]
        · have : n = 0 := by omega
          subst this
          simp [h7, h8, h10, h12]
          rw [List.drop_zero] at ho
          rw [← ho]
          exact ⟨_, rfl, Ow.new0 rfl (cellsOf_int o).symm (by simp) rfl, by simp⟩
      · simp [et, ← ho]; omega
      · simp [et, ← ho]; omega
    · have hik : i ≠ ka := fun hh => h6 (by subst hh; rwa [getD_get _ _ hil] at ga)
      simp [h7, h8, h9, h10, h11, q1, q2]
      refine wp_need (by omega) ?_
      refine ih (ka - (i + 1)) _ _ ⟨i + 1, g + 1, G ++ [⟨[.int .i64 A[i]], 0, 3⟩], o ++ [A[i]], rfl, by omega, ?_, by simp, by simp [h8], by simp [h9], by simp [h10], ?_, by simp⟩ (by omega)
      · rw [List.take_succ_eq_append_getElem hil, ho]
      · simp; rw [w64 (by omega) (by omega)]
end Go.Proofs.YtcigpclbhfkgaaaGreat.V
/-! TreeNodes as contracts on data. -/
set_option linter.all false
namespace Go.Proofs.YtcigpclbhfkgaaaGreat.V
open Go Go.VM Go.Proofs
variable {frz : Nat} {H : Heap}
theorem made_d {α : Type} {D : Fl α} {e : TypeId} {n : Nat} {xs : List α} {r : Value} {H' : Heap} (h : Made D e H xs r H') (hl : xs.length ≤ n) : (dFlat D e n).Made H xs r H' := by
  obtain ⟨L, rfl, o, k⟩ := h
  exact ⟨r, rfl, ⟨o, hl⟩, Chg.app _, k, ids_nodup r⟩
theorem treeNodes_len (P : List Int) (a b : Int) : (treeNodes P a b).length ≤ P.length + P.length := by
  have h1 := anc_len P a
  have h2 := anc_len P b
  unfold treeNodes
  split
  · simp
  · simp; omega
theorem treeNodes_d {v : Value} {P : List Int} {a b : Int} (h : dIntS.Ow H v P) (hl : P.length ≤ 268435456) : wp (vcall C frz 169 [v, .int .i64 a, .int .i64 b] H) (dIntS.Made H (treeNodes P a b)) :=
  (treeNodes_w v P a b h.1.rd.isI (by omega)).mono fun _ _ k => made_d k (by have := treeNodes_len P a b; omega)
theorem sTreeNodes_d {v : Value} {P : List Int} {a b : Int} (h : dIntS.Ow H v P) (hl : P.length ≤ 268435456) : wp (vcall C frz 197 [v, .int .i64 a, .int .i64 b] H) (dIntS.Made H (treeNodes P a b)) :=
  (sTreeNodes_w v P a b h.1.rd.isI (by omega)).mono fun _ _ k => made_d k (by have := treeNodes_len P a b; omega)
end Go.Proofs.YtcigpclbhfkgaaaGreat.V
/-! Trees: who is reached, and the first step of a way. -/
set_option linter.all false
namespace Go.Proofs.YtcigpclbhfkgaaaGreat.V
open Go Go.VM
set_option maxRecDepth 100000
def geoB : Bool := (List.range 5).all fun w => (List.range 5).all fun h => (List.range 16).all fun a => (List.range 4).all fun p =>
  decide (next (w : Int) h a p < 0) || (decide (next w h (next w h a p) (opp p) = a) && (decide (0 ≤ opp p) && (decide (opp p < 4) && (decide (next (w : Int) h a p ≠ a) && decide (opp (opp p) = p)))))
theorem geo_dec : geoB = true := by decide +kernel
theorem geo {w h a : Int} {p : Nat} (hp : p < 4) (ha : isN w h a) (hu : 0 ≤ next w h a p) : next w h (next w h a p) (opp p) = a ∧ 0 ≤ opp p ∧ opp p < 4 ∧ next w h a p ≠ a ∧ opp (opp p) = p := by
  obtain ⟨⟨⟨a1, a2⟩, b1, b2⟩, c1, c2, c3⟩ := isN_ok ha
  have h0 := geo_dec
  unfold geoB at h0
  rw [List.all_eq_true] at h0
  have h1 := h0 w.toNat (by simp; omega)
  rw [List.all_eq_true] at h1
  have h2 := h1 h.toNat (by simp; omega)
  rw [List.all_eq_true] at h2
  have h3 := h2 a.toNat (by simp; omega)
  rw [List.all_eq_true] at h3
  have h4 := h3 p (by simp; omega)
  have e1 : (w.toNat : Int) = w := by omega
  have e2 : (h.toNat : Int) = h := by omega
  have e3 : (a.toNat : Int) = a := by omega
  rw [e1, e2, e3] at h4
  simp only [Bool.or_eq_true, Bool.and_eq_true, decide_eq_true_eq] at h4
  rcases h4 with h4 | h4
  · omega
  · exact h4
theorem link_symm {w h : Int} {b : List Int} {a : Int} {p : Nat} (hp : p < 4) (h1 : link w h b (4 * a + p)) : ∃ q : Nat, q < 4 ∧ link w h b (4 * next w h a p + q) ∧ next w h (next w h a p) q = a := by
  obtain ⟨ha, hu, he⟩ := link_next hp h1
  obtain ⟨g1, g2, g3, g4, g5⟩ := geo hp ha hu.1
  have e0 : (4 * a + (p : Int)) % 4 = p := by omega
  have hb : backC w h (4 * a + p) = 4 * next w h a p + opp p := by unfold backC; rw [he, e0]
  have h2 := h1.2
  rw [hb] at h2
  obtain ⟨q, hq⟩ := Int.eq_ofNat_of_zero_le g2
  rw [hq] at g1 g3 g5 h2
  have eq1 : (4 * next w h a p + (q : Int)) / 4 = next w h a p := by omega
  have eq2 : (4 * next w h a p + (q : Int)) % 4 = q := by omega
  refine ⟨q, by omega, ⟨h2, ?_⟩, g1⟩
  have : backC w h (4 * next w h a p + q) = 4 * a + p := by unfold backC endC; rw [eq1, eq2, g1, g5]
  rw [this]; exact h1.1

/-- what visiting the ports of a list does -/
structure VOut (w h : Int) (b : List Int) (a d : Int) (l : List Nat) (x y : List Int × List Int) : Prop where
  keep : ∀ v, 0 ≤ v → 0 ≤ rd x.1 v → rd y.1 v = rd x.1 v
  new : ∀ v, isN w h v → rd x.1 v < 0 → 0 ≤ rd y.1 v → rd y.1 v = d ∧ v ∈ y.2 ∧ ∃ p : Nat, p < 4 ∧ link w h b (4 * a + p) ∧ next w h a p = v
  all : ∀ p ∈ l, link w h b (4 * a + (p : Nat)) → 0 ≤ rd y.1 (next w h a p)
  pre : ∀ v ∈ x.2, v ∈ y.2
  len : y.1.length = x.1.length
theorem vst_out {w h : Int} {b : List Int} {a d : Int} (hd : 0 ≤ d) : ∀ (l : List Nat) (x : List Int × List Int), (∀ p ∈ l, p < 4) → (∀ v, isN w h v → v < x.1.length) → VOut w h b a d l x (l.foldl (vst w h b a d) x)
  | [], x, _, _ => ⟨fun _ _ _ => rfl, fun v _ h1 h2 => by simp only [List.foldl_nil] at h2; omega, fun p hp => by simp at hp, fun _ h => h, rfl⟩
  | p :: l, x, hl, hlen => by
    have hp := hl p (by simp)
    have E := vst_ext (w := w) (h := h) (b := b) (a := a) (x := x) hp hd
    have ih := vst_out (w := w) (h := h) (b := b) (a := a) hd l (vst w h b a d x p) (fun q hq => hl q (by simp [hq])) (by rw [E.len]; exact hlen)
    refine ⟨fun v h0 h1 => ?_, fun v hv h1 h2 => ?_, fun q hq hlk => ?_, fun v hv => ih.pre v (E.pre v hv), by rw [List.foldl_cons, ih.len, E.len]⟩
    · have e1 := E.old v h0 h1
      rw [List.foldl_cons, ih.keep v h0 (by omega), e1]
    · by_cases h3 : rd (vst w h b a d x p).1 v < 0
      · exact ih.new v hv h3 h2
      · have h4 : 0 ≤ rd (vst w h b a d x p).1 v := by omega
        have e2 := ih.keep v hv.1 h4
        have : link w h b (4 * a + p) ∧ next w h a p = v ∧ rd (vst w h b a d x p).1 v = d ∧ v ∈ (vst w h b a d x p).2 := by
          unfold vst at h4 ⊢
          split at h4
          · rename_i hc
            rw [if_pos hc]
            obtain ⟨_, hn, _⟩ := link_next hp hc.1
            have hln := hlen _ hn
            simp only at h4 ⊢
            rw [rd_set hn.1 hln hv.1] at h4 ⊢
            by_cases hvn : v = next w h a p
            · rw [if_pos hvn]; exact ⟨hc.1, hvn.symm, rfl, by simp [hvn]⟩
            · rw [if_neg hvn] at h4; omega
          · omega
        rw [List.foldl_cons]
        exact ⟨by rw [e2]; exact this.2.2.1, ih.pre v this.2.2.2, p, hp, this.1, this.2.1⟩
    · rcases List.mem_cons.1 hq with rfl | hq
      · obtain ⟨_, hn, _⟩ := link_next hp hlk
        have hln := hlen _ hn
        have h4 : 0 ≤ rd (vst w h b a d x q).1 (next w h a q) := by
          unfold vst
          split
          · simp only; rw [rd_set hn.1 hln hn.1, if_pos rfl]; exact hd
          · rename_i hc
            by_cases h5 : rd x.1 (next w h a q) < 0
            · exact absurd ⟨hlk, h5⟩ hc
            · omega
        rw [List.foldl_cons, ih.keep _ hn.1 h4]; exact h4
      · exact ih.all q hq hlk
structure Inv2 (w h : Int) (b : List Int) (root : Int) (s rest nx : List Int) : Prop where
  cl : ∀ v, isN w h v → 0 ≤ rd s v → v ∉ rest → v ∉ nx → ∀ p : Nat, p < 4 → link w h b (4 * v + p) → 0 ≤ rd s (next w h v p)
  pre : ∀ v, isN w h v → 0 < rd s v → ∃ u, isN w h u ∧ rd s u = rd s v - 1 ∧ ∃ q : Nat, q < 4 ∧ link w h b (4 * u + q) ∧ next w h u q = v
  zero : rd s root = 0 ∧ ∀ v, isN w h v → rd s v = 0 → v = root
theorem Run.inv2 {w h root : Int} {b s rest nx r : List Int} {d : Int} (hr : isN w h root) (R : Run w h b s rest nx d r) : Inv w h s rest nx d → Inv2 w h b root s rest nx → Inv2 w h b root r [] [] := by
  induction R with
  | done s d => exact fun _ j => j
  | level _ ih => exact fun i j => ih i.level ⟨fun v hv h0 h1 h2 => j.cl v hv h0 (by simp) h1, j.pre, j.zero⟩
  | @node s a rest nx d r _ ih =>
    intro i j
    have h1 := i.one
    obtain ⟨ha, hda⟩ := i.fr a (by simp)
    have O : VOut w h b a d (List.range 4) (s, nx) (vis w h b a d (s, nx)) := vst_out (by omega) _ _ (by simp) (fun v hv => by have := i.len; have := hv.2; simp only; omega)
    refine ih i.node ⟨fun v hv h0 hn1 hn2 p hp hlk => ?_, fun v hv h0 => ?_, ?_, fun v hv h0 => ?_⟩
    · have hnx := (link_next hp hlk).2.1
      by_cases h2 : 0 ≤ rd s v
      · by_cases hva : v = a
        · subst hva; exact O.all p (by simp; omega) hlk
        · have h3 := j.cl v hv h2 (by simp [hva, hn1]) (fun hh => hn2 (O.pre v hh)) p hp hlk
          rw [O.keep _ hnx.1 h3]; exact h3
      · exact absurd (O.new v hv (by simp only; omega) h0).2.1 hn2
    · by_cases h2 : 0 ≤ rd s v
      · have e := O.keep v hv.1 h2
        simp only at e
        rw [e] at h0 ⊢
        obtain ⟨u, hu, hu1, hq⟩ := j.pre v hv h0
        refine ⟨u, hu, ?_, hq⟩
        rw [O.keep u hu.1 (by simp only; omega)]; exact hu1
      · obtain ⟨e, _, hq⟩ := O.new v hv (by simp only; omega) (by omega)
        refine ⟨a, ha, ?_, hq⟩
        rw [O.keep a ha.1 (by simp only; omega), e]; exact hda
    · have := j.zero.1
      rw [O.keep root hr.1 (by simp only; omega)]; exact this
    · by_cases h2 : 0 ≤ rd s v
      · have e := O.keep v hv.1 h2
        simp only at e
        exact j.zero.2 v hv (by rw [← e]; exact h0)
      · obtain ⟨e, _⟩ := O.new v hv (by simp only; omega) (by omega)
        omega
theorem start_rd {w h root v : Int} (hr : isN w h root) (hv : isN w h v) : rd (start w h root) v = if v = root then 0 else -1 := by
  have hc := cnt_range w h
  have h1 := hr.2
  have h2 := hv.2
  unfold start
  rw [rd_set hr.1 (by simp; omega) hv.1]
  by_cases h3 : v = root
  · rw [if_pos h3, if_pos h3]
  · rw [if_neg h3, if_neg h3]
    have := rd_mem (s := List.replicate (cnt w h).toNat (-1 : Int)) hv.1 (by simp; omega)
    exact List.eq_of_mem_replicate this
theorem start_inv2 {w h root : Int} (b : List Int) (hr : isN w h root) : Inv2 w h b root (start w h root) [root] [] := by
  refine ⟨fun v hv h0 h1 => ?_, fun v hv h0 => ?_, by rw [start_rd hr hr, if_pos rfl], fun v hv h0 => ?_⟩
  · rw [start_rd hr hv] at h0
    split at h0
    · rename_i h2; simp [h2] at h1
    · omega
  · rw [start_rd hr hv] at h0; split at h0 <;> omega
  · rw [start_rd hr hv] at h0
    split at h0
    · assumption
    · omega
theorem depths_inv2 {w h root : Int} {b : List Int} (H : rootOk w h b root) : Inv2 w h b root (depths w h b root) [] [] :=
  (depths_run H).inv2 H.2 (start_inv H.2).1 (start_inv2 b H.2)
/-- In a connected mesh every node is reached from every root. -/
theorem conn_all {w h : Int} {b : List Int} (hc : conn w h b) {r : Int} (hr : isN w h r) : ∀ v, isN w h v → 0 ≤ rd (depths w h b r) v := by
  have h0 := okG_isN hc.1.2
  have H0 : rootOk w h b 0 := ⟨hc.1, h0⟩
  have Hr : rootOk w h b r := ⟨hc.1, hr⟩
  have i0 := depths_inv H0
  have j0 := depths_inv2 H0
  have j := depths_inv2 Hr
  have all0 : ∀ v, isN w h v → 0 ≤ rd (depths w h b 0) v := fun v hv => by
    have hm := rd_mem (s := depths w h b 0) hv.1 (by have := hv.2; omega)
    have := (i0.2 _ hm).1
    by_cases h1 : rd (depths w h b 0) v = -1
    · rw [h1] at hm; exact absurd hm hc.2
    · omega
  have down : ∀ (n : Nat) v, isN w h v → rd (depths w h b 0) v = n → 0 ≤ rd (depths w h b r) v → 0 ≤ rd (depths w h b r) 0 := by
    intro n
    induction n with
    | zero => intro v hv h1 h2
              have := j0.zero.2 v hv (by omega)
              rw [this] at h2; exact h2
    | succ n ih =>
      intro v hv h1 h2
      obtain ⟨u, hu, hu1, q, hq, hlk, hnx⟩ := j0.pre v hv (by omega)
      obtain ⟨q', hq', hlk', hnx'⟩ := link_symm hq hlk
      rw [hnx] at hlk' hnx'
      have h3 := j.cl v hv h2 (by simp) (by simp) q' hq' hlk'
      rw [hnx'] at h3
      exact ih u hu (by omega) h3
  have hr0 : 0 ≤ rd (depths w h b r) 0 := by
    have h1 := all0 r hr
    exact down _ r hr (Int.toNat_of_nonneg h1).symm (by have := j.zero.1; omega)
  have up : ∀ (n : Nat) v, isN w h v → rd (depths w h b 0) v = n → 0 ≤ rd (depths w h b r) v := by
    intro n
    induction n with
    | zero => intro v hv h1
              have := j0.zero.2 v hv (by omega)
              rw [this]; exact hr0
    | succ n ih =>
      intro v hv h1
      obtain ⟨u, hu, hu1, q, hq, hlk, hnx⟩ := j0.pre v hv (by omega)
      have h3 := j.cl u hu (ih u hu (by omega)) (by simp) (by simp) q hq hlk
      rw [hnx] at h3; exact h3
  exact fun v hv => up _ v hv (Int.toNat_of_nonneg (all0 v hv)).symm
/-- Who has a parent. -/
theorem par_some {w h root : Int} {b : List Int} (H : rootOk w h b root) {v : Int} (hv : isN w h v) (h0 : 0 < rd (depths w h b root) v) :
    ∃ p : Nat, p < 4 ∧ par w h b (depths w h b root) v = next w h v p ∧ link w h b (4 * v + p) ∧ rd (depths w h b root) (next w h v p) = rd (depths w h b root) v - 1 := by
  rcases par_cases w h b (depths w h b root) v with h1 | ⟨p, hp, h2, h3, _⟩
  · exfalso
    obtain ⟨u, hu, hu1, q, hq, hlk, hnx⟩ := (depths_inv2 H).pre v hv h0
    obtain ⟨q', hq', hlk', hnx'⟩ := link_symm hq hlk
    rw [hnx] at hlk' hnx'
    have ht : toRoot w h b (depths w h b root) v q' := ⟨hlk', by rw [hnx']; exact hu1⟩
    unfold par at h1
    rw [if_pos h0] at h1
    have nn : ∀ p : Nat, p < 4 → toRoot w h b (depths w h b root) v p → next w h v p ≠ -1 := fun p hp ht hh => by
      have := (link_next hp ht.1).2.1.1; omega
    by_cases t0 : toRoot w h b (depths w h b root) v 0
    · rw [if_pos t0] at h1; exact nn 0 (by omega) t0 h1
    rw [if_neg t0] at h1
    by_cases t1 : toRoot w h b (depths w h b root) v 1
    · rw [if_pos t1] at h1; exact nn 1 (by omega) t1 h1
    rw [if_neg t1] at h1
    by_cases t2 : toRoot w h b (depths w h b root) v 2
    · rw [if_pos t2] at h1; exact nn 2 (by omega) t2 h1
    rw [if_neg t2] at h1
    by_cases t3 : toRoot w h b (depths w h b root) v 3
    · rw [if_pos t3] at h1; exact nn 3 (by omega) t3 h1
    have : q' = 0 ∨ q' = 1 ∨ q' = 2 ∨ q' = 3 := by omega
    rcases this with rfl | rfl | rfl | rfl
    · exact t0 ht
    · exact t1 ht
    · exact t2 ht
    · exact t3 ht
  · exact ⟨p, hp, h2, h3.1, h3.2⟩
theorem parents_rd {w h root : Int} {b : List Int} {v : Int} (h0 : 0 ≤ v) (h1 : v < (depths w h b root).length) : rd (parents w h b root) v = par w h b (depths w h b root) v := by
  obtain ⟨i, rfl⟩ := Int.eq_ofNat_of_zero_le h0
  rw [rd_at (by rw [parents_length]; omega)]
  simp [parents, pars]
section
variable {w h r : Int} {b : List Int} (hc : conn w h b) (hr : isN w h r)
include hc hr
theorem tree_len : ((parents w h b r).length : Int) = cnt w h := by rw [parents_length]; exact (depths_inv ⟨hc.1, hr⟩).1
theorem tree_par {v : Int} (hv : isN w h v) : (v = r ∧ rd (parents w h b r) v = -1) ∨ ∃ p : Nat, p < 4 ∧ rd (parents w h b r) v = next w h v p ∧ link w h b (4 * v + p) ∧ isN w h (next w h v p) ∧ rd (depths w h b r) (next w h v p) = rd (depths w h b r) v - 1 := by
  have H : rootOk w h b r := ⟨hc.1, hr⟩
  have hl := (depths_inv H).1
  have hv2 := hv.2
  rw [parents_rd hv.1 (by omega)]
  have h0 := conn_all hc hr v hv
  by_cases h1 : rd (depths w h b r) v = 0
  · refine .inl ⟨(depths_inv2 H).zero.2 v hv h1, ?_⟩
    unfold par; rw [if_neg (by omega)]
  · obtain ⟨p, hp, h2, h3, h4⟩ := par_some H hv (by omega)
    exact .inr ⟨p, hp, h2, h3, (link_next hp h3).2.1, h4⟩
theorem anc_node {v : Int} (hv : isN w h v) : anc (parents w h b r) v = v :: (if rd (parents w h b r) v = -1 then [] else anc (parents w h b r) (rd (parents w h b r) v)) := by
  have := tree_len hc hr
  exact anc_cons (parents_tree ⟨hc.1, hr⟩) hv.1 (by have := hv.2; omega)
theorem root_anc : ∀ (n : Nat) {v : Int}, isN w h v → rd (depths w h b r) v = n → r ∈ anc (parents w h b r) v := by
  intro n
  induction n with
  | zero =>
    intro v hv h0
    rw [anc_node hc hr hv]
    have := (depths_inv2 ⟨hc.1, hr⟩).zero.2 v hv (by omega)
    simp [this]
  | succ n ih =>
    intro v hv h0
    rw [anc_node hc hr hv]
    rcases tree_par hc hr hv with ⟨h1, _⟩ | ⟨p, hp, h2, h3, h4, h5⟩
    · simp [h1]
    · rw [h2, if_neg (by have := h4.1; omega)]
      exact List.mem_cons_of_mem _ (ih h4 (by omega))
theorem anc_get : ∀ (n : Nat) {v : Int}, isN w h v → rd (depths w h b r) v = n → ∀ (j : Nat) (hj : j + 1 < (anc (parents w h b r) v).length), isN w h (anc (parents w h b r) v)[j] ∧ isN w h (anc (parents w h b r) v)[j + 1] ∧
    ∃ p : Nat, p < 4 ∧ next w h (anc (parents w h b r) v)[j] p = (anc (parents w h b r) v)[j + 1] ∧ link w h b (4 * (anc (parents w h b r) v)[j] + p) := by
  intro n
  induction n with
  | zero =>
    intro v hv h0 j hj
    have hroot := (depths_inv2 ⟨hc.1, hr⟩).zero.2 v hv (by omega)
    have e := anc_node hc hr hv
    rcases tree_par hc hr hv with ⟨_, h1⟩ | ⟨p, hp, h2, h3, h4, h5⟩
    · rw [h1, if_pos rfl] at e; rw [e] at hj; simp at hj
    · have := conn_all hc hr _ h4; omega
  | succ n ih =>
    intro v hv h0 j hj
    have e := anc_node hc hr hv
    rcases tree_par hc hr hv with ⟨_, h1⟩ | ⟨p, hp, h2, h3, h4, h5⟩
    · rw [h1, if_pos rfl] at e; rw [e] at hj; simp at hj
    · rw [h2, if_neg (by have := h4.1; omega)] at e
      have e2 := anc_node hc hr h4
      cases j with
      | zero =>
        simp only [e]
        simp only [List.getElem_cons_zero, List.getElem_cons_succ]
        have e3 : (anc (parents w h b r) (next w h v p))[0]'(by rw [e2]; simp) = next w h v p := by simp only [e2, List.getElem_cons_zero]
        rw [e3]
        exact ⟨hv, h4, p, hp, rfl, h3⟩
      | succ j =>
        simp only [e] at hj ⊢
        simp only [List.getElem_cons_succ]
        exact ih h4 (by omega) j (by simpa using hj)
/-- The way through the tree between two nodes has a first step, to a neighbour. -/
theorem tn_first {a c : Int} (ha : isN w h a) (hcn : isN w h c) (hne : a ≠ c) : ∃ p : Nat, p < 4 ∧ 1 < (treeNodes (parents w h b r) a c).length ∧ (treeNodes (parents w h b r) a c)[1]? = some (next w h a p) ∧ 0 ≤ next w h a p := by
  have dn := fun {v : Int} (hv : isN w h v) => (Int.toNat_of_nonneg (conn_all hc hr v hv)).symm
  have ra := root_anc hc hr _ ha (dn ha)
  have rc := root_anc hc hr _ hcn (dn hcn)
  have hcom : 0 ≤ common (parents w h b r) a c := by
    unfold common
    cases hf : (anc (parents w h b r) a).find? (fun x => decide (x ∈ anc (parents w h b r) c)) with
    | none => rw [List.find?_eq_none] at hf; exact absurd (by simpa using rc) (hf r ra)
    | some u =>
      have := anc_in (List.mem_of_find?_eq_some hf)
      simpa using this.1
  obtain ⟨ma, mc⟩ := common_mem hcom
  have ga := anc_get hc hr _ ha (dn ha)
  have gc := anc_get hc hr _ hcn (dn hcn)
  have ea := anc_node hc hr ha
  have ec := anc_node hc hr hcn
  unfold treeNodes
  rw [if_neg (by omega)]
  have ia := List.idxOf_lt_length_iff.2 ma
  have ic := List.idxOf_lt_length_iff.2 mc
  have va : (anc (parents w h b r) a)[(anc (parents w h b r) a).idxOf (common (parents w h b r) a c)] = common (parents w h b r) a c := by
    have := List.findIdx_getElem (p := (· == common (parents w h b r) a c)) (xs := anc (parents w h b r) a) (w := ia)
    simpa using this
  have vc : (anc (parents w h b r) c)[(anc (parents w h b r) c).idxOf (common (parents w h b r) a c)] = common (parents w h b r) a c := by
    have := List.findIdx_getElem (p := (· == common (parents w h b r) a c)) (xs := anc (parents w h b r) c) (w := ic)
    simpa using this
  generalize (anc (parents w h b r) a).idxOf (common (parents w h b r) a c) = ka at *
  generalize (anc (parents w h b r) c).idxOf (common (parents w h b r) a c) = kc at *
  have a0 : (anc (parents w h b r) a)[0]'(by omega) = a := by simp only [ea, List.getElem_cons_zero]
  have c0 : (anc (parents w h b r) c)[0]'(by omega) = c := by simp only [ec, List.getElem_cons_zero]
  by_cases hk : ka = 0
  · subst hk
    rw [a0] at va
    have hkc : kc ≠ 0 := fun hh => by subst hh; rw [c0] at vc; exact hne (va.trans vc.symm)
    obtain ⟨j, rfl⟩ : ∃ j, kc = j + 1 := ⟨kc - 1, by omega⟩
    obtain ⟨n1, n2, p, hp, hnx, hlk⟩ := gc j ic
    rw [vc, ← va] at hnx
    obtain ⟨g1, g2, g3, _⟩ := geo hp n1 (by rw [hnx]; exact ha.1)
    rw [hnx] at g1
    obtain ⟨q, hq⟩ := Int.eq_ofNat_of_zero_le g2
    rw [hq] at g1 g3
    refine ⟨q, by omega, by simp; omega, ?_, by rw [g1]; exact n1.1⟩
    rw [g1]
    have e1 : ((anc (parents w h b r) a).take (0 + 1)) = [a] := by rw [ea]; rfl
    have e2 : (anc (parents w h b r) c).take (j + 1) = (anc (parents w h b r) c).take j ++ [(anc (parents w h b r) c)[j]] := List.take_succ_eq_append_getElem (by omega)
    rw [e1, List.getElem?_append_right (by simp)]
    rw [e2, List.reverse_append]; rfl
  · obtain ⟨n1, n2, p, hp, hnx, hlk⟩ := ga 0 (by omega)
    rw [a0] at hnx
    refine ⟨p, hp, by simp; omega, ?_, by rw [hnx]; exact n2.1⟩
    rw [List.getElem?_append_left (by simp; omega), List.getElem?_take, if_pos (by omega), List.getElem?_eq_getElem (by omega), hnx]
end
end Go.Proofs.YtcigpclbhfkgaaaGreat.V
/-! Tables of trees. -/
set_option linter.all false
namespace Go.Proofs.YtcigpclbhfkgaaaGreat.V
open Go Go.VM Go.Proofs
set_option maxRecDepth 10000
variable {frz : Nat} {H : Heap}
def firstPort (w h a u : Int) : Int := if next w h a 0 = u then 0 else if next w h a 1 = u then 1 else if next w h a 2 = u then 2 else if next w h a 3 = u then 3 else 4
theorem firstPort_at {w h a u : Int} {p : Nat} (hp : p < 4) (h1 : next w h a p = u) (h2 : ∀ q < p, next w h a (q : Nat) ≠ u) : firstPort w h a u = p := by
  unfold firstPort
  have : p = 0 ∨ p = 1 ∨ p = 2 ∨ p = 3 := by omega
  have g : ∀ q : Nat, q < p → ∀ z : Int, z = q → ¬ next w h a z = u := fun q hq z hz => by rw [hz]; exact h2 q hq
  rcases this with rfl | rfl | rfl | rfl
  · rw [if_pos (by exact_mod_cast h1)]; rfl
  · rw [if_neg (g 0 (by omega) 0 rfl), if_pos (by exact_mod_cast h1)]; rfl
  · rw [if_neg (g 0 (by omega) 0 rfl), if_neg (g 1 (by omega) 1 rfl), if_pos (by exact_mod_cast h1)]; rfl
  · rw [if_neg (g 0 (by omega) 0 rfl), if_neg (g 1 (by omega) 1 rfl), if_neg (g 2 (by omega) 2 rfl), if_pos (by exact_mod_cast h1)]; rfl
theorem firstPort_range (w h a u : Int) : 0 ≤ firstPort w h a u ∧ firstPort w h a u ≤ 4 := by
  unfold firstPort; repeat' split
  all_goals omega
theorem portTo_c (w h a u : Int) (p : Nat) (hp : p < 4) (h1 : next w h a p = u) :
   vcall C frz 168 [.agg #[.int .i64 w, .int .i64 h], .int .i64 a, .int .i64 u] H = some (.int .i64 (firstPort w h a u), H) := by
  rw [vcall_go (fn := Tryz.f168) Tryz.func168 rfl (by kernel_rfl) rfl]
  simp
  refine go_inv (fun n t H' => ∃ k : Nat, n = p - k ∧ k ≤ p ∧ t 1 = .int .i64 a ∧ t 2 = .int .i64 u ∧ t 3 = .pointer (some ⟨H.length, 0, some 0⟩) ∧ t 7 = .int .i64 k ∧ H' = H ++ [⟨[.int .i64 w, .int .i64 h], 0, 38⟩] ∧ ∀ q < k, next w h a (q : Nat) ≠ u) ?_ (n := p) ⟨0, by simp⟩
  rintro n t H' ⟨k, rfl, hk, k1, k2, k3, k7, rfl, hq⟩ ih
  simp [k1, k2, k3, k7, nextNode_c]
  refine br_dec _ ?_ ?_ <;> intro h5
  · simp [k1, k2, k3, k7]
    exact (firstPort_at (by omega) h5 hq).symm
  · have hkp : k ≠ p := fun hh => h5 (by rw [hh]; exact h1)
    simp [k1, k2, k3, k7, h5]
    refine ih (p - (k + 1)) _ _ ⟨k + 1, rfl, by omega, by simp [k1], by simp [k2], by simp [k3], ?_, rfl, fun q hq' => ?_⟩ (by omega)
    · simp; rw [w64 (by omega) (by omega)]
    · by_cases hqk : q < k
      · exact hq q hqk
      · have : q = k := by omega
        rw [this]; exact h5
theorem l33Port_c (w h a u : Int) :
   vcall C frz 196 [.agg #[.int .i64 w, .int .i64 h], .int .i64 a, .int .i64 u] H = some (.int .i64 (firstPort w h a u), H) := by
  rw [vcall_go (fn := Tryz.f196) Tryz.func196 rfl (by kernel_rfl) rfl]
  simp
  refine go_inv (fun n t H' => ∃ k : Nat, n = 4 - k ∧ k ≤ 4 ∧ t 1 = .int .i64 a ∧ t 2 = .int .i64 u ∧ t 3 = .pointer (some ⟨H.length, 0, some 0⟩) ∧ t 7 = .int .i64 k ∧ H' = H ++ [⟨[.int .i64 w, .int .i64 h], 0, 38⟩] ∧ ∀ q < k, next w h a (q : Nat) ≠ u) ?_ (n := 4) ⟨0, by simp⟩
  rintro n t H' ⟨k, rfl, hk, k1, k2, k3, k7, rfl, hq⟩ ih
  simp [k1, k2, k3, k7]
  refine br_dec _ ?_ ?_ <;> intro h4
  · simp [k1, k2, k3, k7, sNextNode_c]
    refine br_dec _ ?_ ?_ <;> intro h5
    · simp [k1, k2, k3, k7, h5]
      exact (firstPort_at (by omega) h5 hq).symm
    · simp [k1, k2, k3, k7, h5]
      refine ih (4 - (k + 1)) _ _ ⟨k + 1, rfl, by omega, by simp [k1], by simp [k2], by simp [k3], ?_, rfl, fun q hq' => ?_⟩ (by omega)
      · simp; rw [w64 (by omega) (by omega)]
      · by_cases hqk : q < k
        · exact hq q hqk
        · have : q = k := by omega
          rw [this]; exact h5
  · have : k = 4 := by omega
    subst this
    simp [k1, k2, k3, k7]
    unfold firstPort
    have q0 := hq 0 (by omega); have q1 := hq 1 (by omega); have q2 := hq 2 (by omega); have q3 := hq 3 (by omega)
    simp at q0 q1 q2 q3
    rw [if_neg q0, if_neg q1, if_neg q2, if_neg q3]
noncomputable def treePort (w h : Int) (P : List Int) (n i : Nat) : Int := if i / n = i % n then 4 else firstPort w h (i / n : Nat) ((treeNodes P (i / n : Nat) (i % n : Nat)).getD 1 0)
noncomputable def treeTab (w h : Int) (b : List Int) (r : Int) : List Int := (List.range ((cnt w h).toNat * (cnt w h).toNat)).map (treePort w h (parents w h b r) (cnt w h).toNat)
def treeOk (w h : Int) (b : List Int) (r : Int) : Prop := conn w h b ∧ isN w h r
noncomputable instance (w h : Int) (b : List Int) (r : Int) : Decidable (treeOk w h b r) := inferInstanceAs (Decidable (_ ∧ _))
noncomputable def treeTable (w h : Int) (b : List Int) (r : Int) : List Int := if treeOk w h b r then treeTab w h b r else []
theorem treeTab_len (w h : Int) (b : List Int) (r : Int) : (treeTab w h b r).length ≤ 256 := by
  have := cnt_range w h
  unfold treeTab
  rw [List.length_map, List.length_range]
  have : (cnt w h).toNat * (cnt w h).toNat ≤ 16 * 16 := Nat.mul_le_mul (by omega) (by omega)
  omega
theorem treeTable_len (w h : Int) (b : List Int) (r : Int) : (treeTable w h b r).length ≤ 256 := by
  unfold treeTable; split
  · exact treeTab_len w h b r
  · simp
theorem treeTable_w (w h : Int) (v : Value) (b : List Int) (root : Int) (hI : IsI H v b) (hl : b.length ≤ 1073741824) :
   wp (vcall C frz 109 [.agg #[.int .i64 w, .int .i64 h, v], .int .i64 root] H) (Made2 dTable H (treeTable w h b root) (decide (treeOk w h b root))) := by
  rw [vcall_go (fn := Tryz.f109) Tryz.func109 rfl (by kernel_rfl) rfl]
  have one := And.intro hI.one' hI.cells
  have hc := cnt_range w h
  have no : ∀ (L : Heap), ¬ treeOk w h b root → Made2 dTable H (treeTable w h b root) (decide (treeOk w h b root)) (.tuple #[.agg #[.slice none 0 0], .bool false]) (H ++ L) := fun L hh => by
    refine ⟨.agg #[.slice none 0 0], by simp [hh], .slice none 0 0, rfl, ⟨.inl ⟨rfl, by simp [treeTable, hh]⟩, ?_⟩, Chg.app _, by simp [dTable], by simp [dTable]⟩
    simp [treeTable, hh]
  by_cases hcn : conn w h b
  · by_cases hr : isN w h root
    · have hok : treeOk w h b root := ⟨hcn, hr⟩
      simp [one, isConnected_c _ _ _ _ (hI.app _) hl, hcn, isNode_c, hr]
      refine wp_thn (treeParents_w w h v b root (hI.app _) hl) ?_
      rintro vp H1 ⟨L, hH1, op, np⟩
      have hpl := tree_len hcn hr
      have tn := fun {a c : Int} (ha : isN w h a) (hc : isN w h c) (hne : a ≠ c) => tn_first hcn hr ha hc hne
      have ett : treeTable w h b root = (List.range ((cnt w h).toNat * (cnt w h).toNat)).map (treePort w h (parents w h b root) (cnt w h).toNat) := if_pos hok
      have hcc : (cnt w h).toNat ≤ 16 := by omega
      have hlt2 : (cnt w h).toNat * (cnt w h).toNat ≤ 256 := Nat.mul_le_mul hcc hcc
      rw [ett]
      generalize parents w h b root = P at *
      have c1 : Chg H H1 [] := by rw [hH1]; exact (Chg.app []).trans (Chg.app [])
      have b2 : H1[H.length]? = some ⟨[.int .i64 w, .int .i64 h, v], 0, 40⟩ := by rw [hH1]; simp
      have b4 : H1[H.length + 1]? = some ⟨[.slice none 0 0], 0, 41⟩ := by rw [hH1]; simp
      rw [← hH1] at op
      simp at np
      have lp := op.lt
      have l1 : H.length + 2 ≤ H1.length := by rw [hH1]; simp
      clear hH1 L
      have lp1 := op.lt
      generalize hB6 : H1.length = B6 at *
      have hPl : P.length = (cnt w h).toNat := by omega
      simp [VM.look, b2, one, hB6, (op.app (L := [⟨[.slice none 0 0], 0, 41⟩])).rd.len]
      refine wp_need (by omega) ?_
      refine wp_inv (fun n t H' => ∃ (i : Nat) (vo : Value) (o : List Int), n = (cnt w h).toNat - i ∧ i ≤ (cnt w h).toNat ∧ o = (List.range (i * (cnt w h).toNat)).map (treePort w h P (cnt w h).toNat) ∧
      t 2 = .pointer (some ⟨H.length, 0, some 0⟩) ∧ t 4 = .pointer (some ⟨H.length + 1, 0, some 0⟩) ∧ t 6 = .pointer (some ⟨B6, 0, some 0⟩) ∧ t 7 = vp ∧ t 27 = .int .i64 P.length ∧ t 28 = .int .i64 i ∧
      Chg H H' [] ∧ H'[H.length]? = some ⟨[.int .i64 w, .int .i64 h, v], 0, 40⟩ ∧ H'[H.length + 1]? = some ⟨[.slice none 0 0], 0, 41⟩ ∧ H'[B6]? = some ⟨[vo], 0, 41⟩ ∧
      Ow Fl.int 3 H' vp P ∧ Ow Fl.int 3 H' vo o ∧ (∀ i ∈ ids vo, B6 < i)) ?_ (n := (cnt w h).toNat)
        ⟨0, .slice none 0 0, [], by simp, by omega, by simp, by simp, by simp, by simp, by simp, by simp, by simp, c1.trans (Chg.app []), get_app' b2 _, get_app' b4 _, by rw [← hB6]; simp, op.app, .inl ⟨rfl, rfl⟩, by simp⟩
      clear b2 b4 op
      rintro n t H' ⟨i, vo, o, rfl, hi, ho, h2, h4, h6, h7, h27, h28, c0, b2, b4, b6, op, oo, no⟩ ih
      simp [h2, h4, h6, h7, h27, h28]
      refine wp_dec ?_ ?_ <;> intro hin
      · have hin' : i < (cnt w h).toNat := by omega
        simp [h2, h4, h6, h7, h27, h28, op.rd.len]
        refine wp_inv (fun n t H' => ∃ (j : Nat) (vo : Value) (o : List Int), n = (cnt w h).toNat - j ∧ j ≤ (cnt w h).toNat ∧ o = (List.range (i * (cnt w h).toNat + j)).map (treePort w h P (cnt w h).toNat) ∧
          t 2 = .pointer (some ⟨H.length, 0, some 0⟩) ∧ t 4 = .pointer (some ⟨H.length + 1, 0, some 0⟩) ∧ t 6 = .pointer (some ⟨B6, 0, some 0⟩) ∧ t 7 = vp ∧ t 27 = .int .i64 P.length ∧ t 28 = .int .i64 i ∧
          t 8 = .int .i64 i ∧ t 32 = .int .i64 P.length ∧ t 33 = .int .i64 j ∧
          Chg H H' [] ∧ H'[H.length]? = some ⟨[.int .i64 w, .int .i64 h, v], 0, 40⟩ ∧ H'[H.length + 1]? = some ⟨[.slice none 0 0], 0, 41⟩ ∧ H'[B6]? = some ⟨[vo], 0, 41⟩ ∧
      Ow Fl.int 3 H' vp P ∧ Ow Fl.int 3 H' vo o ∧ (∀ i ∈ ids vo, B6 < i)) ?_ (n := (cnt w h).toNat) ⟨0, vo, o, by simp, by omega, by simpa using ho, by simp [h2], by simp [h4], by simp [h6], by simp [h7], by simp [h27], by simp [h28], by simp, by simp, by simp, c0, b2, b4, b6, op, oo, no⟩
        clear h2 h4 h6 h7 h27 h28 c0 b2 b4 b6 op oo no ho
        rintro n t H' ⟨j, vo, o, rfl, hj, ho, h2, h4, h6, h7, h27, h28, h8, h32, h33, c0, b2, b4, b6, op, oo, no⟩ ih2
        simp [h2, h4, h6, h7, h27, h28, h8, h32, h33]
        refine wp_dec ?_ ?_ <;> intro hjn
        · have hjn' : j < (cnt w h).toNat := by omega
          have hol : o.length = i * (cnt w h).toNat + j := by rw [ho]; simp
          have hsm : i * (cnt w h).toNat + j < (cnt w h).toNat * (cnt w h).toNat := by
            have := Nat.mul_le_mul_right (cnt w h).toNat (show i + 1 ≤ (cnt w h).toNat by omega)
            rw [Nat.succ_mul] at this; omega
          have hdv : (i * (cnt w h).toNat + j) / (cnt w h).toNat = i := by rw [Nat.mul_comm, Nat.mul_add_div (by omega), Nat.div_eq_of_lt hjn']; omega
          have hmd : (i * (cnt w h).toNat + j) % (cnt w h).toNat = j := by rw [Nat.mul_comm, Nat.mul_add_mod, Nat.mod_eq_of_lt hjn']
          simp [h2, h4, h6, h7, h27, h28, h8, h32, h33]
          refine wp_dec ?_ ?_ <;> intro hij
          · have hx : treePort w h P (cnt w h).toNat (i * (cnt w h).toNat + j) = 4 := by unfold treePort; rw [hdv, hmd, if_pos (by omega)]
            simp [VM.look, b6, h2, h4, h6, h7, h27, h28, h8, h32, h33]
            obtain ⟨vo', H3, e3, oo3, c3, n3⟩ := oo.push (P := Tryz.prog) (frz := H.length) (ty := 24) (a := 4) (by simp) rfl (by omega) (fun i hi => by have := no i hi; omega)
            simp only [Fl.int_f] at e3
            have lc := box_lt b6
            have b2 := box_chg b2 c3 (fun hh => by have := no _ hh; omega)
            have b4 := box_chg b4 c3 (fun hh => by have := no _ hh; omega)
            have b6 := box_chg b6 c3 (fun hh => by have := no _ hh; omega)
            have op := op.chg c3 (fun i hi hh => by have := lp i hi; have := no _ hh; omega)
            have no3 : ∀ i ∈ ids vo', B6 < i := fun i hi => by rcases n3 i hi with h | h; exact no i h; omega
            have one3 := And.intro oo3.rd.one' oo3.rd.cells
            simp [e3, VM.look, b6, one3, h2, h4, h6, h7, h27, h28, h8, h32, h33]
            refine wp_need (by omega) ?_
            refine ih2 ((cnt w h).toNat - (j + 1)) _ _ ⟨j + 1, vo', o ++ [4], rfl, by omega, ?_, by simp [h2], by simp [h4], by simp [h6], by simp [h7], by simp [h27], by simp [h28], by simp [h8], by simp [h32], ?_,
              (c0.trans' c3 (fun i hi => .inr (by have := no i hi; omega))).trans' (chg_set _ _) (fun i hi => .inr (by simp at hi; omega)), box_chg b2 (chg_set _ _) (by simp; omega), box_chg b4 (chg_set _ _) (by simp; omega), set_get b6,
              op.chg (chg_set _ _) (fun i hi hh => by have := lp i hi; simp at hh; omega), oo3.chg (chg_set _ _) (fun i hi hh => by have := no3 i hi; simp at hh; omega), no3⟩ (by omega)
            · rw [← Nat.add_assoc, List.range_succ, List.map_append, ← ho]; simp [hx]
            · simp; rw [w64 (by omega) (by omega)]
          · rw [go_draw (h := by kernel_rfl)]
            simp [h2, h4, h6, h7, h27, h28, h8, h32, h33, VM.look, b2]
            obtain ⟨p, hp, htl, htg, hn0⟩ := tn (isN_nat hin') (isN_nat hjn') (by omega : (i : Int) ≠ (j : Int))
            refine wp_thn (treeNodes_w vp P i j op.rd.isI (by omega)) ?_
            rintro vt H2 ⟨L2, hH2, ot, nt⟩
            have c2 : Chg H' H2 [] := by rw [hH2]; exact Chg.app []
            rw [← hH2] at ot
            clear hH2 L2
            have b2 := box_chg b2 c2 (by simp)
            have b4 := box_chg b4 c2 (by simp)
            have b6 := box_chg b6 c2 (by simp)
            have op := op.chg c2 (by simp)
            have oo := oo.chg c2 (by simp)
            have c0 := c0.trans c2
            have q1 := ot.rd.isI.idx (P := Tryz.prog) (ty := 24) (e := 3) (by simp) (i := 1) (by omega) (by omega)
            have q2 := ot.rd.isI.load (P := Tryz.prog) (e := 3) (by simp) htl
            have etn : (treeNodes P (i : Int) (j : Int)).getD 1 0 = next w h i p := by rw [List.getD_eq_getElem?_getD, htg]; rfl
            have hpt := fun F L => portTo_c (frz := F) (H := L) w h i _ p hp etn.symm
            have hx : treePort w h P (cnt w h).toNat (i * (cnt w h).toNat + j) = firstPort w h i ((treeNodes P i j).getD 1 0) := by unfold treePort; rw [hdv, hmd, if_neg (by omega)]
            have q1' : vindexAddr Tryz.prog H2 24 vt (.int .i64 1) = some (elp vt 1) := q1
            generalize (treeNodes P (i : Int) (j : Int)).getD 1 0 = u at *
            generalize firstPort w h (i : Int) u = y at *
            simp [q1', q2, hpt, h2, h4, h6, h7, h27, h28, h8, h32, h33]
            simp [VM.look, b6, h2, h4, h6, h7, h27, h28, h8, h32, h33]
            obtain ⟨vo', H3, e3, oo3, c3, n3⟩ := oo.push (P := Tryz.prog) (frz := H.length) (ty := 24) (a := y) (by simp) rfl (by omega) (fun i hi => by have := no i hi; omega)
            simp only [Fl.int_f] at e3
            have lc := box_lt b6
            have b2 := box_chg b2 c3 (fun hh => by have := no _ hh; omega)
            have b4 := box_chg b4 c3 (fun hh => by have := no _ hh; omega)
            have b6 := box_chg b6 c3 (fun hh => by have := no _ hh; omega)
            have op := op.chg c3 (fun i hi hh => by have := lp i hi; have := no _ hh; omega)
            have no3 : ∀ i ∈ ids vo', B6 < i := fun i hi => by rcases n3 i hi with h | h; exact no i h; omega
            have one3 := And.intro oo3.rd.one' oo3.rd.cells
            simp [e3, VM.look, b6, one3, h2, h4, h6, h7, h27, h28, h8, h32, h33]
            refine wp_need (by omega) ?_
            refine ih2 ((cnt w h).toNat - (j + 1)) _ _ ⟨j + 1, vo', o ++ [y], rfl, by omega, ?_, by simp [h2], by simp [h4], by simp [h6], by simp [h7], by simp [h27], by simp [h28], by simp [h8], by simp [h32], ?_,
              (c0.trans' c3 (fun i hi => .inr (by have := no i hi; omega))).trans' (chg_set _ _) (fun i hi => .inr (by simp at hi; omega)), box_chg b2 (chg_set _ _) (by simp; omega), box_chg b4 (chg_set _ _) (by simp; omega), set_get b6,
              op.chg (chg_set _ _) (fun i hi hh => by have := lp i hi; simp at hh; omega), oo3.chg (chg_set _ _) (fun i hi hh => by have := no3 i hi; simp at hh; omega), no3⟩ (by omega)
            · rw [← Nat.add_assoc, List.range_succ, List.map_append, ← ho]; simp [hx]
            · simp; rw [w64 (by omega) (by omega)]
        · have hjn2 : j = (cnt w h).toNat := by omega
          have hjn' : ¬ j < P.length := by omega
          simp [h2, h4, h6, h7, h27, h28, h8, h32, h33]
          refine ih ((cnt w h).toNat - (i + 1)) _ _ ⟨i + 1, vo, o, rfl, by omega, by rw [ho, hjn2, Nat.succ_mul], by simp [h2], by simp [h4], by simp [h6], by simp [h7], by simp [h27], ?_, c0, b2, b4, b6, op, oo, no⟩ (by omega)
          simp; rw [w64 (by omega) (by omega)]
      · have hi2 : i = (cnt w h).toNat := by omega
        have l4 := box_lt b4
        rw [hi2] at ho
        rw [ho] at oo
        have l5 : ∀ i ∈ ids vo, i ∉ [H.length + 1] := fun i hi hh => by have := no i hi; simp at hh; omega
        have g4 := set_get (r' := ⟨[vo], 0, 41⟩) b4
        simp [h2, h4, h6, h7, h27, h28, VM.look, b4, b6, oo.rd.one', oo.rd.cells, g4]
        refine ⟨.agg #[vo], by simp [hok], vo, rfl, ⟨oo.chg (chg_set _ _) l5, by simp; omega⟩, c0.trans' (chg_set _ _) (fun i hi => .inr (by simp at hi; omega)), fun i hi => by have := no i hi; omega, ids_nodup vo⟩
    · simp [one, isConnected_c _ _ _ _ (hI.app _) hl, hcn, isNode_c, hr]
      exact no _ (fun hh => hr hh.2)
  · simp [one, isConnected_c _ _ _ _ (hI.app _) hl, hcn]
    exact no _ (fun hh => hcn hh.1)
end Go.Proofs.YtcigpclbhfkgaaaGreat.V
/-! Tables of trees, of the reference. -/
set_option linter.all false
namespace Go.Proofs.YtcigpclbhfkgaaaGreat.V
open Go Go.VM Go.Proofs
set_option maxRecDepth 10000
variable {frz : Nat} {H : Heap}
theorem tdiv_nat {i n : Nat} (hn : 0 < n) (hi : i < 1000) : IntKind.i64.wrap ((i : Int).tdiv n) = ((i / n : Nat) : Int) := by
  rw [Int.tdiv_eq_ediv_of_nonneg (by omega)]
  have : i / n ≤ i := Nat.div_le_self _ _
  rw [← Int.natCast_ediv]
  generalize i / n = q at *
  exact w64 (by omega) (by omega)
theorem tmod_nat {i n : Nat} : (i : Int).tmod n = ((i % n : Nat) : Int) := by
  rw [Int.tmod_eq_emod_of_nonneg (by omega)]; rfl
theorem l33Table_w (w h : Int) (v : Value) (b : List Int) (root : Int) (hI : IsI H v b) (hl : b.length ≤ 1073741824) (hok : treeOk w h b root) :
   wp (vcall C frz 158 [.agg #[.int .i64 w, .int .i64 h, v], .int .i64 root] H) (dTable.Made H (treeTable w h b root)) := by
  rw [vcall_go (fn := Tryz.f158) Tryz.func158 rfl (by kernel_rfl) rfl]
  have one := And.intro hI.one' hI.cells
  have hc := cnt_range w h
  obtain ⟨hcn, hr⟩ := hok
  have hok : treeOk w h b root := ⟨hcn, hr⟩
  simp [one]
  refine wp_thn (sTreeParents_w w h v b root (hI.app _) hl) ?_
  rintro vp H1 ⟨L, hH1, op, np⟩
  have hpl := tree_len hcn hr
  have tn := fun {a c : Int} (ha : isN w h a) (hc : isN w h c) (hne : a ≠ c) => tn_first hcn hr ha hc hne
  have ett : treeTable w h b root = (List.range ((cnt w h).toNat * (cnt w h).toNat)).map (treePort w h (parents w h b root) (cnt w h).toNat) := if_pos hok
  obtain ⟨N, hN⟩ : ∃ N : Nat, cnt w h = N := ⟨(cnt w h).toNat, by omega⟩
  have hNt : (cnt w h).toNat = N := by omega
  rw [hNt] at ett
  have nc := fun F L => (sNodeCount_c (frz := F) (H := L) w h).trans (by rw [hN])
  have isNN := fun {q : Nat} (hq : q < N) => isN_nat (w := w) (h := h) (a := q) (by omega)
  have hcc : N ≤ 16 := by omega
  have hlt2 : N * N ≤ 256 := Nat.mul_le_mul hcc hcc
  rw [ett]
  generalize parents w h b root = P at *
  have c1 : Chg H H1 [] := by rw [hH1]; exact (Chg.app []).trans (Chg.app [])
  have b2 : H1[H.length]? = some ⟨[.int .i64 w, .int .i64 h, v], 0, 40⟩ := by rw [hH1]; simp
  have b4 : H1[H.length + 1]? = some ⟨[.slice none 0 0], 0, 41⟩ := by rw [hH1]; simp
  have b5 : H1[H.length + 2]? = some ⟨[.slice none 0 0], 0, 41⟩ := by rw [hH1]; simp
  rw [← hH1] at op
  simp at np
  have lp1 := op.lt
  have l1 : H.length + 3 ≤ H1.length := by rw [hH1]; simp
  clear hH1 L
  generalize hB6 : H1.length = B6 at *
  have hPl : P.length = N := by omega
  have hn0 : 0 < N := by have := hr.1; have := hr.2; omega
  have esq : IntKind.i64.wrap ((N : Int) * N) = ((N * N : Nat) : Int) := by
    rw [← Int.natCast_mul, w64 (by omega) (by omega)]
  simp [VM.look, b2, one, nc]
  refine wp_inv (fun n t H' => ∃ (i : Nat) (vo : Value) (o : List Int), n = N * N - i ∧ i ≤ N * N ∧ o = (List.range i).map (treePort w h P N) ∧
      t 2 = .pointer (some ⟨H.length, 0, some 0⟩) ∧ t 4 = .pointer (some ⟨H.length + 1, 0, some 0⟩) ∧ t 5 = .pointer (some ⟨H.length + 2, 0, some 0⟩) ∧ t 6 = vp ∧ t 7 = .int .i64 N ∧ t 8 = .int .i64 i ∧
      Chg H H' [] ∧ B6 ≤ H'.length ∧ H'[H.length]? = some ⟨[.int .i64 w, .int .i64 h, v], 0, 40⟩ ∧ H'[H.length + 1]? = some ⟨[.slice none 0 0], 0, 41⟩ ∧ H'[H.length + 2]? = some ⟨[vo], 0, 41⟩ ∧
      Ow Fl.int 3 H' vp P ∧ Ow Fl.int 3 H' vo o ∧ (∀ i ∈ ids vo, B6 ≤ i)) ?_ (n := N * N)
    ⟨0, .slice none 0 0, [], by simp, by omega, by simp, by simp, by simp, by simp, by simp, by simp, by simp, c1, by omega, b2, b4, b5, op, .inl ⟨rfl, rfl⟩, by simp⟩
  clear b2 b4 b5 op
  rintro n t H' ⟨i, vo, o, rfl, hi, ho, h2, h4, h5, h6, h7, h8, c0, lB, b2, b4, b5, op, oo, no⟩ ih
  simp [h2, h4, h5, h6, h7, h8, esq]
  refine wp_dec ?_ ?_ <;> intro hin
  · have hin' : i < N * N := by
      have : (i : Int) < ((N * N : Nat) : Int) := by simpa using hin
      omega
    have hol : o.length = i := by rw [ho]; simp
    have hdv := tdiv_nat (i := i) hn0 (by omega)
    have hmd := tmod_nat (i := i) (n := N)
    have hd1 : i / N < N := Nat.div_lt_of_lt_mul hin'
    have hm1 : i % N < N := Nat.mod_lt _ hn0
    have hne0 : ¬ N = 0 := by omega
    have hdv2 : IntKind.i64.wrap ((i : Int) / (N : Int)) = ((i / N : Nat) : Int) := by
      rw [← Int.natCast_ediv]
      have : i / N ≤ i := Nat.div_le_self _ _
      generalize i / N = q at *
      exact w64 (by omega) (by omega)
    have hmd2 : (i : Int) % (N : Int) = ((i % N : Nat) : Int) := rfl
    generalize hqa : i / N = qa at *
    generalize hqc : i % N = qc at *
    simp [h2, h4, h5, h6, h7, h8]
    rw [go_draw (h := by kernel_rfl)]
    simp [h2, h4, h5, h6, h7, h8, hdv, hmd, hdv2, hmd2, hne0]
    refine wp_dec ?_ ?_ <;> intro hij
    · have hx : treePort w h P N i = 4 := by unfold treePort; rw [hqa, hqc, if_pos (by omega)]
      simp [VM.look, b5, h2, h4, h5, h6, h7, h8]
      obtain ⟨vo', H3, e3, oo3, c3, n3⟩ := oo.push (P := Tryz.prog) (frz := H.length) (ty := 24) (a := 4) (by simp) rfl (by omega) (fun i hi => by have := no i hi; omega)
      simp only [Fl.int_f] at e3
      have lc := c0.1
      have lc2 := box_lt b5
      have b2 := box_chg b2 c3 (fun hh => by have := no _ hh; omega)
      have b4 := box_chg b4 c3 (fun hh => by have := no _ hh; omega)
      have b5 := box_chg b5 c3 (fun hh => by have := no _ hh; omega)
      have op := op.chg c3 (fun i hi hh => by have := lp1 i hi; have := no _ hh; omega)
      have no3 : ∀ i ∈ ids vo', B6 ≤ i := fun i hi => by rcases n3 i hi with h | h; exact no i h; omega
      have one3 := And.intro oo3.rd.one' oo3.rd.cells
      simp [e3, VM.look, b5, one3, h2, h4, h5, h6, h7, h8]
      refine ih (N * N - (i + 1)) _ _ ⟨i + 1, vo', o ++ [4], rfl, by omega, ?_, by simp [h2], by simp [h4], by simp [h5], by simp [h6], by simp [h7], ?_,
        (c0.trans' c3 (fun i hi => .inr (by have := no i hi; omega))).trans' (chg_set _ _) (fun i hi => .inr (by simp at hi; omega)), by have := c3.1; simp; omega, box_chg b2 (chg_set _ _) (by simp), box_chg b4 (chg_set _ _) (by simp), set_get b5,
        op.chg (chg_set _ _) (fun i hi hh => by have := np i hi; simp at hh; omega), oo3.chg (chg_set _ _) (fun i hi hh => by have := no3 i hi; simp at hh; omega), no3⟩ (by omega)
      · rw [List.range_succ, List.map_append, ← ho]; simp [hx]
      · simp; rw [w64 (by omega) (by omega)]
    · have hij' : ¬ (qa = qc) := by omega
      rw [go_draw (h := by kernel_rfl)]
      obtain ⟨p, hp, htl, htg, hn0'⟩ := tn (isNN hd1) (isNN hm1) (by omega : (qa : Int) ≠ (qc : Int))
      simp [h2, h4, h5, h6, h7, h8, hdv, hmd, hdv2, hmd2, hne0, VM.look, b2]
      refine wp_thn (sTreeNodes_w vp P qa qc op.rd.isI (by omega)) ?_
      rintro vt H2 ⟨L2, hH2, ot, nt⟩
      have c2 : Chg H' H2 [] := by rw [hH2]; exact Chg.app []
      rw [← hH2] at ot
      clear hH2 L2
      have b2 := box_chg b2 c2 (by simp)
      have b4 := box_chg b4 c2 (by simp)
      have b5 := box_chg b5 c2 (by simp)
      have op := op.chg c2 (by simp)
      have oo := oo.chg c2 (by simp)
      have c0 := c0.trans c2
      have lB : B6 ≤ H2.length := by have := c2.1; omega
      have q1 : vindexAddr Tryz.prog H2 24 vt (.int .i64 1) = some (elp vt 1) := ot.rd.isI.idx (P := Tryz.prog) (ty := 24) (e := 3) (by simp) (i := 1) (by omega) (by omega)
      have q2 := ot.rd.isI.load (P := Tryz.prog) (e := 3) (by simp) htl
      have hx : treePort w h P N i = firstPort w h qa ((treeNodes P qa qc).getD 1 0) := by unfold treePort; rw [hqa, hqc, if_neg hij']
      have hpt := fun F L u => l33Port_c (frz := F) (H := L) w h qa u
      generalize (treeNodes P qa qc).getD 1 0 = u at *
      have hpt := fun F L => hpt F L u
      generalize firstPort w h qa u = y at *
      simp [q1, q2, hpt, h2, h4, h5, h6, h7, h8]
      simp [VM.look, b5, h2, h4, h5, h6, h7, h8]
      obtain ⟨vo', H3, e3, oo3, c3, n3⟩ := oo.push (P := Tryz.prog) (frz := H.length) (ty := 24) (a := y) (by simp) rfl (by omega) (fun i hi => by have := no i hi; omega)
      simp only [Fl.int_f] at e3
      have lc := c0.1
      have lc2 := box_lt b5
      have b2 := box_chg b2 c3 (fun hh => by have := no _ hh; omega)
      have b4 := box_chg b4 c3 (fun hh => by have := no _ hh; omega)
      have b5 := box_chg b5 c3 (fun hh => by have := no _ hh; omega)
      have op := op.chg c3 (fun i hi hh => by have := lp1 i hi; have := no _ hh; omega)
      have no3 : ∀ i ∈ ids vo', B6 ≤ i := fun i hi => by rcases n3 i hi with h | h; exact no i h; omega
      have one3 := And.intro oo3.rd.one' oo3.rd.cells
      simp [e3, VM.look, b5, one3, h2, h4, h5, h6, h7, h8]
      refine ih (N * N - (i + 1)) _ _ ⟨i + 1, vo', o ++ [y], rfl, by omega, ?_, by simp [h2], by simp [h4], by simp [h5], by simp [h6], by simp [h7], ?_,
        (c0.trans' c3 (fun i hi => .inr (by have := no i hi; omega))).trans' (chg_set _ _) (fun i hi => .inr (by simp at hi; omega)), by have := c3.1; simp; omega, box_chg b2 (chg_set _ _) (by simp), box_chg b4 (chg_set _ _) (by simp), set_get b5,
        op.chg (chg_set _ _) (fun i hi hh => by have := np i hi; simp at hh; omega), oo3.chg (chg_set _ _) (fun i hi hh => by have := no3 i hi; simp at hh; omega), no3⟩ (by omega)
      · rw [List.range_succ, List.map_append, ← ho]; simp [hx]
      · simp; rw [w64 (by omega) (by omega)]
  · have hi2 : i = N * N := by
      have : ¬ (i : Int) < ((N * N : Nat) : Int) := by simpa using hin
      omega
    have l4 := box_lt b4
    rw [hi2] at ho
    rw [ho] at oo
    have l5 : ∀ i ∈ ids vo, i ∉ [H.length + 1] := fun i hi hh => by have := no i hi; simp at hh; omega
    have g4 := set_get (r' := ⟨[vo], 0, 41⟩) b4
    simp [h2, h4, h5, h6, h7, h8, VM.look, b4, b5, oo.rd.one', oo.rd.cells, g4]
    exact ⟨vo, rfl, ⟨oo.chg (chg_set _ _) l5, by simp; omega⟩, c0.trans' (chg_set _ _) (fun i hi => .inr (by simp at hi; omega)), fun i hi => by have := no i hi; omega, ids_nodup vo⟩
end Go.Proofs.YtcigpclbhfkgaaaGreat.V
/-! RepairClasses. -/
set_option linter.all false
namespace Go.Proofs.YtcigpclbhfkgaaaGreat.V
open Go Go.VM Go.Proofs
set_option maxRecDepth 10000
variable {frz : Nat} {H : Heap}
theorem sTreeTable_w (w h : Int) (v : Value) (b : List Int) (root : Int) (hI : IsI H v b) (hl : b.length ≤ 1073741824) :
   wp (vcall C frz 100 [.agg #[.int .i64 w, .int .i64 h, v], .int .i64 root] H) (Made2 dTable H (treeTable w h b root) (decide (treeOk w h b root))) := by
  rw [vcall_go (fn := Tryz.f100) Tryz.func100 rfl (by kernel_rfl) rfl]
  have one := And.intro hI.one' hI.cells
  have hc := cnt_range w h
  have no : ∀ (L : Heap), ¬ treeOk w h b root → Made2 dTable H (treeTable w h b root) (decide (treeOk w h b root)) (.tuple #[.agg #[.slice none 0 0], .bool false]) (H ++ L) := fun L hh => by
    refine ⟨.agg #[.slice none 0 0], by simp [hh], .slice none 0 0, rfl, ⟨.inl ⟨rfl, by simp [treeTable, hh]⟩, ?_⟩, Chg.app _, by simp [dTable], by simp [dTable]⟩
    simp [treeTable, hh]
  by_cases hcn : conn w h b
  · by_cases hr : isN w h root
    · have hok : treeOk w h b root := ⟨hcn, hr⟩
      simp [one, sIsConnected_c _ _ _ _ (hI.app _) hl, hcn, l02Has_c, hr]
      refine wp_thn (l33Table_w w h v b root (hI.app _) hl hok) ?_
      rintro _ H1 ⟨vt, rfl, ot, c1, nt, dt⟩
      have b4 : H1[H.length + 1]? = some ⟨[.slice none 0 0], 0, 41⟩ := box_chg (by simp) c1 (by simp)
      have l4 := box_lt b4
      simp at nt
      have g4 := set_get (r' := ⟨[vt], 0, 41⟩) b4
      simp [dTable_val, dTable_one ot, VM.look, b4, g4]
      refine ⟨.agg #[vt], by simp [hok], vt, rfl, Dt.chg (T := dTable) ot (chg_set _ _) (fun i hi hh => by have := nt i hi; simp at hh; omega), ((Chg.app []).trans c1).trans' (chg_set _ _) (fun i hi => .inr (by simp at hi; omega)), fun i hi => by have := nt i hi; omega, dt⟩
    · simp [one, sIsConnected_c _ _ _ _ (hI.app _) hl, hcn, l02Has_c, hr]
      exact no _ (fun hh => hr hh.2)
  · simp [one, sIsConnected_c _ _ _ _ (hI.app _) hl, hcn]
    exact no _ (fun hh => hcn hh.1)
noncomputable def repair (w h : Int) (b : List Int) : ClassesD := (treeTable w h b (bestRoot w h b), treeTable w h b (bestRoot w h b))
noncomputable def repairOk (w h : Int) (b : List Int) : Bool := decide (treeOk w h b (bestRoot w h b))
theorem repair_w (w h : Int) (v : Value) (b : List Int) (hI : IsI H v b) (hl : b.length ≤ 1073741824) :
   wp (vcall C frz 53 [.agg #[.int .i64 w, .int .i64 h, v]] H) (Made2 dClasses H (repair w h b) (repairOk w h b)) := by
  rw [vcall_go (fn := Tryz.f53) Tryz.func53 rfl (by kernel_rfl) rfl]
  have one := And.intro hI.one' hI.cells
  simp [one]
  rw [go_draw (h := by kernel_rfl)]
  simp [one, bestRoot_c _ _ _ _ (hI.app _) hl]
  refine wp_thn (treeTable_w w h v b (bestRoot w h b) (hI.app _) hl) ?_
  rintro _ H1 ⟨_, rfl, vt, rfl, ot, c1, nt, dt⟩
  have b1 : H1[H.length + 1]? = some ⟨[.slice none 0 0, .slice none 0 0], 0, 43⟩ := box_chg (by simp) c1 (by simp)
  have l1 := box_lt b1
  simp at nt
  have cH : Chg H H1 [] := (Chg.app []).trans c1
  have hle := treeTable_len w h b (bestRoot w h b)
  have hne : ¬ treeOk w h b (bestRoot w h b) → treeTable w h b (bestRoot w h b) = [] := fun hh => if_neg hh
  unfold repair repairOk
  generalize treeTable w h b (bestRoot w h b) = tt at *
  have one1 := dTable_one ot
  simp [dTable_val, one1, VM.look, b1]
  by_cases hok : treeOk w h b (bestRoot w h b)
  · have l0 := cH.1
    simp [hok, l0]
    rw [go_draw (h := by kernel_rfl)]
    simp [one1, l0]
    refine wp_thn (copyTable_w vt tt (ot.1.rd.isI.app _) (by omega)) ?_
    rintro _ H2 ⟨vu, rfl, ou, c2, nu, du⟩
    have b2 : H2[H.length + 1]? = some ⟨[.slice none 0 0, .slice none 0 0], 0, 43⟩ := box_chg (get_app' b1 _) c2 (by simp)
    have ot2 := Dt.chg0 (T := dIntS) (Dt.app (T := dIntS) ot) c2
    have lt1 := dIntS.lt ot
    simp at nu
    have one2 := dTable_one ou
    have g4 := set_get (r' := ⟨[vt, vu], 0, 43⟩) b2
    simp [dTable_val, one1, one2, VM.look, b2, g4]
    have h1 : ∀ i ∈ VM.ids vt, i ∉ [H.length + 1] := fun i hi hh => by have := nt i hi; simp at hh; omega
    have h2 : ∀ i ∈ VM.ids vu, i ∉ [H.length + 1] := fun i hi hh => by have := nu i hi; simp at hh; omega
    refine ⟨.agg #[vt, vu], by simp [hok], (vt, vu), rfl, ⟨Dt.chg (T := dIntS) ot2 (chg_set _ _) h1, Dt.chg (T := dIntS) ou (chg_set _ _) h2⟩, ((cH.trans (Chg.app [])).trans c2).trans' (chg_set _ _) (fun i hi => .inr (by simp at hi; omega)), fun i hi => ?_, List.nodup_append.2 ⟨ids_nodup vt, ids_nodup vu, fun i hi j hj hh => ?_⟩⟩
    · rcases List.mem_append.1 hi with hi | hi
      · have := nt i hi; omega
      · have := nu i hi; omega
    · have := lt1 i hi; have := nu j hj; omega
  · obtain rfl := hne hok
    have l0 := cH.1
    have g4 := set_get (r' := ⟨[.slice none 0 0, .slice none 0 0], 0, 43⟩) (get_app' b1 [⟨[vt], 0, 41⟩])
    have b1' := get_app' b1 [⟨[vt], 0, 41⟩]
    simp [hok, l0, VM.look, b1, b1', g4]
    refine ⟨.agg #[.slice none 0 0, .slice none 0 0], by simp [hok], (.slice none 0 0, .slice none 0 0), rfl, ⟨⟨.inl ⟨rfl, rfl⟩, by simp⟩, .inl ⟨rfl, rfl⟩, by simp⟩, (cH.trans (Chg.app [])).trans' (chg_set _ _) (fun i hi => .inr (by simp at hi; omega)), by simp [dClasses], by simp [dClasses]⟩
theorem sRepair_w (w h : Int) (v : Value) (b : List Int) (hI : IsI H v b) (hl : b.length ≤ 1073741824) :
   wp (vcall C frz 46 [.agg #[.int .i64 w, .int .i64 h, v]] H) (Made2 dClasses H (repair w h b) (repairOk w h b)) := by
  rw [vcall_go (fn := Tryz.f46) Tryz.func46 rfl (by kernel_rfl) rfl]
  have one := And.intro hI.one' hI.cells
  simp [one]
  rw [go_draw (h := by kernel_rfl)]
  simp [one, sBestRoot_c _ _ _ _ (hI.app _) hl]
  refine wp_thn (sTreeTable_w w h v b (bestRoot w h b) (hI.app _) hl) ?_
  rintro _ H1 ⟨_, rfl, vt, rfl, ot, c1, nt, dt⟩
  have b1 : H1[H.length + 1]? = some ⟨[.slice none 0 0, .slice none 0 0], 0, 43⟩ := box_chg (by simp) c1 (by simp)
  have l1 := box_lt b1
  simp at nt
  have cH : Chg H H1 [] := (Chg.app []).trans c1
  have hle := treeTable_len w h b (bestRoot w h b)
  have hne : ¬ treeOk w h b (bestRoot w h b) → treeTable w h b (bestRoot w h b) = [] := fun hh => if_neg hh
  unfold repair repairOk
  generalize treeTable w h b (bestRoot w h b) = tt at *
  have one1 := dTable_one ot
  simp [dTable_val, one1, VM.look, b1]
  by_cases hok : treeOk w h b (bestRoot w h b)
  · have l0 := cH.1
    simp [hok, l0]
    rw [go_draw (h := by kernel_rfl)]
    simp [one1, l0]
    refine wp_thn (l12Copy_w vt tt (ot.1.rd.isI.app _) (by omega)) ?_
    rintro _ H2 ⟨vu, rfl, ou, c2, nu, du⟩
    have b2 : H2[H.length + 1]? = some ⟨[.slice none 0 0, .slice none 0 0], 0, 43⟩ := box_chg (get_app' b1 _) c2 (by simp)
    have ot2 := Dt.chg0 (T := dIntS) (Dt.app (T := dIntS) ot) c2
    have lt1 := dIntS.lt ot
    simp at nu
    have one2 := dTable_one ou
    have g4 := set_get (r' := ⟨[vt, vu], 0, 43⟩) b2
    simp [dTable_val, one1, one2, VM.look, b2, g4]
    have h1 : ∀ i ∈ VM.ids vt, i ∉ [H.length + 1] := fun i hi hh => by have := nt i hi; simp at hh; omega
    have h2 : ∀ i ∈ VM.ids vu, i ∉ [H.length + 1] := fun i hi hh => by have := nu i hi; simp at hh; omega
    refine ⟨.agg #[vt, vu], by simp [hok], (vt, vu), rfl, ⟨Dt.chg (T := dIntS) ot2 (chg_set _ _) h1, Dt.chg (T := dIntS) ou (chg_set _ _) h2⟩, ((cH.trans (Chg.app [])).trans c2).trans' (chg_set _ _) (fun i hi => .inr (by simp at hi; omega)), fun i hi => ?_, List.nodup_append.2 ⟨ids_nodup vt, ids_nodup vu, fun i hi j hj hh => ?_⟩⟩
    · rcases List.mem_append.1 hi with hi | hi
      · have := nt i hi; omega
      · have := nu i hi; omega
    · have := lt1 i hi; have := nu j hj; omega
  · obtain rfl := hne hok
    have l0 := cH.1
    have g4 := set_get (r' := ⟨[.slice none 0 0, .slice none 0 0], 0, 43⟩) (get_app' b1 [⟨[vt], 0, 41⟩])
    have b1' := get_app' b1 [⟨[vt], 0, 41⟩]
    simp [hok, l0, VM.look, b1, b1', g4]
    refine ⟨.agg #[.slice none 0 0, .slice none 0 0], by simp [hok], (.slice none 0 0, .slice none 0 0), rfl, ⟨⟨.inl ⟨rfl, rfl⟩, by simp⟩, .inl ⟨rfl, rfl⟩, by simp⟩, (cH.trans (Chg.app [])).trans' (chg_set _ _) (fun i hi => .inr (by simp at hi; omega)), by simp [dClasses], by simp [dClasses]⟩
end Go.Proofs.YtcigpclbhfkgaaaGreat.V
/-! Contracts on data. -/
set_option linter.all false
namespace Go.Proofs.YtcigpclbhfkgaaaGreat.V
open Go Go.VM Go.Proofs
variable {frz : Nat} {H : Heap} {v : Value} {w h : Int} {b : List Int} {root : Int}
theorem treeTable_d (o : dMesh.Ow H v (w, h, b)) : wp (vcall C frz 109 [dMesh.val v (w, h, b), .int .i64 root] H) (Made2 dTable H (treeTable w h b root) (decide (treeOk w h b root))) := treeTable_w w h v b root o.1.rd.isI o.2
theorem sTreeTable_d (o : dMesh.Ow H v (w, h, b)) : wp (vcall C frz 100 [dMesh.val v (w, h, b), .int .i64 root] H) (Made2 dTable H (treeTable w h b root) (decide (treeOk w h b root))) := sTreeTable_w w h v b root o.1.rd.isI o.2
theorem repair_d (o : dMesh.Ow H v (w, h, b)) : wp (vcall C frz 53 [dMesh.val v (w, h, b)] H) (Made2 dClasses H (repair w h b) (repairOk w h b)) := repair_w w h v b o.1.rd.isI o.2
theorem sRepair_d (o : dMesh.Ow H v (w, h, b)) : wp (vcall C frz 46 [dMesh.val v (w, h, b)] H) (Made2 dClasses H (repair w h b) (repairOk w h b)) := sRepair_w w h v b o.1.rd.isI o.2
end Go.Proofs.YtcigpclbhfkgaaaGreat.V
/-! Sorting: lists of numbers whose elements change places. -/
set_option linter.all false
namespace Go.Proofs.YtcigpclbhfkgaaaGreat.V
open Go Go.VM Go.Proofs
def G (xs : List Int) (i : Nat) : Int := xs.getD i 0
theorem G_get {xs : List Int} {i : Nat} (h : i < xs.length) : G xs i = xs[i] := by simp [G, List.getD_eq_getElem?_getD, h]
def swp (xs : List Int) (i j : Nat) : List Int := (xs.set i (G xs j)).set j (G xs i)
@[simp] theorem swp_len (xs : List Int) (i j : Nat) : (swp xs i j).length = xs.length := by simp [swp]
theorem G_swp {xs : List Int} {i j : Nat} (hi : i < xs.length) (hj : j < xs.length) (k : Nat) : G (swp xs i j) k = if k = j then G xs i else if k = i then G xs j else G xs k := by
  unfold swp
  by_cases hk : k < xs.length
  · rw [G_get (by simpa using hk), List.getElem_set, List.getElem_set]
    by_cases h1 : k = j
    · rw [if_pos h1.symm, if_pos h1]
    · rw [if_neg (Ne.symm h1), if_neg h1]
      by_cases h2 : k = i
      · rw [if_pos h2.symm, if_pos h2]
      · rw [if_neg (Ne.symm h2), if_neg h2, G_get hk]
  · rw [if_neg (by omega), if_neg (by omega)]
    simp [G, List.getD_eq_getElem?_getD, hk]
theorem swp_perm {xs : List Int} {i j : Nat} (hi : i < xs.length) (hj : j < xs.length) : (swp xs i j).Perm xs := by
  unfold swp
  rw [G_get hi, G_get hj]
  exact List.set_set_perm hi hj
/-- elements of [a, b) have changed places -/
inductive Sw (a b : Nat) (xs : List Int) : List Int → Prop
  | refl : Sw a b xs xs
  | step {ys : List Int} (i j : Nat) (h : Sw a b xs ys) (hi : a ≤ i ∧ i < b) (hj : a ≤ j ∧ j < b) : Sw a b xs (swp ys i j)
variable {a b c d : Nat} {xs ys zs : List Int}
theorem Sw.len (h : Sw a b xs ys) : ys.length = xs.length := by
  induction h with
  | refl => rfl
  | step i j _ _ _ ih => rw [swp_len, ih]
theorem Sw.trans (h : Sw a b xs ys) (h' : Sw a b ys zs) : Sw a b xs zs := by
  induction h' with
  | refl => exact h
  | step i j _ hi hj ih => exact .step i j ih hi hj
theorem Sw.mono (h : Sw a b xs ys) (ha : c ≤ a) (hb : b ≤ d) : Sw c d xs ys := by
  induction h with
  | refl => exact .refl
  | step i j _ hi hj ih => exact .step i j ih (by omega) (by omega)
theorem Sw.perm (h : Sw a b xs ys) (hb : b ≤ xs.length) : ys.Perm xs := by
  induction h with
  | refl => exact List.Perm.refl _
  | step i j g hi hj ih => exact (swp_perm (by rw [g.len]; omega) (by rw [g.len]; omega)).trans ih
theorem Sw.out (h : Sw a b xs ys) (hb : b ≤ xs.length) {k : Nat} (hk : k < a ∨ b ≤ k) : G ys k = G xs k := by
  induction h with
  | refl => rfl
  | step i j g hi hj ih => rw [G_swp (by rw [g.len]; omega) (by rw [g.len]; omega), if_neg (by omega), if_neg (by omega), ih]
theorem Sw.all (h : Sw a b xs ys) (hb : b ≤ xs.length) {p : Int → Prop} (hp : ∀ k, a ≤ k → k < b → p (G xs k)) : ∀ k, a ≤ k → k < b → p (G ys k) := by
  induction h with
  | refl => exact hp
  | step i j g hi hj ih =>
    intro k h1 h2
    rw [G_swp (by rw [g.len]; omega) (by rw [g.len]; omega)]
    split
    · exact ih i hi.1 hi.2
    · split
      · exact ih j hj.1 hj.2
      · exact ih k h1 h2
/-- a larger window that holds the changed one -/
theorem Sw.all' (h : Sw a b xs ys) (hb : b ≤ xs.length) {p : Int → Prop} (hc : c ≤ a) (hd : b ≤ d) (hp : ∀ k, c ≤ k → k < d → p (G xs k)) : ∀ k, c ≤ k → k < d → p (G ys k) := by
  intro k h1 h2
  by_cases hk : a ≤ k ∧ k < b
  · exact h.all hb (fun q g1 g2 => hp q (by omega) (by omega)) k hk.1 hk.2
  · rw [h.out hb (by omega)]; exact hp k h1 h2
/-- sorted in [a, b) -/
def Srt (ys : List Int) (a b : Nat) : Prop := ∀ p q, a ≤ p → p < q → q < b → G ys p ≤ G ys q
theorem Srt.short (h : b ≤ a + 1) : Srt ys a b := fun p q h1 h2 h3 => by omega
theorem Srt.frame (h : Srt ys a b) (he : ∀ k, a ≤ k → k < b → G zs k = G ys k) : Srt zs a b := fun p q h1 h2 h3 => by
  rw [he p h1 (by omega), he q (by omega) h3]; exact h p q h1 h2 h3
/-- sorted parts, the left one below the right one -/
theorem Srt.join (h1 : Srt ys a b) (h2 : Srt ys b c) (h : ∀ p q, a ≤ p → p < b → b ≤ q → q < c → G ys p ≤ G ys q) : Srt ys a c := fun p q h3 h4 h5 => by
  by_cases hq : q < b
  · exact h1 p q h3 h4 hq
  · by_cases hp : p < b
    · exact h p q h3 hp (by omega) h5
    · exact h2 p q (by omega) h4 h5
theorem Srt.pairwise (h : Srt ys 0 ys.length) : ys.Pairwise (· ≤ ·) := by
  rw [List.pairwise_iff_getElem]
  intro i j hi hj hij
  have := h i j (Nat.zero_le _) hij hj
  rwa [G_get hi, G_get hj] at this
/-- insertion: sorted up to i, but for the element at j -/
def Ins (ys : List Int) (a i j : Nat) : Prop := ∀ p q, a ≤ p → p < q → q ≤ i → q ≠ j → G ys p ≤ G ys q
theorem Ins.start (h : Srt ys a b) : Ins ys a b b := fun p q h1 h2 h3 h4 => h p q h1 h2 (by omega)
theorem Ins.step {i j : Nat} (h : Ins ys a i j) (hi : i < ys.length) (ha : a < j) (hj : j ≤ i) (hlt : G ys j < G ys (j - 1)) : Ins (swp ys j (j - 1)) a i (j - 1) := by
  intro p q h1 h2 h3 h4
  rw [G_swp (by omega) (by omega), G_swp (by omega) (by omega)]
  rw [if_neg h4]
  by_cases hp : p = j - 1
  · rw [if_pos hp]
    by_cases hq : q = j
    · rw [if_pos hq]; omega
    · rw [if_neg hq]; have := h (j - 1) q (by omega) (by omega) h3 hq; omega
  · rw [if_neg hp]
    by_cases hpj : p = j
    · rw [if_pos hpj]
      rw [if_neg (by omega)]
      exact h (j - 1) q (by omega) (by omega) h3 (by omega)
    · rw [if_neg hpj]
      by_cases hq : q = j
      · rw [if_pos hq]; exact h p (j - 1) h1 (by omega) (by omega) (by omega)
      · rw [if_neg hq]; exact h p q h1 h2 h3 hq
theorem Ins.done {i j : Nat} (h : Ins ys a i j) (hj : j = a ∨ (a < j ∧ G ys (j - 1) ≤ G ys j)) : Srt ys a (i + 1) := by
  intro p q h1 h2 h3
  by_cases hq : q = j
  · subst hq
    rcases hj with hj | ⟨hj, hle⟩
    · omega
    · by_cases hp : p = q - 1
      · rw [hp]; exact hle
      · have := h p (q - 1) h1 (by omega) (by omega) (by omega); omega
  · exact h p q h1 h2 (by omega) hq
/-- heaps: f is the first place, n the size; lo the least root -/
def Hp (ys : List Int) (f lo n : Nat) : Prop := ∀ r c, lo ≤ r → (c = 2 * r + 1 ∨ c = 2 * r + 2) → c < n → G ys (f + c) ≤ G ys (f + r)
/-- a heap but for the root r -/
def HpB (ys : List Int) (f lo n r : Nat) : Prop :=
  (∀ s c, lo ≤ s → s ≠ r → (c = 2 * s + 1 ∨ c = 2 * s + 2) → c < n → G ys (f + c) ≤ G ys (f + s)) ∧
  (∀ s c, lo ≤ s → (r = 2 * s + 1 ∨ r = 2 * s + 2) → (c = 2 * r + 1 ∨ c = 2 * r + 2) → c < n → G ys (f + c) ≤ G ys (f + s))
theorem HpB.start {f lo n : Nat} (h : Hp ys f (lo + 1) n) : HpB ys f lo n lo :=
  ⟨fun s c h1 h2 h3 h4 => h s c (by omega) h3 h4, fun s c h1 h2 => by omega⟩
theorem HpB.done {f lo n r : Nat} (h : HpB ys f lo n r) (hd : ∀ c, (c = 2 * r + 1 ∨ c = 2 * r + 2) → c < n → G ys (f + c) ≤ G ys (f + r)) : Hp ys f lo n := fun s c h1 h2 h3 => by
  by_cases hs : s = r
  · subst hs; exact hd c h2 h3
  · exact h.1 s c h1 hs h2 h3
theorem HpB.step {f lo n r c : Nat} (h : HpB ys f lo n r) (hl : f + n ≤ ys.length) (hlo : lo ≤ r) (hc : c = 2 * r + 1 ∨ c = 2 * r + 2) (hn : c < n) (hlt : G ys (f + r) < G ys (f + c))
    (hbig : ∀ q, (q = 2 * r + 1 ∨ q = 2 * r + 2) → q < n → G ys (f + q) ≤ G ys (f + c)) : HpB (swp ys (f + r) (f + c)) f lo n c := by
  have gc : G (swp ys (f + r) (f + c)) (f + c) = G ys (f + r) := by rw [G_swp (by omega) (by omega), if_pos rfl]
  have gr : G (swp ys (f + r) (f + c)) (f + r) = G ys (f + c) := by rw [G_swp (by omega) (by omega), if_neg (by omega), if_pos rfl]
  have go : ∀ k, k ≠ c → k ≠ r → G (swp ys (f + r) (f + c)) (f + k) = G ys (f + k) := fun k h1 h2 => by rw [G_swp (by omega) (by omega), if_neg (by omega), if_neg (by omega)]
  refine ⟨fun s q h1 h2 h3 h4 => ?_, fun s q h1 h2 h3 h4 => ?_⟩
  · by_cases hq : q = c
    · have hs : s = r := by omega
      subst hq hs
      rw [gc, gr]; omega
    · by_cases hs : s = r
      · subst hs
        rw [gr, go q hq (by omega)]
        exact hbig q h3 h4
      · by_cases hqr : q = r
        · subst hqr
          rw [gr, go s h2 hs]
          exact h.2 s c h1 h3 hc hn
        · rw [go q hq hqr, go s h2 hs]; exact h.1 s q h1 hs h3 h4
  · have hs : s = r := by omega
    subst hs
    rw [gr, go q (by omega) (by omega)]
    exact h.1 c q (by omega) (by omega) h3 h4
theorem Hp.top {f n : Nat} (h : Hp ys f 0 n) : ∀ c, c < n → G ys (f + c) ≤ G ys f := by
  intro c
  induction c using Nat.strongRecOn with
  | _ c ih =>
    intro hc
    by_cases h0 : c = 0
    · subst h0; exact Int.le_refl _
    · have h1 := h ((c - 1) / 2) c (by omega) (by omega) hc
      have h2 := ih ((c - 1) / 2) (by omega) (by omega)
      omega
theorem Hp.frame {f lo n : Nat} (h : Hp ys f lo n) (he : ∀ k, lo ≤ k → k < n → G zs (f + k) = G ys (f + k)) : Hp zs f lo n := fun r c h1 h2 h3 => by
  rw [he c (by omega) h3, he r h1 (by omega)]; exact h r c h1 h2 h3
end Go.Proofs.YtcigpclbhfkgaaaGreat.V
/-! Sorting: cmp.Less, insertion sort, heap sort. -/
set_option linter.all false
namespace Go.Proofs.YtcigpclbhfkgaaaGreat.V
open Go Go.VM Go.Proofs
set_option maxRecDepth 10000
variable {frz : Nat} {H : Heap} {v : Value} {xs : List Int} {e : TypeId}
theorem ow_ix (o : Ow Fl.int e H v xs) {i : Nat} (h1 : i < xs.length) : vindexAddr Tryz.prog H 24 v (.int .i64 i) = some (elp v i) := by
  have := o.rd.isI.idx (P := Tryz.prog) (ty := 24) (e := 3) (by simp) (i := (i : Int)) (by omega) (by omega)
  simpa using this
theorem ow_ld (o : Ow Fl.int e H v xs) {i : Nat} (h1 : i < xs.length) : vload Tryz.prog H 3 (elp v i) = some (.int .i64 (G xs i)) :=
  o.rd.isI.load (P := Tryz.prog) (e := 3) (by simp) h1
theorem ow_swap (o : Ow Fl.int e H v xs) {i j : Nat} (hi : i < xs.length) (hj : j < xs.length) (hf : ∀ i ∈ ids v, frz ≤ i) :
    ∃ H1 H2, vstore Tryz.prog frz H 3 (.int .i64 (G xs j)) (elp v i) = some H1 ∧ (∀ k : Nat, k < xs.length → vindexAddr Tryz.prog H1 24 v (.int .i64 k) = some (elp v k)) ∧
      vstore Tryz.prog frz H1 3 (.int .i64 (G xs i)) (elp v j) = some H2 ∧ Ow Fl.int e H2 v (swp xs i j) ∧ Chg H H2 (ids v) ∧ H2.length = H.length := by
  obtain ⟨H1, s1, o1, c1, l1⟩ := o.put1 (P := Tryz.prog) (frz := frz) rfl (et := 3) (ag := false) (by simp) hi (x := .int .i64 (G xs j)) (y := G xs j) rfl rfl rfl hf
  obtain ⟨H2, s2, o2, c2, l2⟩ := o1.put1 (P := Tryz.prog) (frz := frz) rfl (et := 3) (ag := false) (by simp) (j := j) (by simpa using hj) (x := .int .i64 (G xs i)) (y := G xs i) rfl rfl rfl hf
  exact ⟨H1, H2, s1, fun k hk => ow_ix o1 (by simpa using hk), s2, o2, c1.trans c2, by omega⟩
/-- what a sorting step leaves: elements of [a, b) have changed places, nothing else has changed -/
def Swd (H : Heap) (v : Value) (xs : List Int) (e : TypeId) (a b : Nat) (K : List Int → Prop) (H' : Heap) : Prop :=
  ∃ ys, Sw a b xs ys ∧ K ys ∧ Ow Fl.int e H' v ys ∧ Chg H H' (ids v) ∧ H'.length = H.length
theorem less_c (a b : Int) : vcall C frz 206 [.int .i64 a, .int .i64 b] H = some (.bool (decide (a < b)), H) := by
  have nan := fun (F : Nat) (H : Heap) (a : Int) => show vcall C F 245 [.int .i64 a] H = some (.bool false, H) by
    rw [vcall_go (fn := Tryz.f245) Tryz.func245 rfl (by kernel_rfl) rfl]
    simp
  rw [vcall_go (fn := Tryz.f206) Tryz.func206 rfl (by kernel_rfl) rfl]
  simp [nan]
theorem insSort_w (v : Value) (xs : List Int) (e : TypeId) (a b : Nat) (h : Ow Fl.int e H v xs) (hab : a ≤ b) (hb : b ≤ xs.length) (hl : xs.length ≤ 1073741824) (hf : ∀ i ∈ ids v, frz ≤ i) :
   wp (vcall C frz 200 [v, .int .i64 a, .int .i64 b] H) (fun _ H' => Swd H v xs e a b (fun ys => Srt ys a b) H') := by
  rw [vcall_go (fn := Tryz.f200) Tryz.func200 rfl (by kernel_rfl) rfl]
  simp
  refine wp_inv (fun n t H' => ∃ i : Nat, n = b - i ∧ t 0 = v ∧ t 1 = .int .i64 a ∧ t 2 = .int .i64 b ∧ t 6 = .int .i64 i ∧ a + 1 ≤ i ∧ i ≤ max (a + 1) b ∧ Swd H v xs e a b (fun ys => Srt ys a i) H') ?_ (n := b - (a + 1))
    ⟨a + 1, by simp, by simp, by simp, by simp, by simp; exact w64 (by omega) (by omega), by omega, by omega, xs, .refl, Srt.short (by omega), h, Chg.refl _, rfl⟩
  rintro n t H' ⟨i, rfl, h0, h1, h2, h6, ha, hi, ys, sw, sr, o, c, l⟩ ih
  simp [h0, h1, h2, h6]
  refine wp_dec ?_ ?_ <;> intro hib
  · simp [h0, h1, h2, h6]
    refine wp_inv (fun n t H' => ∃ j : Nat, n = j ∧ t 0 = v ∧ t 1 = .int .i64 a ∧ t 2 = .int .i64 b ∧ t 6 = .int .i64 i ∧ t 7 = .int .i64 j ∧ a ≤ j ∧ j ≤ i ∧ Swd H v xs e a b (fun ys => Ins ys a i j) H') ?_ (n := i)
      ⟨i, rfl, by simp [h0], by simp [h1], by simp [h2], by simp [h6], by simp, by omega, by omega, ys, sw, Ins.start sr, o, c, l⟩
    rintro j t H' ⟨_, rfl, h0, h1, h2, h6, h7, haj, hji, ys, sw, ins, o, c, l⟩ ih2
    have len := sw.len
    simp [h0, h1, h2, h6, h7]
    rw [go_draw (h := by kernel_rfl)]
    simp [h0, h1, h2, h6, h7]
    refine wpg_dec ?_ ?_ <;> intro hja
    · have e1 : IntKind.i64.wrap ((j : Int) - 1) = ((j - 1 : Nat) : Int) := by rw [w64 (by omega) (by omega)]; omega
      have p1 : j < ys.length := by omega
      have p2 : j - 1 < ys.length := by omega
      simp [h0, h1, h2, h6, h7, hja, e1, ow_ix o p1, ow_ix o p2, ow_ld o p1, ow_ld o p2, less_c]
      have out : ∀ t' : Env, t' 0 = v → t' 1 = .int .i64 a → t' 2 = .int .i64 b → t' 6 = .int .i64 (IntKind.i64.wrap ((i : Int) + 1)) → (j = a ∨ (a < j ∧ G ys (j - 1) ≤ G ys j)) →
          ∃ i' : Nat, b - (i + 1) = b - i' ∧ t' 0 = v ∧ t' 1 = .int .i64 a ∧ t' 2 = .int .i64 b ∧ t' 6 = .int .i64 i' ∧ a + 1 ≤ i' ∧ i' ≤ max (a + 1) b ∧ Swd H v xs e a b (fun ys => Srt ys a i') H' := by
        intro t' g0 g1 g2 g6 hj
        exact ⟨i + 1, rfl, g0, g1, g2, by rw [g6, w64 (by omega) (by omega)]; simp, by omega, by omega, ys, sw, ins.done hj, o, c, l⟩
      refine wp_dec ?_ ?_ <;> intro hlt
      · simp [h0, h1, h2, h6, h7]
        rw [go_draw (h := by kernel_rfl)]
        obtain ⟨H1, H2, s1, ix, s2, o2, c2, l2⟩ := ow_swap o p1 p2 hf
        simp [h0, h1, h2, h6, h7, e1, ow_ix o p1, ow_ix o p2, ow_ld o p1, ow_ld o p2, s1, ix _ p1, ix _ p2, s2]
        refine ih2 (j - 1) _ _ ⟨j - 1, rfl, by simp [h0], by simp [h1], by simp [h2], by simp [h6], by simp [e1], by omega, by omega, _, sw.step j (j - 1) (by omega) (by omega), ?_, o2, c.trans c2, by omega⟩ (by omega)
        exact ins.step (by omega) hja hji hlt
      · simp [h0, h1, h2, h6, h7]
        refine ih (b - (i + 1)) _ _ (out _ ?_ ?_ ?_ ?_ (.inr ⟨hja, by omega⟩)) (by omega) <;> simp [h0, h1, h2]
    · simp [h0, h1, h2, h6, h7, hja]
      refine ih (b - (i + 1)) _ _ ⟨i + 1, rfl, by simp [h0], by simp [h1], by simp [h2], ?_, by omega, by omega, ys, sw, ins.done (.inl (by omega)), o, c, l⟩ (by omega)
      simp; exact w64 (by omega) (by omega)
  · have : i = max (a + 1) b := by omega
    simp
    exact ⟨ys, sw, fun p q h1 h2 h3 => sr p q h1 h2 (by omega), o, c, l⟩
theorem siftDown_w (v : Value) (xs : List Int) (e : TypeId) (lo n f : Nat) (h : Ow Fl.int e H v xs) (hp : Hp xs f (lo + 1) n) (hlo : lo ≤ n) (hn : f + n ≤ xs.length) (hl : xs.length ≤ 1073741824) (hf : ∀ i ∈ ids v, frz ≤ i) :
   wp (vcall C frz 240 [v, .int .i64 lo, .int .i64 n, .int .i64 f] H) (fun _ H' => Swd H v xs e (f + lo) (f + n) (fun ys => Hp ys f lo n) H') := by
  rw [vcall_go (fn := Tryz.f240) Tryz.func240 rfl (by kernel_rfl) rfl]
  simp
  refine wp_inv (fun m t H' => ∃ r : Nat, m = n - r ∧ t 0 = v ∧ t 2 = .int .i64 n ∧ t 3 = .int .i64 f ∧ t 8 = .int .i64 r ∧ lo ≤ r ∧ r ≤ n ∧ Swd H v xs e (f + lo) (f + n) (fun ys => HpB ys f lo n r) H') ?_ (n := n - lo)
    ⟨lo, rfl, by simp, by simp, by simp, by simp, by omega, by omega, xs, .refl, HpB.start hp, h, Chg.refl _, rfl⟩
  rintro m t H' ⟨r, rfl, h0, h2, h3, h8, hlr, hrn, ys, sw, hb, o, c, l⟩ ih
  have len := sw.len
  obtain ⟨c1, hc1⟩ : ∃ c1, c1 = 2 * r + 1 := ⟨_, rfl⟩
  obtain ⟨c2, hc2⟩ : ∃ c2, c2 = 2 * r + 2 := ⟨_, rfl⟩
  obtain ⟨d0, hd0⟩ : ∃ d0, d0 = f + r := ⟨_, rfl⟩
  obtain ⟨d1, hd1⟩ : ∃ d1, d1 = f + c1 := ⟨_, rfl⟩
  obtain ⟨d2, hd2⟩ : ∃ d2, d2 = f + c2 := ⟨_, rfl⟩
  have e1 : IntKind.i64.wrap (IntKind.i64.wrap (2 * (r : Int)) + 1) = (c1 : Int) := by rw [w64 (x := 2 * (r : Int)) (by omega) (by omega), w64 (by omega) (by omega)]; omega
  simp [h0, h2, h3, h8, e1]
  refine wp_dec ?_ ?_ <;> intro hc
  · simp
    exact ⟨ys, sw, hb.done (fun q h1 h2 => by omega), o, c, l⟩
  · have e2 : IntKind.i64.wrap ((c1 : Int) + 1) = (c2 : Int) := by rw [w64 (by omega) (by omega)]; omega
    have e3 : IntKind.i64.wrap ((f : Int) + (c1 : Int)) = (d1 : Int) := by rw [w64 (by omega) (by omega)]; omega
    have e4 : IntKind.i64.wrap ((d1 : Int) + 1) = (d2 : Int) := by rw [w64 (by omega) (by omega)]; omega
    have e5 : IntKind.i64.wrap ((f : Int) + (r : Int)) = (d0 : Int) := by rw [w64 (by omega) (by omega)]; omega
    have p0 : d0 < ys.length := by omega
    have p1 : d1 < ys.length := by omega
    refine (fun (rest : ∀ (q : Nat) (t' : Env), (q = 2 * r + 1 ∨ q = 2 * r + 2) → q < n → (∀ p, (p = 2 * r + 1 ∨ p = 2 * r + 2) → p < n → G ys (f + p) ≤ G ys (f + q)) →
       t' 0 = v → t' 2 = .int .i64 n → t' 3 = .int .i64 f → t' 8 = .int .i64 r → t' 9 = .int .i64 q → wp (go ?F ?k .normal t' H') ?Q) => ?main) ?rest
    case main =>
      simp [h0, h2, h3, h8, hc, e2]
      rw [go_draw (h := by kernel_rfl)]
      simp [h0, h2, h3, h8, e2]
      refine wpg_dec ?_ ?_ <;> intro g1
      · have p2 : d2 < ys.length := by omega
        simp [h0, h2, h3, h8, e2, g1, e3, e4, ow_ix o p1, ow_ix o p2, ow_ld o p1, ow_ld o p2, less_c]
        refine wp_dec ?_ ?_ <;> intro g2 <;> simp [e2]
        · refine rest c2 _ (.inr hc2) g1 (fun p g3 g4 => ?_) ?_ ?_ ?_ ?_ ?_ <;> try simp [h0, h2, h3, h8]
          rw [← hd2]
          rcases g3 with g3 | g3
          · rw [g3, ← hc1, ← hd1]; omega
          · rw [g3, ← hc2, ← hd2]; omega
        · refine rest c1 _ (.inl hc1) (by omega) (fun p g3 g4 => ?_) ?_ ?_ ?_ ?_ ?_ <;> try simp [h0, h2, h3, h8]
          rw [← hd1]
          rcases g3 with g3 | g3
          · rw [g3, ← hc1, ← hd1]; omega
          · rw [g3, ← hc2, ← hd2]; omega
      · simp [h0, h2, h3, h8, e2, g1]
        refine rest c1 _ (.inl hc1) (by omega) (fun p g3 g4 => ?_) ?_ ?_ ?_ ?_ ?_ <;> try simp [h0, h2, h3, h8]
        have : p = c1 := by omega
        rw [this]; omega
    case rest =>
      intro q t hq hqn hbig h0 h2 h3 h8 h9
      obtain ⟨dq, hdq⟩ : ∃ dq, dq = f + q := ⟨_, rfl⟩
      have e6 : IntKind.i64.wrap ((f : Int) + (q : Int)) = (dq : Int) := by rw [w64 (by omega) (by omega)]; omega
      have pq : dq < ys.length := by omega
      rw [← hdq] at hbig
      rw [go_draw (h := by kernel_rfl)]
      simp [h0, h2, h3, h8, h9, e5, e6, ow_ix o p0, ow_ix o pq, ow_ld o p0, ow_ld o pq, less_c]
      refine wp_dec ?_ ?_ <;> intro g1
      · simp [h0, h2, h3, h8, h9]
        rw [go_draw (h := by kernel_rfl)]
        obtain ⟨H1, H2, s1, ix, s2, o2, c3, l2⟩ := ow_swap o p0 pq hf
        simp [h0, h2, h3, h8, h9, e5, e6, ow_ix o p0, ow_ix o pq, ow_ld o p0, ow_ld o pq, s1, ix _ p0, ix _ pq, s2]
        refine ih (n - q) _ _ ⟨q, rfl, by simp [h0], by simp [h2], by simp [h3], by simp, by omega, by omega, _, sw.step d0 dq (by omega) (by omega), ?_, o2, c.trans c3, by omega⟩ (by omega)
        subst hd0 hdq
        exact hb.step (by omega) hlr hq hqn g1 hbig
      · simp
        subst hd0 hdq
        exact ⟨ys, sw, hb.done (fun p g3 g4 => by have := hbig p g3 g4; omega), o, c, l⟩
theorem heapSort_w (v : Value) (xs : List Int) (e : TypeId) (a b : Nat) (h : Ow Fl.int e H v xs) (hab : a < b) (hb : b ≤ xs.length) (hl : xs.length ≤ 1073741824) (hf : ∀ i ∈ ids v, frz ≤ i) :
   wp (vcall C frz 201 [v, .int .i64 a, .int .i64 b] H) (fun _ H' => Swd H v xs e a b (fun ys => Srt ys a b) H') := by
  rw [vcall_go (fn := Tryz.f201) Tryz.func201 rfl (by kernel_rfl) rfl]
  obtain ⟨n, hn⟩ : ∃ n, n = b - a := ⟨_, rfl⟩
  have e1 : IntKind.i64.wrap ((b : Int) - a) = (n : Int) := by rw [w64 (by omega) (by omega)]; omega
  have e2 : IntKind.i64.wrap ((n : Int) - 1) = ((n - 1 : Nat) : Int) := by rw [w64 (by omega) (by omega)]; omega
  have e3 : IntKind.i64.wrap (((n - 1 : Nat) : Int) / 2) = (((n - 1) / 2 + 1 : Nat) : Int) - 1 := by rw [w64 (by omega) (by omega)]; omega
  have e4 : ((n : Int) - 1) = ((n - 1 : Nat) : Int) := by omega
  have hbn : a + n = b := by omega
  simp [e1, e2, e3]
  refine wp_inv (fun m t H' => ∃ k : Nat, m = k ∧ t 0 = v ∧ t 6 = .int .i64 a ∧ t 7 = .int .i64 0 ∧ t 8 = .int .i64 n ∧ t 9 = .int .i64 ((k : Int) - 1) ∧ k ≤ n ∧ Swd H v xs e a b (fun ys => Hp ys a k n) H') ?_ (n := (n - 1) / 2 + 1)
    ⟨(n - 1) / 2 + 1, rfl, by simp, by simp, by simp, by simp, by simp, by omega, xs, .refl, fun r c h1 h2 h3 => by omega, h, Chg.refl _, rfl⟩
  rintro k t H' ⟨_, rfl, h0, h6, h7, h8, h9, hkn, ys, sw, hp, o, c, l⟩ ih
  have len := sw.len
  simp [h0, h6, h7, h8, h9]
  refine wp_dec ?_ ?_ <;> intro hk
  · obtain ⟨k, rfl⟩ : ∃ k', k = k' + 1 := ⟨k - 1, by omega⟩
    have e5 : ((k + 1 : Nat) : Int) - 1 = (k : Int) := by omega
    rw [e5] at h9
    simp [h0, h6, h7, h8, h9]
    refine wp_thn (siftDown_w v ys e k n a o hp (by omega) (by omega) (by omega) hf) ?_
    rintro _ H1 ⟨zs, sw1, hp1, o1, c1, l1⟩
    simp [h0, h6, h7, h8, h9]
    refine ih k _ _ ⟨k, rfl, by simp [h0], by simp [h6], by simp [h7], by simp [h8], ?_, by omega, zs, sw.trans (sw1.mono (by omega) (by omega)), hp1, o1, c.trans c1, by omega⟩ (by omega)
    simp; rw [w64 (by omega) (by omega)]
  · obtain rfl : k = 0 := by omega
    simp [h0, h6, h7, h8, h9, e2]
    refine wp_inv (fun m t H' => ∃ k : Nat, m = k ∧ t 0 = v ∧ t 6 = .int .i64 a ∧ t 7 = .int .i64 0 ∧ t 10 = .int .i64 ((k : Int) - 1) ∧ k ≤ n ∧
        Swd H v xs e a b (fun ys => Hp ys a 0 k ∧ Srt ys (a + k) b ∧ ∀ p q, a ≤ p → p < a + k → a + k ≤ q → q < b → G ys p ≤ G ys q) H') ?_ (n := n)
      ⟨n, rfl, by simp [h0], by simp [h6], by simp [h7], by simp [e4], by omega, ys, sw, ⟨hp, Srt.short (by omega), fun p q h1 h2 h3 h4 => by omega⟩, o, c, l⟩
    clear ih h0 h6 h7 h8 h9 o c l hp sw len
    rintro k t H' ⟨_, rfl, h0, h6, h7, h10, hkn, ys, sw, ⟨hp, hs, hle⟩, o, c, l⟩ ih
    have len := sw.len
    simp [h0, h6, h7, h10]
    refine wp_dec ?_ ?_ <;> intro hk
    · obtain ⟨k, rfl⟩ : ∃ k', k = k' + 1 := ⟨k - 1, by omega⟩
      have e5 : ((k + 1 : Nat) : Int) - 1 = (k : Int) := by omega
      rw [e5] at h10
      obtain ⟨d, hd⟩ : ∃ d, d = a + k := ⟨_, rfl⟩
      have e6 : IntKind.i64.wrap ((a : Int) + (k : Int)) = (d : Int) := by rw [w64 (by omega) (by omega)]; omega
      have p0 : a < ys.length := by omega
      have p1 : d < ys.length := by omega
      obtain ⟨H1, H2, s1, ix, s2, o2, c2, l2⟩ := ow_swap o p0 p1 hf
      simp [h0, h6, h7, h10]
      rw [go_draw (h := by kernel_rfl)]
      simp [h0, h6, h7, h10, e6, ow_ix o p0, ow_ix o p1, ow_ld o p0, ow_ld o p1, s1, ix _ p0, ix _ p1, s2]
      have gs := fun q => G_swp (xs := ys) p0 p1 q
      refine wp_thn (siftDown_w v _ e 0 k a o2 (fun r q h1 h2 h3 => ?_) (by omega) (by simp; omega) (by simp; omega) hf) ?_
      · rw [gs, gs, if_neg (by omega), if_neg (by omega), if_neg (by omega), if_neg (by omega)]
        exact hp r q (by omega) h2 (by omega)
      · rintro _ H3 ⟨zs, sw1, hp1, o3, c3, l3⟩
        simp only [Nat.add_zero] at sw1
        have hlz : a + k ≤ (swp ys a d).length := by simp; omega
        have top := hp.top
        have hz : ∀ q, q < a ∨ a + k ≤ q → G zs q = G (swp ys a d) q := fun q hq => sw1.out hlz hq
        have zd : G zs d = G ys a := by rw [hz d (by omega), gs, if_pos rfl]
        have zo : ∀ q, d < q → q < b → G zs q = G ys q := fun q h1 h2 => by rw [hz q (by omega), gs, if_neg (by omega), if_neg (by omega)]
        have zlo : ∀ p, a ≤ p → p < a + k → G zs p ≤ G ys a ∧ ∀ q, d < q → q < b → G zs p ≤ G ys q := sw1.all (p := fun x => x ≤ G ys a ∧ ∀ q, d < q → q < b → x ≤ G ys q) hlz (fun p h1 h2 => by
          rw [gs, if_neg (by omega)]
          split
          · have := top k (by omega); rw [← hd] at this
            exact ⟨this, fun q g1 g2 => hle d q (by omega) (by omega) (by omega) g2⟩
          · have := top (p - a) (by omega); rw [show a + (p - a) = p by omega] at this
            exact ⟨this, fun q g1 g2 => hle p q (by omega) (by omega) (by omega) g2⟩)
        simp [h0, h6, h7, h10]
        refine ih k _ _ ⟨k, rfl, by simp [h0], by simp [h6], by simp [h7], ?_, by omega, zs, (sw.step a d (by omega) (by omega)).trans (sw1.mono (by omega) (by omega)), ⟨hp1, fun p q h1 h2 h3 => ?_, fun p q h1 h2 h3 h4 => ?_⟩, o3, c.trans (c2.trans c3), by omega⟩ (by omega)
        · simp; rw [w64 (by omega) (by omega)]
        · rw [zo q (by omega) h3]
          by_cases hpd : p = d
          · rw [hpd, zd]; exact hle a q (by omega) (by omega) (by omega) h3
          · rw [zo p (by omega) (by omega)]; exact hs p q (by omega) h2 h3
        · by_cases hq : q = d
          · rw [hq, zd]; exact (zlo p h1 h2).1
          · rw [zo q (by omega) h4]; exact (zlo p h1 h2).2 q (by omega) h4
    · obtain rfl : k = 0 := by omega
      simp
      exact ⟨ys, sw, hs, o, c, l⟩
end Go.Proofs.YtcigpclbhfkgaaaGreat.V
/-! Sorting: the choice of a pivot. -/
set_option linter.all false
namespace Go.Proofs.YtcigpclbhfkgaaaGreat.V
open Go Go.VM Go.Proofs
set_option maxRecDepth 10000
variable {frz : Nat} {H : Heap} {v : Value} {xs : List Int} {e : TypeId}
theorem revRange_w (v : Value) (xs : List Int) (e : TypeId) (a b : Nat) (h : Ow Fl.int e H v xs) (hab : a < b) (hb : b ≤ xs.length) (hl : xs.length ≤ 1073741824) (hf : ∀ i ∈ ids v, frz ≤ i) :
   wp (vcall C frz 204 [v, .int .i64 a, .int .i64 b] H) (fun _ H' => Swd H v xs e a b (fun ys => True) H') := by
  rw [vcall_go (fn := Tryz.f204) Tryz.func204 rfl (by kernel_rfl) rfl]
  have e1 : IntKind.i64.wrap ((b : Int) - 1) = ((b - 1 : Nat) : Int) := by rw [w64 (by omega) (by omega)]; omega
  simp [e1]
  refine wp_inv (fun m t H' => ∃ i j : Nat, m = j - i ∧ t 0 = v ∧ t 6 = .int .i64 i ∧ t 7 = .int .i64 j ∧ a ≤ i ∧ j < b ∧ i ≤ j + 1 ∧ Swd H v xs e a b (fun ys => True) H') ?_ (n := b - 1 - a)
    ⟨a, b - 1, rfl, by simp, by simp, by simp, by omega, by omega, by omega, xs, .refl, trivial, h, Chg.refl _, rfl⟩
  rintro m t H' ⟨i, j, rfl, h0, h6, h7, hi, hj, hij, ys, sw, _, o, c, l⟩ ih
  have len := sw.len
  simp [h0, h6, h7]
  refine wp_dec ?_ ?_ <;> intro hk
  · have p0 : i < ys.length := by omega
    have p1 : j < ys.length := by omega
    obtain ⟨H1, H2, s1, ix, s2, o2, c2, l2⟩ := ow_swap o p0 p1 hf
    simp [h0, h6, h7]
    rw [go_draw (h := by kernel_rfl)]
    simp [h0, h6, h7, ow_ix o p0, ow_ix o p1, ow_ld o p0, ow_ld o p1, s1, ix _ p0, ix _ p1, s2]
    refine ih (j - 1 - (i + 1)) _ _ ⟨i + 1, j - 1, rfl, by simp [h0], ?_, ?_, by omega, by omega, by omega, _, sw.step i j (by omega) (by omega), trivial, o2, c.trans c2, by omega⟩ (by omega)
    · simp; rw [w64 (by omega) (by omega)]
    · simp; rw [w64 (by omega) (by omega)]; omega
  · simp
    exact ⟨ys, sw, trivial, o, c, l⟩
def BoxI (H : Heap) (r : Nat) : Prop := ∃ s, H[r]? = some ⟨[.int .i64 s], 0, 3⟩
theorem order2_w (v : Value) (xs : List Int) (e : TypeId) (a b r : Nat) (h : Ow Fl.int e H v xs) (ha : a < xs.length) (hb : b < xs.length) (hr : BoxI H r) (hf : frz ≤ r) :
   wp (vcall C frz 256 [v, .int .i64 a, .int .i64 b, .pointer (some ⟨r, 0, some 0⟩)] H)
    (fun u H' => (∃ a' b' : Nat, u = .tuple #[.int .i64 a', .int .i64 b'] ∧ ((a' = a ∧ b' = b) ∨ (a' = b ∧ b' = a))) ∧ Chg H H' [r] ∧ BoxI H' r) := by
  obtain ⟨s, hs⟩ := hr
  rw [vcall_go (fn := Tryz.f256) Tryz.func256 rfl (by kernel_rfl) rfl]
  simp
  rw [go_draw (h := by kernel_rfl)]
  simp [ow_ix h ha, ow_ix h hb, ow_ld h ha, ow_ld h hb, less_c]
  refine wp_dec ?_ ?_ <;> intro g1
  · simp [vnil, VM.look, hs, hf]
    exact ⟨⟨b, a, ⟨rfl, rfl⟩, .inr ⟨rfl, rfl⟩⟩, chg_set _ _, _, set_get hs⟩
  · simp
    exact ⟨⟨a, b, ⟨rfl, rfl⟩, .inl ⟨rfl, rfl⟩⟩, Chg.refl _, _, hs⟩
theorem median_w (v : Value) (xs : List Int) (e : TypeId) (a b c r : Nat) (h : Ow Fl.int e H v xs) (ha : a < xs.length) (hb : b < xs.length) (hc : c < xs.length) (hr : BoxI H r) (hf : frz ≤ r) (hn : r ∉ ids v) :
   wp (vcall C frz 244 [v, .int .i64 a, .int .i64 b, .int .i64 c, .pointer (some ⟨r, 0, some 0⟩)] H)
    (fun u H' => (∃ m : Nat, u = .int .i64 m ∧ (m = a ∨ m = b ∨ m = c)) ∧ Chg H H' [r] ∧ BoxI H' r) := by
  rw [vcall_go (fn := Tryz.f244) Tryz.func244 rfl (by kernel_rfl) rfl]
  simp
  refine wp_thn (order2_w v xs e a b r h ha hb hr hf) ?_
  rintro _ H1 ⟨⟨a1, b1, rfl, h1⟩, c1, r1⟩
  have o1 := h.chg c1 (fun i hi hh => by simp at hh; subst hh; exact hn hi)
  simp
  refine wp_thn (order2_w v xs e b1 c r o1 (by omega) hc r1 hf) ?_
  rintro _ H2 ⟨⟨b2, c2, rfl, h2⟩, c2', r2⟩
  have o2 := o1.chg c2' (fun i hi hh => by simp at hh; subst hh; exact hn hi)
  simp
  refine wp_thn (order2_w v xs e a1 b2 r o2 (by omega) (by omega) r2 hf) ?_
  rintro _ H3 ⟨⟨a3, b3, rfl, h3⟩, c3, r3⟩
  simp
  exact ⟨⟨b3, rfl, by omega⟩, c1.trans (c2'.trans c3), r3⟩
theorem medianAdj_w (v : Value) (xs : List Int) (e : TypeId) (a r : Nat) (h : Ow Fl.int e H v xs) (h0 : 0 < a) (ha : a + 1 < xs.length) (hl : xs.length ≤ 1073741824) (hr : BoxI H r) (hf : frz ≤ r) (hn : r ∉ ids v) :
   wp (vcall C frz 243 [v, .int .i64 a, .pointer (some ⟨r, 0, some 0⟩)] H)
    (fun u H' => (∃ m : Nat, u = .int .i64 m ∧ (m + 1 = a ∨ m = a ∨ m = a + 1)) ∧ Chg H H' [r] ∧ BoxI H' r) := by
  rw [vcall_go (fn := Tryz.f243) Tryz.func243 rfl (by kernel_rfl) rfl]
  have e1 : IntKind.i64.wrap ((a : Int) - 1) = ((a - 1 : Nat) : Int) := by rw [w64 (by omega) (by omega)]; omega
  have e2 : IntKind.i64.wrap ((a : Int) + 1) = ((a + 1 : Nat) : Int) := by rw [w64 (by omega) (by omega)]; omega
  simp [e1]
  rw [e2]
  refine wp_thn (median_w v xs e (a - 1) a (a + 1) r h (by omega) (by omega) ha hr hf hn) ?_
  rintro _ H1 ⟨⟨m, rfl, hm⟩, c1, r1⟩
  simp
  exact ⟨⟨m, rfl, by omega⟩, c1, r1⟩
theorem choosePivot_w (v : Value) (xs : List Int) (e : TypeId) (a b : Nat) (h : Ow Fl.int e H v xs) (hab : a + 8 ≤ b) (hb : b ≤ xs.length) (hl : xs.length ≤ 1073741824) (hf : frz ≤ H.length) :
   wp (vcall C frz 203 [v, .int .i64 a, .int .i64 b] H)
    (fun u H' => (∃ (m : Nat) (k : Int), u = .tuple #[.int .i64 m, .int .i64 k] ∧ a ≤ m ∧ m < b) ∧ Chg H H' []) := by
  rw [vcall_go (fn := Tryz.f203) Tryz.func203 rfl (by kernel_rfl) rfl]
  obtain ⟨n, hn⟩ : ∃ n, n = b - a := ⟨_, rfl⟩
  have e1 : ∀ [Inhabited Unit], IntKind.i64.wrap ((b : Int) - a) = (n : Int) := by intro _; rw [w64 (by omega) (by omega)]; omega
  obtain ⟨q, hq⟩ : ∃ q, q = n / 4 := ⟨_, rfl⟩
  have e2 : ∀ [Inhabited Unit], IntKind.i64.wrap ((n : Int) / 4) = (q : Int) := by intro _; rw [w64 (by omega) (by omega)]; omega
  obtain ⟨q2, hq2⟩ : ∃ q2, q2 = q * 2 := ⟨_, rfl⟩
  obtain ⟨q3, hq3⟩ : ∃ q3, q3 = q * 3 := ⟨_, rfl⟩
  obtain ⟨i0, hi0⟩ : ∃ i0, i0 = a + q := ⟨_, rfl⟩
  obtain ⟨i1, hi1⟩ : ∃ i1, i1 = a + q2 := ⟨_, rfl⟩
  obtain ⟨i2, hi2⟩ : ∃ i2, i2 = a + q3 := ⟨_, rfl⟩
  have e3 : ∀ [Inhabited Unit], IntKind.i64.wrap (q : Int) = (q : Int) := by intro _; rw [w64 (by omega) (by omega)]
  have e4 : ∀ [Inhabited Unit], IntKind.i64.wrap ((q : Int) * 2) = (q2 : Int) := by intro _; rw [w64 (by omega) (by omega)]; omega
  have e5 : ∀ [Inhabited Unit], IntKind.i64.wrap ((q : Int) * 3) = (q3 : Int) := by intro _; rw [w64 (by omega) (by omega)]; omega
  have e6 : ∀ [Inhabited Unit], IntKind.i64.wrap ((a : Int) + q) = (i0 : Int) := by intro _; rw [w64 (by omega) (by omega)]; omega
  have e7 : ∀ [Inhabited Unit], IntKind.i64.wrap ((a : Int) + q2) = (i1 : Int) := by intro _; rw [w64 (by omega) (by omega)]; omega
  have e8 : ∀ [Inhabited Unit], IntKind.i64.wrap ((a : Int) + q3) = (i2 : Int) := by intro _; rw [w64 (by omega) (by omega)]; omega
  have g8 : (8 : Int) ≤ n := by omega
  have lt := h.lt
  have nin : H.length ∉ ids v := fun hh => by have := lt _ hh; omega
  simp [e1, e2, e3, e4, e5, e6, e7, e8, g8]
  have b0 : BoxI (H ++ [⟨[.int .i64 0], 0, 3⟩]) H.length := ⟨0, by simp⟩
  have o0 : Ow Fl.int e (H ++ [⟨[.int .i64 0], 0, 3⟩]) v xs := h.app
  refine wp_joinc (F := ?F) (k := ?k) (d := ?d) (Q := ?Q) (fun r t => ∃ (i0 i1 i2 : Nat) (H1 : Heap), r = vcall C frz 244 [v, .int .i64 i0, .int .i64 i1, .int .i64 i2, .pointer (some ⟨H.length, 0, some 0⟩)] H1 ∧
     (a ≤ i0 ∧ i0 < b) ∧ (a ≤ i1 ∧ i1 < b) ∧ (a ≤ i2 ∧ i2 < b) ∧ t 9 = .pointer (some ⟨H.length, 0, some 0⟩) ∧
     Chg (H ++ [⟨[.int .i64 0], 0, 3⟩]) H1 [H.length] ∧ BoxI H1 H.length) ?main ?rest
  case main =>
    intro rest
    refine wp_dec ?_ ?_ <;> intro g1
    · simp [e6, e7, e8]
      refine wp_thn (medianAdj_w v xs e i0 H.length o0 (by omega) (by omega) hl b0 hf nin) ?_
      rintro _ H1 ⟨⟨j0, rfl, hj0⟩, c1, r1⟩
      have o1 := o0.chg c1 (fun i hi hh => by simp at hh; subst hh; exact nin hi)
      simp [e6, e7, e8]
      refine wp_thn (medianAdj_w v xs e i1 H.length o1 (by omega) (by omega) hl r1 hf nin) ?_
      rintro _ H2 ⟨⟨j1, rfl, hj1⟩, c2, r2⟩
      have o2 := o1.chg c2 (fun i hi hh => by simp at hh; subst hh; exact nin hi)
      simp [e6, e7, e8]
      refine wp_thn (medianAdj_w v xs e i2 H.length o2 (by omega) (by omega) hl r2 hf nin) ?_
      rintro _ H3 ⟨⟨j2, rfl, hj2⟩, c3, r3⟩
      simp [e6, e7, e8]
      refine rest _ _ ?_
      exact ⟨j0, j1, j2, H3, rfl, by omega, by omega, by omega, by simp, c1.trans (c2.trans c3), r3⟩
    · simp [e6, e7, e8]
      refine rest _ _ ?_
      exact ⟨i0, i1, i2, _, rfl, by omega, by omega, by omega, by simp, Chg.refl _, b0⟩
  case rest =>
    rintro _ t ⟨i0, i1, i2, H1, rfl, h0, h1, h2, t9, c1, r1⟩
    have o1 := o0.chg c1 (fun i hi hh => by simp at hh; subst hh; exact nin hi)
    refine wp_thn (median_w v xs e i0 i1 i2 H.length o1 (by omega) (by omega) (by omega) r1 hf nin) ?_
    rintro _ H2 ⟨⟨m, rfl, hm⟩, c2, s, hs⟩
    have cc : Chg H H2 [] := (Chg.app (L := [⟨[.int .i64 0], 0, 3⟩]) []).trans' (c1.trans c2) (fun i hi => by simp at hi; subst hi; right; simp)
    simp [t9, VM.look, hs]
    refine wp_dec ?_ ?_ <;> intro g2 <;> simp
    · exact ⟨⟨m, rfl, by omega⟩, cc⟩
    · refine wp_dec ?_ ?_ <;> intro g3 <;> simp
      · exact ⟨⟨m, rfl, by omega⟩, cc⟩
      · exact ⟨⟨m, rfl, by omega⟩, cc⟩
end Go.Proofs.YtcigpclbhfkgaaaGreat.V
/-! Sorting: lengths of bits, patterns broken. -/
set_option linter.all false
namespace Go.Proofs.YtcigpclbhfkgaaaGreat.V
open Go Go.VM Go.Proofs
set_option maxRecDepth 10000
variable {frz : Nat} {H : Heap} {v : Value} {xs : List Int} {e : TypeId}
def blen (y : Nat) : Nat := if y = 0 then 0 else y.log2 + 1
def tabOk (T : ByteArray) : Bool := (List.range 256).all fun y => match T[y]? with | some b => b.toNat == blen y | none => false
theorem blen_spec {y : Nat} (h : y < 256) : y < 2 ^ blen y ∧ (2 ^ blen y ≤ 2 * y ∨ y = 0) ∧ blen y ≤ 8 := by
  have : ∀ y : Fin 256, y.val < 2 ^ blen y.val ∧ (2 ^ blen y.val ≤ 2 * y.val ∨ y.val = 0) ∧ blen y.val ≤ 8 := by decide +kernel
  exact this ⟨y, h⟩
theorem blen_up {x z s n : Nat} (hz : z = x / 2 ^ s) (h1 : z < 2 ^ n) (h2 : 2 ^ n ≤ 2 * z ∨ z = 0) (h0 : 0 < z) : x < 2 ^ (n + s) ∧ (2 ^ (n + s) ≤ 2 * x ∨ x = 0) := by
  have hp : 0 < 2 ^ s := Nat.pow_pos (by decide)
  rw [Nat.pow_add]
  subst hz
  refine ⟨(Nat.div_lt_iff_lt_mul hp).1 h1, .inl ?_⟩
  have h3 : x / 2 ^ s * 2 ^ s ≤ x := Nat.div_mul_le_self _ _
  have h4 : 2 ^ n * 2 ^ s ≤ 2 * (x / 2 ^ s) * 2 ^ s := Nat.mul_le_mul_right _ (by omega)
  rw [Nat.mul_assoc] at h4
  omega
theorem vindex_tab {T : ByteArray} {y : Nat} (hy : y < 256) (h : tabOk T = true) : vindex Tryz.prog 9 (.string T) (.int .u8 (IntKind.u8.wrap (y : Int))) = some (.int .u8 (blen y)) := by
  have e1 : IntKind.u8.wrap (y : Int) = (y : Int) := by show (y : Int) % 256 = y; omega
  have := List.all_eq_true.1 h y (by simpa using hy)
  have hn : (0 : Int) ≤ y := by omega
  rw [e1]
  simp only [vindex, und9, hn, if_true, Int.toNat_natCast]
  cases hT : T[y]? with
  | none => rw [hT] at this; simp at this
  | some b => rw [hT] at this; simp at this; simp [this]
theorem shr_nat (x j : Nat) (hj : j ≤ 64) : ishr .u64 (x : Int) (j : Int) = ((x / 2 ^ j : Nat) : Int) := ishr_nat .u64 x j hj
theorem len64_w (x : Nat) (hx : x < 2147483648) :
   wp (vcall C frz 210 [.int .u64 x] H) (fun r H' => H' = H ∧ ∃ n : Nat, r = .int .i64 n ∧ x < 2 ^ n ∧ (2 ^ n ≤ 2 * x ∨ x = 0) ∧ n ≤ 32) := by
  rw [vcall_go (fn := Tryz.f210) Tryz.func210 rfl (by kernel_rfl) rfl]
  have g1 : ¬ (4294967296 : Int) ≤ x := by omega
  have e8 : IntKind.i64.wrap 8 = 8 := rfl
  have e16 : IntKind.i64.wrap 16 = 16 := rfl
  have e24 : IntKind.i64.wrap 24 = 24 := rfl
  simp [g1]
  refine wp_dec ?_ ?_ <;> intro g2
  · obtain ⟨y, hy⟩ : ∃ y, y = x / 65536 := ⟨_, rfl⟩
    have s16 : ishr .u64 (x : Int) 16 = (y : Int) := by rw [hy]; exact shr_nat x 16 (by decide)
    simp [s16]
    refine wp_dec ?_ ?_ <;> intro g3
    · obtain ⟨z, hz⟩ : ∃ z, z = y / 256 := ⟨_, rfl⟩
      have s8 : ishr .u64 (y : Int) 8 = (z : Int) := by rw [hz]; exact shr_nat y 8 (by decide)
      simp [s8]
      rw [vindex_tab (y := z) (by omega) (by decide +kernel)]
      obtain ⟨q1, q2, q3⟩ := blen_spec (y := z) (by omega)
      have w8 : IntKind.i64.wrap (blen z : Int) = (blen z : Int) := w64 (by omega) (by omega)
      simp [w8, e8, e16, e24]
      refine ⟨blen z + 24, ?_, ?_⟩
      · rw [w64 (by omega) (by omega)]; omega
      · have := blen_up (x := x) (z := z) (s := 24) (by omega) q1 q2 (by omega); omega
    · simp
      rw [vindex_tab (y := y) (by omega) (by decide +kernel)]
      obtain ⟨q1, q2, q3⟩ := blen_spec (y := y) (by omega)
      have w8 : IntKind.i64.wrap (blen y : Int) = (blen y : Int) := w64 (by omega) (by omega)
      simp [w8, e8, e16, e24]
      refine ⟨blen y + 16, ?_, ?_⟩
      · rw [w64 (by omega) (by omega)]; omega
      · have := blen_up (x := x) (z := y) (s := 16) (by omega) q1 q2 (by omega); omega
  · simp
    refine wp_dec ?_ ?_ <;> intro g3
    · obtain ⟨z, hz⟩ : ∃ z, z = x / 256 := ⟨_, rfl⟩
      have s8 : ishr .u64 (x : Int) 8 = (z : Int) := by rw [hz]; exact shr_nat x 8 (by decide)
      simp [s8]
      rw [vindex_tab (y := z) (by omega) (by decide +kernel)]
      obtain ⟨q1, q2, q3⟩ := blen_spec (y := z) (by omega)
      have w8 : IntKind.i64.wrap (blen z : Int) = (blen z : Int) := w64 (by omega) (by omega)
      simp [w8, e8, e16, e24]
      refine ⟨blen z + 8, ?_, ?_⟩
      · rw [w64 (by omega) (by omega)]; omega
      · have := blen_up (x := x) (z := z) (s := 8) (by omega) q1 q2 (by omega); omega
    · simp
      rw [vindex_tab (y := x) (by omega) (by decide +kernel)]
      obtain ⟨q1, q2, q3⟩ := blen_spec (y := x) (by omega)
      have w8 : IntKind.i64.wrap (blen x : Int) = (blen x : Int) := w64 (by omega) (by omega)
      simp [w8, e8, e16, e24]
      exact ⟨blen x, rfl, q1, q2, by omega⟩
theorem len_w (x : Nat) (hx : x < 2147483648) :
   wp (vcall C frz 165 [.int .u64 x] H) (fun r H' => H' = H ∧ ∃ n : Nat, r = .int .i64 n ∧ x < 2 ^ n ∧ (2 ^ n ≤ 2 * x ∨ x = 0) ∧ n ≤ 32) := by
  rw [vcall_go (fn := Tryz.f165) Tryz.func165 rfl (by kernel_rfl) rfl]
  simp
  refine wp_thn (len64_w x hx) ?_
  rintro _ _ ⟨rfl, n, rfl, h⟩
  simp
  exact ⟨n, rfl, h⟩
theorem w64u {x : Int} (h0 : 0 ≤ x) (h1 : x < 18446744073709551616) : IntKind.u64.wrap x = x := by show x % 18446744073709551616 = x; omega
theorem pow2_w (x : Nat) (hx : x < 2147483648) :
   wp (vcall C frz 241 [.int .i64 x] H) (fun r H' => H' = H ∧ ∃ m : Nat, r = .int .u64 m ∧ x < m ∧ (m ≤ 2 * x ∨ x = 0) ∧ m ≤ 4294967296) := by
  rw [vcall_go (fn := Tryz.f241) Tryz.func241 rfl (by kernel_rfl) rfl]
  have e1 : IntKind.u64.wrap (x : Int) = (x : Int) := w64u (by omega) (by omega)
  simp [e1]
  refine wp_thn (len_w x hx) ?_
  rintro _ _ ⟨rfl, n, rfl, h1, h2, h3⟩
  have hm : 2 ^ n ≤ 2 ^ 32 := Nat.pow_le_pow_right (by decide) h3
  have e2 : ishl .u64 1 (n : Int) = ((2 ^ n : Nat) : Int) := by
    unfold ishl
    rw [Int.toNat_natCast, Nat.min_eq_left (show n ≤ IntKind.u64.bits by show n ≤ 64; omega), Int.one_mul, w64u (Int.le_of_lt (Int.pow_pos (by decide))) (by
      have : ((2 : Int) ^ n) = ((2 ^ n : Nat) : Int) := by simp
      rw [this]; omega)]
    simp
  have hn : (0 : Int) ≤ n := by omega
  simp [vneed, hn, e2]
  exact ⟨2 ^ n, by simp, h1, h2, by omega⟩
def BoxX (H : Heap) (r : Nat) : Prop := ∃ s, H[r]? = some ⟨[.int .u64 s], 0, 219⟩
theorem xnext_w (r : Nat) (hr : BoxX H r) (hf : frz ≤ r) :
   wp (vcall C frz 242 [.pointer (some ⟨r, 0, some 0⟩)] H) (fun u H' => (∃ z, u = .int .u64 z) ∧ Chg H H' [r] ∧ BoxX H' r) := by
  obtain ⟨s, hs⟩ := hr
  rw [vcall_go (fn := Tryz.f242) Tryz.func242 rfl (by kernel_rfl) rfl]
  simp
  rw [go_draw (h := by kernel_rfl)]
  simp [vnil, VM.look, hs, hf]
  have l := box_lt hs
  rw [go_draw (h := by kernel_rfl)]
  simp [vnil, VM.look, hs, hf, l]
  rw [go_draw (h := by kernel_rfl)]
  simp [vnil, VM.look, hs, hf, l]
  exact ⟨chg_set _ _, _, by simp [l]; rfl⟩
theorem iand_le (a : Int) (b : Nat) (hb : b < 18446744073709551616) : 0 ≤ iand .u64 a b ∧ iand .u64 a b ≤ b := by
  unfold iand
  have h1 : (BitVec.ofInt IntKind.u64.bits a &&& BitVec.ofInt IntKind.u64.bits (b : Int)).toNat ≤ b := by
    rw [BitVec.toNat_and]
    refine Nat.le_trans Nat.and_le_right ?_
    rw [BitVec.toNat_ofInt]
    have : IntKind.u64.bits = 64 := rfl
    rw [this]; omega
  rw [w64u (by omega) (by omega)]
  omega
theorem breakPat_w (v : Value) (xs : List Int) (e : TypeId) (a b : Nat) (h : Ow Fl.int e H v xs) (hab : a ≤ b) (hb : b ≤ xs.length) (hl : xs.length ≤ 1073741824) (hf : ∀ i ∈ ids v, frz ≤ i) (hF : frz ≤ H.length) :
   wp (vcall C frz 202 [v, .int .i64 a, .int .i64 b] H) (fun _ H' => ∃ ys, Sw a b xs ys ∧ Ow Fl.int e H' v ys ∧ Chg H H' (ids v)) := by
  rw [vcall_go (fn := Tryz.f202) Tryz.func202 rfl (by kernel_rfl) rfl]
  obtain ⟨n, hn⟩ : ∃ n, n = b - a := ⟨_, rfl⟩
  have e1 : ∀ [Inhabited Unit], IntKind.i64.wrap ((b : Int) - a) = (n : Int) := by intro _; rw [w64 (by omega) (by omega)]; omega
  simp [e1]
  refine wp_dec ?_ ?_ <;> intro g1
  · have lt := h.lt
    have nin : H.length ∉ ids v := fun hh => by have := lt _ hh; omega
    have e2 : ∀ [Inhabited Unit], IntKind.u64.wrap (n : Int) = (n : Int) := by intro _; exact w64u (by omega) (by omega)
    have e3 : ∀ [Inhabited Unit], IntKind.i64.wrap (n : Int) = (n : Int) := by intro _; exact w64 (by omega) (by omega)
    simp [e1, e2, VM.look, hF]
    refine wp_thn (pow2_w n (by omega)) ?_
    rintro _ _ ⟨rfl, m, rfl, m1, m2, m3⟩
    obtain ⟨q, hq⟩ : ∃ q, q = n / 4 := ⟨_, rfl⟩
    obtain ⟨q2, hq2⟩ : ∃ q2, q2 = q * 2 := ⟨_, rfl⟩
    obtain ⟨s, hs⟩ : ∃ s, s = a + q2 := ⟨_, rfl⟩
    have e4 : ∀ [Inhabited Unit], IntKind.i64.wrap ((n : Int) / 4) = (q : Int) := by intro _; rw [w64 (by omega) (by omega)]; omega
    have e5 : ∀ [Inhabited Unit], IntKind.i64.wrap ((q : Int) * 2) = (q2 : Int) := by intro _; rw [w64 (by omega) (by omega)]; omega
    have e6 : ∀ [Inhabited Unit], IntKind.i64.wrap ((a : Int) + q2) = (s : Int) := by intro _; rw [w64 (by omega) (by omega)]; omega
    have e7 : ∀ [Inhabited Unit], IntKind.i64.wrap ((s : Int) - 1) = ((s - 1 : Nat) : Int) := by intro _; rw [w64 (by omega) (by omega)]; omega
    have e8 : ∀ [Inhabited Unit], IntKind.i64.wrap ((s : Int) + 1) = ((s + 1 : Nat) : Int) := by intro _; rw [w64 (by omega) (by omega)]; omega
    have e9 : ∀ [Inhabited Unit], IntKind.u64.wrap ((m : Int) - 1) = ((m - 1 : Nat) : Int) := by intro _; rw [w64u (by omega) (by omega)]; omega
    simp [e1, e2, e3, e4, e5, e6, e7]
    refine wp_inv (fun c t H' => ∃ i : Nat, c = s + 2 - i ∧ s ≤ i + 1 ∧ i ≤ s + 2 ∧ t 0 = v ∧ t 1 = .int .i64 a ∧ t 6 = .int .i64 n ∧ t 7 = .pointer (some ⟨H.length, 0, some 0⟩) ∧ t 8 = .int .u64 m ∧ t 9 = .int .i64 i ∧
        BoxX H' H.length ∧ Chg (H ++ [⟨[.int .u64 n], 0, 219⟩]) H' (H.length :: ids v) ∧ ∃ ys, Sw a b xs ys ∧ Ow Fl.int e H' v ys) ?_ (n := s + 2 - (s - 1))
      ⟨s - 1, rfl, by omega, by omega, by simp, by simp, by simp, by simp, by simp, by simp, ⟨n, by simp⟩, Chg.refl _, xs, .refl, h.app⟩
    rintro c t H1 ⟨i, rfl, hi1, hi2, t0, t1, t6, t7, t8, t9, bx, ch, ys, sw, o⟩ ih
    have len := sw.len
    simp [t0, t1, t6, t7, t8, t9, e4, e5, e6, e8]
    refine wp_dec ?_ ?_ <;> intro g2
    · have p0 : i < ys.length := by omega
      simp [t0, t1, t6, t7, t8, t9]
      refine wp_thn (xnext_w H.length bx hF) ?_
      rintro _ H2 ⟨⟨z, rfl⟩, c2, bx2⟩
      have o2 := o.chg c2 (fun i hi hh => by simp at hh; subst hh; exact nin hi)
      obtain ⟨k, hk⟩ : ∃ k : Nat, iand .u64 z ((m - 1 : Nat) : Int) = k := ⟨_, (Int.toNat_of_nonneg (iand_le z (m - 1) (by omega)).1).symm⟩
      have hk2 := (iand_le z (m - 1) (by omega)).2
      rw [hk] at hk2
      have e10 : ∀ [Inhabited Unit], IntKind.i64.wrap (k : Int) = (k : Int) := by intro _; exact w64 (by omega) (by omega)
      have hk' : ∀ [Inhabited Unit], iand .u64 z ((m - 1 : Nat) : Int) = k := by intro _; exact hk
      clear hk
      simp [t0, t1, t6, t7, t8, t9, e9, hk', e10]
      refine wp_join (F := ?F) (k := ?k) (Q := ?Q) (fun t H' => ∃ d : Nat, d < n ∧ H' = H2 ∧ t 0 = v ∧ t 1 = .int .i64 a ∧ t 6 = .int .i64 n ∧ t 7 = .pointer (some ⟨H.length, 0, some 0⟩) ∧ t 8 = .int .u64 m ∧ t 9 = .int .i64 i ∧ t 10 = .int .i64 d) ?main ?rest
      case main =>
        intro rest
        refine wp_dec ?_ ?_ <;> intro g3
        · have e11 : ∀ [Inhabited Unit], IntKind.i64.wrap ((k : Int) - n) = ((k - n : Nat) : Int) := by intro _; rw [w64 (by omega) (by omega)]; omega
          simp [t0, t1, t6, t7, t8, t9, e9, hk', e10, e11]
          refine rest _ _ ?_
          exact ⟨k - n, by omega, rfl, by simp [t0], by simp [t1], by simp [t6], by simp [t7], by simp [t8], by simp [t9], by simp⟩
        · simp
          refine rest _ _ ?_
          exact ⟨k, by omega, rfl, by simp [t0], by simp [t1], by simp [t6], by simp [t7], by simp [t8], by simp [t9], by simp⟩
      case rest =>
        rintro t _ ⟨d, hd, rfl, t0, t1, t6, t7, t8, t9, t10⟩
        obtain ⟨j, hj⟩ : ∃ j, j = a + d := ⟨_, rfl⟩
        have e12 : ∀ [Inhabited Unit], IntKind.i64.wrap ((a : Int) + d) = (j : Int) := by intro _; rw [w64 (by omega) (by omega)]; omega
        have p1 : j < ys.length := by omega
        obtain ⟨H3, H4, s1, ix, s2, o4, c4, l4⟩ := ow_swap o2 p0 p1 hf
        rw [go_draw (h := by kernel_rfl)]
        simp [t0, t1, t6, t7, t8, t9, t10, e12, ow_ix o2 p0, ow_ix o2 p1, ow_ld o2 p0, ow_ld o2 p1, s1, ix _ p0, ix _ p1, s2]
        obtain ⟨sx, hsx⟩ := bx2
        have bx4 : BoxX H4 H.length := ⟨sx, box_chg hsx c4 nin⟩
        refine ih (s + 2 - (i + 1)) _ _ ⟨i + 1, rfl, by omega, by omega, by simp [t0], by simp [t1], by simp [t6], by simp [t7], by simp [t8], ?_, bx4, ?_, _, sw.step i j (by omega) (by omega), o4⟩ (by omega)
        · simp; rw [w64 (by omega) (by omega)]
        · exact ch.trans ((c2.mono (by simp)).trans (c4.mono (fun q hq => by simp [hq])))
    · simp
      exact ⟨ys, sw, o, (Chg.app (ids v)).trans' ch (fun q hq => by
        rcases List.mem_cons.1 hq with hq | hq
        · right; simp [hq]
        · exact .inl hq)⟩
  · simp
    exact ⟨xs, .refl, h, Chg.refl _⟩
end Go.Proofs.YtcigpclbhfkgaaaGreat.V
/-! Sorting: partitions. -/
set_option linter.all false
namespace Go.Proofs.YtcigpclbhfkgaaaGreat.V
open Go Go.VM Go.Proofs
set_option maxRecDepth 10000
variable {frz : Nat} {H : Heap} {v : Value} {xs : List Int} {e : TypeId}
/-- the pivot x lies at a; what is below i has P, what is above j has not -/
def Pt (ys : List Int) (a b : Nat) (x : Int) (P : Int → Prop) (i j : Nat) : Prop := G ys a = x ∧ (∀ k, a < k → k < i → P (G ys k)) ∧ ∀ k, j < k → k < b → ¬ P (G ys k)
section
variable {ys : List Int} {a b i j : Nat} {x : Int} {P : Int → Prop}
theorem Pt.incr (h : Pt ys a b x P i j) (ha : a < i) (hp : P (G ys i)) : Pt ys a b x P (i + 1) j := ⟨h.1, fun k h1 h2 => by
  by_cases hk : k = i
  · rw [hk]; exact hp
  · exact h.2.1 k h1 (by omega), h.2.2⟩
theorem Pt.decr (h : Pt ys a b x P i j) (hj : 0 < j) (hp : ¬ P (G ys j)) : Pt ys a b x P i (j - 1) := ⟨h.1, h.2.1, fun k h1 h2 => by
  by_cases hk : k = j
  · rw [hk]; exact hp
  · exact h.2.2 k (by omega) h2⟩
theorem Pt.swap (h : Pt ys a b x P i j) (ha : a < i) (hij : i < j) (hj : j < b) (hb : b ≤ ys.length) (hi : ¬ P (G ys i)) (hp : P (G ys j)) : Pt (swp ys i j) a b x P (i + 1) (j - 1) := by
  have g := fun k => G_swp (xs := ys) (i := i) (j := j) (by omega) (by omega) k
  refine ⟨?_, fun k h1 h2 => ?_, fun k h1 h2 => ?_⟩
  · rw [g, if_neg (by omega), if_neg (by omega)]; exact h.1
  · rw [g, if_neg (by omega)]
    split
    · exact hp
    · exact h.2.1 k h1 (by omega)
  · rw [g]
    split
    · exact hi
    · rw [if_neg (by omega)]; exact h.2.2 k (by omega) h2
/-- the pivot is laid between the two parts -/
theorem Pt.fin (h : Pt ys a b x P i j) (hij : i = j + 1) (ha : a < i) (hj : j < b) (hb : b ≤ ys.length) : G (swp ys j a) j = x ∧ (∀ k, a ≤ k → k < j → P (G (swp ys j a) k)) ∧ ∀ k, j < k → k < b → ¬ P (G (swp ys j a) k) := by
  have g := fun k => G_swp (xs := ys) (i := j) (j := a) (by omega) (by omega) k
  refine ⟨?_, fun k h1 h2 => ?_, fun k h1 h2 => ?_⟩
  · rw [g]
    split
    · rename_i e; rw [e]; exact h.1
    · rw [if_pos rfl]; exact h.1
  · rw [g]
    split
    · exact h.2.1 j (by omega) (by omega)
    · rw [if_neg (by omega)]; exact h.2.1 k (by omega) (by omega)
  · rw [g, if_neg (by omega), if_neg (by omega)]; exact h.2.2 k h1 h2
end
theorem partEq_w (v : Value) (xs : List Int) (e : TypeId) (a b p : Nat) (h : Ow Fl.int e H v xs) (hp : a ≤ p ∧ p < b) (hb : b ≤ xs.length) (hl : xs.length ≤ 1073741824) (hf : ∀ i ∈ ids v, frz ≤ i) :
   wp (vcall C frz 207 [v, .int .i64 a, .int .i64 b, .int .i64 p] H) (fun r H' => ∃ m : Nat, r = .int .i64 m ∧ a < m ∧ m ≤ b ∧
     Swd H v xs e a b (fun ys => (∀ k, a ≤ k → k < m → ¬ G xs p < G ys k) ∧ ∀ k, m ≤ k → k < b → G xs p < G ys k) H') := by
  rw [vcall_go (fn := Tryz.f207) Tryz.func207 rfl (by kernel_rfl) rfl]
  obtain ⟨x, hx⟩ : ∃ x, x = G xs p := ⟨_, rfl⟩
  obtain ⟨i0, hi0⟩ : ∃ i0, i0 = a + 1 := ⟨_, rfl⟩
  obtain ⟨j0, hj0⟩ : ∃ j0, j0 = b - 1 := ⟨_, rfl⟩
  have e2 : ∀ [Inhabited Unit], IntKind.i64.wrap ((a : Int) + 1) = (i0 : Int) := by intro _; rw [w64 (by omega) (by omega)]; omega
  have e3 : ∀ [Inhabited Unit], IntKind.i64.wrap ((b : Int) - 1) = (j0 : Int) := by intro _; rw [w64 (by omega) (by omega)]; omega
  have p0 : a < xs.length := by omega
  have p1 : p < xs.length := by omega
  simp
  rw [go_draw (h := by kernel_rfl)]
  obtain ⟨H1, H2, s1, ix, s2, o2, c2, l2⟩ := ow_swap h p0 p1 hf
  simp [ow_ix h p0, ow_ix h p1, ow_ld h p0, ow_ld h p1, s1, ix _ p0, ix _ p1, s2, e2, e3]
  have pt0 : Pt (swp xs a p) a b x (fun y => ¬ x < y) i0 j0 := by
    refine ⟨?_, fun k h1 h2 => by omega, fun k h1 h2 => by omega⟩
    rw [G_swp p0 p1, hx]
    split
    · rename_i e; rw [e]
    · rw [if_pos rfl]
  have sw0 : Sw a b xs (swp xs a p) := Sw.refl.step a p (by omega) (by omega)
  refine wp_inv (fun c t H' => ∃ i j : Nat, c = j + 1 - i ∧ t 0 = v ∧ t 1 = .int .i64 a ∧ t 9 = .int .i64 i ∧ t 10 = .int .i64 j ∧ a < i ∧ i ≤ j + 1 ∧ j < b ∧ Swd H v xs e a b (fun ys => Pt ys a b x (fun y => ¬ x < y) i j) H') ?_ (n := j0 + 1 - i0)
    ⟨i0, j0, rfl, by simp, by simp, by simp, by simp, by omega, by omega, by omega, _, sw0, pt0, o2, c2, l2⟩
  rw [← hx]
  clear pt0 sw0 o2 s1 s2 ix c2 l2 p0 p1
  rintro c t H' ⟨i, j, rfl, h0, h1, hi, hj, hai, hij, hjb, ys, sw, pt, o, c, l⟩ ih
  have len := sw.len
  have p0 : a < ys.length := by omega
  simp [h0, h1, hi, hj]
  obtain ⟨il, hil⟩ : ∃ il, il = i := ⟨_, rfl⟩
  have hai' : il ≤ i ∧ a < i := ⟨by omega, hai⟩
  refine wp_join (F := ?F1) (k := ?k1) (Q := ?Q1) (fun t H1 => ∃ i : Nat, t 0 = v ∧ t 1 = .int .i64 a ∧ t 9 = .int .i64 i ∧ t 10 = .int .i64 j ∧ (il ≤ i ∧ a < i) ∧ i ≤ j + 1 ∧ (i = j + 1 ∨ (i ≤ j ∧ ¬ (fun y => ¬ x < y) (G ys i))) ∧ H' = H1 ∧ Pt ys a b x (fun y => ¬ x < y) i j) ?main1 ?rest1
  case main1 =>
    intro rest
    refine wp_inv (fun c t H1 => ∃ i : Nat, c = j + 1 - i ∧ t 0 = v ∧ t 1 = .int .i64 a ∧ t 9 = .int .i64 i ∧ t 10 = .int .i64 j ∧ (il ≤ i ∧ a < i) ∧ i ≤ j + 1 ∧ H' = H1 ∧ Pt ys a b x (fun y => ¬ x < y) i j) ?_ (n := j + 1 - i)
      ⟨i, rfl, by simp [h0], by simp [h1], by simp [hi], by simp [hj], hai', hij, rfl, pt⟩
    rintro c t _ ⟨i, rfl, h0, h1, hi, hj, hai', hij, rfl, pt⟩ ih2
    have hai := hai'.2
    simp [h0, h1, hi, hj]
    rw [go_draw (h := by kernel_rfl)]
    simp [h0, h1, hi, hj]
    refine wpg_dec ?_ ?_ <;> intro g1
    · have p1 : i < ys.length := by omega
      simp [h0, h1, hi, hj, g1, ow_ix o p0, ow_ix o p1, ow_ld o p0, ow_ld o p1, less_c]
      refine wp_dec ?_ ?_ <;> intro g2
      · simp [h0, h1, hi, hj]
        refine rest _ _ ?_
        exact ⟨i, by simp [h0], by simp [h1], by simp [hi], by simp [hj], hai', by omega, .inr ⟨by omega, by have := pt.1; show ¬ (¬ x < G ys i); omega⟩, rfl, pt⟩
      · simp [h0, h1, hi, hj]
        refine ih2 (j + 1 - (i + 1)) _ _ ⟨i + 1, rfl, by simp [h0], by simp [h1], ?_, by simp [hj], by omega, by omega, rfl, pt.incr hai (by have := pt.1; show ¬ x < G ys i; omega)⟩ (by omega)
        simp; rw [w64 (by omega) (by omega)]
    · simp [h0, h1, hi, hj, g1]
      refine rest _ _ ?_
      exact ⟨i, by simp [h0], by simp [h1], by simp [hi], by simp [hj], hai', hij, .inl (by omega), rfl, pt⟩
  case rest1 =>
    rintro t _ ⟨i, h0, h1, hi, hj, hai', hij, hex, rfl, pt⟩
    have hai := hai'.2
    refine wp_inv (fun c t H1 => ∃ j' : Nat, c = j' + 1 - i ∧ t 0 = v ∧ t 1 = .int .i64 a ∧ t 9 = .int .i64 i ∧ t 10 = .int .i64 j' ∧ j' ≤ j ∧ i ≤ j' + 1 ∧ H' = H1 ∧ Pt ys a b x (fun y => ¬ x < y) i j') ?_ (n := j + 1 - i)
      ⟨j, rfl, by simp [h0], by simp [h1], by simp [hi], by simp [hj], Nat.le_refl _, hij, rfl, pt⟩
    have hex' : i < j + 1 → ¬ (fun y => ¬ x < y) (G ys i) := fun hh => by rcases hex with hex | hex; omega; exact hex.2
    have hjb0 := hjb
    rintro c t _ ⟨j', rfl, h0, h1, hi, hj, hjj', hij, rfl, pt⟩ ih2
    have hjb : j' < b := by omega
    simp [h0, h1, hi, hj]
    rw [go_draw (h := by kernel_rfl)]
    simp [h0, h1, hi, hj]
    refine wpg_dec ?_ ?_ <;> intro g1
    · have p1 : j' < ys.length := by omega
      simp [h0, h1, hi, hj, g1, ow_ix o p0, ow_ix o p1, ow_ld o p0, ow_ld o p1, less_c]
      refine wp_dec ?_ ?_ <;> intro g2
      · simp [h0, h1, hi, hj]
        refine ih2 (j' - 1 + 1 - i) _ _ ⟨j' - 1, rfl, by simp [h0], by simp [h1], by simp [hi], ?_, by omega, by omega, rfl, pt.decr (by omega) (by have := pt.1; show ¬ (¬ x < G ys j'); omega)⟩ (by omega)
        simp; rw [w64 (by omega) (by omega)]; omega
      · simp [h0, h1, hi, hj]
        have hnj : ¬ j' < i := by omega
        simp [hnj]
        have p2 : i < ys.length := by omega
        have hlo : (fun y => ¬ x < y) (G ys j') := by have := pt.1; show ¬ x < G ys j'; omega
        rw [go_draw (h := by kernel_rfl)]
        obtain ⟨H3, H4, s3, ix3, s4, o4, c4, l4⟩ := ow_swap o p2 p1 hf
        simp [h0, h1, hi, hj, ow_ix o p2, ow_ix o p1, ow_ld o p2, ow_ld o p1, s3, ix3 _ p2, ix3 _ p1, s4]
        have hlt : i < j' := by
          rcases Nat.lt_or_ge i j' with q | q
          · exact q
          · have q2 : i = j' := by omega
            exact absurd (q2 ▸ hlo) (hex' (by omega))
        refine ih (j' - 1 + 1 - (i + 1)) _ _ ⟨i + 1, j' - 1, rfl, by simp [h0], by simp [h1], ?_, ?_, by omega, by omega, by omega, _, sw.step i j' (by omega) (by omega), pt.swap hai hlt hjb (by omega) (hex' (by omega)) hlo, o4, c.trans c4, by omega⟩ (by omega)
        · simp; rw [w64 (by omega) (by omega)]
        · simp; rw [w64 (by omega) (by omega)]; omega
    · have hij' : i = j' + 1 := by omega
      have hji : j' < i := by omega
      simp [h0, h1, hi, hj, g1, hji]
      refine ⟨i, rfl, by omega, by omega, ys, sw, ⟨fun k k1 k2 => ?_, fun k k1 k2 => ?_⟩, o, c, l⟩
      · by_cases hk : k = a
        · have := pt.1; rw [hk]; omega
        · have q : ¬ x < G ys k := pt.2.1 k (by omega) k2
          omega
      · have q : ¬ ¬ x < G ys k := pt.2.2 k (by omega) k2
        omega
theorem part_w (v : Value) (xs : List Int) (e : TypeId) (a b p : Nat) (h : Ow Fl.int e H v xs) (hp : a ≤ p ∧ p < b) (hb : b ≤ xs.length) (hl : xs.length ≤ 1073741824) (hf : ∀ i ∈ ids v, frz ≤ i) :
   wp (vcall C frz 208 [v, .int .i64 a, .int .i64 b, .int .i64 p] H) (fun r H' => ∃ (m : Nat) (d : Bool), r = .tuple #[.int .i64 m, .bool d] ∧ a ≤ m ∧ m < b ∧
     Swd H v xs e a b (fun ys => (∀ k, a ≤ k → k < m → G ys k < G ys m) ∧ ∀ k, m < k → k < b → G ys m ≤ G ys k) H') := by
  rw [vcall_go (fn := Tryz.f208) Tryz.func208 rfl (by kernel_rfl) rfl]
  obtain ⟨x, hx⟩ : ∃ x, x = G xs p := ⟨_, rfl⟩
  obtain ⟨i0, hi0⟩ : ∃ i0, i0 = a + 1 := ⟨_, rfl⟩
  obtain ⟨j0, hj0⟩ : ∃ j0, j0 = b - 1 := ⟨_, rfl⟩
  have e2 : ∀ [Inhabited Unit], IntKind.i64.wrap ((a : Int) + 1) = (i0 : Int) := by intro _; rw [w64 (by omega) (by omega)]; omega
  have e3 : ∀ [Inhabited Unit], IntKind.i64.wrap ((b : Int) - 1) = (j0 : Int) := by intro _; rw [w64 (by omega) (by omega)]; omega
  have p0 : a < xs.length := by omega
  have p1 : p < xs.length := by omega
  simp
  rw [go_draw (h := by kernel_rfl)]
  obtain ⟨H1, H2, s1, ix, s2, o2, c2, l2⟩ := ow_swap h p0 p1 hf
  simp [ow_ix h p0, ow_ix h p1, ow_ld h p0, ow_ld h p1, s1, ix _ p0, ix _ p1, s2, e2, e3]
  have pt0 : Pt (swp xs a p) a b x (fun y => y < x) i0 j0 := by
    refine ⟨?_, fun k h1 h2 => by omega, fun k h1 h2 => by omega⟩
    rw [G_swp p0 p1, hx]
    split
    · rename_i e; rw [e]
    · rw [if_pos rfl]
  have sw0 : Sw a b xs (swp xs a p) := Sw.refl.step a p (by omega) (by omega)
  obtain ⟨ys, sw, o, c, l, pt⟩ : ∃ ys, Sw a b xs ys ∧ Ow Fl.int e H2 v ys ∧ Chg H H2 (ids v) ∧ H2.length = H.length ∧ Pt ys a b x (fun y => y < x) i0 j0 := ⟨_, sw0, o2, c2, l2, pt0⟩
  obtain ⟨i, hii⟩ : ∃ i, i0 = i := ⟨_, rfl⟩
  obtain ⟨j, hjj⟩ : ∃ j, j0 = j := ⟨_, rfl⟩
  rw [hii] at pt ⊢
  rw [hjj] at pt ⊢
  have hai : a < i := by omega
  have hij : i ≤ j + 1 := by omega
  have hjb : j < b := by omega
  clear pt0 sw0 o2 s1 s2 ix c2 l2 p0 p1
  have len := sw.len
  have p0 : a < ys.length := by omega
  refine wp_join (F := ?F) (k := ?k) (Q := ?Q) (fun t H1 => H2 = H1 ∧ t 0 = v ∧ t 1 = .int .i64 a ∧ t 10 = .int .i64 i ∧ t 11 = .int .i64 j) ?main ?rest
  case main => intro rest; refine rest _ _ ?_; exact ⟨rfl, by simp, by simp, by simp, by simp⟩
  case rest =>
   rintro t H' ⟨rfl, h0, h1, hi, hj⟩
   obtain ⟨H', hH⟩ : ∃ H', H' = H2 := ⟨_, rfl⟩
   subst hH
   obtain ⟨il, hil⟩ : ∃ il, il = i := ⟨_, rfl⟩
   have hai' : il ≤ i ∧ a < i := ⟨by omega, hai⟩
   refine wp_join (F := ?F3) (k := ?k3) (Q := ?Q3) (fun t H1 => ∃ i : Nat, t 0 = v ∧ t 1 = .int .i64 a ∧ t 10 = .int .i64 i ∧ t 11 = .int .i64 j ∧ (il ≤ i ∧ a < i) ∧ i ≤ j + 1 ∧ (i = j + 1 ∨ (i ≤ j ∧ ¬ (fun y => y < x) (G ys i))) ∧ H' = H1 ∧ Pt ys a b x (fun y => y < x) i j) ?main3 ?rest3
   case main3 =>
     intro rest
     refine wp_inv (fun c t H1 => ∃ i : Nat, c = j + 1 - i ∧ t 0 = v ∧ t 1 = .int .i64 a ∧ t 10 = .int .i64 i ∧ t 11 = .int .i64 j ∧ (il ≤ i ∧ a < i) ∧ i ≤ j + 1 ∧ H' = H1 ∧ Pt ys a b x (fun y => y < x) i j) ?_ (n := j + 1 - i)
       ⟨i, rfl, by simp [h0], by simp [h1], by simp [hi], by simp [hj], hai', hij, rfl, pt⟩
     rintro c t _ ⟨i, rfl, h0, h1, hi, hj, hai', hij, rfl, pt⟩ ih2
     have hai := hai'.2
     simp [h0, h1, hi, hj]
     rw [go_draw (h := by kernel_rfl)]
     simp [h0, h1, hi, hj]
     refine wpg_dec ?_ ?_ <;> intro g1
     · have p1 : i < ys.length := by omega
       simp [h0, h1, hi, hj, g1, ow_ix o p0, ow_ix o p1, ow_ld o p0, ow_ld o p1, less_c]
       refine wp_dec ?_ ?_ <;> intro g2
       · simp [h0, h1, hi, hj]
         refine ih2 (j + 1 - (i + 1)) _ _ ⟨i + 1, rfl, by simp [h0], by simp [h1], ?_, by simp [hj], by omega, by omega, rfl, pt.incr hai (by have := pt.1; show G ys i < x; omega)⟩ (by omega)
         simp; rw [w64 (by omega) (by omega)]
       · simp [h0, h1, hi, hj]
         refine rest _ _ ?_
         exact ⟨i, by simp [h0], by simp [h1], by simp [hi], by simp [hj], hai', by omega, .inr ⟨by omega, by have := pt.1; show ¬ (G ys i < x); omega⟩, rfl, pt⟩
     · simp [h0, h1, hi, hj, g1]
       refine rest _ _ ?_
       exact ⟨i, by simp [h0], by simp [h1], by simp [hi], by simp [hj], hai', hij, .inl (by omega), rfl, pt⟩
   case rest3 =>
     rintro t _ ⟨i, h0, h1, hi, hj, hai', hij, hex, rfl, pt⟩
     have hai := hai'.2
     refine wp_inv (fun c t H1 => ∃ j' : Nat, c = j' + 1 - i ∧ t 0 = v ∧ t 1 = .int .i64 a ∧ t 10 = .int .i64 i ∧ t 11 = .int .i64 j' ∧ j' ≤ j ∧ i ≤ j' + 1 ∧ H' = H1 ∧ Pt ys a b x (fun y => y < x) i j') ?_ (n := j + 1 - i)
       ⟨j, rfl, by simp [h0], by simp [h1], by simp [hi], by simp [hj], Nat.le_refl _, hij, rfl, pt⟩
     have hex' : i < j + 1 → ¬ (fun y => y < x) (G ys i) := fun hh => by rcases hex with hex | hex; omega; exact hex.2
     have hjb0 := hjb
     rintro c t _ ⟨j', rfl, h0, h1, hi, hj, hjj', hij, rfl, pt⟩ ih2
     have hjb : j' < b := by omega
     simp [h0, h1, hi, hj]
     rw [go_draw (h := by kernel_rfl)]
     simp [h0, h1, hi, hj]
     refine wpg_dec ?_ ?_ <;> intro g1
     · have p1 : j' < ys.length := by omega
       simp [h0, h1, hi, hj, g1, ow_ix o p0, ow_ix o p1, ow_ld o p0, ow_ld o p1, less_c]
       refine wp_dec ?_ ?_ <;> intro g2
       · simp [h0, h1, hi, hj]
         have hnj : ¬ j' < i := by omega
         simp [hnj]
         have p2 : i < ys.length := by omega
         have hlo : (fun y => y < x) (G ys j') := by have := pt.1; show G ys j' < x; omega
         rw [go_draw (h := by kernel_rfl)]
         obtain ⟨H3, H4, s3, ix3, s4, o4, c4, l4⟩ := ow_swap o p2 p1 hf
         simp [h0, h1, hi, hj, ow_ix o p2, ow_ix o p1, ow_ld o p2, ow_ld o p1, s3, ix3 _ p2, ix3 _ p1, s4]
         have hlt : i < j' := by
           rcases Nat.lt_or_ge i j' with q | q
           · exact q
           · have q2 : i = j' := by omega
             exact absurd (q2 ▸ hlo) (hex' (by omega))
         refine wp_inv (fun c t H' => ∃ i j : Nat, c = j + 1 - i ∧ t 0 = v ∧ t 1 = .int .i64 a ∧ t 10 = .int .i64 i ∧ t 11 = .int .i64 j ∧ a < i ∧ i ≤ j + 1 ∧ j < b ∧ Swd H v xs e a b (fun ys => Pt ys a b x (fun y => y < x) i j) H') ?_ (n := j' - 1 + 1 - (i + 1))
           ⟨i + 1, j' - 1, rfl, by simp [h0], by simp [h1], by simp; rw [w64 (by omega) (by omega)], by simp; rw [w64 (by omega) (by omega)]; omega, by omega, by omega, by omega, _, sw.step i j' (by omega) (by omega), pt.swap hai hlt hjb (by omega) (hex' (by omega)) hlo, o4, c.trans c4, by omega⟩
         rintro c t H' ⟨i, j, rfl, h0, h1, hi, hj, hai, hij, hjb, ys, sw, pt, o, c, l⟩ ih
         have len := sw.len
         have p0 : a < ys.length := by omega
         simp [h0, h1, hi, hj]
         obtain ⟨il, hil⟩ : ∃ il, il = i := ⟨_, rfl⟩
         have hai' : il ≤ i ∧ a < i := ⟨by omega, hai⟩
         refine wp_join (F := ?F32) (k := ?k2) (Q := ?Q32) (fun t H1 => ∃ i : Nat, t 0 = v ∧ t 1 = .int .i64 a ∧ t 10 = .int .i64 i ∧ t 11 = .int .i64 j ∧ (il ≤ i ∧ a < i) ∧ i ≤ j + 1 ∧ (i = j + 1 ∨ (i ≤ j ∧ ¬ (fun y => y < x) (G ys i))) ∧ H' = H1 ∧ Pt ys a b x (fun y => y < x) i j) ?main32 ?rest32
         case main32 =>
           intro rest
           refine wp_inv (fun c t H1 => ∃ i : Nat, c = j + 1 - i ∧ t 0 = v ∧ t 1 = .int .i64 a ∧ t 10 = .int .i64 i ∧ t 11 = .int .i64 j ∧ (il ≤ i ∧ a < i) ∧ i ≤ j + 1 ∧ H' = H1 ∧ Pt ys a b x (fun y => y < x) i j) ?_ (n := j + 1 - i)
             ⟨i, rfl, by simp [h0], by simp [h1], by simp [hi], by simp [hj], hai', hij, rfl, pt⟩
           rintro c t _ ⟨i, rfl, h0, h1, hi, hj, hai', hij, rfl, pt⟩ ih2
           have hai := hai'.2
           simp [h0, h1, hi, hj]
           rw [go_draw (h := by kernel_rfl)]
           simp [h0, h1, hi, hj]
           refine wpg_dec ?_ ?_ <;> intro g1
           · have p1 : i < ys.length := by omega
             simp [h0, h1, hi, hj, g1, ow_ix o p0, ow_ix o p1, ow_ld o p0, ow_ld o p1, less_c]
             refine wp_dec ?_ ?_ <;> intro g2
             · simp [h0, h1, hi, hj]
               refine ih2 (j + 1 - (i + 1)) _ _ ⟨i + 1, rfl, by simp [h0], by simp [h1], ?_, by simp [hj], by omega, by omega, rfl, pt.incr hai (by have := pt.1; show G ys i < x; omega)⟩ (by omega)
               simp; rw [w64 (by omega) (by omega)]
             · simp [h0, h1, hi, hj]
               refine rest _ _ ?_
               exact ⟨i, by simp [h0], by simp [h1], by simp [hi], by simp [hj], hai', by omega, .inr ⟨by omega, by have := pt.1; show ¬ (G ys i < x); omega⟩, rfl, pt⟩
           · simp [h0, h1, hi, hj, g1]
             refine rest _ _ ?_
             exact ⟨i, by simp [h0], by simp [h1], by simp [hi], by simp [hj], hai', hij, .inl (by omega), rfl, pt⟩
         case rest32 =>
           rintro t _ ⟨i, h0, h1, hi, hj, hai', hij, hex, rfl, pt⟩
           have hai := hai'.2
           refine wp_inv (fun c t H1 => ∃ j' : Nat, c = j' + 1 - i ∧ t 0 = v ∧ t 1 = .int .i64 a ∧ t 10 = .int .i64 i ∧ t 11 = .int .i64 j' ∧ j' ≤ j ∧ i ≤ j' + 1 ∧ H' = H1 ∧ Pt ys a b x (fun y => y < x) i j') ?_ (n := j + 1 - i)
             ⟨j, rfl, by simp [h0], by simp [h1], by simp [hi], by simp [hj], Nat.le_refl _, hij, rfl, pt⟩
           have hex' : i < j + 1 → ¬ (fun y => y < x) (G ys i) := fun hh => by rcases hex with hex | hex; omega; exact hex.2
           have hjb0 := hjb
           rintro c t _ ⟨j', rfl, h0, h1, hi, hj, hjj', hij, rfl, pt⟩ ih2
           have hjb : j' < b := by omega
           simp [h0, h1, hi, hj]
           rw [go_draw (h := by kernel_rfl)]
           simp [h0, h1, hi, hj]
           refine wpg_dec ?_ ?_ <;> intro g1
           · have p1 : j' < ys.length := by omega
             simp [h0, h1, hi, hj, g1, ow_ix o p0, ow_ix o p1, ow_ld o p0, ow_ld o p1, less_c]
             refine wp_dec ?_ ?_ <;> intro g2
             · simp [h0, h1, hi, hj]
               have hnj : ¬ j' < i := by omega
               simp [hnj]
               have p2 : i < ys.length := by omega
               have hlo : (fun y => y < x) (G ys j') := by have := pt.1; show G ys j' < x; omega
               rw [go_draw (h := by kernel_rfl)]
               obtain ⟨H3, H4, s3, ix3, s4, o4, c4, l4⟩ := ow_swap o p2 p1 hf
               simp [h0, h1, hi, hj, ow_ix o p2, ow_ix o p1, ow_ld o p2, ow_ld o p1, s3, ix3 _ p2, ix3 _ p1, s4]
               have hlt : i < j' := by
                 rcases Nat.lt_or_ge i j' with q | q
                 · exact q
                 · have q2 : i = j' := by omega
                   exact absurd (q2 ▸ hlo) (hex' (by omega))
               refine ih (j' - 1 + 1 - (i + 1)) _ _ ⟨i + 1, j' - 1, rfl, by simp [h0], by simp [h1], ?_, ?_, by omega, by omega, by omega, _, sw.step i j' (by omega) (by omega), pt.swap hai hlt hjb (by omega) (hex' (by omega)) hlo, o4, c.trans c4, by omega⟩ (by omega)
               · simp; rw [w64 (by omega) (by omega)]
               · simp; rw [w64 (by omega) (by omega)]; omega
             · simp [h0, h1, hi, hj]
               refine ih2 (j' - 1 + 1 - i) _ _ ⟨j' - 1, rfl, by simp [h0], by simp [h1], by simp [hi], ?_, by omega, by omega, rfl, pt.decr (by omega) (by have := pt.1; show ¬ (G ys j' < x); omega)⟩ (by omega)
               simp; rw [w64 (by omega) (by omega)]; omega
           · have hij' : i = j' + 1 := by omega
             have hji : j' < i := by omega
             simp [h0, h1, hi, hj, g1, hji]
             have p3 : j' < ys.length := by omega
             rw [go_draw (h := by kernel_rfl)]
             obtain ⟨H3, H4, s3, ix3, s4, o4, c4, l4⟩ := ow_swap o p3 p0 hf
             simp [h0, h1, hi, hj, ow_ix o p3, ow_ix o p0, ow_ld o p3, ow_ld o p0, s3, ix3 _ p3, ix3 _ p0, s4]
             obtain ⟨f1, f2, f3⟩ := pt.fin hij' hai hjb (by omega)
             exact ⟨j', rfl, by omega, by omega, _, sw.step j' a (by omega) (by omega), ⟨fun k k1 k2 => by have := f2 k k1 k2; rw [f1]; exact this, fun k k1 k2 => by have := f3 k k1 k2; rw [f1]; omega⟩, o4, c.trans c4, by omega⟩
       · simp [h0, h1, hi, hj]
         refine ih2 (j' - 1 + 1 - i) _ _ ⟨j' - 1, rfl, by simp [h0], by simp [h1], by simp [hi], ?_, by omega, by omega, rfl, pt.decr (by omega) (by have := pt.1; show ¬ (G ys j' < x); omega)⟩ (by omega)
         simp; rw [w64 (by omega) (by omega)]; omega
     · have hij' : i = j' + 1 := by omega
       have hji : j' < i := by omega
       simp [h0, h1, hi, hj, g1, hji]
       have p3 : j' < ys.length := by omega
       rw [go_draw (h := by kernel_rfl)]
       obtain ⟨H3, H4, s3, ix3, s4, o4, c4, l4⟩ := ow_swap o p3 p0 hf
       simp [h0, h1, hi, hj, ow_ix o p3, ow_ix o p0, ow_ld o p3, ow_ld o p0, s3, ix3 _ p3, ix3 _ p0, s4]
       obtain ⟨f1, f2, f3⟩ := pt.fin hij' hai hjb (by omega)
       exact ⟨j', rfl, by omega, by omega, _, sw.step j' a (by omega) (by omega), ⟨fun k k1 k2 => by have := f2 k k1 k2; rw [f1]; exact this, fun k k1 k2 => by have := f3 k k1 k2; rw [f1]; omega⟩, o4, c.trans c4, by omega⟩
end Go.Proofs.YtcigpclbhfkgaaaGreat.V
/-! Sorting: partial insertion sort. -/
set_option linter.all false
namespace Go.Proofs.YtcigpclbhfkgaaaGreat.V
open Go Go.VM Go.Proofs
set_option maxRecDepth 10000
variable {frz : Nat} {H : Heap} {v : Value} {xs : List Int} {e : TypeId}
theorem Srt.snoc {ys : List Int} {a i : Nat} (h : Srt ys a i) (hi : a < i → G ys (i - 1) ≤ G ys i) : Srt ys a (i + 1) := fun p q h1 h2 h3 => by
  by_cases hq : q = i
  · rw [hq]
    have hlt : a < i := by omega
    have := hi hlt
    by_cases hp : p = i - 1
    · rw [hp]; exact this
    · have := h p (i - 1) h1 (by omega) (by omega); omega
  · exact h p q h1 h2 (by omega)
theorem partIns_w (v : Value) (xs : List Int) (e : TypeId) (a b : Nat) (h : Ow Fl.int e H v xs) (hab : a < b) (hb : b ≤ xs.length) (hl : xs.length ≤ 1073741824) (hlo : 0 < a → ∀ k, a ≤ k → k < b → G xs (a - 1) ≤ G xs k) (hf : ∀ i ∈ ids v, frz ≤ i) :
   wp (vcall C frz 205 [v, .int .i64 a, .int .i64 b] H) (fun r H' => ∃ d : Bool, r = .bool d ∧ Swd H v xs e a b (fun ys => d = true → Srt ys a b) H') := by
  rw [vcall_go (fn := Tryz.f205) Tryz.func205 rfl (by kernel_rfl) rfl]
  obtain ⟨i0, hi0⟩ : ∃ i0, i0 = a + 1 := ⟨_, rfl⟩
  have e2 : ∀ [Inhabited Unit], IntKind.i64.wrap ((a : Int) + 1) = (i0 : Int) := by intro _; rw [w64 (by omega) (by omega)]; omega
  simp [e2]
  refine wp_inv (fun c t H' => ∃ i s : Nat, c = 5 - s ∧ s ≤ 5 ∧ t 0 = v ∧ t 1 = .int .i64 a ∧ t 2 = .int .i64 b ∧ t 7 = .int .i64 i ∧ t 8 = .int .i64 s ∧ a < i ∧ i ≤ b ∧ Swd H v xs e a b (fun ys => Srt ys a i) H') ?_ (n := 5)
    ⟨i0, 0, rfl, by omega, by simp, by simp, by simp, by simp, by simp, by omega, by omega, xs, .refl, Srt.short (by omega), h, Chg.refl _, rfl⟩
  rintro c t H' ⟨i, s, rfl, hs, h0, h1, h2, h7, h8, hai, hib, ys, sw, sr, o, c, l⟩ ih
  have len := sw.len
  simp [h0, h1, h2, h7, h8]
  refine wp_dec ?_ ?_ <;> intro g0
  · simp [h0, h1, h2, h7, h8]
    refine wp_joinb (F := ?F) (k1 := ?k1) (k2 := ?k2) (Q := ?Q) (fun c t H1 => ∃ i : Nat, c = .bool (decide ((i : Int) = b)) ∧ H' = H1 ∧ t 0 = v ∧ t 1 = .int .i64 a ∧ t 2 = .int .i64 b ∧ t 7 = .int .i64 i ∧ t 8 = .int .i64 s ∧ a < i ∧ i ≤ b ∧ Srt ys a i) ?main ?rest
    case main =>
      intro rest
      refine wp_inv (fun c t H1 => ∃ i : Nat, c = b - i ∧ H' = H1 ∧ t 0 = v ∧ t 1 = .int .i64 a ∧ t 2 = .int .i64 b ∧ t 7 = .int .i64 i ∧ t 8 = .int .i64 s ∧ a < i ∧ i ≤ b ∧ Srt ys a i) ?_ (n := b - i)
        ⟨i, rfl, rfl, by simp [h0], by simp [h1], by simp [h2], by simp [h7], by simp [h8], hai, hib, sr⟩
      rintro c t _ ⟨i, rfl, rfl, h0, h1, h2, h7, h8, hai, hib, sr⟩ ih2
      have e3 : ∀ [Inhabited Unit], IntKind.i64.wrap ((i : Int) - 1) = ((i - 1 : Nat) : Int) := by intro _; rw [w64 (by omega) (by omega)]; omega
      simp [h0, h1, h2, h7, h8]
      rw [go_draw (h := by kernel_rfl)]
      simp [h0, h1, h2, h7, h8]
      refine wpg_dec ?_ ?_ <;> intro g1
      · have p1 : i < ys.length := by omega
        have p2 : i - 1 < ys.length := by omega
        simp [h0, h1, h2, h7, h8, g1, e3, ow_ix o p1, ow_ix o p2, ow_ld o p1, ow_ld o p2, less_c]
        refine wp_dec ?_ ?_ <;> intro g2
        · simp [h0, h1, h2, h7, h8]
          refine rest _ _ _ ?_
          exact ⟨i, rfl, rfl, by simp [h0], by simp [h1], by simp [h2], by simp [h7], by simp [h8], hai, hib, sr⟩
        · simp [h0, h1, h2, h7, h8]
          refine ih2 (b - (i + 1)) _ _ ⟨i + 1, rfl, rfl, by simp [h0], by simp [h1], by simp [h2], ?_, by simp [h8], by omega, by omega, sr.snoc (fun _ => by omega)⟩ (by omega)
          simp; rw [w64 (by omega) (by omega)]
      · simp [h0, h1, h2, h7, h8, g1]
        refine rest _ _ _ ?_
        exact ⟨i, rfl, rfl, by simp [h0], by simp [h1], by simp [h2], by simp [h7], by simp [h8], hai, hib, sr⟩
    case rest =>
      rintro _ t _ ⟨i, rfl, rfl, h0, h1, h2, h7, h8, hai, hib, sr⟩
      obtain ⟨n, hn⟩ : ∃ n, n = b - a := ⟨_, rfl⟩
      obtain ⟨m, hm⟩ : ∃ m, m = i - a := ⟨_, rfl⟩
      obtain ⟨r, hr⟩ : ∃ r, r = b - i := ⟨_, rfl⟩
      have e4 : ∀ [Inhabited Unit], IntKind.i64.wrap ((b : Int) - a) = (n : Int) := by intro _; rw [w64 (by omega) (by omega)]; omega
      have e5 : ∀ [Inhabited Unit], IntKind.i64.wrap ((i : Int) - a) = (m : Int) := by intro _; rw [w64 (by omega) (by omega)]; omega
      have e6 : ∀ [Inhabited Unit], IntKind.i64.wrap ((b : Int) - i) = (r : Int) := by intro _; rw [w64 (by omega) (by omega)]; omega
      have e3 : ∀ [Inhabited Unit], IntKind.i64.wrap ((i : Int) - 1) = ((i - 1 : Nat) : Int) := by intro _; rw [w64 (by omega) (by omega)]; omega
      refine wp_dec ?_ ?_ <;> intro g1
      · simp
        have hib : i = b := by omega
        exact ⟨ys, sw, hib ▸ sr, o, c, l⟩
      · simp [h0, h1, h2, h7, h8, e4]
        refine wp_dec ?_ ?_ <;> intro g2
        · simp
          exact ⟨ys, sw, trivial, o, c, l⟩
        · have p1 : i < ys.length := by omega
          have p2 : i - 1 < ys.length := by omega
          simp [h0, h1, h2, h7, h8]
          rw [go_draw (h := by kernel_rfl)]
          obtain ⟨H3, H4, s3, ix3, s4, o4, c4, l4⟩ := ow_swap o p1 p2 hf
          simp [h0, h1, h2, h7, h8, e3, e5, ow_ix o p1, ow_ix o p2, ow_ld o p1, ow_ld o p2, s3, ix3 _ p1, ix3 _ p2, s4]
          have sw4 := sw.step i (i - 1) (by omega) (by omega)
          have sr4 : Srt (swp ys i (i - 1)) a (i - 1) := Srt.frame (fun p q q1 q2 q3 => sr p q q1 q2 (by omega)) (fun k k1 k2 => by rw [G_swp p1 p2, if_neg (by omega), if_neg (by omega)])
          have c5 := c.trans c4
          have l5 : H4.length = H.length := by omega
          generalize swp ys i (i - 1) = zs at *
          refine wp_joinb (F := ?F2) (k1 := ?k12) (k2 := ?k22) (Q := ?Q2) (fun c t H1 => c = .bool (decide (2 ≤ (r : Int))) ∧ t 0 = v ∧ t 1 = .int .i64 a ∧ t 2 = .int .i64 b ∧ t 7 = .int .i64 i ∧ t 8 = .int .i64 s ∧ Swd H v xs e a b (fun ys => Srt ys a i) H1) ?main2 ?rest2
          case main2 =>
            intro rest2
            refine wp_dec ?_ ?_ <;> intro g3
            · simp [h0, h1, h2, h7, h8, e3]
              refine wp_inv (fun c t H1 => ∃ j : Nat, c = j ∧ t 0 = v ∧ t 1 = .int .i64 a ∧ t 2 = .int .i64 b ∧ t 7 = .int .i64 i ∧ t 8 = .int .i64 s ∧ t 9 = .int .i64 j ∧ a ≤ j ∧ j ≤ i - 1 ∧ Swd H v xs e a b (fun ys => Ins ys a (i - 1) j) H1) ?_ (n := i - 1)
                ⟨i - 1, rfl, by simp [h0], by simp [h1], by simp [h2], by simp [h7], by simp [h8], by simp, by omega, by omega, zs, sw4, Ins.start sr4, o4, c5, l5⟩
              rintro j t H1 ⟨_, rfl, h0, h1, h2, h7, h8, h9, haj, hji, ws, sw, ins, o, c, l⟩ ih2
              have len := sw.len
              have e7 : ∀ [Inhabited Unit], IntKind.i64.wrap ((j : Int) - 1) = ((j - 1 : Nat) : Int) ∨ j = 0 := by
                intro _
                by_cases hj : j = 0
                · exact .inr hj
                · left; rw [w64 (by omega) (by omega)]; omega
              simp [h0, h1, h2, h7, h8, h9]
              refine wp_dec ?_ ?_ <;> intro g4
              · have e7 : ∀ [Inhabited Unit], IntKind.i64.wrap ((j : Int) - 1) = ((j - 1 : Nat) : Int) := by intro _; rw [w64 (by omega) (by omega)]; omega
                have p3 : j < ws.length := by omega
                have p4 : j - 1 < ws.length := by omega
                simp [h0, h1, h2, h7, h8, h9]
                rw [go_draw (h := by kernel_rfl)]
                simp [h0, h1, h2, h7, h8, h9, e7, ow_ix o p3, ow_ix o p4, ow_ld o p3, ow_ld o p4, less_c]
                have low : j = a → G ws (j - 1) ≤ G ws j := by
                  intro hja
                  have := sw.all hb (p := fun y => G xs (a - 1) ≤ y) (fun k k1 k2 => hlo (by omega) k k1 k2) j haj (by omega)
                  rw [hja] at this ⊢
                  rw [sw.out hb (k := a - 1) (by omega)]; exact this
                refine wp_dec ?_ ?_ <;> intro g5
                · have haj2 : a < j := by
                    rcases Nat.lt_or_ge a j with q | q
                    · exact q
                    · have := low (by omega); omega
                  simp [h0, h1, h2, h7, h8, h9]
                  rw [go_draw (h := by kernel_rfl)]
                  obtain ⟨H5, H6, s5, ix5, s6, o6, c6, l6⟩ := ow_swap o p3 p4 hf
                  simp [h0, h1, h2, h7, h8, h9, e7, ow_ix o p3, ow_ix o p4, ow_ld o p3, ow_ld o p4, s5, ix5 _ p3, ix5 _ p4, s6]
                  refine ih2 (j - 1) _ _ ⟨j - 1, rfl, by simp [h0], by simp [h1], by simp [h2], by simp [h7], by simp [h8], by simp [e7], by omega, by omega, _, sw.step j (j - 1) (by omega) (by omega), ins.step (by omega) haj2 hji g5, o6, c.trans c6, by omega⟩ (by omega)
                · have sr6 : Srt ws a (i - 1 + 1) := ins.done (by
                    rcases Nat.lt_or_ge a j with q | q
                    · exact .inr ⟨q, by omega⟩
                    · exact .inl (by omega))
                  rw [show i - 1 + 1 = i by omega] at sr6
                  simp [h0, h1, h2, h7, h8, h9, e6]
                  refine rest2 _ _ _ ?_
                  exact ⟨rfl, by simp [h0], by simp [h1], by simp [h2], by simp [h7], by simp [h8], ws, sw, sr6, o, c, l⟩
              · have sr6 : Srt ws a (i - 1 + 1) := ins.done (.inl (by omega))
                rw [show i - 1 + 1 = i by omega] at sr6
                simp [h0, h1, h2, h7, h8, h9, e6]
                refine rest2 _ _ _ ?_
                exact ⟨rfl, by simp [h0], by simp [h1], by simp [h2], by simp [h7], by simp [h8], ws, sw, sr6, o, c, l⟩
            · simp [h0, h1, h2, h7, h8, e6]
              refine rest2 _ _ _ ?_
              exact ⟨rfl, by simp [h0], by simp [h1], by simp [h2], by simp [h7], by simp [h8], zs, sw4, Srt.short (by omega), o4, c5, l5⟩
          case rest2 =>
            clear sw4 sr4 o4 c5 l5 s3 s4 ix3 c4 p1 p2
            rintro _ t H1 ⟨rfl, h0, h1, h2, h7, h8, ws, sw, sr, o, c, l⟩
            have fin : ∀ (t : Env) (H1 : Heap), t 0 = v → t 1 = .int .i64 a → t 2 = .int .i64 b → t 7 = .int .i64 i → t 8 = .int .i64 (IntKind.i64.wrap ((s : Int) + 1)) → Swd H v xs e a b (fun ys => Srt ys a i) H1 →
                ∃ i s' : Nat, 5 - (s + 1) = 5 - s' ∧ s' ≤ 5 ∧ t 0 = v ∧ t 1 = .int .i64 a ∧ t 2 = .int .i64 b ∧ t 7 = .int .i64 i ∧ t 8 = .int .i64 s' ∧ a < i ∧ i ≤ b ∧ Swd H v xs e a b (fun ys => Srt ys a i) H1 :=
              fun t H1 g0 g1 g2 g7 g8 gs => ⟨i, s + 1, rfl, by omega, g0, g1, g2, g7, by rw [g8, w64 (by omega) (by omega)]; simp, hai, hib, gs⟩
            refine wp_dec ?_ ?_ <;> intro g3
            · have e8 : ∀ [Inhabited Unit], IntKind.i64.wrap ((i : Int) + 1) = ((i + 1 : Nat) : Int) := by intro _; rw [w64 (by omega) (by omega)]; omega
              obtain ⟨j0, hj0⟩ : ∃ j0, j0 = i + 1 := ⟨_, rfl⟩
              rw [← hj0] at e8
              simp [h0, h1, h2, h7, h8, e8]
              refine wp_inv (fun c t H1 => ∃ j : Nat, c = b - j ∧ t 0 = v ∧ t 1 = .int .i64 a ∧ t 2 = .int .i64 b ∧ t 7 = .int .i64 i ∧ t 8 = .int .i64 s ∧ t 10 = .int .i64 j ∧ i < j ∧ j ≤ b ∧ Swd H v xs e a b (fun ys => Srt ys a i) H1) ?_ (n := b - j0)
                ⟨j0, rfl, by simp [h0], by simp [h1], by simp [h2], by simp [h7], by simp [h8], by simp, by omega, by omega, ws, sw, sr, o, c, l⟩
              rintro _ t H1 ⟨j, rfl, h0, h1, h2, h7, h8, h10, hij, hjb, ws, sw, sr, o, c, l⟩ ih2
              have len := sw.len
              simp [h0, h1, h2, h7, h8, h10]
              refine wp_dec ?_ ?_ <;> intro g4
              · have e7 : ∀ [Inhabited Unit], IntKind.i64.wrap ((j : Int) - 1) = ((j - 1 : Nat) : Int) := by intro _; rw [w64 (by omega) (by omega)]; omega
                have p3 : j < ws.length := by omega
                have p4 : j - 1 < ws.length := by omega
                simp [h0, h1, h2, h7, h8, h10]
                rw [go_draw (h := by kernel_rfl)]
                simp [h0, h1, h2, h7, h8, h10, e7, ow_ix o p3, ow_ix o p4, ow_ld o p3, ow_ld o p4, less_c]
                refine wp_dec ?_ ?_ <;> intro g5
                · simp [h0, h1, h2, h7, h8, h10]
                  rw [go_draw (h := by kernel_rfl)]
                  obtain ⟨H5, H6, s5, ix5, s6, o6, c6, l6⟩ := ow_swap o p3 p4 hf
                  simp [h0, h1, h2, h7, h8, h10, e7, ow_ix o p3, ow_ix o p4, ow_ld o p3, ow_ld o p4, s5, ix5 _ p3, ix5 _ p4, s6]
                  refine ih2 (b - (j + 1)) _ _ ⟨j + 1, rfl, by simp [h0], by simp [h1], by simp [h2], by simp [h7], by simp [h8], ?_, by omega, by omega, _, sw.step j (j - 1) (by omega) (by omega), Srt.frame sr (fun k k1 k2 => by rw [G_swp p3 p4, if_neg (by omega), if_neg (by omega)]), o6, c.trans c6, by omega⟩ (by omega)
                  simp; rw [w64 (by omega) (by omega)]
                · simp [h0, h1, h2, h7, h8, h10]
                  refine ih (5 - (s + 1)) _ _ (fin _ _ ?_ ?_ ?_ ?_ ?_ ⟨ws, sw, sr, o, c, l⟩) (by omega) <;> simp [h0, h1, h2, h7, h8]
              · simp [h0, h1, h2, h7, h8, h10]
                refine ih (5 - (s + 1)) _ _ (fin _ _ ?_ ?_ ?_ ?_ ?_ ⟨ws, sw, sr, o, c, l⟩) (by omega) <;> simp [h0, h1, h2, h7, h8]
            · simp [h0, h1, h2, h7, h8]
              refine ih (5 - (s + 1)) _ _ (fin _ _ ?_ ?_ ?_ ?_ ?_ ⟨ws, sw, sr, o, c, l⟩) (by omega) <;> simp [h0, h1, h2, h7, h8]
  · simp
    exact ⟨ys, sw, trivial, o, c, l⟩
end Go.Proofs.YtcigpclbhfkgaaaGreat.V
/-! Sorting: the sort. -/
set_option linter.all false
namespace Go.Proofs.YtcigpclbhfkgaaaGreat.V
open Go Go.VM Go.Proofs
set_option maxRecDepth 10000
variable {frz : Nat} {H : Heap} {v : Value} {xs : List Int} {e : TypeId}
/-- what the sort knows: outside of [a, b) all is sorted and lies on its side -/
structure Pq (ys : List Int) (A B a b : Nat) : Prop where
  le : A ≤ a ∧ a ≤ b ∧ b ≤ B
  left : Srt ys A a
  right : Srt ys b B
  lo : ∀ p q, A ≤ p → p < a → a ≤ q → q < B → G ys p ≤ G ys q
  hi : ∀ p q, A ≤ p → p < b → b ≤ q → q < B → G ys p ≤ G ys q
  low : 0 < A → ∀ k, A ≤ k → k < B → G ys (A - 1) ≤ G ys k
section
variable {ys zs : List Int} {A B a b m : Nat}
theorem Pq.below (h : Pq ys A B a b) (ha : 0 < a) : ∀ k, a ≤ k → k < B → G ys (a - 1) ≤ G ys k := fun k h1 h2 => by
  obtain ⟨l1, l2, l3⟩ := h.le
  by_cases hA : a = A
  · have := h.low (by omega) k (by omega) h2; rw [hA]; exact this
  · exact h.lo (a - 1) k (by omega) (by omega) h1 h2
theorem Pq.sw (h : Pq ys A B a b) (s : Sw a b ys zs) (hB : B ≤ ys.length) : Pq zs A B a b := by
  obtain ⟨l1, l2, l3⟩ := h.le
  have hb : b ≤ ys.length := by omega
  have out := fun k (hk : k < a ∨ b ≤ k) => s.out hb hk
  refine ⟨h.le, h.left.frame (fun k h1 h2 => out k (.inl h2)), h.right.frame (fun k h1 h2 => out k (.inr h1)), fun p q h1 h2 h3 h4 => ?_, fun p q h1 h2 h3 h4 => ?_, fun h0 k h1 h2 => ?_⟩
  · rw [out p (.inl h2)]
    exact s.all' hb (p := fun y => G ys p ≤ y) (Nat.le_refl a) l3 (fun k k1 k2 => h.lo p k h1 h2 k1 k2) q h3 h4
  · rw [out q (.inr h3)]
    exact s.all' hb (p := fun y => y ≤ G ys q) l1 (Nat.le_refl b) (fun k k1 k2 => h.hi k q k1 k2 h3 h4) p h1 h2
  · rw [out (A - 1) (.inl (by omega))]
    exact s.all' hb (p := fun y => G ys (A - 1) ≤ y) l1 l3 (fun k k1 k2 => h.low h0 k k1 k2) k h1 h2
theorem Pq.done (h : Pq ys A B a b) (s : Srt ys a b) : Srt ys A B := by
  obtain ⟨l1, l2, l3⟩ := h.le
  exact (h.left.join (s.join h.right (fun p q h1 h2 h3 h4 => h.hi p q (by omega) h2 h3 h4)) h.lo)
/-- equal elements go to the left -/
theorem Pq.eq {x : Int} (h : Pq ys A B a b) (hm : a < m ∧ m ≤ b) (hx : ∀ k, a ≤ k → k < b → x ≤ G ys k) (h1 : ∀ k, a ≤ k → k < m → ¬ x < G ys k) (h2 : ∀ k, m ≤ k → k < b → x < G ys k) : Pq ys A B m b := by
  obtain ⟨l1, l2, l3⟩ := h.le
  refine ⟨by omega, h.left.join (fun p q q1 q2 q3 => ?_) (fun p q q1 q2 q3 q4 => h.lo p q q1 q2 q3 (by omega)), h.right, fun p q q1 q2 q3 q4 => ?_, h.hi, h.low⟩
  · have := h1 p q1 (by omega); have := hx q (by omega) (by omega); omega
  · by_cases hp : p < a
    · exact h.lo p q q1 hp (by omega) q4
    · by_cases hq : q < b
      · have := h1 p (by omega) q2; have := h2 q q3 hq; omega
      · exact h.hi p q q1 (by omega) (by omega) q4
theorem Pq.goRight (h : Pq ys A B a b) (hm : a ≤ m ∧ m < b) (s : Srt ys a m) (h1 : ∀ k, a ≤ k → k < m → G ys k ≤ G ys m) (h2 : ∀ k, m < k → k < b → G ys m ≤ G ys k) : Pq ys A B (m + 1) b := by
  obtain ⟨l1, l2, l3⟩ := h.le
  refine ⟨by omega, h.left.join (fun p q q1 q2 q3 => ?_) (fun p q q1 q2 q3 q4 => h.lo p q q1 q2 q3 (by omega)), h.right, fun p q q1 q2 q3 q4 => ?_, h.hi, h.low⟩
  · by_cases hq : q = m
    · rw [hq]; exact h1 p q1 (by omega)
    · exact s p q q1 q2 (by omega)
  · by_cases hp : p < a
    · exact h.lo p q q1 hp (by omega) q4
    · by_cases hq : q < b
      · have := h2 q (by omega) hq
        by_cases hpm : p = m
        · rw [hpm]; exact this
        · have := h1 p (by omega) (by omega); omega
      · exact h.hi p q q1 (by omega) (by omega) q4
theorem Pq.goLeft (h : Pq ys A B a b) (hm : a ≤ m ∧ m < b) (s : Srt ys (m + 1) b) (h1 : ∀ k, a ≤ k → k < m → G ys k ≤ G ys m) (h2 : ∀ k, m < k → k < b → G ys m ≤ G ys k) : Pq ys A B a m := by
  obtain ⟨l1, l2, l3⟩ := h.le
  refine ⟨by omega, h.left, Srt.join (b := b) (fun p q q1 q2 q3 => ?_) h.right (fun p q q1 q2 q3 q4 => h.hi p q (by omega) q2 q3 q4), h.lo, fun p q q1 q2 q3 q4 => ?_, h.low⟩
  · by_cases hp : p = m
    · rw [hp]; exact h2 q (by omega) q3
    · exact s p q (by omega) q2 q3
  · by_cases hq : q < b
    · by_cases hp : p < a
      · exact h.lo p q q1 hp (by omega) q4
      · have := h1 p (by omega) q2
        by_cases hqm : q = m
        · rw [hqm]; exact this
        · have := h2 q (by omega) hq; omega
    · exact h.hi p q q1 (by omega) (by omega) q4
end
theorem pdq_w : ∀ (n : Nat) (H : Heap) (v : Value) (xs : List Int) (e : TypeId) (A B : Nat) (L : Int) (h : Ow Fl.int e H v xs) (hn : B - A ≤ n) (hab : A ≤ B) (hb : B ≤ xs.length) (hl : xs.length ≤ 1073741824)
    (hlo : 0 < A → ∀ k, A ≤ k → k < B → G xs (A - 1) ≤ G xs k) (hf : ∀ i ∈ ids v, frz ≤ i) (hF : frz ≤ H.length),
   wp (vcall C frz 164 [v, .int .i64 A, .int .i64 B, .int .i64 L] H) (fun _ H' => ∃ ys, Sw A B xs ys ∧ Srt ys A B ∧ Ow Fl.int e H' v ys ∧ Chg H H' (ids v)) := by
  intro n
  induction n using Nat.strongRecOn with
  | _ n IH =>
  intro H v xs e A B L h hn hab hb hl hlo hf hF
  rw [vcall_go (fn := Tryz.f164) Tryz.func164 rfl (by kernel_rfl) rfl]
  simp
  refine wp_inv (fun c t H' => ∃ (a b : Nat) (L : Int) (w1 w2 : Bool), c = b - a ∧ t 0 = v ∧ t 1 = .int .i64 a ∧ t 2 = .int .i64 b ∧ t 3 = .int .i64 L ∧ t 8 = .bool w1 ∧ t 9 = .bool w2 ∧
      ∃ ys, Sw A B xs ys ∧ Pq ys A B a b ∧ Ow Fl.int e H' v ys ∧ Chg H H' (ids v)) ?_ (n := B - A)
    ⟨A, B, L, true, true, rfl, by simp, by simp, by simp, by simp, by simp, by simp, xs, .refl, ⟨by omega, Srt.short (by omega), Srt.short (by omega), fun p q h1 h2 h3 h4 => by omega, fun p q h1 h2 h3 h4 => by omega, hlo⟩, h, Chg.refl _⟩
  rintro c t H' ⟨a, b, L, w1, w2, rfl, h0, h1, h2, h3, h8, h9, ys, sw, pq, o, c⟩ ih
  have len := sw.len
  obtain ⟨l1, l2, l3⟩ := pq.le
  obtain ⟨n1, hn1⟩ : ∃ n1, n1 = b - a := ⟨_, rfl⟩
  have e1 : ∀ [Inhabited Unit], IntKind.i64.wrap ((b : Int) - a) = (n1 : Int) := by intro _; rw [w64 (by omega) (by omega)]; omega
  simp [h0, h1, h2, h3, h8, h9, e1]
  refine wp_dec ?_ ?_ <;> intro g1
  · simp [h0, h1, h2, h3, h8, h9]
    refine wp_thn (insSort_w v ys e a b o l2 (by omega) (by omega) hf) ?_
    rintro _ H1 ⟨zs, sw1, sr1, o1, c1, k1⟩
    simp
    exact ⟨zs, sw.trans (sw1.mono l1 l3), (pq.sw sw1 (by omega)).done sr1, o1, c.trans c1⟩
  · simp [h0, h1, h2, h3, h8, h9]
    refine wp_dec ?_ ?_ <;> intro g2
    · simp [h0, h1, h2, h3, h8, h9]
      refine wp_thn (heapSort_w v ys e a b o (by omega) (by omega) (by omega) hf) ?_
      rintro _ H1 ⟨zs, sw1, sr1, o1, c1, k1⟩
      simp
      exact ⟨zs, sw.trans (sw1.mono l1 l3), (pq.sw sw1 (by omega)).done sr1, o1, c.trans c1⟩
    · simp [h0, h1, h2, h3, h8, h9]
      refine wp_joinc (F := ?F1) (k := ?k1) (d := ?d1) (Q := ?Q1) (fun r t => ∃ (L : Int) (zs : List Int) (H1 : Heap), r = vcall C frz 203 [v, .int .i64 a, .int .i64 b] H1 ∧ t 0 = v ∧ t 1 = .int .i64 a ∧ t 2 = .int .i64 b ∧ t 3 = .int .i64 L ∧ t 10 = .int .i64 n1 ∧ t 8 = .bool w1 ∧ t 9 = .bool w2 ∧
        Sw A B xs zs ∧ Pq zs A B a b ∧ Ow Fl.int e H1 v zs ∧ Chg H H1 (ids v)) ?main1 ?rest1
      case main1 =>
        intro rest
        have h10 := True.intro
        refine wp_bool ?_ ?_ <;> intro g3
        · simp [h0, h1, h2, h3, h8, h9]
          refine rest _ _ ?_
          exact ⟨L, ys, H', rfl, by simp [h0], by simp [h1], by simp [h2], by simp [h3], by simp [h10], by simp [h8], by simp [h9], sw, pq, o, c⟩
        · simp [h0, h1, h2, h3, h8, h9]
          refine wp_thn (breakPat_w v ys e a b o l2 (by omega) (by omega) hf (by have := c.1; omega)) ?_
          rintro _ H1 ⟨zs, sw1, o1, c1⟩
          simp [h0, h1, h2, h3, h8, h9]
          refine rest _ _ ?_
          exact ⟨IntKind.i64.wrap (L - 1), zs, H1, rfl, by simp [h0], by simp [h1], by simp [h2], by simp, by simp, by simp [h8], by simp [h9], sw.trans (sw1.mono l1 l3), pq.sw sw1 (by omega), o1, c.trans c1⟩
      case rest1 =>
        clear h0 h1 h2 h3 h8 h9 sw pq o c len
        rintro _ t ⟨L, ys, H', rfl, h0, h1, h2, h3, h10, h8, h9, sw, pq, o, c⟩
        have len := sw.len
        refine wp_thn (choosePivot_w v ys e a b o (by omega) (by omega) (by omega) (by have := c.1; omega)) ?_
        rintro _ H1 ⟨⟨p, k, rfl, hp1, hp2⟩, c1⟩
        have o1 := o.chg c1 (by simp)
        have cH1 := c.trans (c1.mono (by simp))
        simp [h0, h1, h2, h3, h8, h9]
        refine wp_joing (F := ?F2) (k := ?k2) (d := ?d2) (want := ?w2) (op := ?op2) (Q := ?Q2) (fun c t H1 => c = .bool w1 ∧ ∃ (p : Nat) (k : Int) (zs : List Int), (a ≤ p ∧ p < b) ∧ t 0 = v ∧ t 1 = .int .i64 a ∧ t 2 = .int .i64 b ∧ t 3 = .int .i64 L ∧ t 10 = .int .i64 n1 ∧ t 8 = .bool w1 ∧ t 9 = .bool w2 ∧ t 11 = .int .i64 p ∧ t 12 = .int .i64 k ∧ t 62 = .bool w1 ∧
          Sw A B xs zs ∧ Pq zs A B a b ∧ Ow Fl.int e H1 v zs ∧ Chg H H1 (ids v)) ?main2 ?rest2
        case main2 =>
          intro rest
          refine wp_dec ?_ ?_ <;> intro g3
          · simp [h0, h1, h2, h3, h8, h9]
            refine wp_thn (revRange_w v ys e a b o1 (by omega) (by omega) (by omega) hf) ?_
            rintro _ H2 ⟨zs, sw1, _, o2, c2, k2⟩
            obtain ⟨b1, hb1⟩ : ∃ b1, b1 = b - 1 := ⟨_, rfl⟩
            obtain ⟨p1, hp3⟩ : ∃ p1, p1 = p - a := ⟨_, rfl⟩
            obtain ⟨p2, hp4⟩ : ∃ p2, p2 = b1 - p1 := ⟨_, rfl⟩
            have e2 : ∀ [Inhabited Unit], IntKind.i64.wrap ((b : Int) - 1) = (b1 : Int) := by intro _; rw [w64 (by omega) (by omega)]; omega
            have e3 : ∀ [Inhabited Unit], IntKind.i64.wrap ((p : Int) - a) = (p1 : Int) := by intro _; rw [w64 (by omega) (by omega)]; omega
            have e4 : ∀ [Inhabited Unit], IntKind.i64.wrap ((b1 : Int) - p1) = (p2 : Int) := by intro _; rw [w64 (by omega) (by omega)]; omega
            simp [h0, h1, h2, h3, h8, h9, e2, e3, e4]
            refine rest _ _ _ ?_
            exact ⟨rfl, p2, 1, zs, by omega, by simp [h0], by simp [h1], by simp [h2], by simp [h3], by simp [h10], by simp [h8], by simp [h9], by simp, by simp, by simp, sw.trans (sw1.mono l1 l3), pq.sw sw1 (by omega), o2, cH1.trans c2⟩
          · simp [h0, h1, h2, h3, h8, h9]
            refine rest _ _ _ ?_
            exact ⟨rfl, p, k, ys, by omega, by simp [h0], by simp [h1], by simp [h2], by simp [h3], by simp [h10], by simp [h8], by simp [h9], by simp, by simp, by simp, sw, pq, o1, cH1⟩
        case rest2 =>
          clear h0 h1 h2 h3 h8 h9 sw pq o c len o1 c1 cH1 hp1 hp2
          rintro _ t H1 ⟨rfl, p, k, ys, hp, h0, h1, h2, h3, h10, h8, h9, h11, h12, h62, sw, pq, o, c⟩
          have len := sw.len
          refine wp_join (F := ?F3) (k := ?k3) (Q := ?Q3) (fun t H1 => ∃ (zs : List Int), t 0 = v ∧ t 1 = .int .i64 a ∧ t 2 = .int .i64 b ∧ t 3 = .int .i64 L ∧ t 10 = .int .i64 n1 ∧ t 8 = .bool w1 ∧ t 9 = .bool w2 ∧ t 11 = .int .i64 p ∧
            Sw A B xs zs ∧ Pq zs A B a b ∧ Ow Fl.int e H1 v zs ∧ Chg H H1 (ids v)) ?main3 ?rest3
          case main3 =>
            intro rest
            refine wpg_bool ?_ ?_ <;> intro g3
            · simp [h0, h1, h2, h3, h8, h9, h11, h12, h62, g3]
              refine wpg_bool ?_ ?_ <;> intro g4
              · simp [h0, h1, h2, h3, h8, h9, h11, h12, h62, g3, g4]
                refine wp_dec ?_ ?_ <;> intro g5
                · simp [h0, h1, h2, h3, h8, h9, h11, h12]
                  refine wp_thn (partIns_w v ys e a b o (by omega) (by omega) (by omega) (fun h0 k k1 k2 => pq.below h0 k k1 (by omega)) hf) ?_
                  rintro _ H2 ⟨d, rfl, zs, sw1, sr1, o2, c2, k2⟩
                  simp
                  refine wp_bool ?_ ?_ <;> intro g6
                  · simp
                    exact ⟨zs, sw.trans (sw1.mono l1 l3), (pq.sw sw1 (by omega)).done (sr1 g6), o2, c.trans c2⟩
                  · simp
                    refine rest _ _ ?_
                    exact ⟨zs, by simp [h0], by simp [h1], by simp [h2], by simp [h3], by simp [h10], by simp [h8], by simp [h9], by simp [h11], sw.trans (sw1.mono l1 l3), pq.sw sw1 (by omega), o2, c.trans c2⟩
                · simp
                  refine rest _ _ ?_
                  exact ⟨ys, by simp [h0], by simp [h1], by simp [h2], by simp [h3], by simp [h10], by simp [h8], by simp [h9], by simp [h11], sw, pq, o, c⟩
              · simp [h0, h1, h2, h3, h8, h9, h11, h12, h62, g3, g4]
                refine rest _ _ ?_
                exact ⟨ys, by simp [h0], by simp [h1], by simp [h2], by simp [h3], by simp [h10], by simp [h8, g3], by simp [h9, g4], by simp [h11], sw, pq, o, c⟩
            · simp [h0, h1, h2, h3, h8, h9, h11, h12, h62, g3]
              refine rest _ _ ?_
              exact ⟨ys, by simp [h0], by simp [h1], by simp [h2], by simp [h3], by simp [h10], by simp [h8, g3], by simp [h9], by simp [h11], sw, pq, o, c⟩
          case rest3 =>
            clear h0 h1 h2 h3 h8 h9 h11 h12 sw pq o c len
            rintro t H1 ⟨ys, h0, h1, h2, h3, h10, h8, h9, h11, sw, pq, o, c⟩
            have len := sw.len
            have q1 : p < ys.length := by omega
            rw [go_draw (h := by kernel_rfl)]
            simp [h0, h1, h2, h3, h8, h9, h11]
            refine wp_joinc (F := ?F4) (k := ?k4) (d := ?d4) (Q := ?Q4) (fun r t => r = vcall C frz 208 [v, .int .i64 a, .int .i64 b, .int .i64 p] H1 ∧ t 0 = v ∧ t 1 = .int .i64 a ∧ t 2 = .int .i64 b ∧ t 3 = .int .i64 L ∧ t 10 = .int .i64 n1) ?main4 ?rest4
            case main4 =>
              intro rest
              refine wpg_dec ?_ ?_ <;> intro g3
              · have e5 : ∀ [Inhabited Unit], IntKind.i64.wrap ((a : Int) - 1) = ((a - 1 : Nat) : Int) := by intro _; rw [w64 (by omega) (by omega)]; omega
                have q2 : a - 1 < ys.length := by omega
                simp [h0, h1, h2, h3, h8, h9, h11, g3, e5, ow_ix o q1, ow_ix o q2, ow_ld o q1, ow_ld o q2, less_c]
                refine wp_dec ?_ ?_ <;> intro g4
                · simp [h0, h1, h2, h3, h8, h9, h11]
                  refine rest _ _ ?_
                  exact ⟨rfl, by simp [h0], by simp [h1], by simp [h2], by simp [h3], by simp [h10]⟩
                · simp [h0, h1, h2, h3, h8, h9, h11]
                  refine wp_thn (partEq_w v ys e a b p o hp (by omega) (by omega) hf) ?_
                  rintro _ H2 ⟨m, rfl, m1, m2, zs, sw1, ⟨f1, f2⟩, o2, c2, k2⟩
                  simp [h0, h1, h2, h3, h8, h9, h11]
                  have low := (pq.sw sw1 (by omega)).below g3
                  have out := sw1.out (by omega) (k := a - 1) (by omega)
                  refine ih (b - m) _ _ ⟨m, b, L, w1, w2, rfl, by simp [h0], by simp, by simp [h2], by simp [h3], by simp [h8], by simp [h9], zs, sw.trans (sw1.mono l1 l3), (pq.sw sw1 (by omega)).eq ⟨m1, m2⟩ (fun k k1 k2 => ?_) f1 f2, o2, c.trans c2⟩ (by omega)
                  have := low k k1 (by omega); omega
              · simp [h0, h1, h2, h3, h8, h9, h11, g3]
                refine rest _ _ ?_
                exact ⟨rfl, by simp [h0], by simp [h1], by simp [h2], by simp [h3], by simp [h10]⟩
            case rest4 =>
              rintro _ t ⟨rfl, h0, h1, h2, h3, h10⟩
              refine wp_thn (part_w v ys e a b p o hp (by omega) (by omega) hf) ?_
              rintro _ H2 ⟨m, d, rfl, m1, m2, zs, sw1, ⟨f1, f2⟩, o2, c2, k2⟩
              have pq2 := pq.sw sw1 (by omega)
              have len2 := sw1.len
              obtain ⟨r1, hr1⟩ : ∃ r1, r1 = m - a := ⟨_, rfl⟩
              obtain ⟨r2, hr2⟩ : ∃ r2, r2 = b - m := ⟨_, rfl⟩
              obtain ⟨mm, hmm⟩ : ∃ mm, mm = m + 1 := ⟨_, rfl⟩
              have e6 : ∀ [Inhabited Unit], IntKind.i64.wrap ((m : Int) - a) = (r1 : Int) := by intro _; rw [w64 (by omega) (by omega)]; omega
              have e7 : ∀ [Inhabited Unit], IntKind.i64.wrap ((b : Int) - m) = (r2 : Int) := by intro _; rw [w64 (by omega) (by omega)]; omega
              have e8 : ∀ [Inhabited Unit], IntKind.i64.wrap ((m : Int) + 1) = (mm : Int) := by intro _; rw [w64 (by omega) (by omega)]; omega
              have f1' : ∀ k, a ≤ k → k < m → G zs k ≤ G zs m := fun k k1 k2 => Int.le_of_lt (f1 k k1 k2)
              have cc := c.trans c2
              have q8 : ∀ [Inhabited Unit], IntKind.i64.wrap ((n1 : Int) / 8) = (n1 / 8 : Nat) := by intro _; rw [w64 (by omega) (by omega)]; omega
              obtain ⟨n8, hn8⟩ : ∃ n8, n8 = n1 / 8 := ⟨_, rfl⟩
              rw [← hn8] at q8
              simp [h0, h1, h2, h3, h10, e6, e7, e8, q8]
              refine wp_dec ?_ ?_ <;> intro g7
              · simp [h0, h1, h2, h3, h10]
                refine wp_thn (IH (m - a) (by omega) H2 v zs e a m L o2 (Nat.le_refl _) (by omega) (by omega) (by omega) (fun q0 k k1 k2 => pq2.below q0 k k1 (by omega)) hf (by have := cc.1; omega)) ?_
                rintro _ H3 ⟨ws, sw3, sr3, o3, c3⟩
                simp [h0, h1, h2, h3, h10, e8]
                have hbz : m ≤ zs.length := by omega
                have wm : G ws m = G zs m := sw3.out hbz (.inr (Nat.le_refl _))
                refine ih (b - mm) _ _ ⟨mm, b, L, decide (n8 ≤ r1), d, rfl, by simp [h0], by simp, by simp [h2], by simp [h3], by simp, by simp, ws, (sw.trans (sw1.mono l1 l3)).trans (sw3.mono l1 (by omega)), ?_, o3, cc.trans c3⟩ (by omega)
                rw [hmm]
                refine (pq2.sw (sw3.mono (Nat.le_refl _) (by omega)) (by omega)).goRight ⟨m1, m2⟩ sr3 ?_ (fun k k1 k2 => ?_)
                · rw [wm]; exact sw3.all hbz (p := fun y => y ≤ G zs m) f1'
                · rw [wm, sw3.out hbz (.inr (by omega))]; exact f2 k k1 k2
              · simp [h0, h1, h2, h3, h10, e8]
                refine wp_thn (IH (b - mm) (by omega) H2 v zs e mm b L o2 (Nat.le_refl _) (by omega) (by omega) (by omega) (fun q0 k k1 k2 => by rw [show mm - 1 = m by omega]; exact f2 k (by omega) k2) hf (by have := cc.1; omega)) ?_
                rintro _ H3 ⟨ws, sw3, sr3, o3, c3⟩
                simp [h0, h1, h2, h3, h10, e8]
                have hbz : b ≤ zs.length := by omega
                have wm : G ws m = G zs m := sw3.out hbz (.inl (by omega))
                refine ih (m - a) _ _ ⟨a, m, L, decide (n8 ≤ r2), d, rfl, by simp [h0], by simp [h1], by simp, by simp [h3], by simp, by simp, ws, (sw.trans (sw1.mono l1 l3)).trans (sw3.mono (by omega) l3), ?_, o3, cc.trans c3⟩ (by omega)
                refine (pq2.sw (sw3.mono (by omega) (Nat.le_refl _)) (by omega)).goLeft ⟨m1, m2⟩ (hmm ▸ sr3) (fun k k1 k2 => ?_) (fun k k1 k2 => ?_)
                · rw [wm, sw3.out hbz (.inl (by omega))]; exact f1' k k1 k2
                · rw [wm]; exact sw3.all hbz (p := fun y => G zs m ≤ y) (fun k k1 k2 => f2 k (by omega) k2) k (by omega) k2
/-- the sorted list -/
theorem sorted_eq {xs ys : List Int} (h1 : xs.Pairwise (· ≤ ·)) (h2 : ys.Pairwise (· ≤ ·)) (h : xs.Perm ys) : xs = ys :=
  List.Perm.eq_of_pairwise (le := (· ≤ ·)) (fun a b _ _ h1 h2 => Int.le_antisymm h1 h2) h1 h2 h
def isort (xs : List Int) : List Int := xs.mergeSort (fun a b => decide (a ≤ b))
theorem isort_perm (xs : List Int) : (isort xs).Perm xs := List.mergeSort_perm xs _
theorem isort_sorted (xs : List Int) : (isort xs).Pairwise (· ≤ ·) := by
  have := List.pairwise_mergeSort (le := fun a b : Int => decide (a ≤ b)) (fun a b c h1 h2 => by simp at *; omega) (fun a b => by simp; omega) xs
  exact this.imp (fun h => by simpa using h)
theorem isort_len (xs : List Int) : (isort xs).length = xs.length := (isort_perm xs).length_eq
theorem sort_w (v : Value) (xs : List Int) (e : TypeId) (h : Ow Fl.int e H v xs) (hl : xs.length ≤ 1073741824) (hf : ∀ i ∈ ids v, frz ≤ i) (hF : frz ≤ H.length) :
   wp (vcall C frz 108 [v] H) (fun _ H' => Ow Fl.int e H' v (isort xs) ∧ Chg H H' (ids v)) := by
  rw [vcall_go (fn := Tryz.f108) Tryz.func108 rfl (by kernel_rfl) rfl]
  have e1 : ∀ [Inhabited Unit], IntKind.u64.wrap (xs.length : Int) = (xs.length : Int) := by intro _; exact w64u (by omega) (by omega)
  simp [h.rd.len, e1]
  refine wp_thn (len_w xs.length (by omega)) ?_
  rintro _ H0 ⟨hH, n, rfl, _⟩
  rw [hH]
  simp
  have := pdq_w (frz := frz) xs.length H v xs e 0 xs.length n h (by omega) (by omega) (Nat.le_refl _) hl (fun h => by omega) hf hF
  refine wp_thn (by simpa using this) ?_
  rintro _ H1 ⟨ys, sw, sr, o, c⟩
  simp
  have hys : ys = isort xs := by
    have hp := sw.perm (Nat.le_refl _)
    rw [← sw.len] at sr
    exact sorted_eq sr.pairwise (isort_sorted xs) (hp.trans (isort_perm xs).symm)
  subst hys
  exact ⟨o, c⟩
end Go.Proofs.YtcigpclbhfkgaaaGreat.V
/-! Breaking a channel. -/
set_option linter.all false
namespace Go.Proofs.YtcigpclbhfkgaaaGreat.V
open Go Go.VM Go.Proofs
set_option maxRecDepth 10000
variable {frz : Nat} {H : Heap}
/-- a channel more is broken -/
def broke (b : List Int) (c : Int) : List Int := isort (b ++ [c])
def breakOk (w h : Int) (b : List Int) (c : Int) : Prop := meshOk w h b ∧ has w h b c
instance (w h : Int) (b : List Int) (c : Int) : Decidable (breakOk w h b c) := inferInstanceAs (Decidable (_ ∧ _))
def withBroken (w h : Int) (b : List Int) (c : Int) : List Int := if breakOk w h b c then broke b c else b
/-- insertion ahead of the first that is not less -/
theorem broke_eq {b : List Int} {c : Int} (hb : b.Pairwise (· < ·)) {k : Nat} (hk : k ≤ b.length) (h1 : ∀ j, j < k → b.getD j 0 < c) (h2 : k < b.length → c ≤ b.getD k 0) : b.take k ++ [c] ++ b.drop k = broke b c := by
  have hs : b.Pairwise (· ≤ ·) := hb.imp (fun h => Int.le_of_lt h)
  have g : ∀ {i : Nat} (hi : i < b.length), b.getD i 0 = b[i] := fun hi => by simp [List.getD_eq_getElem?_getD, hi]
  refine sorted_eq ?_ (isort_sorted _) ?_
  · rw [List.append_assoc, List.pairwise_append]
    refine ⟨hs.sublist (List.take_sublist _ _), ?_, fun x hx y hy => ?_⟩
    · rw [List.singleton_append, List.pairwise_cons]
      refine ⟨fun y hy => ?_, hs.sublist (List.drop_sublist _ _)⟩
      obtain ⟨i, hi, rfl⟩ := List.mem_iff_getElem.1 hy
      rw [List.getElem_drop]
      simp at hi
      have h3 := h2 (by omega)
      rw [g (by omega)] at h3
      by_cases hi0 : i = 0
      · subst hi0; exact h3
      · have := List.pairwise_iff_getElem.1 hs k (k + i) (by omega) (by omega) (by omega); omega
    · obtain ⟨i, hi, rfl⟩ := List.mem_iff_getElem.1 hx
      simp at hi
      rw [List.getElem_take]
      have h3 := h1 i (by omega)
      rw [g (by omega)] at h3
      simp at hy
      rcases hy with rfl | hy
      · omega
      · obtain ⟨j, hj, rfl⟩ := List.mem_iff_getElem.1 hy
        simp at hj
        rw [List.getElem_drop]
        exact List.pairwise_iff_getElem.1 hs i (k + j) (by omega) (by omega) (by omega)
  · refine List.Perm.trans ?_ (isort_perm _).symm
    have h4 : (b.take k ++ [c] ++ b.drop k).Perm (b.take k ++ (b.drop k ++ [c])) := by
      rw [List.append_assoc]
      exact (List.perm_append_left_iff _).2 (List.perm_append_comm)
    refine h4.trans ?_
    rw [← List.append_assoc, List.take_append_drop]
theorem brk_len {w h : Int} {b : List Int} (hm : meshOk w h b) : b.length ≤ 64 := by
  obtain ⟨_, h2, h3⟩ := (meshOk_iff w h b).1 hm
  have hc := cnt_range w h
  refine asc_length h3 (fun c hc' => ?_)
  have := (h2 c hc').1
  omega
theorem withBroken_w (w h : Int) (v : Value) (b : List Int) (c : Int) (hI : IsI H v b) (hl : b.length ≤ 1073741824) :
   wp (vcall C frz 52 [.agg #[.int .i64 w, .int .i64 h, v], .int .i64 c] H) (Made2 dMesh H (w, h, withBroken w h b c) (decide (breakOk w h b c))) := by
  rw [vcall_go (fn := Tryz.f52) Tryz.func52 rfl (by kernel_rfl) rfl]
  have one := And.intro hI.one' hI.cells
  simp [one]
  refine wp_thn (copyMesh_w w h v b (hI.app _) hl) ?_
  rintro _ H1 ⟨u, rfl, o1, c1, n1, d1⟩
  have cH : Chg H H1 [] := (Chg.app []).trans c1
  have l0 := cH.1
  have b0 : H1[H.length]? = some ⟨[.int .i64 w, .int .i64 h, v], 0, 40⟩ := box_chg (by simp) c1 (by simp)
  have b1 : H1[H.length + 1]? = some ⟨[.int .i64 0, .int .i64 0, .slice none 0 0], 0, 40⟩ := box_chg (by simp) c1 (by simp)
  have l1 := box_lt b1
  have hI1 := ((hI.rd).chg cH (by simp)).isI
  have ob : Ow Fl.int 3 H1 u b := o1.1
  have one1 := And.intro ob.rd.one' ob.rd.cells
  have n1' : ∀ i ∈ VM.ids u, H.length + 2 ≤ i := fun i hi => by have := n1 i hi; simp at this; omega
  have lu := o1.1.lt
  simp [dMesh_val, one, one1, VM.look, b0, b1, get_app' b0, get_app' b1, hasChannel_c _ _ _ _ _ (hI1.app _) hl, -Bool.decide_and]
  by_cases hok : breakOk w h b c
  · have hok' : meshOk w h b ∧ has w h b c := hok
    simp [hok', one, one1, VM.look, b0, b1, get_app' b0, get_app' b1, l0, Nat.le_add_right_of_le l0]
    have hlb : b.length ≤ 1000 := by have := brk_len hok.1; omega
    obtain ⟨u', H2, hap, o2, c2, n2⟩ := (ob.app (L := [⟨[.int .i64 w, .int .i64 h, u], 0, 40⟩])).push (P := Tryz.prog) (frz := H.length) (ty := 24) (a := c) (by simp) rfl (by omega) (fun i hi => by have := n1' i hi; omega)
    simp at hap n2
    have q2 : H2[H1.length]? = some ⟨[.int .i64 w, .int .i64 h, u], 0, 40⟩ := box_chg (by simp) c2 (fun hh => by have := lu _ hh; omega)
    have q1 : H2[H.length + 1]? = some ⟨[.int .i64 0, .int .i64 0, .slice none 0 0], 0, 40⟩ := box_chg (get_app' b1 _) c2 (fun hh => by have := n1' _ hh; omega)
    have k2 := box_lt q2
    have n2' : ∀ i ∈ VM.ids u', i ≠ H1.length ∧ H.length + 2 ≤ i := fun i hi => by
      rcases n2 i hi with h1 | h1
      · have := lu i h1; have := n1' i h1; omega
      · omega
    have q3 := set_get (r' := ⟨[.int .i64 w, .int .i64 h, u'], 0, 40⟩) q2
    have q4 : (H2.set H1.length ⟨[.int .i64 w, .int .i64 h, u'], 0, 40⟩)[H.length + 1]? = some ⟨[.int .i64 0, .int .i64 0, .slice none 0 0], 0, 40⟩ := box_chg q1 (chg_set _ _) (by simp; omega)
    have o3 := o2.chg (chg_set H1.length ⟨[.int .i64 w, .int .i64 h, u'], 0, 40⟩) (fun i hi hh => (n2' i hi).1 (List.mem_singleton.1 hh))
    have one3 := And.intro o2.rd.one' o2.rd.cells
    have c3 : Chg H H2 [] := (cH.trans (Chg.app (L := [⟨[.int .i64 w, .int .i64 h, u], 0, 40⟩]) [])).trans' c2 (fun i hi => .inr (by have := n1' i hi; omega))
    have c4 : Chg H2 (H2.set H1.length ⟨[.int .i64 w, .int .i64 h, u'], 0, 40⟩) [H1.length] := chg_set _ _
    simp [hap, one3, VM.look, q2, q3, q4, l0]
    generalize H2.set H1.length ⟨[.int .i64 w, .int .i64 h, u'], 0, 40⟩ = H3 at *
    refine wp_thn (sort_w u' (b ++ [c]) _ o3 (by simp; omega) (fun i hi => by have := n2' i hi; omega) (by have := c4.1; omega)) ?_
    rintro _ H4 ⟨o5, c5⟩
    have q5 : H4[H1.length]? = some ⟨[.int .i64 w, .int .i64 h, u'], 0, 40⟩ := box_chg q3 c5 (fun hh => by have := n2' _ hh; omega)
    have q6 : H4[H.length + 1]? = some ⟨[.int .i64 0, .int .i64 0, .slice none 0 0], 0, 40⟩ := box_chg q4 c5 (fun hh => by have := n2' _ hh; omega)
    have q7 := set_get (r' := ⟨[.int .i64 w, .int .i64 h, u'], 0, 40⟩) q6
    simp [one3, VM.look, q5, q6, q7]
    have cc : Chg H H4 [] := (c3.trans' c4 (fun i hi => .inr (by simp at hi; omega))).trans' c5 (fun i hi => .inr (by have := n2' i hi; omega))
    refine ⟨.agg #[.int .i64 w, .int .i64 h, u'], by simp [hok], u', by simp [withBroken, hok, broke, dMesh_val], ⟨o5.chg (chg_set (H.length + 1) _) (fun i hi hh => by have := n2' i hi; have := List.mem_singleton.1 hh; omega) |> fun hh => by simpa [withBroken, hok, broke] using hh, by simp [withBroken, hok, broke, isort_len]; omega⟩, cc.trans' (chg_set _ _) (fun i hi => .inr (by simp at hi; omega)), fun i hi => by have := n2' i hi; omega, ids_nodup u'⟩
  · have hok' : ¬ (meshOk w h b ∧ has w h b c) := hok
    have g := set_get (r' := ⟨[.int .i64 w, .int .i64 h, u], 0, 40⟩) (get_app' b1 [⟨[.int .i64 w, .int .i64 h, u], 0, 40⟩])
    simp [hok', one, one1, VM.look, b0, b1, get_app' b0, get_app' b1, l0, Nat.le_add_right_of_le l0, g]
    refine ⟨.agg #[.int .i64 w, .int .i64 h, u], by simp [hok], u, by simp [withBroken, hok, dMesh_val], ⟨by simpa [withBroken, hok] using ob.app.chg (chg_set _ _) (fun i hi hh => by have := n1' i hi; simp at hh; omega), by simpa [withBroken, hok] using hl⟩, (cH.trans (Chg.app [])).trans' (chg_set _ _) (fun i hi => .inr (by simp at hi; omega)), fun i hi => by have := n1' i hi; omega, ids_nodup u⟩
theorem sHasChannel_c (w h : Int) (v : Value) (b : List Int) (c : Int) (hI : IsI H v b) (hl : b.length ≤ 1073741824) :
   vcall C frz 99 [.agg #[.int .i64 w, .int .i64 h, v], .int .i64 c] H = some (.bool (decide (meshOk w h b ∧ has w h b c)), H) := by
  rw [vcall_go (fn := Tryz.f99) Tryz.func99 rfl (by kernel_rfl) rfl]
  simp [hI.one', hI.cells, sMeshOk_c _ _ _ _ (hI.app _) hl]
  refine gd_dec _ _ ?_ ?_ <;> intro h1 <;> simp [h1, hI.one', hI.cells, l03Has_c _ _ _ _ _ (hI.app _) hl, -Bool.decide_and]
theorem sWithBroken_w (w h : Int) (v : Value) (b : List Int) (c : Int) (hO : Ow Fl.int 3 H v b) (hl : b.length ≤ 1073741824) :
   wp (vcall C frz 45 [.agg #[.int .i64 w, .int .i64 h, v], .int .i64 c] H) (Made2 dMesh H (w, h, withBroken w h b c) (decide (breakOk w h b c))) := by
  rw [vcall_go (fn := Tryz.f45) Tryz.func45 rfl (by kernel_rfl) rfl]
  have hI := hO.rd.isI
  have one := And.intro hI.one' hI.cells
  simp [one]
  refine wp_thn (l15Mesh_w w h v b (hI.app _) hl) ?_
  rintro _ H1 ⟨u, rfl, o1, c1, n1, d1⟩
  have cH : Chg H H1 [] := (Chg.app []).trans c1
  have l0 := cH.1
  have b0 : H1[H.length]? = some ⟨[.int .i64 w, .int .i64 h, v], 0, 40⟩ := box_chg (by simp) c1 (by simp)
  have b1 : H1[H.length + 1]? = some ⟨[.int .i64 0, .int .i64 0, .slice none 0 0], 0, 40⟩ := box_chg (by simp) c1 (by simp)
  have l1 := box_lt b1
  have hI1 := ((hI.rd).chg cH (by simp)).isI
  have ob : Ow Fl.int 3 H1 u b := o1.1
  have one1 := And.intro ob.rd.one' ob.rd.cells
  have n1' : ∀ i ∈ VM.ids u, H.length + 2 ≤ i := fun i hi => by have := n1 i hi; simp at this; omega
  have lu := o1.1.lt
  simp [dMesh_val, one, one1, VM.look, b0, b1, get_app' b0, get_app' b1, sHasChannel_c _ _ _ _ _ (hI1.app _) hl, -Bool.decide_and]
  by_cases hok : breakOk w h b c
  · have hok' : meshOk w h b ∧ has w h b c := hok
    simp [hok', one, one1, VM.look, b0, b1, get_app' b0, get_app' b1, l0, Nat.le_add_right_of_le l0]
    have hlb : b.length ≤ 1000 := by have := brk_len hok.1; omega
    have pw := ((meshOk_iff w h b).1 hok.1).2.2
    clear hI1 o1
    refine wp_joino (F := ?F) (k := ?k) (o := ?o) (Q := ?Q) (fun t H' => ∃ (i : Nat) (u : Value), i ≤ b.length ∧ (∀ j, j < i → b.getD j 0 < c) ∧ (i < b.length → c ≤ b.getD i 0) ∧ t 1 = .int .i64 c ∧ t 2 = .pointer (some ⟨H.length, 0, some 0⟩) ∧ t 4 = .pointer (some ⟨H.length + 1, 0, some 0⟩) ∧ t 6 = .pointer (some ⟨H1.length, 0, some 0⟩) ∧ t 7 = .int .i64 i ∧
        H'[H.length]? = some ⟨[.int .i64 w, .int .i64 h, v], 0, 40⟩ ∧ H'[H.length + 1]? = some ⟨[.int .i64 0, .int .i64 0, .slice none 0 0], 0, 40⟩ ∧ H'[H1.length]? = some ⟨[.int .i64 w, .int .i64 h, u], 0, 40⟩ ∧
        Ow Fl.int 3 H' u (b.take i) ∧ (∀ i ∈ VM.ids u, i ≠ H1.length ∧ H.length + 2 ≤ i) ∧ Chg H H' []) ?main ?rest
    case main =>
     intro rest
     refine wp_inv (fun n t H' => ∃ (i : Nat) (u : Value), n = b.length - i ∧ i ≤ b.length ∧ (∀ j, j < i → b.getD j 0 < c) ∧ t 1 = .int .i64 c ∧ t 2 = .pointer (some ⟨H.length, 0, some 0⟩) ∧ t 4 = .pointer (some ⟨H.length + 1, 0, some 0⟩) ∧ t 6 = .pointer (some ⟨H1.length, 0, some 0⟩) ∧ t 7 = .int .i64 i ∧
         H'[H.length]? = some ⟨[.int .i64 w, .int .i64 h, v], 0, 40⟩ ∧ H'[H.length + 1]? = some ⟨[.int .i64 0, .int .i64 0, .slice none 0 0], 0, 40⟩ ∧ H'[H1.length]? = some ⟨[.int .i64 w, .int .i64 h, u], 0, 40⟩ ∧
         Ow Fl.int 3 H' u (b.take i) ∧ (∀ i ∈ VM.ids u, i ≠ H1.length ∧ H.length + 2 ≤ i) ∧ Chg H H' []) ?_ (n := b.length)
       ⟨0, .slice (some ⟨H1.length + 1, 0, some 0⟩) 0 0, rfl, by omega, fun j hj => by omega, by simp, by simp, by simp, by simp, by simp, get_app' b0 _, get_app' b1 _, by simp, by simpa using Ow.new (D := Fl.int) (e := 3) (xs := []) (H := H1) (L := [⟨[.int .i64 w, .int .i64 h, .slice (some ⟨H1.length + 1, 0, some 0⟩) 0 0], 0, 40⟩, ⟨[], 0, 3⟩]) (k := 1) (by simp) rfl rfl rfl,
         fun i hi => by simp at hi; omega, cH.trans (Chg.app [])⟩
     rintro n t H' ⟨i, u, rfl, hi, hlow, t1, t2, t4, t6, t7, b0, b1, b2, o, nu, ch⟩ ih
     have hI1 := ((hI.rd).chg ch (by simp)).isI
     have one1 := And.intro o.rd.one' o.rd.cells
     have lu := o.lt
     have k2 := box_lt b2
     have l0' := ch.1
     simp [t1, t2, t4, t6, t7, VM.look, b0, hI1.len]
     refine wpg_dec ?_ ?_ <;> intro g1
     · have q1 := hI1.idx (P := Tryz.prog) (ty := 24) (e := 3) (by simp) (i := (i : Int)) (by omega) (by omega)
       have r1 := hI1.load (P := Tryz.prog) (e := 3) (by simp) g1
       simp only [Int.toNat_natCast] at q1
       have r1' : vload Tryz.prog H' 3 (elp v i) = some (.int .i64 (G b i)) := r1
       simp [t1, t2, t4, t6, t7, VM.look, b0, hI1.len, g1, q1, r1']
       refine wp_dec ?_ ?_ <;> intro g2
       · simp [t1, t2, t4, t6, t7]
         rw [go_draw (h := by kernel_rfl)]
         obtain ⟨u', H2, hap, o2, c2, n2⟩ := o.push (P := Tryz.prog) (frz := H.length) (ty := 24) (a := G b i) (by simp) rfl (by simp; omega) (fun i hi => by have := nu i hi; omega)
         simp only [Fl.int_f] at hap
         have p1 : H2[H1.length]? = some ⟨[.int .i64 w, .int .i64 h, u], 0, 40⟩ := box_chg b2 c2 (fun hh => (nu _ hh).1 rfl)
         have p2 := set_get (r' := ⟨[.int .i64 w, .int .i64 h, u'], 0, 40⟩) p1
         have nu' : ∀ i ∈ VM.ids u', i ≠ H1.length ∧ H.length + 2 ≤ i := fun i hi => by
           rcases n2 i hi with h1 | h1
           · exact nu i h1
           · omega
         have one2 := And.intro o2.rd.one' o2.rd.cells
         have l2 := c2.1
         have ne1 : H1.length ≠ H.length := by omega
         have ne2 : H1.length ≠ H.length + 1 := by omega
         simp [t1, t2, t4, t6, t7, VM.look, b0, b2, q1, r1', one1, hI1.one', hI1.cells, hap, p1, one2, l0]
         refine ih (b.length - (i + 1)) _ _ ⟨i + 1, u', rfl, by omega, fun j hj => ?_, by simp [t1], by simp [t2], by simp [t4], by simp [t6], ?_, ?_, ?_, p2, ?_, nu', ?_⟩ (by omega)
         · by_cases hji : j = i
           · subst hji; exact g2
           · exact hlow j (by omega)
         · simp; rw [w64 (by omega) (by omega)]
         · exact box_chg (box_chg b0 c2 (fun hh => by have := nu _ hh; omega)) (chg_set _ _) (by simp; omega)
         · exact box_chg (box_chg b1 c2 (fun hh => by have := nu _ hh; omega)) (chg_set _ _) (by simp; omega)
         · have := o2.chg (chg_set H1.length ⟨[.int .i64 w, .int .i64 h, u'], 0, 40⟩) (fun i hi hh => (nu' i hi).1 (List.mem_singleton.1 hh))
           rw [List.take_succ_eq_append_getElem g1, ← G_get g1]; exact this
         · exact (ch.trans' c2 (fun i hi => .inr (by have := nu i hi; omega))).trans' (chg_set _ _) (fun i hi => .inr (by simp at hi; omega))
       · simp [t1, t2, t4, t6, t7, -go_exit_blk]
         refine rest _ _ ?_
         exact ⟨i, u, hi, hlow, fun _ => by have : ¬ b.getD i 0 < c := g2; omega, by simp [t1], by simp [t2], by simp [t4], by simp [t6], by simp [t7], b0, b1, b2, o, nu, ch⟩
     · simp [t1, t2, t4, t6, t7, g1, -go_exit_blk]
       refine rest _ _ ?_
       exact ⟨i, u, hi, hlow, fun hh => absurd hh g1, by simp [t1], by simp [t2], by simp [t4], by simp [t6], by simp [t7], b0, b1, b2, o, nu, ch⟩
    case rest =>
     rintro t H' ⟨i, u, hi, hlow, hhi, t1, t2, t4, t6, t7, b0, b1, b2, o, nu, ch⟩
     have hI1 := ((hI.rd).chg ch (by simp)).isI
     have one1 := And.intro o.rd.one' o.rd.cells
     have hlt : (b.take i).length = i := by simp; omega
     have l0' := ch.1
     have hmin : min i b.length = i := Nat.min_eq_left hi
     have k2 := box_lt b2
     obtain ⟨u', H2, hap, o2, c2, n2⟩ := o.push (P := Tryz.prog) (frz := H.length) (ty := 24) (a := c) (by simp) rfl (by simp; omega) (fun i hi => by have := nu i hi; omega)
     simp only [Fl.int_f] at hap
     have p0 : H2[H.length]? = some ⟨[.int .i64 w, .int .i64 h, v], 0, 40⟩ := box_chg b0 c2 (fun hh => by have := nu _ hh; omega)
     have p1 : H2[H1.length]? = some ⟨[.int .i64 w, .int .i64 h, u], 0, 40⟩ := box_chg b2 c2 (fun hh => (nu _ hh).1 rfl)
     have p3 : H2[H.length + 1]? = some ⟨[.int .i64 0, .int .i64 0, .slice none 0 0], 0, 40⟩ := box_chg b1 c2 (fun hh => by have := nu _ hh; omega)
     have p2 := set_get (r' := ⟨[.int .i64 w, .int .i64 h, u'], 0, 40⟩) p1
     have p4 : (H2.set H1.length ⟨[.int .i64 w, .int .i64 h, u'], 0, 40⟩)[H.length]? = _ := box_chg p0 (chg_set _ _) (by simp; omega)
     have p5 : (H2.set H1.length ⟨[.int .i64 w, .int .i64 h, u'], 0, 40⟩)[H.length + 1]? = _ := box_chg p3 (chg_set _ _) (by simp; omega)
     have nu' : ∀ i ∈ VM.ids u', i ≠ H1.length ∧ H.length + 2 ≤ i := fun i hi => by
       rcases n2 i hi with h1 | h1
       · exact nu i h1
       · omega
     have one2 := And.intro o2.rd.one' o2.rd.cells
     have c4 : Chg H2 (H2.set H1.length ⟨[.int .i64 w, .int .i64 h, u'], 0, 40⟩) [H1.length] := chg_set _ _
     have ch3 := (ch.trans' c2 (fun i hi => .inr (by have := nu i hi; omega))).trans' c4 (fun i hi => .inr (by simp at hi; omega))
     have o3 := o2.chg c4 (fun i hi hh => (nu' i hi).1 (List.mem_singleton.1 hh))
     simp [t1, t2, t4, t6, t7, VM.look, b2, one1, o.rd.len, hmin, hap, p1, one2, l0]
     rw [go_draw (h := by kernel_rfl)]
     generalize H2.set H1.length ⟨[.int .i64 w, .int .i64 h, u'], 0, 40⟩ = H3 at *
     have hI3 := ((hI.rd).chg ch3 (by simp)).isI
     obtain ⟨z, hz, oz, nz⟩ := (hO.chg ch3 (by simp)).slice (P := Tryz.prog) (ty := 24) (lo := some (.int .i64 (i : Int))) (hi := none) (l := i) (u := b.length) (by simp) rfl rfl hi (Nat.le_refl _)
     have hbi : (b.drop i).take (b.length - i) = b.drop i := List.take_of_length_le (by simp)
     rw [hbi] at oz
     obtain ⟨u2, H5, hap2, o5, c5, n5⟩ := o3.append (P := Tryz.prog) (frz := H.length) (ty := 24) oz.rd (by simp) (ones_ints _) (by simp; omega) (fun i hi => by have := nu' i hi; omega)
     have s1 : H5[H1.length]? = some ⟨[.int .i64 w, .int .i64 h, u'], 0, 40⟩ := box_chg p2 c5 (fun hh => (nu' _ hh).1 rfl)
     have s2 : H5[H.length + 1]? = some ⟨[.int .i64 0, .int .i64 0, .slice none 0 0], 0, 40⟩ := box_chg p5 c5 (fun hh => by have := nu' _ hh; omega)
     have s3 := set_get (r' := ⟨[.int .i64 w, .int .i64 h, u2], 0, 40⟩) s1
     have s4 : (H5.set H1.length ⟨[.int .i64 w, .int .i64 h, u2], 0, 40⟩)[H.length + 1]? = _ := box_chg s2 (chg_set _ _) (by simp; omega)
     have k3 := box_lt p2
     have nu2 : ∀ i ∈ VM.ids u2, i ≠ H1.length ∧ H.length + 2 ≤ i := fun i hi => by
       rcases n5 i hi with h1 | h1
       · exact nu' i h1
       · have := box_lt p5; omega
     have one5 := And.intro o5.rd.one' o5.rd.cells
     have c6 : Chg H5 (H5.set H1.length ⟨[.int .i64 w, .int .i64 h, u2], 0, 40⟩) [H1.length] := chg_set _ _
     have ch6 := (ch3.trans' c5 (fun i hi => .inr (by have := nu' i hi; omega))).trans' c6 (fun i hi => .inr (by simp at hi; omega))
     have o6 := o5.chg c6 (fun i hi hh => (nu2 i hi).1 (List.mem_singleton.1 hh))
     have s5 := set_get (r' := ⟨[.int .i64 w, .int .i64 h, u2], 0, 40⟩) s4
     simp [t1, t2, t4, t6, t7, VM.look, one, one2, p2, p4, p5, l0, hz, hap2, s1, s2, s3, s4, one5]
     generalize H5.set H1.length ⟨[.int .i64 w, .int .i64 h, u2], 0, 40⟩ = H6 at *
     simp [VM.look, s4, s5]
     have heq : b.take i ++ [c] ++ b.drop i = broke b c := broke_eq pw hi hlow hhi
     rw [heq] at o6
     refine ⟨.agg #[.int .i64 w, .int .i64 h, u2], by simp [hok], u2, by simp [withBroken, hok, dMesh_val], ⟨?_, by simp [withBroken, hok, broke, isort_len]; omega⟩, ch6.trans' (chg_set _ _) (fun i hi => .inr (by simp at hi; omega)), fun i hi => by have := nu2 i hi; omega, ids_nodup u2⟩
     have := o6.chg (chg_set (H.length + 1) ⟨[.int .i64 w, .int .i64 h, u2], 0, 40⟩) (fun i hi hh => by have := nu2 i hi; have := List.mem_singleton.1 hh; omega)
     simpa [withBroken, hok] using this
  · have hok' : ¬ (meshOk w h b ∧ has w h b c) := hok
    have g := set_get (r' := ⟨[.int .i64 w, .int .i64 h, u], 0, 40⟩) (get_app' b1 [⟨[.int .i64 w, .int .i64 h, u], 0, 40⟩])
    simp [hok', one, one1, VM.look, b0, b1, get_app' b0, get_app' b1, l0, Nat.le_add_right_of_le l0, g]
    refine ⟨.agg #[.int .i64 w, .int .i64 h, u], by simp [hok], u, by simp [withBroken, hok, dMesh_val], ⟨by simpa [withBroken, hok] using ob.app.chg (chg_set _ _) (fun i hi hh => by have := n1' i hi; simp at hh; omega), by simpa [withBroken, hok] using hl⟩, (cH.trans (Chg.app [])).trans' (chg_set _ _) (fun i hi => .inr (by simp at hi; omega)), fun i hi => by have := n1' i hi; omega, ids_nodup u⟩
theorem withBroken_d {v : Value} {w h : Int} {b : List Int} {c : Int} (o : dMesh.Ow H v (w, h, b)) : wp (vcall C frz 52 [dMesh.val v (w, h, b), .int .i64 c] H) (Made2 dMesh H (w, h, withBroken w h b c) (decide (breakOk w h b c))) := withBroken_w w h v b c o.1.rd.isI o.2
theorem sWithBroken_d {v : Value} {w h : Int} {b : List Int} {c : Int} (o : dMesh.Ow H v (w, h, b)) : wp (vcall C frz 45 [dMesh.val v (w, h, b), .int .i64 c] H) (Made2 dMesh H (w, h, withBroken w h b c) (decide (breakOk w h b c))) := sWithBroken_w w h v b c o.1 o.2
end Go.Proofs.YtcigpclbhfkgaaaGreat.V
