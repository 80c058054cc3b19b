/- Texts of a proof, joined. -/
import Derived.Test.YtnakhkfgheapoaaKM0
import Derived.Test.YtnakhkfgheapoaaKM1
import Derived.Test.YtnakhkfgheapoaaKFnMulticast0
/-! slices.Compact on ints. -/
set_option linter.all false
namespace Go.Proofs.Ytnakhkfgheapoaa.V
open Go Go.VM Go.Proofs
set_option maxRecDepth 10000
variable {frz : Nat} {H : Heap} {v : Value} {xs ys : List Int} {e : TypeId}
/-- the first j elements without those that equal the one before them -/
def dk (xs : List Int) : Nat → List Int
  | 0 => []
  | j + 1 => if 0 < j ∧ G xs (j - 1) = G xs j then dk xs j else dk xs j ++ [G xs j]
def compact (xs : List Int) : List Int := dk xs xs.length
theorem dk_len (xs : List Int) : ∀ j, (dk xs j).length ≤ j
  | 0 => Nat.le_refl _
  | j + 1 => by
    have := dk_len xs j
    unfold dk; split <;> simp <;> omega
theorem take_G {xs : List Int} {j : Nat} (h : j < xs.length) : xs.take (j + 1) = xs.take j ++ [G xs j] := by rw [List.take_succ_eq_append_getElem h, G_get h]
theorem dk_sorted {xs : List Int} (hs : xs.Pairwise (· ≤ ·)) : ∀ j, j ≤ xs.length → (dk xs j).Pairwise (· < ·) ∧ (∀ x, x ∈ dk xs j ↔ x ∈ xs.take j)
  | 0, _ => by simp [dk]
  | j + 1, hj => by
    obtain ⟨h1, h2⟩ := dk_sorted hs j (by omega)
    have hjl : j < xs.length := by omega
    rw [take_G hjl]
    have mem_le : ∀ x ∈ xs.take j, ∃ i, i < j ∧ x = G xs i ∧ (i < j - 1 → x ≤ G xs (j - 1)) ∧ x ≤ G xs j := by
      intro x hx
      obtain ⟨i, hi, rfl⟩ := List.mem_iff_getElem.1 hx
      simp at hi
      rw [List.getElem_take]
      refine ⟨i, by omega, (G_get (by omega)).symm, fun h => ?_, ?_⟩
      · rw [G_get (by omega)]; exact List.pairwise_iff_getElem.1 hs i (j - 1) (by omega) (by omega) (by omega)
      · rw [G_get hjl]; exact List.pairwise_iff_getElem.1 hs i j (by omega) (by omega) (by omega)
    unfold dk
    split
    · rename_i hc
      refine ⟨h1, fun x => ?_⟩
      rw [h2, List.mem_append, List.mem_singleton]
      refine ⟨.inl, fun hh => hh.elim id fun hx => ?_⟩
      rw [hx, ← hc.2, G_get (by omega), ← List.getElem_take (j := j) (h := by simp; omega)]
      exact List.getElem_mem _
    · rename_i hc
      refine ⟨?_, fun x => by rw [List.mem_append, List.mem_append, h2]⟩
      rw [List.pairwise_append]
      refine ⟨h1, by simp, fun x hx y hy => ?_⟩
      rw [List.mem_singleton.1 hy]
      obtain ⟨i, hi, he, hl, hle⟩ := mem_le x ((h2 x).1 hx)
      by_cases hij : i = j - 1
      · have h0 : 0 < j := by omega
        have : G xs (j - 1) ≠ G xs j := fun hh => hc ⟨h0, hh⟩
        rw [hij] at he
        omega
      · have h3 := hl (by omega)
        have h0 : 0 < j := by omega
        have : G xs (j - 1) ≠ G xs j := fun hh => hc ⟨h0, hh⟩
        have h4 : G xs (j - 1) ≤ G xs j := by
          rw [G_get (by omega), G_get hjl]; exact List.pairwise_iff_getElem.1 hs (j - 1) j (by omega) (by omega) (by omega)
        omega
theorem compact_sorted {xs : List Int} (hs : xs.Pairwise (· ≤ ·)) : (compact xs).Pairwise (· < ·) ∧ ∀ x, x ∈ compact xs ↔ x ∈ xs := by
  obtain ⟨h1, h2⟩ := dk_sorted hs xs.length (Nat.le_refl _)
  exact ⟨h1, fun x => by rw [compact, h2, List.take_length]⟩
/-- strictly ascending lists with the same members are equal -/
theorem asc_ext : ∀ {xs ys : List Int}, xs.Pairwise (· < ·) → ys.Pairwise (· < ·) → (∀ x, x ∈ xs ↔ x ∈ ys) → xs = ys := by
  intro xs ys h1 h2 h
  refine sorted_eq (h1.imp (fun h => Int.le_of_lt h)) (h2.imp (fun h => Int.le_of_lt h)) ?_
  exact (List.perm_ext_iff_of_nodup (h1.imp (fun h => by omega)) (h2.imp (fun h => by omega))).2 h
/-- a slice's tail, told once for all heaps -/
theorem ow_tail (o : Ow Fl.int 3 H v xs) (h0 : 0 < xs.length) {l : Nat} (hl : l ≤ xs.length) : ∃ z, ∀ (H' : Heap) (ys : List Int), Ow Fl.int 3 H' v ys → ys.length = xs.length →
    vslice Try.prog H' 22 (some (.int .i64 (l : Nat))) none v = some z ∧ Ow Fl.int 3 H' z (ys.drop l) ∧ ids z = ids v := by
  rcases o with ⟨_, rfl⟩ | ⟨id, off, r, rfl, k2, k3, k4, k5, k6⟩
  · simp at h0
  · refine ⟨.slice (some ⟨id, off + l * 1, some r.gen⟩) (xs.length - l) 0, fun H' ys o' hlen => ?_⟩
    obtain ⟨z', h1, h2, h3⟩ := o'.slice (P := Try.prog) (ty := 22) (lo := some (.int .i64 (l : Int))) (hi := none) (l := l) (u := ys.length) (by simp) rfl rfl (by omega) (Nat.le_refl _)
    have e : (ys.drop l).take (ys.length - l) = ys.drop l := List.take_of_length_le (by simp)
    rw [e] at h2
    have hz : z' = .slice (some ⟨id, off + l * 1, some r.gen⟩) (xs.length - l) 0 := by
      rcases o' with ⟨hv, _⟩ | ⟨id', off', r', hv, q2, q3, q4, q5, q6⟩
      · cases hv
      · injection hv with hv1 hv2
        injection hv1 with hv1
        injection hv1 with i1 i2 i3
        injection i3 with i3
        subst i1 i2
        have hle : (l : Int) ≤ (xs.length : Int) := by omega
        simp [vslice, VM.look, q2, i3, vbound, q5, hle] at h1
        simp [← h1, i3]
    rw [← hz]
    exact ⟨h1, h2, h3⟩
/-- the tail is cleared -/
theorem ow_clear (o : Ow Fl.int 3 H v ys) (h0 : 0 < ys.length) {l : Nat} (hl : l ≤ ys.length) {z : Value} (hz : vslice Try.prog H 22 (some (.int .i64 (l : Nat))) none v = some z) (hf : ∀ i ∈ ids v, frz ≤ i) :
    ∃ H' zs, vclear Try.prog frz H 22 z = some (undef, H') ∧ zs.length = ys.length ∧ zs.take l = ys.take l ∧ Ow Fl.int 3 H' v zs ∧ Chg H H' (ids v) := by
  rcases o with ⟨_, rfl⟩ | ⟨id, off, r, rfl, k2, k3, k4, k5, k6⟩
  · simp at h0
  · have hle : (l : Int) ≤ (ys.length : Int) := by omega
    simp [vslice, VM.look, k2, vbound, k5, hle] at hz
    subst hz
    have hfr : frz ≤ id := hf id (by simp)
    have hn : Fl.int.n = 1 := rfl
    rw [hn] at k3 k4
    have hroom : off + l + (ys.length - l) ≤ r.cells.length := by omega
    refine ⟨H.set id { r with cells := VM.splice r.cells (off + l) (List.replicate (ys.length - l) [Value.int .i64 0]).flatten }, ys.take l ++ List.replicate (ys.length - l) 0, ?_, by simp; omega, by rw [List.take_append_of_le_length (by simp; omega), List.take_take, Nat.min_self], ?_, chg_set _ _⟩
    · simp [vclear, VM.look, k2, hfr, hroom, ones, VM.one]
    · have hcl : ((List.replicate (ys.length - l) [Value.int .i64 0]).flatten).length = ys.length - l := by simp
      have hlt : id < H.length := box_lt k2
      have hzl : (ys.take l ++ List.replicate (ys.length - l) (0 : Int)).length = ys.length := by simp; omega
      refine .inr ⟨id, off, { r with cells := VM.splice r.cells (off + l) (List.replicate (ys.length - l) [Value.int .i64 0]).flatten }, by rw [hzl], by simp [hlt], ?_, ?_, k5, ones_splice k6 (by simp [ones, VM.one])⟩
      · rw [hzl, hn, splice_region k3 k4 (by rw [hcl]; omega), cellsOf_int, cellsOf_int]
        unfold VM.splice
        rw [hcl]
        have e1 : (List.map (Value.int .i64) ys).drop (l + (ys.length - l)) = [] := by rw [List.drop_eq_nil_iff]; simp; omega
        rw [e1, List.append_nil, List.map_append, List.map_take]
        simp
      · rw [hzl, hn, splice_len (by rw [hcl]; omega)]; exact k4
theorem compact_w (v : Value) (xs : List Int) (h : Ow Fl.int 3 H v xs) (hl : xs.length ≤ 1073741824) (hf : ∀ i ∈ ids v, frz ≤ i) :
   wp (vcall C frz 113 [v] H) (fun u H' => Ow Fl.int 3 H' u (compact xs) ∧ (∀ i ∈ ids u, i ∈ ids v) ∧ Chg H H' (ids v)) := by
  rw [vcall_go (fn := Try.f113) Try.func113 rfl (by kernel_rfl) rfl]
  simp [h.rd.len]
  have dk1 : dk xs 1 = [G xs 0] := by simp [dk]
  refine wp_dec ?_ ?_ <;> intro g0
  · simp
    have : compact xs = xs := by
      match xs, g0 with
      | [], _ => rfl
      | [a], _ => simp [compact, dk, G]
      | a :: b :: l, g => simp at g; omega
    rw [this]
    exact ⟨h, Chg.refl _⟩
  · simp
    have hl1 := h.rd.len (P := Try.prog) (ty := 22) (by simp)
    refine wp_inv (fun n t H' => ∃ i : Nat, n = xs.length - i ∧ 1 ≤ i ∧ i ≤ xs.length ∧ t 0 = v ∧ t 3 = .int .i64 i ∧ H' = H ∧ dk xs i = xs.take i) ?_ (n := xs.length - 1)
      ⟨1, rfl, by omega, by omega, by simp, by simp, rfl, by rw [dk1, take_G (by omega)]; rfl⟩
    rintro n t H' ⟨i, rfl, hi1, hi, t0, t3, hH, hd⟩ ih
    rw [hH]
    simp [t0, t3, hl1]
    refine wp_dec ?_ ?_ <;> intro g1
    · have e1 : ∀ [Inhabited Unit], IntKind.i64.wrap ((i : Int) - 1) = ((i - 1 : Nat) : Int) := by intro _; rw [w64 (by omega) (by omega)]; omega
      have p2 : i - 1 < xs.length := by omega
      simp [t0, t3]
      rw [go_draw (h := by kernel_rfl)]
      simp [t0, t3, e1, ow_ix h g1, ow_ix h p2, ow_ld h g1, ow_ld h p2]
      refine wp_dec ?_ ?_ <;> intro g2
      · obtain ⟨z, hz⟩ := ow_tail h (by omega) (l := i) (by omega)
        obtain ⟨z1, _, z3⟩ := hz H xs h rfl
        simp [t0, t3, z1]
        have dki : dk xs (i + 1) = xs.take i := by
          have : 0 < i ∧ G xs (i - 1) = G xs i := ⟨by omega, g2.symm⟩
          unfold dk; rw [if_pos this, hd]
        refine wp_inv (fun n t H' => ∃ (k j : Nat) (ys : List Int), n = xs.length - (i + j) ∧ 1 ≤ j ∧ i + j ≤ xs.length ∧ k < i + j ∧ t 0 = v ∧ t 3 = .int .i64 k ∧ t 4 = z ∧ t 5 = .int .i64 j ∧ ys.length = xs.length ∧ ys.take k = dk xs (i + j) ∧ (∀ m, i + j ≤ m + 1 → G ys m = G xs m) ∧
            Ow Fl.int 3 H' v ys ∧ Chg H H' (ids v)) ?_ (n := xs.length - (i + 1))
          ⟨i, 1, xs, rfl, by omega, by omega, by omega, by simp [t0], by simp [t3], by simp, by simp, rfl, dki.symm, fun m hm => rfl, h, Chg.refl _⟩
        clear ih hH t0 t3
        rintro n t H' ⟨k, j, ys, rfl, hj1, hj, hk, t0, t3, t4, t5, hlen, htk, hG, o, ch⟩ ih
        obtain ⟨z1', oz, _⟩ := hz H' ys o hlen
        have lz := oz.rd.len (P := Try.prog) (ty := 22) (by simp)
        have hzl : (ys.drop i).length = xs.length - i := by simp [hlen]
        simp [t0, t3, t4, t5, lz, hlen]
        refine wp_dec ?_ ?_ <;> intro g3
        · have p1 : j < (ys.drop i).length := by omega
          have p2' : j - 1 < (ys.drop i).length := by omega
          have e2 : ∀ [Inhabited Unit], IntKind.i64.wrap ((j : Int) - 1) = ((j - 1 : Nat) : Int) := by intro _; rw [w64 (by omega) (by omega)]; omega
          have e3 : ∀ [Inhabited Unit], IntKind.i64.wrap ((j : Int) + 1) = ((j + 1 : Nat) : Int) := by intro _; rw [w64 (by omega) (by omega)]; omega
          have e4 : ∀ [Inhabited Unit], IntKind.i64.wrap ((k : Int) + 1) = ((k + 1 : Nat) : Int) := by intro _; rw [w64 (by omega) (by omega)]; omega
          have dG : ∀ m, G (ys.drop i) m = G ys (i + m) := fun m => by simp [G, List.getD_eq_getElem?_getD]
          have G1 : G (ys.drop i) j = G xs (i + j) := by rw [dG, hG _ (by omega)]
          have G2 : G (ys.drop i) (j - 1) = G xs (i + j - 1) := by rw [dG, hG _ (by omega), show i + (j - 1) = i + j - 1 by omega]
          simp [t0, t3, t4, t5]
          rw [go_draw (h := by kernel_rfl)]
          simp [t0, t3, t4, t5, e2, ow_ix oz p1, ow_ix oz p2', ow_ld oz p1, ow_ld oz p2', G1, G2]
          have hkl : k < ys.length := by omega
          refine wp_dec ?_ ?_ <;> intro g4
          · have hd2 : dk xs (i + j + 1) = dk xs (i + j) := by
              have : 0 < i + j ∧ G xs (i + j - 1) = G xs (i + j) := ⟨by omega, g4.symm⟩
              rw [dk, if_pos this]
            simp [t0, t3, t4, t5]
            refine ih (xs.length - (i + (j + 1))) _ _ ⟨k, j + 1, ys, rfl, by omega, by omega, by omega, by simp [t0], by simp [t3], by simp [t4], by simp [e3], hlen, by rw [← Nat.add_assoc, hd2]; exact htk, fun m hm => hG m (by omega), o, ch⟩ (by omega)
          · obtain ⟨H2, s2, o2, c2, l2⟩ := o.put1 (P := Try.prog) (frz := frz) rfl (et := 3) (ag := false) (by simp) hkl (x := .int .i64 (G xs (i + j))) (y := G xs (i + j)) rfl rfl rfl hf
            have hd2 : dk xs (i + j + 1) = dk xs (i + j) ++ [G xs (i + j)] := by
              have : ¬ (0 < i + j ∧ G xs (i + j - 1) = G xs (i + j)) := fun hh => g4 hh.2.symm
              rw [dk, if_neg this]
            simp [t0, t3, t4, t5, ow_ix oz p1, ow_ld oz p1, G1, ow_ix o hkl, s2]
            refine ih (xs.length - (i + (j + 1))) _ _ ⟨k + 1, j + 1, ys.set k (G xs (i + j)), rfl, by omega, by omega, by omega, by simp [t0], by simp [e4], by simp [t4], by simp [e3], by simp [hlen], ?_, fun m hm => ?_, o2, ch.trans c2⟩ (by omega)
            · rw [← Nat.add_assoc, hd2, ← htk, List.take_succ_eq_append_getElem (by simpa using hkl), List.getElem_set_self]
              simp [List.take_set_of_le]
            · have hmk : m ≠ k := by omega
              have : G (ys.set k (G xs (i + j))) m = G ys m := by simp [G, List.getD_eq_getElem?_getD, List.getElem?_set_ne (Ne.symm hmk)]
              rw [this]; exact hG m (by omega)
        · have hij : i + j = xs.length := by omega
          have hkl : k ≤ ys.length := by omega
          obtain ⟨y, hy⟩ := ow_tail o (by omega) (l := k) hkl
          obtain ⟨y1, _, _⟩ := hy H' ys o rfl
          obtain ⟨H2, zs, cl, zl, zt, oz2, c2⟩ := ow_clear o (by omega) hkl y1 hf
          obtain ⟨q, q1, q2, q3⟩ := oz2.slice (P := Try.prog) (ty := 22) (lo := none) (hi := some (.int .i64 (k : Int))) (l := 0) (u := k) (by simp) rfl rfl (Nat.zero_le _) (by omega)
          simp [t0, t3, t4, t5, y1, cl, q1]
          simp only [List.drop_zero, Nat.sub_zero, zt, htk, hij] at q2
          exact ⟨q2, by rw [q3]; exact fun i hi => hi, ch.trans c2⟩
      · simp [t0, t3]
        refine ih (xs.length - (i + 1)) _ _ ⟨i + 1, rfl, by omega, by omega, by simp [t0], ?_, rfl, ?_⟩ (by omega)
        · simp; rw [w64 (by omega) (by omega)]
        · have : ¬ (0 < i ∧ G xs (i - 1) = G xs i) := fun hh => g2 hh.2.symm
          unfold dk; rw [if_neg this, take_G g1, hd]
    · have him : i = xs.length := by omega
      simp [t0]
      rw [him, List.take_length] at hd
      exact ⟨by rw [compact, hd]; exact h, Chg.refl _⟩
end Go.Proofs.Ytnakhkfgheapoaa.V
/-! Tables: the walks. -/
set_option linter.all false
namespace Go.Proofs.Ytnakhkfgheapoaa.V
open Go Go.VM Go.Proofs
set_option maxRecDepth 10000
variable {frz : Nat} {H : Heap}
theorem sWalk_c (w h : Int) (v u : Value) (b T : List Int) (a to : Int) (hI : IsI H v b) (hT : IsI H u T) (hl : b.length ≤ 1073741824) (hz : tsized w h b T) (ha : isN w h a) (hto : isN w h to) :
   vcall C frz 98 [.agg #[.int .i64 w, .int .i64 h, v], .agg #[u], .int .i64 a, .int .i64 to] H =
    some (.slice (some ⟨H.length, 0, some 0⟩) (walk w h b T a to).length 0, H ++ [⟨(walk w h b T a to).map (.int .i64), 0, 3⟩]) := by
  rw [vcall_go (fn := Try.f98) Try.func98 rfl (by kernel_rfl) rfl]
  simp [hI.one', hI.cells, hT.one', hT.cells, sNodeCount_c]
  have hc := cnt_range w h
  refine go_inv (fun n t H' => ∃ (o : List Int) (g : Nat) (x : Int) (G : Heap), n = (cnt w h).toNat + 1 - o.length ∧ t 3 = .int .i64 to ∧ t 4 = .pointer (some ⟨H.length, 0, some 0⟩) ∧ t 5 = .pointer (some ⟨H.length + 1, 0, some 0⟩) ∧
    t 9 = .slice (some ⟨H.length + 2, 0, some g⟩) o.length 0 ∧ t 10 = .int .i64 (cnt w h) ∧ t 11 = .int .i64 x ∧
    H' = H ++ ⟨[.int .i64 w, .int .i64 h, v], 0, 33⟩ :: ⟨[u], 0, 48⟩ :: ⟨o.map (.int .i64), g, 3⟩ :: G ∧
    ((o.length ≤ (cnt w h).toNat ∧ isN w h x ∧ walkN w h b T to ((cnt w h).toNat - o.length) x o = walk w h b T a to) ∨ (o.length = (cnt w h).toNat + 1 ∧ walk w h b T a to = []))) ?_
    (n := (cnt w h).toNat + 1) ⟨[], 0, a, [], by simp [ha, walk]⟩
  rintro n t H' ⟨o, g, x, G, rfl, h3, h4, h5, h9, h10, h11, rfl, ho⟩ ih
  simp [h3, h4, h5, h9, h10, h11]
  refine br_dec _ ?_ ?_ <;> intro hn
  · obtain ⟨ho1, hx, hw⟩ : o.length ≤ (cnt w h).toNat ∧ isN w h x ∧ walkN w h b T to ((cnt w h).toNat - o.length) x o = walk w h b T a to := by
      rcases ho with ho | ho
      · exact ho
      · omega
    obtain ⟨k0, k1, k2, k3⟩ := at_small hx hto
    have hTl := hz.2
    have e1 : IntKind.i64.wrap (x * cnt w h) = x * cnt w h := w64 (by omega) (by omega)
    have e2 : IntKind.i64.wrap (x * cnt w h + to) = x * cnt w h + to := w64 (by omega) (by have := hto.2; omega)
    have q1 : ∀ L, vindexAddr Try.prog (H ++ L) 22 u (.int .i64 (x * cnt w h + to)) = some (elp u (x * cnt w h + to).toNat) := fun L => hT.idxA (e := 3) (by simp) k0 (by omega)
    have q2 : ∀ L, vload Try.prog (H ++ L) 3 (elp u (x * cnt w h + to).toNat) = some (.int .i64 (portOf w h T x to)) := fun L => hT.loadA (by simp) (by omega)
    simp [h3, h4, h5, h9, h10, h11, e1, e2, q1, q2]
    refine br_dec _ ?_ ?_ <;> intro hp
    · have hw' : walk w h b T a to = if x = to then o else [] := by
        rw [← hw]; cases (cnt w h).toNat - o.length <;> simp [walkN, hp]
      simp [h3, h4, h5, h9, h10, h11, hp]
      refine br_dec _ ?_ ?_ <;> intro hq
      · simp [h3, h4, h5, h9, h10, h11, hq] at hw' ⊢
        simp [hw']
      · simp [h3, h4, h5, h9, h10, h11, hq] at hw' ⊢
        simp [hw']
    · simp [h3, h4, h5, h9, h10, h11, hp]
      have hw0 : ¬ stepOk w h b T x to → walk w h b T a to = [] := fun hh => by
        rw [← hw]; cases (cnt w h).toNat - o.length <;> simp [walkN, hp, hh]
      have e3 : IntKind.i64.wrap (4 * x) = 4 * x := w64 (by have := hx.1; omega) (by have := hx.2; omega)
      simp [l01In_c]
      refine gd_dec _ _ ?_ ?_ <;> intro hr
      · have e4 : IntKind.i64.wrap (4 * x + portOf w h T x to) = 4 * x + portOf w h T x to := w64 (by have := hx.1; have := hr.1; omega) (by have := hx.2; have := hr.2; omega)
        simp [h3, h4, h5, h9, h10, h11, hp, hr, e3, e4, l03Has_c _ _ _ _ _ (hI.app _) hl, hI.one', hI.cells]
        refine br_dec _ ?_ ?_ <;> intro hh
        · simp [h3, h4, h5, h9, h10, h11, hp, hr, hh, e3, e4, sNextNode_c, hI.one', hI.cells]
          obtain ⟨s1, s2, s3⟩ := step_next hr hh
          refine vneed_eq (by omega) ?_
          refine ih ((cnt w h).toNat + 1 - (o.length + 1)) _ _ ⟨o ++ [4 * x + portOf w h T x to], g + 1, next w h x (portOf w h T x to), _, by simp, by simp [h3], by simp [h4], by simp [h5], by simp, by simp [h10], by simp, by simp; rfl, ?_⟩ (by omega)
          by_cases hlt : o.length < (cnt w h).toNat
          · refine .inl ⟨by simp; omega, s3, ?_⟩
            rw [show (cnt w h).toNat - o.length = ((cnt w h).toNat - (o ++ [4 * x + portOf w h T x to]).length) + 1 by simp; omega] at hw
            rw [← hw, walkN, if_neg hp, if_pos ⟨hr, hh⟩]
          · refine .inr ⟨by simp; omega, ?_⟩
            rw [show (cnt w h).toNat - o.length = 0 by omega] at hw
            rw [← hw, walkN, if_neg hp]
        · have hw2 := hw0 (fun k => hh k.2)
          simp [h3, h4, h5, h9, h10, h11, hp, hr, hh, e3, e4, hw2]
      · have hw2 := hw0 (fun k => hr k.1)
        simp [h3, h4, h5, h9, h10, h11, hp, hr, hw2]
  · have hw2 : walk w h b T a to = [] := by
      rcases ho with ho | ho
      · omega
      · exact ho.2
    simp [h3, h4, h5, h9, h10, h11, hn, hw2]
end Go.Proofs.Ytnakhkfgheapoaa.V
/-! Tables: the program's own walk. -/
set_option linter.all false
namespace Go.Proofs.Ytnakhkfgheapoaa.V
open Go Go.VM Go.Proofs
set_option maxRecDepth 10000
variable {frz : Nat} {H : Heap}
theorem portAt_c (w h : Int) (v u : Value) (b T : List Int) (a to : Int) (hI : IsI H v b) (hT : IsI H u T) (hl : b.length ≤ 1073741824) (hz : tsized w h b T) (ha : isN w h a) (hto : isN w h to) :
   vcall C frz 116 [.agg #[.int .i64 w, .int .i64 h, v], .agg #[u], .int .i64 a, .int .i64 to] H =
    some (.int .i64 (if inR 0 (portOf w h T a to) 4 then portOf w h T a to else -1), H) := by
  rw [vcall_go (fn := Try.f116) Try.func116 rfl (by kernel_rfl) rfl]
  have hc := cnt_range w h
  obtain ⟨k0, k1, k2, k3⟩ := at_small ha hto
  have hTl := hz.2
  have hc2 : cnt w h * cnt w h ≤ 16 * 16 := Int.mul_le_mul hc.2 hc.2 hc.1 (by omega)
  have hc3 : 0 * 0 ≤ cnt w h * cnt w h := Int.mul_le_mul hc.1 hc.1 (by omega) hc.1
  have e0 : IntKind.i64.wrap (cnt w h * cnt w h) = cnt w h * cnt w h := w64 (by omega) (by omega)
  have e1 : IntKind.i64.wrap (a * cnt w h) = a * cnt w h := w64 (by omega) (by omega)
  have e2 : IntKind.i64.wrap (a * cnt w h + to) = a * cnt w h + to := w64 (by omega) (by have := hto.2; omega)
  have q1 : ∀ L, vindexAddr Try.prog (H ++ L) 22 u (.int .i64 (a * cnt w h + to)) = some (elp u (a * cnt w h + to).toNat) := fun L => hT.idxA (e := 3) (by simp) k0 (by omega)
  have q2 : ∀ L, vload Try.prog (H ++ L) 3 (elp u (a * cnt w h + to).toNat) = some (.int .i64 (portOf w h T a to)) := fun L => hT.loadA (by simp) (by omega)
  simp [hI.one', hI.cells, hT.one', hT.cells, nodeCount_c, meshOk_c _ _ _ _ (hI.app _) hl, hz.1, inside_c, isN_inR, ha, hto, e0, e1, e2, q1, q2, hT.lenA, hTl]
  try refine br_dec _ ?_ ?_ <;> intro hr <;> simp [hr, q1, q2, e1, e2]
/-- what the program's walk gives back -/
def ret (H : Heap) (xs : List Int) : Value × Heap := if xs = [] then (.slice none 0 0, H) else (.slice (some ⟨H.length, 0, some 0⟩) xs.length 0, H ++ [⟨xs.map (.int .i64), 0, 3⟩])
theorem walk_c (w h : Int) (v u : Value) (b T : List Int) (a to : Int) (hI : IsI H v b) (hT : IsI H u T) (hl : b.length ≤ 1073741824) (hz : tsized w h b T) (ha : isN w h a) (hto : isN w h to) (hne : a ≠ to) :
   vcall C frz 66 [.agg #[.int .i64 w, .int .i64 h, v], .agg #[u], .int .i64 a, .int .i64 to] H = some (ret H (walk w h b T a to)) := by
  rw [vcall_go (fn := Try.f66) Try.func66 rfl (by kernel_rfl) rfl]
  have hc := cnt_range w h
  simp [hI.one', hI.cells, hT.one', hT.cells, nodeCount_c, meshOk_c _ _ _ _ (hI.app _) hl, hz.1, isNode_c, ha, hto, hne]
  refine go_inv (fun n t H' => ∃ (o : List Int) (g : Nat) (x : Int) (G : Heap), n = (cnt w h).toNat + 1 - o.length ∧ t 3 = .int .i64 to ∧ t 4 = .pointer (some ⟨H.length, 0, some 0⟩) ∧ t 5 = .pointer (some ⟨H.length + 1, 0, some 0⟩) ∧
    t 9 = .slice (some ⟨H.length + 2, 0, some g⟩) o.length 0 ∧ t 10 = .int .i64 x ∧
    H' = H ++ ⟨[.int .i64 w, .int .i64 h, v], 0, 33⟩ :: ⟨[u], 0, 48⟩ :: ⟨o.map (.int .i64), g, 3⟩ :: G ∧
    o.length ≤ (cnt w h).toNat ∧ isN w h x ∧ walkN w h b T to ((cnt w h).toNat - o.length) x o = walk w h b T a to ∧ (o = [] → x ≠ to)) ?_
    (n := (cnt w h).toNat + 1) ⟨[], 0, a, [], by simp [ha, walk, hne]⟩
  rintro n t H' ⟨o, g, x, G, rfl, h3, h4, h5, h9, h10, rfl, ho1, hx, hw, hox⟩ ih
  have hpa := fun F L => portAt_c (frz := F) (H := H ++ L) w h v u b T x to (hI.app _) (hT.app _) hl hz hx hto
  have hw0 : portOf w h T x to ≠ 4 → ¬ stepOk w h b T x to → walk w h b T a to = [] := fun hp hh => by
    rw [← hw]; cases (cnt w h).toNat - o.length <;> simp [walkN, hp, hh]
  simp [h3, h4, h5, h9, h10, hI.one', hI.cells, hT.one', hT.cells, hpa]
  have hnil : walk w h b T a to = [] → (Value.slice none 0 0, H) = ret H (walk w h b T a to) := fun hh => by rw [hh]; rfl
  by_cases hr : inR 0 (portOf w h T x to) 4
  · have hlt : ¬ portOf w h T x to < 0 := by have := hr.1; omega
    simp [hr, hlt]
    refine br_dec _ ?_ ?_ <;> intro hp
    · have hw' : walk w h b T a to = if x = to then o else [] := by
        rw [← hw]; cases (cnt w h).toNat - o.length <;> simp [walkN, hp]
      simp [h3, h4, h5, h9, h10, hp]
      refine br_dec _ ?_ ?_ <;> intro hq
      · have hon : o ≠ [] := fun hh => hox hh hq
        rw [if_pos hq] at hw'
        simp [h3, h4, h5, h9, h10, hq, hw', ret, hon]
      · rw [if_neg hq] at hw'
        simp [h3, h4, h5, h9, h10, hq, hw', ret]
    · have hr3 : inR 0 (portOf w h T x to) 3 := ⟨hr.1, by have := hr.2; omega⟩
      have e3 : IntKind.i64.wrap (4 * x) = 4 * x := w64 (by have := hx.1; omega) (by have := hx.2; omega)
      have e4 : IntKind.i64.wrap (4 * x + portOf w h T x to) = 4 * x + portOf w h T x to := w64 (by have := hx.1; have := hr.1; omega) (by have := hx.2; have := hr.2; omega)
      simp [h3, h4, h5, h9, h10, hp, hI.one', hI.cells, e3, e4, hasChannel_c _ _ _ _ _ (hI.app _) hl, hz.1]
      refine gd_dec _ _ ?_ ?_ <;> intro hh
      · obtain ⟨s1, s2, s3⟩ := step_next hr3 hh
        have he := fun F L => endOf_c (frz := F) (H := H ++ L) w h v b (4 * x + portOf w h T x to) (hI.app _) hh.1
        rw [s1, s2] at he
        simp [h3, h4, h5, h9, h10, hp, hh, hI.one', hI.cells, e3, e4, nodeCount_c]
        refine br_dec _ ?_ ?_ <;> intro hf
        · have hwz : walk w h b T a to = [] := by
            rw [show (cnt w h).toNat - o.length = 0 by omega] at hw
            rw [← hw, walkN, if_neg hp]
          simp [h3, h4, h5, h9, h10, hp, hh, hf, hnil hwz]
        · simp [h3, h4, h5, h9, h10, hp, hh, hf, hI.one', hI.cells, e3, e4]
          refine vneed_eq (by omega) ?_
          simp [h3, h4, h5, h9, h10, hp, hh, hf, hI.one', hI.cells, e3, e4, he]
          refine ih ((cnt w h).toNat + 1 - (o.length + 1)) _ _ ⟨o ++ [4 * x + portOf w h T x to], g + 1, next w h x (portOf w h T x to), _, by simp, by simp [h3], by simp [h4], by simp [h5], by simp, by simp, by simp; rfl, by simp; omega, s3, ?_, by simp⟩ (by omega)
          rw [show (cnt w h).toNat - o.length = ((cnt w h).toNat - (o ++ [4 * x + portOf w h T x to]).length) + 1 by simp; omega] at hw
          rw [← hw, walkN, if_neg hp, if_pos ⟨hr3, hh⟩]
      · simp [h3, h4, h5, h9, h10, hp, hh]
        exact hnil (hw0 hp (fun hs => hh hs.2))
  · simp [hr]
    refine hnil (hw0 (fun hp => hr ?_) fun hs => hr ⟨hs.1.1, by have := hs.1.2; omega⟩)
    rw [hp]; exact ⟨by omega, by omega⟩
end Go.Proofs.Ytnakhkfgheapoaa.V
/-! Tables that are valid. -/
set_option linter.all false
namespace Go.Proofs.Ytnakhkfgheapoaa.V
open Go Go.VM Go.Proofs
set_option maxRecDepth 10000
variable {frz : Nat} {H : Heap}
theorem sq_small (w h : Int) : IntKind.i64.wrap (cnt w h * cnt w h) = cnt w h * cnt w h := by
  have hc := cnt_range w h
  have hc2 : cnt w h * cnt w h ≤ 16 * 16 := Int.mul_le_mul hc.2 hc.2 hc.1 (by omega)
  have hc3 : 0 * 0 ≤ cnt w h * cnt w h := Int.mul_le_mul hc.1 hc.1 (by omega) hc.1
  exact w64 (by omega) (by omega)
theorem sized_c (w h : Int) (v u : Value) (b T : List Int) (hI : IsI H v b) (hT : IsI H u T) (hl : b.length ≤ 1073741824) :
   vcall C frz 163 [.agg #[.int .i64 w, .int .i64 h, v], .agg #[u]] H = some (.bool (decide (tsized w h b T)), H) := by
  rw [vcall_go (fn := Try.f163) Try.func163 rfl (by kernel_rfl) rfl]
  simp [hI.one', hI.cells, hT.one', hT.cells, sNodeCount_c, sMeshOk_c _ _ _ _ (hI.app _) hl]
  refine gd_dec _ _ ?_ ?_ <;> intro h1 <;> simp [h1, tsized, hT.lenA, sq_small, hI.one', hI.cells, hT.one', hT.cells, sNodeCount_c, -Bool.decide_and]
def good (w h : Int) (b T : List Int) (a c : Nat) : Prop := ((a : Int) = c → portOf w h T a a = 4) ∧ ((a : Int) ≠ c → walk w h b T a c ≠ [])
theorem tableOk_iff (w h : Int) (b T : List Int) : tableOk w h b T ↔ tsized w h b T ∧ ∀ a, a < (cnt w h).toNat → ∀ c, c < (cnt w h).toNat → good w h b T a c := by
  unfold tableOk good
  refine and_congr Iff.rfl ⟨fun k a ha c hc => ?_, fun k a ha c hc => ?_⟩
  · exact ⟨fun e => (k a ha c hc).1 (by omega), fun e => (k a ha c hc).2 (by omega)⟩
  · exact ⟨fun e => (k a ha c hc).1 (by omega), fun e => (k a ha c hc).2 (by omega)⟩
theorem isN_nat {w h : Int} {a : Nat} (k : a < (cnt w h).toNat) : isN w h a := ⟨by omega, by omega⟩
theorem sTableOk_c (w h : Int) (v u : Value) (b T : List Int) (hI : IsI H v b) (hT : IsI H u T) (hl : b.length ≤ 1073741824) :
   vcall C frz 137 [.agg #[.int .i64 w, .int .i64 h, v], .agg #[u]] H = some (.bool (decide (tableOk w h b T)), H) := by
  rw [vcall_go (fn := Try.f137) Try.func137 rfl (by kernel_rfl) rfl]
  simp [hI.one', hI.cells, hT.one', hT.cells, sNodeCount_c, sized_c _ _ _ _ _ _ (hI.app _) (hT.app _) hl]
  refine br_dec _ ?_ ?_ <;> intro h1
  · simp [h1, hI.one', hI.cells, hT.one', hT.cells, sNodeCount_c]
    have hc := cnt_range w h
    have no : ∀ i j : Nat, i < (cnt w h).toNat → j < (cnt w h).toNat → ¬ good w h b T i j → ¬ tableOk w h b T := fun i j hi hj hg hh => hg (((tableOk_iff w h b T).1 hh).2 i hi j hj)
    refine go_inv (fun n t H' => ∃ (i : Nat) (G : Heap), n = (cnt w h).toNat - i ∧ i ≤ (cnt w h).toNat ∧ t 2 = .pointer (some ⟨H.length, 0, some 0⟩) ∧ t 3 = .pointer (some ⟨H.length + 1, 0, some 0⟩) ∧
      t 5 = .int .i64 (cnt w h) ∧ t 6 = .int .i64 i ∧ H' = H ++ ⟨[.int .i64 w, .int .i64 h, v], 0, 33⟩ :: ⟨[u], 0, 48⟩ :: G ∧ ∀ a, a < i → ∀ c, c < (cnt w h).toNat → good w h b T a c) ?_
      (n := (cnt w h).toNat) ⟨0, [], by simp⟩
    rintro n t H' ⟨i, G, rfl, hi, h2, h3, h5, h6, rfl, hk⟩ ih
    simp [h2, h3, h5, h6]
    refine br_dec _ ?_ ?_ <;> intro hlt
    · simp [h2, h3, h5, h6, hlt]
      refine go_inv (fun n t H' => ∃ (j : Nat) (G : Heap), n = (cnt w h).toNat - j ∧ j ≤ (cnt w h).toNat ∧ t 2 = .pointer (some ⟨H.length, 0, some 0⟩) ∧ t 3 = .pointer (some ⟨H.length + 1, 0, some 0⟩) ∧
        t 5 = .int .i64 (cnt w h) ∧ t 6 = .int .i64 i ∧ t 7 = .int .i64 j ∧ H' = H ++ ⟨[.int .i64 w, .int .i64 h, v], 0, 33⟩ :: ⟨[u], 0, 48⟩ :: G ∧ ∀ c, c < j → good w h b T i c) ?_
        (n := (cnt w h).toNat) ⟨0, G, by simp [h2, h3, h5, h6]⟩
      clear h2 h3 h5 h6
      rintro n t H' ⟨j, G, rfl, hj, h2, h3, h5, h6, h7, rfl, hkj⟩ ih2
      simp [h2, h3, h5, h6, h7]
      refine br_dec _ ?_ ?_ <;> intro hlj
      · have ni : i < (cnt w h).toNat := by omega
        have nj : j < (cnt w h).toNat := by omega
        obtain ⟨k0, k1, k2, k3⟩ := at_small (isN_nat ni) (isN_nat ni)
        have hTl := h1.2
        have e1 : IntKind.i64.wrap (i * cnt w h) = i * cnt w h := w64 (by omega) (by omega)
        have e2 : IntKind.i64.wrap (i * cnt w h + i) = i * cnt w h + i := w64 (by omega) (by omega)
        have q1 : ∀ L, vindexAddr Try.prog (H ++ L) 22 u (.int .i64 (i * cnt w h + i)) = some (elp u (i * cnt w h + i : Int).toNat) := fun L => hT.idxA (e := 3) (by simp) k0 (by omega)
        have q2 : ∀ L, vload Try.prog (H ++ L) 3 (elp u (i * cnt w h + i : Int).toNat) = some (.int .i64 (portOf w h T i i)) := fun L => hT.loadA (by simp) (by omega)
        have sw := fun F L => sWalk_c (frz := F) (H := H ++ L) w h v u b T i j (hI.app _) (hT.app _) hl h1 (isN_nat ni) (isN_nat nj)
        have yes := fun (t' : Env) (G' : Heap) (x2 : t' 2 = .pointer (some ⟨H.length, 0, some 0⟩)) (x3 : t' 3 = .pointer (some ⟨H.length + 1, 0, some 0⟩)) (x5 : t' 5 = .int .i64 (cnt w h)) (x6 : t' 6 = .int .i64 i) (x7 : t' 7 = .int .i64 (j + 1 : Nat)) (hg : good w h b T i j) =>
          ih2 ((cnt w h).toNat - (j + 1)) t' _ ⟨j + 1, G', rfl, by omega, x2, x3, x5, x6, x7, rfl, fun c hc' => by
            by_cases hcj : c < j
            · exact hkj c hcj
            · have : c = j := by omega
              subst this; exact hg⟩ (by omega)
        simp [h2, h3, h5, h6, h7, hlj]
        refine gd_dec _ _ ?_ ?_ <;> intro hij
        · obtain rfl : i = j := by omega
          simp [h2, h3, h5, h6, h7, hlj, e1, e2, q1, q2]
          refine gd_dec _ _ ?_ ?_ <;> intro hp
          · simp [h2, h3, h5, h6, h7, hlj, hp]
            refine yes _ _ (by simp [h2]) (by simp [h3]) (by simp [h5]) (by simp [h6]) ?_ ⟨fun _ => hp, fun hh => absurd rfl hh⟩
            simp; rw [w64 (by omega) (by omega)]
          · simp [h2, h3, h5, h6, h7, hlj, hp]
            exact no i i ni ni (fun hg => hp (hg.1 rfl))
        · simp [h2, h3, h5, h6, h7, hlj, hij, hI.one', hI.cells, hT.one', hT.cells, sw]
          refine br_dec _ ?_ ?_ <;> intro hp
          · simp [h2, h3, h5, h6, h7, hlj, hp]
            exact no i j ni nj (fun hg => hg.2 hij hp)
          · simp [h2, h3, h5, h6, h7, hlj, hp]
            refine yes _ _ (by simp [h2]) (by simp [h3]) (by simp [h5]) (by simp [h6]) ?_ ⟨fun hh => absurd hh hij, fun _ => hp⟩
            simp; rw [w64 (by omega) (by omega)]
      · have : j = (cnt w h).toNat := by omega
        subst this
        simp [h2, h3, h5, h6, h7, hlj]
        refine ih ((cnt w h).toNat - (i + 1)) _ _ ⟨i + 1, G, rfl, by omega, by simp [h2], by simp [h3], by simp [h5], ?_, rfl, fun a ha c hc' => ?_⟩ (by omega)
        · simp; rw [w64 (by omega) (by omega)]
        · by_cases hai : a < i
          · exact hk a hai c hc'
          · have : a = i := by omega
            subst this; exact hkj c hc'
    · simp [h2, h3, h5, h6, hlt]
      have : i = (cnt w h).toNat := by omega
      subst this
      exact (tableOk_iff w h b T).2 ⟨h1, hk⟩
  · simp [h1]
    exact fun k => h1 k.1
theorem areInside_c (v : Value) (xs : List Int) (lo hi : Int) (hI : IsI H v xs) (hl : xs.length ≤ 1073741824) :
   vcall C frz 139 [v, .int .i64 lo, .int .i64 hi] H = some (.bool (decide (∀ x ∈ xs, inR lo x hi)), H) := by
  rw [vcall_go (fn := Try.f139) Try.func139 rfl (by kernel_rfl) rfl]
  simp [hI.len]
  refine go_inv (fun n t H' => ∃ i : Nat, n = xs.length - i ∧ i ≤ xs.length ∧ t 1 = .int .i64 lo ∧ t 2 = .int .i64 hi ∧ t 9 = v ∧ t 10 = .int .i64 xs.length ∧ t 11 = .int .i64 i ∧ H' = H ∧ ∀ x ∈ xs.take i, inR lo x hi) ?_ (n := xs.length) ⟨0, by simp⟩
  rintro n t H' ⟨i, rfl, hi', h1, h2, h3, h4, h5, rfl, hj⟩ ih
  simp [h1, h2, h3, h4, h5]
  refine br_dec _ ?_ ?_ <;> intro h6
  · simp [h1, h2, h3, h4, h5, h6, hI.idx, hI.load, getD_get, inside_c]
    refine br_dec _ ?_ ?_ <;> intro h7 <;> simp [h1, h2, h3, h4, h5, h6, h7]
    · refine ih (xs.length - (i + 1)) _ _ ⟨i + 1, rfl, by omega, by simp [h1], by simp [h2], by simp [h3], by simp [h4], ?_, rfl, fun x hx => ?_⟩ (by omega)
      · simp; rw [w64 (by omega) (by omega)]
      · rw [List.take_succ_eq_append_getElem h6] at hx
        rcases List.mem_append.1 hx with hx | hx
        · exact hj x hx
        · rw [List.mem_singleton.1 hx]; exact h7
    · exact ⟨_, List.getElem_mem h6, h7⟩
  · have : i = xs.length := by omega
    subst this
    simp [h1, h2, h3, h4, h5]
    rwa [List.take_length] at hj
def rowPairs (n a m : Nat) : List (Nat × Nat) := ((List.range m).filter (fun c => a ≠ c)).map fun c => (a, c)
/-- the pairs in the order of the visits -/
def allPairs (n m : Nat) : List (Nat × Nat) := (List.range m).flatMap fun a => rowPairs n a n
theorem rowPairs_eq (n a m : Nat) (h : a = m) : rowPairs n a (m + 1) = rowPairs n a m := by
  simp [rowPairs, List.range_succ, h]
theorem rowPairs_ne (n a m : Nat) (h : a ≠ m) : rowPairs n a (m + 1) = rowPairs n a m ++ [(a, m)] := by
  simp [rowPairs, List.range_succ, h]
theorem allPairs_succ (n m : Nat) : allPairs n (m + 1) = allPairs n m ++ rowPairs n m n := by
  simp [allPairs, List.range_succ]
theorem mem_allPairs {n a c : Nat} : (a, c) ∈ allPairs n n ↔ a < n ∧ c < n ∧ a ≠ c := by
  simp [allPairs, rowPairs]
theorem pairs_w (w h : Int) (f : Value) {Q : Value → Heap → Prop} (Inv : List (Nat × Nat) → Heap → Prop)
    (h0 : Inv [] (H ++ [⟨[.int .i64 w, .int .i64 h], 0, 31⟩]))
    (hs : ∀ (done : List (Nat × Nat)) (a c : Nat) (H' : Heap), a < (cnt w h).toNat → c < (cnt w h).toNat → a ≠ c → Inv done H' → wp (vclos (vcall C frz) f [.int .i64 a, .int .i64 c] H') fun r H'' => (r = .bool true ∧ Inv (done ++ [(a, c)]) H'') ∨ (r = .bool false ∧ Q (.bool false) H''))
    (he : ∀ H', Inv (allPairs (cnt w h).toNat (cnt w h).toNat) H' → Q (.bool true) H') :
    wp (vcall C frz 100 [.agg #[.int .i64 w, .int .i64 h], f] H) Q := by
  rw [vcall_go (fn := Try.f100) Try.func100 rfl (by kernel_rfl) rfl]
  have hc := cnt_range w h
  simp [nodeCount_c]
  refine wp_inv (fun n t H' => ∃ (i : Nat), n = (cnt w h).toNat - i ∧ i ≤ (cnt w h).toNat ∧ t 1 = f ∧ t 5 = .int .i64 (cnt w h) ∧ t 10 = .int .i64 (cnt w h) ∧ t 11 = .int .i64 i ∧
    Inv (allPairs (cnt w h).toNat i) H') ?_ (n := (cnt w h).toNat) ⟨0, by simp [allPairs, h0]⟩
  rintro n t H' ⟨i, rfl, hi, h1, h5, h10, h11, hk⟩ ih
  simp [h1, h5, h10, h11]
  refine wp_dec ?_ ?_ <;> intro hlt
  · simp [h1, h5, h10, h11, hlt]
    refine wp_inv (fun n t H' => ∃ (j : Nat), n = (cnt w h).toNat - j ∧ j ≤ (cnt w h).toNat ∧ t 1 = f ∧ t 5 = .int .i64 (cnt w h) ∧ t 10 = .int .i64 (cnt w h) ∧ t 11 = .int .i64 i ∧ t 6 = .int .i64 i ∧ t 14 = .int .i64 (cnt w h) ∧ t 15 = .int .i64 j ∧
      Inv (allPairs (cnt w h).toNat i ++ rowPairs (cnt w h).toNat i j) H') ?_ (n := (cnt w h).toNat) ⟨0, by simp [h1, h5, h10, h11, rowPairs, hk]⟩
    clear h1 h5 h10 h11 hk
    rintro n t H' ⟨j, rfl, hj, h1, h5, h10, h11, h6, h14, h15, hk⟩ ih2
    simp [h1, h5, h10, h11, h6, h14, h15]
    refine wp_dec ?_ ?_ <;> intro hlj
    · have ni : i < (cnt w h).toNat := by omega
      have nj : j < (cnt w h).toNat := by omega
      have yes := fun (t' : Env) (H' : Heap) (x1 : t' 1 = f) (x5 : t' 5 = .int .i64 (cnt w h)) (x10 : t' 10 = .int .i64 (cnt w h)) (x11 : t' 11 = .int .i64 i) (x6 : t' 6 = .int .i64 i) (x14 : t' 14 = .int .i64 (cnt w h)) (x15 : t' 15 = .int .i64 (j + 1 : Nat)) (hg : Inv (allPairs (cnt w h).toNat i ++ rowPairs (cnt w h).toNat i (j + 1)) H') =>
        ih2 ((cnt w h).toNat - (j + 1)) t' H' ⟨j + 1, rfl, by omega, x1, x5, x10, x11, x6, x14, x15, hg⟩ (by omega)
      simp [h1, h5, h10, h11, h6, h14, h15, hlj]
      refine wpg_dec ?_ ?_ <;> intro hij
      · simp [h1, h5, h10, h11, h6, h14, h15, hlj, hij]
        refine yes _ _ (by simp [h1]) (by simp [h5]) (by simp [h10]) (by simp [h11]) (by simp [h6]) (by simp [h14]) ?_ (by rw [rowPairs_eq _ _ _ (by omega)]; exact hk)
        simp; rw [w64 (by omega) (by omega)]
      · simp [h1, h5, h10, h11, h6, h14, h15, hlj, hij]
        refine wp_thn (hs _ i j H' ni nj (by omega) hk) ?_
        rintro r H'' (⟨rfl, hq⟩ | ⟨rfl, hq⟩)
        · simp [h1, h5, h10, h11, h6, h14, h15, hlj, hij]
          refine yes _ _ (by simp [h1]) (by simp [h5]) (by simp [h10]) (by simp [h11]) (by simp [h6]) (by simp [h14]) ?_ (by rw [rowPairs_ne _ _ _ (by omega), ← List.append_assoc]; exact hq)
          simp; rw [w64 (by omega) (by omega)]
        · simp [h1, h5, h10, h11, h6, h14, h15, hlj, hij]
          exact hq
    · have : j = (cnt w h).toNat := by omega
      subst this
      simp [h1, h5, h10, h11, h6, h14, h15, hlj]
      refine ih ((cnt w h).toNat - (i + 1)) _ _ ⟨i + 1, rfl, by omega, by simp [h1], by simp [h5], by simp [h10], ?_, by rw [allPairs_succ]; exact hk⟩ (by omega)
      · simp; rw [w64 (by omega) (by omega)]
  · simp [h1, h5, h10, h11, hlt]
    have : i = (cnt w h).toNat := by omega
    subst this
    exact he _ hk
theorem tableOk1_c (w h : Int) (v u : Value) (b T : List Int) (a c : Int) (r1 r2 : Nat) (hI : IsI H v b) (hT : IsI H u T) (hl : b.length ≤ 1073741824) (hz : tsized w h b T) (ha : isN w h a) (hto : isN w h c) (hne : a ≠ c)
    (g1 : H[r1]? = some ⟨[.int .i64 w, .int .i64 h, v], 0, 33⟩) (g2 : H[r2]? = some ⟨[u], 0, 48⟩) :
   vcall C frz 164 [.int .i64 a, .int .i64 c, .pointer (some ⟨r1, 0, some 0⟩), .pointer (some ⟨r2, 0, some 0⟩)] H = some (.bool (!decide (walk w h b T a c = [])), H) := by
  rw [vcall_go (fn := Try.f164) Try.func164 rfl (by kernel_rfl) rfl]
  simp [VM.look, g1, g2, hI.one', hI.cells, hT.one', hT.cells, walk_c _ _ _ _ _ _ _ _ hI hT hl hz ha hto hne]
  by_cases hw : walk w h b T a c = []
  · simp [ret, hw]
  · have : 0 < (walk w h b T a c).length := List.length_pos_iff.2 hw
    simp [ret, hw, this]
theorem tableOk_w (w h : Int) (v u : Value) (b T : List Int) (hI : IsI H v b) (hT : IsI H u T) (hl : b.length ≤ 1073741824) :
   wp (vcall C frz 138 [.agg #[.int .i64 w, .int .i64 h, v], .agg #[u]] H) (fun r _ => r = .bool (decide (tableOk w h b T))) := by
  rw [vcall_go (fn := Try.f138) Try.func138 rfl (by kernel_rfl) rfl]
  simp [hI.one', hI.cells, hT.one', hT.cells, nodeCount_c, meshOk_c _ _ _ _ (hI.app _) hl]
  refine wpg_dec ?_ ?_ <;> intro hm
  · simp [hm, hT.lenA, sq_small]
    refine wp_dec ?_ ?_ <;> intro hz
    · simp [hz]
      have hs : tsized w h b T := ⟨hm, hz⟩
      have hc := cnt_range w h
      refine wp_inv (fun n t H' => ∃ (i : Nat), n = (cnt w h).toNat - i ∧ i ≤ (cnt w h).toNat ∧ t 2 = .pointer (some ⟨H.length, 0, some 0⟩) ∧ t 3 = .pointer (some ⟨H.length + 1, 0, some 0⟩) ∧ t 5 = .int .i64 (cnt w h) ∧ t 22 = .int .i64 (cnt w h) ∧ t 23 = .int .i64 i ∧
        H' = H ++ [⟨[.int .i64 w, .int .i64 h, v], 0, 33⟩, ⟨[u], 0, 48⟩] ∧ ∀ a, a < i → portOf w h T a a = 4) ?_ (n := (cnt w h).toNat) ⟨0, by simp⟩
      rintro n t H' ⟨i, rfl, hi, h2, h3, h5, h22, h23, rfl, hk⟩ ih
      simp [h2, h3, h5, h22, h23]
      refine wp_dec ?_ ?_ <;> intro hlt
      · have ni : i < (cnt w h).toNat := by omega
        obtain ⟨k0, k1, k2, k3⟩ := at_small (isN_nat ni) (isN_nat ni)
        have e1 : IntKind.i64.wrap (i * cnt w h) = i * cnt w h := w64 (by omega) (by omega)
        have e2 : IntKind.i64.wrap (i * cnt w h + i) = i * cnt w h + i := w64 (by omega) (by omega)
        have q1 : ∀ L, vindexAddr Try.prog (H ++ L) 22 u (.int .i64 (i * cnt w h + i)) = some (elp u (i * cnt w h + i : Int).toNat) := fun L => hT.idxA (e := 3) (by simp) k0 (by omega)
        have q2 : ∀ L, vload Try.prog (H ++ L) 3 (elp u (i * cnt w h + i : Int).toNat) = some (.int .i64 (portOf w h T i i)) := fun L => hT.loadA (by simp) (by omega)
        simp [h2, h3, h5, h22, h23, hlt, e1, e2, q1, q2]
        refine wp_dec ?_ ?_ <;> intro hp
        · simp [h2, h3, h5, h22, h23, hlt, hp]
          refine ih ((cnt w h).toNat - (i + 1)) _ _ ⟨i + 1, rfl, by omega, by simp [h2], by simp [h3], by simp [h5], by simp [h22], ?_, rfl, fun a ha => ?_⟩ (by omega)
          · simp; rw [w64 (by omega) (by omega)]
          · by_cases hai : a < i
            · exact hk a hai
            · have : a = i := by omega
              subst this; exact hp
        · simp [h2, h3, h5, h22, h23, hlt, hp]
          exact fun hh => hp ((hh.2 i ni i ni).1 rfl)
      · simp [h2, h3, h5, h22, h23, hlt]
        have : i = (cnt w h).toNat := by omega
        subst this
        refine wp_thn (pairs_w w h _ (Q := fun r _ => r = .bool (decide (tableOk w h b T))) (fun done H' => ∃ L, H' = H ++ [⟨[.int .i64 w, .int .i64 h, v], 0, 33⟩, ⟨[u], 0, 48⟩] ++ L ∧ ∀ p ∈ done, walk w h b T p.1 p.2 ≠ []) ⟨_, rfl, by simp⟩ ?_ ?_) ?_
        · rintro done a c _ ha hc' hne ⟨L, rfl, hd⟩
          simp
          rw [tableOk1_c w h v u b T a c _ _ (hI.app _) (hT.app _) hl hs (isN_nat ha) (isN_nat hc') (by omega) (by simp) (by simp)]
          simp
          by_cases hw : walk w h b T a c = []
          · refine .inr ⟨hw, ?_⟩
            exact fun hh => (hh.2 a (by omega) c (by omega)).2 (by omega) hw
          · refine .inl ⟨hw, fun p q hp => ?_⟩
            rcases hp with hp | ⟨rfl, rfl⟩
            · exact hd (p, q) hp
            · exact hw
        · rintro _ ⟨L, rfl, hd⟩
          simp
          exact ⟨hs, fun a ha c hc' => ⟨fun _ => hk a ha, fun hne => hd (a, c) (mem_allPairs.2 ⟨ha, hc', hne⟩)⟩⟩
        · rintro _ H' rfl
          simp
    · simp [hz]
      exact fun hh => hz hh.1.2
  · simp [hm]
    exact fun hh => hm hh.1.1
theorem tableOk_c (w h : Int) (v u : Value) (b T : List Int) (hI : IsI H v b) (hT : IsI H u T) (hl : b.length ≤ 1073741824) :
   vcall C frz 138 [.agg #[.int .i64 w, .int .i64 h, v], .agg #[u]] H = some (.bool (decide (tableOk w h b T)), H) :=
  (tableOk_w w h v u b T hI hT hl).exact (by simp) rfl
end Go.Proofs.Ytnakhkfgheapoaa.V
/-! What unicasts cost. -/
set_option linter.all false
namespace Go.Proofs.Ytnakhkfgheapoaa.V
open Go Go.VM Go.Proofs
set_option maxRecDepth 10000
variable {frz : Nat} {H : Heap}
def castOk (w h : Int) (b T : List Int) (a : Int) (ts : List Int) : Prop := tableOk w h b T ∧ isN w h a ∧ ∀ x ∈ ts, isN w h x
instance (w h : Int) (b T : List Int) (a : Int) (ts : List Int) : Decidable (castOk w h b T a ts) := inferInstanceAs (Decidable (_ ∧ _))
/-- what single packets to all targets cost -/
def cost (w h : Int) (b T : List Int) (a : Int) (ts : List Int) : Nat := (ts.map fun x => (walk w h b T a x).length).sum
theorem walk_len (w h : Int) (b T : List Int) (a to : Int) : (walk w h b T a to).length ≤ 16 := by
  have := walkN_len w h b T to (cnt w h).toNat a []
  have hc := cnt_range w h
  simp only [walk] at *
  simp at this; omega
theorem cost_succ {w h : Int} {b T : List Int} {a : Int} {ts : List Int} {i : Nat} (hi : i < ts.length) : cost w h b T a (ts.take (i + 1)) = cost w h b T a (ts.take i) + (walk w h b T a ts[i]).length := by
  unfold cost
  rw [List.take_succ_eq_append_getElem hi, List.map_append, List.sum_append]; simp
theorem cost_le (w h : Int) (b T : List Int) (a : Int) (ts : List Int) : cost w h b T a ts ≤ 16 * ts.length := by
  unfold cost
  induction ts with
  | nil => simp
  | cons x ts ih =>
    have := walk_len w h b T a x
    simp only [List.map_cons, List.sum_cons, List.length_cons]; omega
theorem walk_selfT {w h : Int} {b T : List Int} {a : Int} (ht : tableOk w h b T) (ha : isN w h a) : walk w h b T a a = [] := by
  obtain ⟨a0, a1⟩ := ha
  have := (ht.2 a.toNat (by omega) a.toNat (by omega)).1 rfl
  rw [show ((a.toNat : Nat) : Int) = a by omega] at this
  unfold walk
  cases (cnt w h).toNat <;> simp [walkN, this]
theorem walkT_c (w h : Int) (v u : Value) (b T : List Int) (a to : Int) (hI : IsI H v b) (hT : IsI H u T) (hl : b.length ≤ 1073741824) (hz : tableOk w h b T) (ha : isN w h a) (hto : isN w h to) :
   vcall C frz 66 [.agg #[.int .i64 w, .int .i64 h, v], .agg #[u], .int .i64 a, .int .i64 to] H = some (ret H (walk w h b T a to)) := by
  by_cases hne : a = to
  · subst hne
    rw [walk_selfT hz ha, vcall_go (fn := Try.f66) Try.func66 rfl (by kernel_rfl) rfl]
    simp [hI.one', hI.cells, hT.one', hT.cells, ret]
  · exact walk_c w h v u b T a to hI hT hl hz.1 ha hto hne
theorem canCast_c (w h : Int) (v u s : Value) (b T ts : List Int) (a : Int) (hI : IsI H v b) (hT : IsI H u T) (hS : IsI H s ts) (hl : b.length ≤ 1073741824) (hs : ts.length ≤ 1073741824) :
   vcall C frz 111 [.agg #[.int .i64 w, .int .i64 h, v], .agg #[u], .int .i64 a, s] H = some (.bool (decide (castOk w h b T a ts)), H) := by
  rw [vcall_go (fn := Try.f111) Try.func111 rfl (by kernel_rfl) rfl]
  simp [hI.one', hI.cells, hT.one', hT.cells, tableOk_c _ _ _ _ _ _ (hI.app _) (hT.app _) hl]
  refine gd_dec _ _ ?_ ?_ <;> intro h1 <;> simp [h1, isNode_c, castOk, hI.one', hI.cells]
  refine gd_dec _ _ ?_ ?_ <;> intro h2 <;> simp [h2, nodeCount_c, hI.one', hI.cells, areInside_c _ _ _ _ (hS.app _) hs, isN_inR]
theorem l35Ok_c (w h : Int) (v u s : Value) (b T ts : List Int) (a : Int) (hI : IsI H v b) (hT : IsI H u T) (hS : IsI H s ts) (hl : b.length ≤ 1073741824) (hs : ts.length ≤ 1073741824) :
   vcall C frz 110 [.agg #[.int .i64 w, .int .i64 h, v], .agg #[u], .int .i64 a, s] H = some (.bool (decide (castOk w h b T a ts)), H) := by
  rw [vcall_go (fn := Try.f110) Try.func110 rfl (by kernel_rfl) rfl]
  simp [hI.one', hI.cells, hT.one', hT.cells]
  refine go_inv (fun n t H' => ∃ (i : Nat), n = ts.length - i ∧ i ≤ ts.length ∧ t 2 = .int .i64 a ∧ t 3 = s ∧ t 4 = .pointer (some ⟨H.length, 0, some 0⟩) ∧ t 5 = .pointer (some ⟨H.length + 1, 0, some 0⟩) ∧ t 9 = .int .i64 i ∧
    H' = H ++ [⟨[.int .i64 w, .int .i64 h, v], 0, 33⟩, ⟨[u], 0, 48⟩] ∧ ∀ x ∈ ts.take i, isN w h x) ?_ (n := ts.length) ⟨0, by simp⟩
  rintro n t H' ⟨i, rfl, hi, h2, h3, h4, h5, h9, rfl, hk⟩ ih
  simp [h2, h3, h4, h5, h9, hS.lenA]
  refine br_dec _ ?_ ?_ <;> intro hlt
  · simp [h2, h3, h4, h5, h9, hlt, hI.one', hI.cells, hT.one', hT.cells, hS.idxA, hS.loadA, getD_get, l02Has_c]
    try rw [go_draw (h := by kernel_rfl)]
    try simp [h2, h3, h4, h5, h9, hlt, hI.one', hI.cells, hT.one', hT.cells, hS.idxA, hS.loadA, getD_get, l02Has_c]
    refine br_dec _ ?_ ?_ <;> intro hx
    · simp [h2, h3, h4, h5, h9, hlt, hx]
      refine ih (ts.length - (i + 1)) _ _ ⟨i + 1, rfl, by omega, by simp [h2], by simp [h3], by simp [h4], by simp [h5], ?_, rfl, fun x hx' => ?_⟩ (by omega)
      · simp; rw [w64 (by omega) (by omega)]
      · rw [List.take_succ_eq_append_getElem hlt] at hx'
        rcases List.mem_append.1 hx' with hx' | hx'
        · exact hk x hx'
        · rw [List.mem_singleton.1 hx']; exact hx
    · simp [h2, h3, h4, h5, h9, hlt, hx]
      exact fun hh => hx (hh.2.2 _ (List.getElem_mem hlt))
  · have : i = ts.length := by omega
    subst this
    rw [List.take_length] at hk
    simp [h2, h3, h4, h5, h9, hlt, hI.one', hI.cells, hT.one', hT.cells, sTableOk_c _ _ _ _ _ _ (hI.app _) (hT.app _) hl]
    refine gd_dec _ _ ?_ ?_ <;> intro h1 <;> simp [h2, h3, h4, h5, h9, h1, l02Has_c, castOk, hI.one', hI.cells]
    exact fun _ => hk
theorem unicast_c (w h : Int) (v u s : Value) (b T ts : List Int) (a : Int) (hI : IsI H v b) (hT : IsI H u T) (hS : IsI H s ts) (hl : b.length ≤ 1073741824) (hs : ts.length ≤ 1073741824) :
   vcall C frz 68 [.agg #[.int .i64 w, .int .i64 h, v], .agg #[u], .int .i64 a, s] H = some (.int .i64 (if castOk w h b T a ts then cost w h b T a ts else -1), H) := by
  rw [vcall_go (fn := Try.f68) Try.func68 rfl (by kernel_rfl) rfl]
  simp [hI.one', hI.cells, hT.one', hT.cells, canCast_c _ _ _ _ _ _ _ _ _ (hI.app _) (hT.app _) (hS.app _) hl hs]
  refine br_dec _ ?_ ?_ <;> intro h1 <;> simp [h1, hS.lenA]
  · refine go_inv (fun n t H' => ∃ (i : Nat) (G : Heap), n = ts.length - i ∧ i ≤ ts.length ∧ t 2 = .int .i64 a ∧ t 18 = s ∧ t 19 = .int .i64 ts.length ∧ t 20 = .int .i64 i ∧ t 4 = .pointer (some ⟨H.length, 0, some 0⟩) ∧ t 5 = .pointer (some ⟨H.length + 1, 0, some 0⟩) ∧ t 9 = .int .i64 (cost w h b T a (ts.take i)) ∧
      H' = H ++ ⟨[.int .i64 w, .int .i64 h, v], 0, 33⟩ :: ⟨[u], 0, 48⟩ :: G) ?_ (n := ts.length) ⟨0, [], by simp [cost]⟩
    rintro n t H' ⟨i, G, rfl, hi, x1, x2, x3, x4, h4, h5, h9, rfl⟩ ih
    have hcl := cost_le w h b T a (ts.take i)
    simp [x1, x2, x3, x4, h4, h5, h9, hS.lenA]
    refine br_dec _ ?_ ?_ <;> intro hlt
    · have hx : isN w h ts[i] := h1.2.2 _ (List.getElem_mem hlt)
      have hwl := walk_len w h b T a ts[i]
      have htl : (ts.take i).length ≤ 1073741824 := by simp; omega
      have e1 : IntKind.i64.wrap ((cost w h b T a (ts.take i) : Int) + ((walk w h b T a ts[i]).length : Nat)) = (cost w h b T a (ts.take (i + 1)) : Nat) := by
        rw [cost_succ hlt, w64 (by omega) (by omega)]; omega
      have ws := fun F L => walkT_c (frz := F) (H := H ++ L) w h v u b T a ts[i] (hI.app _) (hT.app _) hl h1.1 h1.2.1 hx
      simp [x1, x2, x3, x4, h4, h5, h9, hlt, hI.one', hI.cells, hT.one', hT.cells, hS.idxA, hS.loadA, getD_get, ws]
      by_cases hw : walk w h b T a ts[i] = []
      · have e2 : IntKind.i64.wrap (cost w h b T a (ts.take i) : Int) = (cost w h b T a (ts.take (i + 1)) : Nat) := by rw [← e1, hw]; simp
        simp [x1, x2, x3, x4, h4, h5, h9, hlt, ret, hw]
        refine ih (ts.length - (i + 1)) _ _ ⟨i + 1, G, rfl, by omega, by simp [x1], by simp [x2], by simp [x3], ?_, by simp [h4], by simp [h5], ?_, rfl⟩ (by omega)
        · simp; rw [w64 (by omega) (by omega)]
        · simpa using e2
      · simp [x1, x2, x3, x4, h4, h5, h9, hlt, ret, hw]
        refine ih (ts.length - (i + 1)) _ _ ⟨i + 1, G ++ [⟨(walk w h b T a ts[i]).map (.int .i64), 0, 3⟩], rfl, by omega, by simp [x1], by simp [x2], by simp [x3], ?_, by simp [h4], by simp [h5], ?_, by simp⟩ (by omega)
        · simp; rw [w64 (by omega) (by omega)]
        · simpa using e1
    · have : i = ts.length := by omega
      subst this
      simp [x1, x2, x3, x4, h4, h5, h9, hlt]
end Go.Proofs.Ytnakhkfgheapoaa.V
/-! Links. -/
set_option linter.all false
namespace Go.Proofs.Ytnakhkfgheapoaa.V
open Go Go.VM Go.Proofs
set_option maxRecDepth 10000
variable {frz : Nat} {H : Heap}
theorem opposite_c (p : Int) : vcall C frz 146 [.int .i64 p] H = some (.int .i64 (opp p), H) := by
  rw [vcall_go (fn := Try.f146) Try.func146 rfl (by kernel_rfl) rfl]
  simp
  refine br_dec _ ?_ ?_ <;> intro h1 <;> simp [h1, opp, inside_c]
  refine br_dec _ ?_ ?_ <;> intro h2
  · obtain ⟨h3, h4⟩ := h2
    simp [h3, h4]
    rw [w64 (by omega) (by omega), Int.tmod_eq_emod_of_nonneg (by omega)]
  · have h3 : ¬ (0 ≤ p ∧ p ≤ 3) := h2
    simp [h3]
theorem sOpposite_c (p : Int) : vcall C frz 165 [.int .i64 p] H = some (.int .i64 (opp p), H) := by
  rw [vcall_go (fn := Try.f165) Try.func165 rfl (by kernel_rfl) rfl]
  simp
  refine br_dec _ ?_ ?_ <;> intro h1 <;> simp [h1, opp, l01In_c]
  refine br_dec _ ?_ ?_ <;> intro h2
  · obtain ⟨h3, h4⟩ := h2
    simp [h3, h4]
    rw [w64 (by omega) (by omega), Int.tmod_eq_emod_of_nonneg (by omega)]
  · have h3 : ¬ (0 ≤ p ∧ p ≤ 3) := h2
    simp [h3]
theorem opp_range (p : Int) : -1 ≤ opp p ∧ opp p ≤ 4 := by unfold opp; split <;> (try split) <;> omega
theorem endC_range (w h c : Int) : -1 ≤ endC w h c ∧ endC w h c < 16 := next_range _ _ _ _
theorem leads_lt {w h c : Int} (h1 : leads w h c) : 0 ≤ c ∧ c < 64 := by have := cnt_range w h; have := h1.1; omega
theorem back_w64 {w h c : Int} : IntKind.i64.wrap (4 * endC w h c) = 4 * endC w h c ∧ IntKind.i64.wrap (4 * endC w h c + opp (c % 4)) = backC w h c := by
  have h1 := endC_range w h c
  have h2 := opp_range (c % 4)
  exact ⟨w64 (by omega) (by omega), by unfold backC; exact w64 (by omega) (by omega)⟩
theorem back_c (w h : Int) (v : Value) (b : List Int) (c : Int) (hI : IsI H v b) (h0 : leads w h c) :
   vcall C frz 126 [.agg #[.int .i64 w, .int .i64 h, v], .int .i64 c] H = some (.int .i64 (backC w h c), H) := by
  rw [vcall_go (fn := Try.f126) Try.func126 rfl (by kernel_rfl) rfl]
  obtain ⟨e1, e2⟩ := chan_div h0.1
  obtain ⟨e3, e4⟩ := back_w64 (w := w) (h := h) (c := c)
  have e5 : next w h (c / 4) (c % 4) = endC w h c := rfl
  simp [hI.one', hI.cells, endOf_c _ _ _ _ _ (hI.app _) h0, e2, opposite_c, e3, e4, e5]
theorem isLink_c (w h : Int) (v : Value) (b : List Int) (c : Int) (hI : IsI H v b) (hl : b.length ≤ 1073741824) :
   vcall C frz 80 [.agg #[.int .i64 w, .int .i64 h, v], .int .i64 c] H = some (.bool (decide (meshOk w h b ∧ link w h b c)), H) := by
  rw [vcall_go (fn := Try.f80) Try.func80 rfl (by kernel_rfl) rfl]
  simp [hI.one', hI.cells]
  rw [go_draw (h := by kernel_rfl)]
  simp [hI.one', hI.cells, hasChannel_c _ _ _ _ _ (hI.app _) hl, -Bool.decide_and]
  refine gd_dec _ _ ?_ ?_ <;> intro h1
  · simp [h1, hI.one', hI.cells, back_c _ _ _ _ _ (hI.app _) h1.2.1, hasChannel_c _ _ _ _ _ (hI.app _) hl, link]
  · have h2 : ¬ (meshOk w h b ∧ link w h b c) := fun hh => h1 ⟨hh.1, hh.2.1⟩
    simp [h1]
    exact fun a b => h2 ⟨a, b⟩
theorem l31Link_c (w h : Int) (v : Value) (b : List Int) (c : Int) (hI : IsI H v b) (hl : b.length ≤ 1073741824) :
   vcall C frz 150 [.agg #[.int .i64 w, .int .i64 h, v], .int .i64 c] H = some (.bool (decide (link w h b c)), H) := by
  rw [vcall_go (fn := Try.f150) Try.func150 rfl (by kernel_rfl) rfl]
  simp [hI.one', hI.cells, l03Has_c _ _ _ _ _ (hI.app _) hl, -Bool.decide_and]
  refine br_dec _ ?_ ?_ <;> intro h1
  · obtain ⟨e1, e2⟩ := chan_div h1.1.1
    obtain ⟨e3, e4⟩ := back_w64 (w := w) (h := h) (c := c)
    have e5 : next w h (c / 4) (c % 4) = endC w h c := rfl
    simp
    rw [go_draw (h := by kernel_rfl)]
    simp [h1, hI.one', hI.cells, e1, e2, sNextNode_c, sOpposite_c, e3, e4, e5, l03Has_c _ _ _ _ _ (hI.app _) hl, link]
  · simp [link, h1]
end Go.Proofs.Ytnakhkfgheapoaa.V
/-! slices.Repeat of one number. -/
set_option linter.all false
namespace Go.Proofs.Ytnakhkfgheapoaa.V
open Go Go.VM Go.Proofs
set_option maxRecDepth 10000
variable {frz : Nat} {H : Heap}
theorem u64w {x : Int} (h1 : 0 ≤ x) (h2 : x ≤ 18446744073709551615) : IntKind.u64.wrap x = x := by
  have : IntKind.u64.wrap x = x % 18446744073709551616 := by
    simp [IntKind.wrap, IntKind.bits, IntKind.signed]
  rw [this]; omega
theorem iand_mask (m : Nat) (h : m < 4294967296) : iand .u64 (m : Int) 4294967295 = m := by
  have := bits_and m 4294967295 (by omega) (by omega) .u64 rfl
  have e : ((4294967295 : Nat) : Int) = 4294967295 := rfl
  rw [e] at this
  unfold iand
  rw [this, show (4294967295 : Nat) = 2 ^ 32 - 1 from rfl, Nat.and_two_pow_sub_one_eq_mod, u64w (by omega) (by omega)]
  omega
theorem ishr32 (m : Nat) (h : m < 4294967296) : ishr .u64 (m : Int) 32 = 0 := by
  have := ishr_nat .u64 m 32 (by decide)
  have e : ((32 : Nat) : Int) = 32 := rfl
  rw [e] at this
  rw [this]; omega
theorem mul64_c (n : Nat) (h : n < 4294967296) : vcall C frz 145 [.int .u64 1, .int .u64 n] H = some (.tuple #[.int .u64 0, .int .u64 n], H) := by
  rw [vcall_go (fn := Try.f145) Try.func145 rfl (by kernel_rfl) rfl]
  have a1 := iand_mask 1 (by omega)
  have a0 := iand_mask 0 (by omega)
  have s1 := ishr32 1 (by omega)
  have s0 := ishr32 0 (by omega)
  have an := iand_mask n h
  have sn := ishr32 n h
  simp only [Int.natCast_zero, Int.natCast_one] at a1 a0 s1 s0
  have w0 : IntKind.u64.wrap 0 = 0 := by decide
  have wn : IntKind.u64.wrap (n : Int) = n := u64w (by omega) (by omega)
  simp [a1, s1, an, sn, wn, w0, a0, s0]
theorem mul_c (n : Nat) (h : n < 4294967296) : vcall C frz 125 [.int .u64 1, .int .u64 n] H = some (.tuple #[.int .u64 0, .int .u64 n], H) := by
  rw [vcall_go (fn := Try.f125) Try.func125 rfl (by kernel_rfl) rfl]
  simp [mul64_c n h]
theorem splice_rep (c z : Value) (k m : Nat) (j : Nat) (h : j ≤ m) : VM.splice (List.replicate k c ++ List.replicate m z) k (List.replicate j c) = List.replicate (k + j) c ++ List.replicate (m - j) z := by
  unfold VM.splice
  rw [List.take_left' (by simp), List.drop_append, List.drop_of_length_le (by simp)]
  simp only [List.length_replicate, Nat.add_sub_cancel_left, List.nil_append, List.drop_replicate]
  rw [List.replicate_append_replicate]
theorem repeat_c (id : Nat) (c : Int) (n : Nat) (hr : H[id]? = some ⟨[.int .i64 c], 0, 3⟩) (h1 : 1 ≤ n) (h2 : n ≤ 536870912) :
   vcall C frz 78 [.slice (some ⟨id, 0, some 0⟩) 1 0, .int .i64 n] H = some (.slice (some ⟨H.length, 0, some 0⟩) n 0, H ++ [⟨List.replicate n (.int .i64 c), 0, 3⟩]) := by
  rw [vcall_go (fn := Try.f78) Try.func78 rfl (by kernel_rfl) rfl]
  have e0 : ¬ (n : Int) < 0 := by omega
  have e1 : IntKind.u64.wrap (n : Int) = n := u64w (by omega) (by omega)
  have e2 : IntKind.u64.wrap 1 = 1 := by decide
  have e3 : IntKind.i64.wrap (n : Int) = n := w64 (by omega) (by omega)
  have e4 : ¬ (9223372036854775807 : Int) < n := by omega
  simp [VM.look, hr, e0, e1, e2, e3, e4, mul_c n (by omega)]
  refine vneed_eq (by omega) ?_
  have lk : ∀ L, (H ++ L)[id]? = some ⟨[.int .i64 c], 0, 3⟩ := fun L => by rw [List.getElem?_append_left (List.getElem?_eq_some_iff.1 hr).1, hr]
  have er : VM.splice (List.replicate n (Value.int .i64 0)) 0 [.int .i64 c] = List.replicate 1 (.int .i64 c) ++ List.replicate (n - 1) (.int .i64 0) := by
    have := splice_rep (.int .i64 c) (.int .i64 0) 0 n 1 h1
    simpa using this
  have m1 : Nat.min 1 n = 1 := Nat.min_eq_left h1
  simp [VM.look, lk, m1, er]
  refine go_inv (fun m t H' => ∃ k : Nat, m = n - k ∧ 1 ≤ k ∧ k ≤ n ∧ t 7 = .slice (some ⟨H.length, 0, some 0⟩) n 0 ∧ t 8 = .int .i64 k ∧ H' = H ++ [⟨List.replicate k (.int .i64 c) ++ List.replicate (n - k) (.int .i64 0), 0, 3⟩]) ?_ (n := n - 1) ⟨1, by simp [e3]; exact h1⟩
  rintro m t H' ⟨k, rfl, hk1, hk, h7, h8, rfl⟩ ih
  simp [h7, h8]
  refine br_dec _ ?_ ?_ <;> intro hkn
  · simp [h7, h8]
    rw [go_draw (h := by kernel_rfl)]
    simp [h7, h8]
    have hmin : k.min (n - k) = min k (n - k) := rfl
    have hrep := splice_rep (.int .i64 c) (.int .i64 0) k (n - k) (min k (n - k)) (Nat.min_le_right _ _)
    have hones : ones (List.replicate k (Value.int .i64 c)) = true := by simp [ones, VM.one]
    refine vneed_eq hk (vneed_eq hk (vneed_eq hones ?_))
    refine ih (n - (k + min k (n - k))) _ _ ⟨k + min k (n - k), rfl, by omega, by omega, by simp [h7], ?_, ?_⟩ (by omega)
    · simp [hmin]; rw [w64 (by omega) (by omega)]
    · rw [hrep]; congr 3; congr 1; congr 1; omega
  · have : k = n := by omega
    subst this
    simp [h7, h8]
end Go.Proofs.Ytnakhkfgheapoaa.V
/-! TreeNodes. -/
set_option linter.all false
namespace Go.Proofs.Ytnakhkfgheapoaa.V
open Go Go.VM Go.Proofs
set_option maxRecDepth 10000
variable {frz : Nat} {H : Heap}
theorem made_base {α : Type} {D : Fl α} {e : TypeId} {L H' : Heap} {xs : List α} {r : Value} (h : Made D e (H ++ L) xs r H') : Made D e H xs r H' := by
  obtain ⟨M, rfl, o, n⟩ := h
  exact ⟨L ++ M, by simp, by simpa using o, fun i hi => by have := n i hi; simp at this; omega⟩
theorem idx_get {y : List Int} {c : Int} (h : c ∈ y) : y[y.idxOf c]'(List.idxOf_lt_length_iff.2 h) = c := by
  have := List.findIdx_getElem (p := (· == c)) (xs := y) (w := List.idxOf_lt_length_iff.2 h)
  simpa using this
theorem idx_ne {y : List Int} {c : Int} {j : Nat} (h : j < y.idxOf c) (h' : j < y.length) : y[j] ≠ c := by
  have := List.not_of_lt_findIdx (p := (· == c)) (xs := y) h
  simpa using this
theorem idx_at {y : List Int} {c : Int} {j : Nat} (h : j < y.length) (h1 : y[j] = c) : y.idxOf c ≤ j := by
  by_cases hj : j < y.idxOf c
  · exact absurd h1 (idx_ne hj h)
  · omega
theorem swapI {A B : Heap} {v : Value} {xs : List Int} {r : Row} (r' : Row) (h : IsI (A ++ r :: B) v xs) (hn : ∀ i ∈ ids v, A.length + 1 ≤ i) : IsI (A ++ r' :: B) v xs :=
  (h.rd.frame fun i hi => by
    have := hn i hi
    obtain ⟨k, rfl⟩ : ∃ k, i = A.length + (k + 1) := ⟨i - A.length - 1, by omega⟩
    simp).isI
theorem treeNodes_w (v : Value) (P : List Int) (a b : Int) (hI : IsI H v P) (hl : P.length ≤ 536870911) :
   wp (vcall C frz 17 [v, .int .i64 a, .int .i64 b] H) (Made Fl.int 3 H (treeNodes P a b)) := by
  rw [vcall_go (fn := Try.f17) Try.func17 rfl (by kernel_rfl) rfl]
  simp [common_c _ _ _ _ hI (by omega)]
  refine wp_dec ?_ ?_ <;> intro h0
  · simp [treeNodes, h0]
    exact ⟨[], by simp, .inl ⟨rfl, rfl⟩, by simp⟩
  · simp
    refine wp_thn (anc_w v P a hI (by omega)) ?_
    rintro va _ ⟨L1, rfl, oa, na⟩
    simp
    refine wp_thn (anc_w v P b (hI.app _) (by omega)) ?_
    rintro vb _ ⟨L2, rfl, ob, nb⟩
    have ltA := oa.lt
    have oa := oa.app (L := L2)
    have hla := anc_len P a
    have hlb := anc_len P b
    simp only [List.append_assoc] at oa ob
    obtain ⟨ma, mb⟩ := common_mem (P := P) (a := a) (b := b) (by omega)
    have ia := List.idxOf_lt_length_iff.2 ma
    have ib := List.idxOf_lt_length_iff.2 mb
    simp
    rw [go_draw (h := by kernel_rfl)]
    have e1 : IntKind.i64.wrap (((anc P a).idxOf (common P a b) : Int) + 1) = (((anc P a).idxOf (common P a b) + 1 : Nat) : Int) := by rw [w64 (by omega) (by omega)]; omega
    obtain ⟨va', s1, oa', ida⟩ := oa.slice (P := Try.prog) (ty := 22) (by simp) (lo := none) (hi := some (.int .i64 (((anc P a).idxOf (common P a b) + 1 : Nat) : Int))) (l := 0) (u := (anc P a).idxOf (common P a b) + 1) rfl rfl (by omega) (by omega)
    obtain ⟨vb', s2, ob', idb⟩ := ob.slice (P := Try.prog) (ty := 22) (by simp) (lo := none) (hi := some (.int .i64 ((anc P b).idxOf (common P a b) : Int))) (l := 0) (u := (anc P b).idxOf (common P a b)) rfl rfl (by omega) (by omega)
    rw [List.drop_zero, Nat.sub_zero] at oa' ob'
    have e0 : place (anc P a) (common P a b) = ((anc P a).idxOf (common P a b) : Int) := if_pos ma
    have e00 : place (anc P b) (common P a b) = ((anc P b).idxOf (common P a b) : Int) := if_pos mb
    rw [e1.symm] at s1
    simp [index_c _ _ _ oa.rd.isI (by omega), e0]
    simp only [s1]
    simp [index_c _ _ _ ob.rd.isI (by omega), e00]
    simp only [s2]
    simp
    rw [ida.symm] at na ltA
    rw [idb.symm] at nb
    refine wp_thn (reverse_w vb' _ 3 ob' (by simp; omega) (fun i hi => by have := nb i hi; simp at this; omega)) ?_
    rintro _ H3 ⟨ob3, c3, l3⟩
    have oa3 := oa'.chg c3 (fun i hi hh => by have h1 := ltA i hi; have h2 := nb i hh; omega)
    obtain ⟨M, rfl⟩ : ∃ M, H3 = H ++ M := ((Chg.app (H := H) (L := L1 ++ L2) []).trans' c3 (fun i hi => .inr (by have := nb i hi; simp at this; omega))).ex (by simp)
    simp
    simp [oa3.rd.one', oa3.rd.cells, ob3.rd.one', ob3.rd.cells]
    refine wp_thn (Q' := Made Fl.int 3 H (treeNodes P a b)) ?_ ?_
    · refine (made_ret (H := H ++ (M ++ [⟨[va', vb'], 0, 22⟩])) (concat_c (H := H ++ (M ++ [⟨[va', vb'], 0, 22⟩])) (H.length + M.length) va' vb' ((anc P a).take ((anc P a).idxOf (common P a b) + 1)) ((anc P b).take ((anc P b).idxOf (common P a b))).reverse (by simp) ?_ ?_ (by simp; omega))).mono ?_
      · have := oa3.rd.isI.app [⟨[va', vb'], 0, 22⟩]; simpa using this
      · have := ob3.rd.isI.app [⟨[va', vb'], 0, 22⟩]; simpa using this
      · intro r H4 h4
        rw [treeNodes, if_neg h0]
        exact made_base h4
    · intro r H4 h4
      simp
      exact h4
end Go.Proofs.Ytnakhkfgheapoaa.V
/-! TreeDepths. -/
set_option linter.all false
namespace Go.Proofs.Ytnakhkfgheapoaa.V
open Go Go.VM Go.Proofs
set_option maxRecDepth 10000
variable {frz : Nat} {H : Heap}
theorem rowget {xs : List Int} {x : Int} (h0 : 0 ≤ x) (h1 : x < xs.length) : (xs.map (Value.int .i64))[x.toNat]? = some (.int .i64 (rd xs x)) := by
  obtain ⟨i, rfl⟩ := Int.eq_ofNat_of_zero_le h0
  rw [rd_at (by omega)]; simp
theorem rd_nat {xs : List Int} {x : Int} (h0 : 0 ≤ x) (h1 : x < xs.length) : xs[x.toNat]'(by omega) = rd xs x := by
  obtain ⟨i, rfl⟩ := Int.eq_ofNat_of_zero_le h0
  rw [rd_at (by omega)]; rfl
theorem rowset {xs : List Int} {x c : Int} (h0 : 0 ≤ x) (h1 : x < xs.length) : VM.splice (xs.map (Value.int .i64)) x.toNat [.int .i64 c] = (xs.set x.toNat c).map (.int .i64) := by
  unfold VM.splice
  rw [List.set_eq_take_append_cons_drop, if_pos (by omega)]
  simp
theorem wr1 : IntKind.i64.wrap 1 = 1 := by decide
theorem run_next {w h : Int} {b s rest nx r : List Int} {d : Int} (R : Run w h b s rest nx d r) (i : Inv w h s rest nx d) : (rest = [] ∧ nx = [] ∧ s = r) ∨
    ∃ a rest' nx' d', rest ++ nx = a :: (rest' ++ nx') ∧ Inv w h s (a :: rest') nx' d' ∧ Run w h b (vis w h b a d' (s, nx')).1 rest' (vis w h b a d' (s, nx')).2 d' r := by
  cases R with
  | done => exact .inl ⟨rfl, rfl, rfl⟩
  | level R =>
    cases R with
    | node R => exact .inr ⟨_, _, [], _, by simp, i.level, R⟩
  | node R => exact .inr ⟨_, _, _, _, by simp, i, R⟩
theorem treeDepths_w (w h : Int) (v : Value) (b : List Int) (root : Int) (hI : IsI H v b) (hl : b.length ≤ 1073741824) :
   wp (vcall C frz 24 [.agg #[.int .i64 w, .int .i64 h, v], .int .i64 root] H) (Made Fl.int 3 H (depths w h b root)) := by
  rw [vcall_go (fn := Try.f24) Try.func24 rfl (by kernel_rfl) rfl]
  have one := And.intro hI.one' hI.cells
  simp [one, isRoot_c _ _ _ _ _ (hI.app _) hl, -Bool.decide_and]
  refine wp_dec ?_ ?_ <;> intro hR
  · have R := depths_run hR
    have hc := cnt_range w h
    obtain ⟨hm, hr⟩ := hR
    obtain ⟨i0, hq0⟩ := start_inv hr
    obtain ⟨r0, r1⟩ := hr
    have hn1 : 1 ≤ (cnt w h).toNat := by omega
    have ecn : ((cnt w h).toNat : Int) = cnt w h := by omega
    have rep := fun F L (hr : (H ++ ⟨[.int .i64 w, .int .i64 h, v], 0, 33⟩ :: L)[H.length + 1]? = some ⟨[.int .i64 (-1)], 0, 3⟩) => repeat_c (frz := F) (H := H ++ ⟨[.int .i64 w, .int .i64 h, v], 0, 33⟩ :: L) (H.length + 1) (-1) (cnt w h).toNat hr hn1 (by omega)
    rw [ecn] at rep
    simp [one, nodeCount_c]
    rw [rep _ _ (by simp)]
    have er : List.replicate (cnt w h).toNat (Value.int .i64 (-1)) = (List.replicate (cnt w h).toNat (-1 : Int)).map (.int .i64) := by simp
    have es := rowset (xs := List.replicate (cnt w h).toNat (-1 : Int)) (c := 0) r0 (by simp; omega)
    rw [er]
    simp only [thn_some]
    have hrl : root < ((cnt w h).toNat : Int) := by omega
    simp [r0, r1, hrl, -List.map_replicate, es, -List.map_set]
    refine wp_need (by omega) (wp_need (by omega) ?_)
    have est : (List.replicate (cnt w h).toNat (-1 : Int)).set root.toNat 0 = start w h root := rfl
    rw [est]
    have hlm : b.length ≤ 1073741824 := hl
    refine wp_inv (fun n t H' => ∃ (s don rest nx q : List Int) (d : Int) (g : Nat) (G : Heap), n = (cnt w h).toNat - don.length ∧ q = don ++ (rest ++ nx) ∧
      t 2 = .pointer (some ⟨H.length, 0, some 0⟩) ∧ t 5 = .slice (some ⟨H.length + 2, 0, some 0⟩) s.length 0 ∧ t 6 = .slice (some ⟨H.length + 3, 0, some g⟩) q.length 0 ∧ t 7 = .int .i64 don.length ∧
      H' = H ++ ⟨[.int .i64 w, .int .i64 h, v], 0, 33⟩ :: ⟨[.int .i64 (-1)], 0, 3⟩ :: ⟨s.map (.int .i64), 0, 3⟩ :: ⟨q.map (.int .i64), g, 3⟩ :: G ∧
      Run w h b s rest nx d (depths w h b root) ∧ Inv w h s rest nx d ∧ ((don.length + rest.length + nx.length + neg s : Nat) : Int) = cnt w h) ?_
      (n := (cnt w h).toNat) ⟨start w h root, [], [root], [], [root], 1, 0, [], by simp, by simp, by simp, by simp [start], by simp, by simp, by simp, R, i0, by simp; omega⟩
    clear R i0 hq0 rep
    rintro n t H' ⟨s, don, rest, nx, q, d, g, G, rfl, hqe, h2, h5, h6, h7, rfl, R, i, hq⟩ ih
    have hql := congrArg List.length hqe
    simp at hql
    simp [h2, h5, h6, h7]
    rcases run_next R i with ⟨rfl, rfl, rfl⟩ | ⟨a, rest', nx', d', hcat, i', R'⟩
    · have hlt : ¬ don.length < q.length := by simp at hql; omega
      simp [h2, h5, h6, h7, hlt]
      exact ⟨_, rfl, Ow.new (k := 2) rfl (cellsOf_int _).symm (by simp) rfl, by simp⟩
    · have hlc := congrArg List.length hcat
      simp at hlc
      have hlt : don.length < q.length := by omega
      have hget : q[don.length]? = some a := by rw [hqe, hcat]; simp
      have hgv : q[don.length] = a := by have := List.getElem?_eq_getElem hlt; rw [hget] at this; exact (Option.some.inj this).symm
      obtain ⟨ha, hda⟩ := i'.fr a (by simp)
      have ha1 := (isN_ok ha)
      have h1d := i'.one
      have hsd := i'.sum
      simp [h2, h5, h6, h7, hlt, hgv]
      refine wp_inv (fun n t H' => ∃ (x : List Int × List Int) (p g : Nat) (G : Heap), n = 4 - p ∧ p ≤ 4 ∧ x = (List.range p).foldl (vst w h b a d') (s, q) ∧ BExt w h d' (s, q) x ∧
        t 2 = .pointer (some ⟨H.length, 0, some 0⟩) ∧ t 5 = .slice (some ⟨H.length + 2, 0, some 0⟩) x.1.length 0 ∧ t 6 = .slice (some ⟨H.length + 3, 0, some g⟩) x.2.length 0 ∧ t 7 = .int .i64 don.length ∧
        t 8 = .int .i64 a ∧ t 9 = .int .i64 p ∧
        H' = H ++ ⟨[.int .i64 w, .int .i64 h, v], 0, 33⟩ :: ⟨[.int .i64 (-1)], 0, 3⟩ :: ⟨x.1.map (.int .i64), 0, 3⟩ :: ⟨x.2.map (.int .i64), g, 3⟩ :: G) ?_
        (n := 4) ⟨(s, q), 0, g, G, by simp, by simp, by simp, BExt.rfl', by simp [h2], by simp [h5], by simp [h6], by simp [h7], by simp, by simp, by simp⟩
      clear h2 h5 h6 h7
      rintro n t H' ⟨x, p, g, G, rfl, hp, hx, E, h2, h5, h6, h7, h8, h9, rfl⟩ ih2
      have hlen : (x.1.length : Int) = cnt w h := by rw [E.len]; exact i.len
      have hxq : x.2.length ≤ 16 := by have := E.sum; simp at this; omega
      simp [h2, h5, h6, h7, h8, h9]
      refine wp_dec ?_ ?_ <;> intro hp4
      · have hp4' : p < 4 := by omega
        have e1 : IntKind.i64.wrap (4 * a) = 4 * a := w64 (by omega) (by omega)
        have e2 : IntKind.i64.wrap (4 * a + p) = 4 * a + p := w64 (by omega) (by omega)
        have nxt := fun (x' : List Int × List Int) (t' : Env) (g' : Nat) (G' H' : Heap) (hH : H' = H ++ ⟨[.int .i64 w, .int .i64 h, v], 0, 33⟩ :: ⟨[.int .i64 (-1)], 0, 3⟩ :: ⟨x'.1.map (.int .i64), 0, 3⟩ :: ⟨x'.2.map (.int .i64), g', 3⟩ :: G') (hx' : x' = vst w h b a d' x p) (k2 : t' 2 = .pointer (some ⟨H.length, 0, some 0⟩)) (k5 : t' 5 = .slice (some ⟨H.length + 2, 0, some 0⟩) x'.1.length 0) (k6 : t' 6 = .slice (some ⟨H.length + 3, 0, some g'⟩) x'.2.length 0) (k7 : t' 7 = .int .i64 don.length) (k8 : t' 8 = .int .i64 a) (k9 : t' 9 = .int .i64 (p + 1 : Nat)) =>
          ih2 (4 - (p + 1)) t' H'
            ⟨x', p + 1, g', G', rfl, by omega, by rw [List.range_succ, List.foldl_append, ← hx]; exact hx', by rw [hx']; exact E.trans (by omega) (vst_ext hp4' (by omega)), k2, k5, k6, k7, k8, k9, hH⟩ (by omega)
        have w9 : IntKind.i64.wrap ((p : Int) + 1) = ((p + 1 : Nat) : Int) := by rw [w64 (by omega) (by omega)]; omega
        simp [h2, h5, h6, h7, h8, h9, one, e1, e2, isLink_c _ _ _ _ _ (hI.app _) hl, hm]
        refine wp_dec ?_ ?_ <;> intro hlk
        · obtain ⟨_, hn, he⟩ := link_next hp4' hlk
          have hend := fun F L => (congrArg (fun z => some (Value.int .i64 z, H ++ L)) he) ▸ endOf_c (frz := F) w h v b (4 * a + (p : Int)) (hI.app L) hlk.1.1
          have hn1 := hn.1
          have hn2 : next w h a p < (x.1.length : Int) := by have := hn.2; omega
          have hg := rowget (xs := x.1) hn1 hn2
          have hr1 := rd_nat hn1 hn2
          have hra : rd x.1 a = d' - 1 := by rw [E.old a ha.1 (show 0 ≤ rd s a by omega)]; exact hda
          have ha2 : a < (x.1.length : Int) := by have := ha.2; omega
          have hr2 := rd_nat ha.1 ha2
          simp [h2, h5, h6, h7, h8, h9, one, e1, e2, hend, hn1, hn2, hr1]
          refine wp_dec ?_ ?_ <;> intro hz
          · have hset := rowset (c := d') hn1 hn2
            have ev : vst w h b a d' x p = (x.1.set (next w h a p).toNat d', x.2 ++ [next w h a p]) := by unfold vst; rw [if_pos ⟨hlk, hz⟩]
            have wd : IntKind.i64.wrap d' = d' := w64 (by omega) (by omega)
            have ha0 := ha.1
            simp [h2, h5, h6, h7, h8, h9, hn1, hn2, ha0, ha2, hr2, hra, wd]
            refine wp_need (by omega) (wp_need (by omega) ?_)
            rw [hset]
            refine nxt (x.1.set (next w h a p).toNat d', x.2 ++ [next w h a p]) _ (g + 1) (G ++ [⟨[.int .i64 (next w h a p)], 0, 3⟩]) _ (by simp) ev.symm (by simp [h2]) (by simp [h5]) (by simp) (by simp [h7]) (by simp [h8]) (by simp [w9])
          · simp [h2, h5, h6, h7, h8, h9, hz]
            have ev : x = vst w h b a d' x p := by unfold vst; rw [if_neg (fun hh => hz hh.2)]
            refine nxt x _ g G _ (by simp) ev (by simp [h2]) (by simp [h5]) (by simp [h6]) (by simp [h7]) (by simp [h8]) (by simp [w9])
        · simp [h2, h5, h6, h7, h8, h9, hlk]
          have ev : x = vst w h b a d' x p := by unfold vst; rw [if_neg (fun hh => hlk hh.1)]
          refine nxt x _ g G _ (by simp) ev (by simp [h2]) (by simp [h5]) (by simp [h6]) (by simp [h7]) (by simp [h8]) (by simp [w9])
      · have : p = 4 := by omega
        subst this
        have e2 : x = ((vis w h b a d' (s, nx')).1, (don ++ a :: rest') ++ (vis w h b a d' (s, nx')).2) := by
          rw [hx, hqe, hcat]; exact vis_app (don ++ a :: rest') s nx' |> fun hh => by simpa [vis] using hh
        simp [h2, h5, h6, h7, h8, h9]
        have hs1 := (vis_ext (w := w) (h := h) (b := b) (a := a) (d := d') (by omega) (s, nx')).sum
        simp only at hs1
        refine ih ((cnt w h).toNat - (don ++ [a]).length) _ _ ⟨(vis w h b a d' (s, nx')).1, don ++ [a], rest', (vis w h b a d' (s, nx')).2, x.2, d', g, G, rfl, ?_, by simp [h2], ?_, by simp [h6], ?_, ?_, R', i'.node, ?_⟩ (by simp; omega)
        · rw [e2]; simp
        · simp [h5, e2]
        · simp; rw [w64 (by omega) (by omega)]
        · rw [e2]
        · simp; omega
  · rw [depths_no hR]
    simp
    exact ⟨_, rfl, .inl ⟨rfl, rfl⟩, by simp⟩
end Go.Proofs.Ytnakhkfgheapoaa.V
/-! TreeDepths of the reference. -/
set_option linter.all false
namespace Go.Proofs.Ytnakhkfgheapoaa.V
open Go Go.VM Go.Proofs
set_option maxRecDepth 10000
variable {frz : Nat} {H : Heap}
theorem run_level {w h : Int} {b s nx r : List Int} {d : Int} (R : Run w h b s [] nx d r) (i : Inv w h s [] nx d) : (nx = [] ∧ s = r) ∨ (Run w h b s nx [] (d + 1) r ∧ Inv w h s nx [] (d + 1)) := by
  cases R with
  | done => exact .inl ⟨rfl, rfl⟩
  | level R => exact .inr ⟨R, i.level⟩
theorem run_node {w h : Int} {b s rest nx r : List Int} {a d : Int} (R : Run w h b s (a :: rest) nx d r) : Run w h b (vis w h b a d (s, nx)).1 rest (vis w h b a d (s, nx)).2 d r := by
  cases R with
  | node R => exact R
theorem l31Depths_w (w h : Int) (v : Value) (b : List Int) (root : Int) (hI : IsI H v b) (hl : b.length ≤ 1073741824) (hR : rootOk w h b root) :
   wp (vcall C frz 149 [.agg #[.int .i64 w, .int .i64 h, v], .int .i64 root] H) (Made Fl.int 3 H (depths w h b root)) := by
  rw [vcall_go (fn := Try.f149) Try.func149 rfl (by kernel_rfl) rfl]
  have one := And.intro hI.one' hI.cells
  have R := depths_run hR
  have hc := cnt_range w h
  obtain ⟨hm, hr⟩ := hR
  obtain ⟨i0, hq0⟩ := start_inv hr
  obtain ⟨r0, r1⟩ := hr
  simp [one]
  refine wp_inv (fun n t H' => ∃ (i : Nat) (G : Heap), n = (cnt w h).toNat - i ∧ i ≤ (cnt w h).toNat ∧ t 1 = .int .i64 root ∧ t 2 = .pointer (some ⟨H.length, 0, some 0⟩) ∧ t 5 = .slice (some ⟨H.length + 1, 0, some i⟩) i 0 ∧ t 6 = .int .i64 i ∧
    H' = H ++ ⟨[.int .i64 w, .int .i64 h, v], 0, 33⟩ :: ⟨(List.replicate i (-1 : Int)).map (.int .i64), i, 3⟩ :: G) ?_ (n := (cnt w h).toNat) ⟨0, [], by simp⟩
  rintro n t H' ⟨i, G, rfl, hi, h1, h2, h5, h6, rfl⟩ ih
  simp [h1, h2, h5, h6, one, sNodeCount_c, -List.map_replicate]
  refine wp_dec ?_ ?_ <;> intro hic
  · simp [h1, h2, h5, h6, one, -List.map_replicate]
    refine wp_need (by omega) ?_
    refine ih ((cnt w h).toNat - (i + 1)) _ _ ⟨i + 1, G ++ [⟨[.int .i64 (-1)], 0, 3⟩], rfl, by omega, by simp [h1], by simp [h2], by simp, ?_, ?_⟩ (by omega)
    · simp; rw [w64 (by omega) (by omega)]
    · simp [List.replicate_succ', -List.map_replicate]
  · have : i = (cnt w h).toNat := by omega
    subst this
    have es := rowset (xs := List.replicate (cnt w h).toNat (-1 : Int)) (c := 0) r0 (by simp; omega)
    have hrl : root < ((cnt w h).toNat : Int) := by omega
    have est : (List.replicate (cnt w h).toNat (-1 : Int)).set root.toNat 0 = start w h root := rfl
    simp [h1, h2, h5, h6, one, r0, r1, hrl, -List.map_replicate, es, -List.map_set, est]
    refine wp_need (by omega) (wp_need (by omega) ?_)
    clear ih h1 h6
    generalize hg0 : (cnt w h).toNat = g0
    have hcg : (cnt w h) = (g0 : Int) := by omega
    refine wp_inv (fun n t H' => ∃ (s fr : List Int) (d : Int) (vf : Value) (L : Heap), n = g0 + 2 - d.toNat ∧ 1 ≤ d ∧ d ≤ g0 + 1 ∧ s.length = g0 ∧ fr.length ≤ 16 ∧
      t 2 = .pointer (some ⟨H.length, 0, some 0⟩) ∧ t 5 = .slice (some ⟨H.length + 1, 0, some g0⟩) s.length 0 ∧ t 7 = vf ∧ t 8 = .int .i64 d ∧
      H' = H ++ ⟨[.int .i64 w, .int .i64 h, v], 0, 33⟩ :: ⟨s.map (.int .i64), g0, 3⟩ :: L ∧
      (∀ r1 L', IsI (H ++ ⟨[.int .i64 w, .int .i64 h, v], 0, 33⟩ :: r1 :: (L ++ L')) vf fr) ∧
      ((fr = [] ∧ s = depths w h b root) ∨ (Run w h b s fr [] d (depths w h b root) ∧ Inv w h s fr [] d))) ?_
      (n := g0 + 1) ⟨start w h root, [root], 1, _, G ++ [⟨[.int .i64 root], 0, 3⟩], by simp, by omega, by omega, by simp [start, hg0], by simp, by simp [h2], by simp [start, hg0, h5], rfl, by simp, by simp, ?_, .inr ⟨R, i0⟩⟩
    · clear R i0 hq0
      rintro n t H' ⟨s, fr, d, vf, L, rfl, hd1, hd2, hsl, hfl, h2, h5, h7, h8, rfl, fF, hRI⟩ ih
      have lenF := fun r1 L' => (fF r1 L').len (P := Try.prog) (ty := 22) (by simp)
      have lenF0 := fun r1 => lenF r1 []
      simp only [List.append_nil] at lenF0
      simp [h2, h5, h7, h8, lenF, lenF0]
      refine wp_dec ?_ ?_ <;> intro hf0
      · rcases hRI with ⟨rfl, _⟩ | ⟨R, i⟩
        · simp at hf0
        simp [h2, h5, h7, h8]
        -- the nodes of the front
        refine wp_inv (fun n t H' => ∃ (s don rest nx : List Int) (g : Nat) (G : Heap), n = fr.length - don.length ∧ fr = don ++ rest ∧ s.length = g0 ∧
          t 2 = .pointer (some ⟨H.length, 0, some 0⟩) ∧ t 5 = .slice (some ⟨H.length + 1, 0, some g0⟩) s.length 0 ∧ t 7 = vf ∧ t 8 = .int .i64 d ∧ t 9 = .slice (some ⟨H.length + (L.length + 1 + 1), 0, some g⟩) nx.length 0 ∧ t 10 = .int .i64 don.length ∧
          H' = H ++ ⟨[.int .i64 w, .int .i64 h, v], 0, 33⟩ :: ⟨s.map (.int .i64), g0, 3⟩ :: (L ++ ⟨nx.map (.int .i64), g, 3⟩ :: G) ∧
          Run w h b s rest nx d (depths w h b root) ∧ Inv w h s rest nx d) ?_ (n := fr.length) ⟨s, [], fr, [], 0, [], by simp, by simp, hsl, by simp [h2], by simp [h5], by simp [h7], by simp [h8], by simp, by simp, by simp, R, i⟩
        clear R i h2 h5 h7 h8 hsl
        rintro n t H' ⟨s, don, rest, nx, g, G, rfl, hfe, hsl, h2, h5, h7, h8, h9, h10, rfl, R, i⟩ ih2
        simp [h2, h5, h7, h8, h9, h10, lenF]
        have hlf := congrArg List.length hfe
        simp at hlf
        have h1d := i.one
        have hsd := i.sum
        refine wp_dec ?_ ?_ <;> intro hdl
        · obtain ⟨a, rest', rfl⟩ : ∃ a rest', rest = a :: rest' := by
            cases rest with
            | nil => simp at hlf; omega
            | cons a l => exact ⟨a, l, rfl⟩
          obtain ⟨ha, hda⟩ := i.fr a (by simp)
          have ha1 := isN_ok ha
          have hgv : fr[don.length] = a := by subst hfe; simp
          have xF := fun r1 L' => (fF r1 L').idx (P := Try.prog) (ty := 22) (e := 3) (by simp) (i := (don.length : Int)) (by omega) (by omega)
          have dF := fun r1 L' => ((fF r1 L').load (P := Try.prog) (e := 3) (by simp) hdl).trans (by rw [getD_get _ _ hdl, hgv])
          simp only [Int.toNat_natCast] at xF
          simp [h2, h5, h7, h8, h9, h10]
          refine wp_inv (fun n t H' => ∃ (x : List Int × List Int) (p g : Nat) (G : Heap), n = 4 - p ∧ p ≤ 4 ∧ x = (List.range p).foldl (vst w h b a d) (s, nx) ∧ BExt w h d (s, nx) x ∧
            t 2 = .pointer (some ⟨H.length, 0, some 0⟩) ∧ t 5 = .slice (some ⟨H.length + 1, 0, some g0⟩) x.1.length 0 ∧ t 7 = vf ∧ t 8 = .int .i64 d ∧ t 9 = .slice (some ⟨H.length + (L.length + 1 + 1), 0, some g⟩) x.2.length 0 ∧ t 10 = .int .i64 don.length ∧ t 11 = .int .i64 p ∧
            H' = H ++ ⟨[.int .i64 w, .int .i64 h, v], 0, 33⟩ :: ⟨x.1.map (.int .i64), g0, 3⟩ :: (L ++ ⟨x.2.map (.int .i64), g, 3⟩ :: G)) ?_
            (n := 4) ⟨(s, nx), 0, g, G, by simp, by simp, by simp, BExt.rfl', by simp [h2], by simp [h5], by simp [h7], by simp [h8], by simp [h9], by simp [h10], by simp, by simp⟩
          clear h2 h5 h7 h8 h9 h10
          rintro n t H' ⟨x, p, g, G, rfl, hp, hx, E, h2, h5, h7, h8, h9, h10, h11, rfl⟩ ih3
          have hlen : (x.1.length : Int) = cnt w h := by rw [E.len]; exact i.len
          have hxq : x.2.length ≤ 16 := by have := E.sum; simp at this; omega
          simp [h2, h5, h7, h8, h9, h10, h11]
          refine wp_dec ?_ ?_ <;> intro hp4
          · have hp4' : p < 4 := by omega
            have e1 : IntKind.i64.wrap (4 * a) = 4 * a := w64 (by omega) (by omega)
            have e2 : IntKind.i64.wrap (4 * a + p) = 4 * a + p := w64 (by omega) (by omega)
            have nxt := fun (x' : List Int × List Int) (t' : Env) (g' : Nat) (G' H' : Heap) (hH : H' = H ++ ⟨[.int .i64 w, .int .i64 h, v], 0, 33⟩ :: ⟨x'.1.map (.int .i64), g0, 3⟩ :: (L ++ ⟨x'.2.map (.int .i64), g', 3⟩ :: G')) (hx' : x' = vst w h b a d x p) (k2 : t' 2 = .pointer (some ⟨H.length, 0, some 0⟩)) (k5 : t' 5 = .slice (some ⟨H.length + 1, 0, some g0⟩) x'.1.length 0) (k7 : t' 7 = vf) (k8 : t' 8 = .int .i64 d) (k9 : t' 9 = .slice (some ⟨H.length + (L.length + 1 + 1), 0, some g'⟩) x'.2.length 0) (k10 : t' 10 = .int .i64 don.length) (k11 : t' 11 = .int .i64 (p + 1 : Nat)) =>
              ih3 (4 - (p + 1)) t' H' ⟨x', p + 1, g', G', rfl, by omega, by rw [List.range_succ, List.foldl_append, ← hx]; exact hx', by rw [hx']; exact E.trans (by omega) (vst_ext hp4' (by omega)), k2, k5, k7, k8, k9, k10, k11, hH⟩ (by omega)
            have w11 : IntKind.i64.wrap ((p : Int) + 1) = ((p + 1 : Nat) : Int) := by rw [w64 (by omega) (by omega)]; omega
            simp [h2, h5, h7, h8, h9, h10, h11, one]
            rw [go_draw (h := by kernel_rfl)]
            simp [h2, h5, h7, h8, h9, h10, h11, one, xF, dF, e1, e2, l31Link_c _ _ _ _ _ (hI.app _) hl]
            refine wp_dec ?_ ?_ <;> intro hlk
            · obtain ⟨_, hn, he⟩ := link_next hp4' hlk
              have hn1 := hn.1
              have hn2 : next w h a p < (x.1.length : Int) := by have := hn.2; omega
              have hr1 := rd_nat hn1 hn2
              simp [h2, h5, h7, h8, h9, h10, h11, one]
              rw [go_draw (h := by kernel_rfl)]
              simp [h2, h5, h7, h8, h9, h10, h11, one, xF, dF, sNextNode_c, hn1, hn2, hr1]
              refine wp_dec ?_ ?_ <;> intro hz
              · have hset := rowset (c := d) hn1 hn2
                have ev : vst w h b a d x p = (x.1.set (next w h a p).toNat d, x.2 ++ [next w h a p]) := by unfold vst; rw [if_pos ⟨hlk, hz⟩]
                simp [h2, h5, h7, h8, h9, h10, h11, hn1, hn2]
                refine wp_need (by omega) (wp_need (by omega) ?_)
                rw [hset]
                refine nxt (x.1.set (next w h a p).toNat d, x.2 ++ [next w h a p]) _ (g + 1) (G ++ [⟨[.int .i64 (next w h a p)], 0, 3⟩]) _ (by simp) ev.symm (by simp [h2]) (by simp [h5]) (by simp [h7]) (by simp [h8]) (by simp) (by simp [h10]) (by simp [w11])
              · simp [h2, h5, h7, h8, h9, h10, h11, hz]
                have ev : x = vst w h b a d x p := by unfold vst; rw [if_neg (fun hh => hz hh.2)]
                refine nxt x _ g G _ (by simp) ev (by simp [h2]) (by simp [h5]) (by simp [h7]) (by simp [h8]) (by simp [h9]) (by simp [h10]) (by simp [w11])
            · simp [h2, h5, h7, h8, h9, h10, h11, hlk]
              have ev : x = vst w h b a d x p := by unfold vst; rw [if_neg (fun hh => hlk hh.1)]
              refine nxt x _ g G _ (by simp) ev (by simp [h2]) (by simp [h5]) (by simp [h7]) (by simp [h8]) (by simp [h9]) (by simp [h10]) (by simp [w11])
          · have : p = 4 := by omega
            subst this
            have e2 : x = vis w h b a d (s, nx) := hx
            simp [h2, h5, h7, h8, h9, h10, h11]
            refine ih2 (fr.length - (don ++ [a]).length) _ _ ⟨(vis w h b a d (s, nx)).1, don ++ [a], rest', (vis w h b a d (s, nx)).2, g, G, rfl, by rw [hfe]; simp, by rw [← e2]; omega, by simp [h2], by simp [h5, e2], by simp [h7], by simp [h8], by simp [h9, e2], ?_, by rw [e2], run_node R, i.node⟩ (by simp; omega)
            simp; rw [w64 (by omega) (by omega)]
        · obtain rfl : rest = [] := by
            cases rest with
            | nil => rfl
            | cons a l => simp at hlf; omega
          simp [h2, h5, h7, h8, h9, h10]
          have wd : IntKind.i64.wrap (d + 1) = d + 1 := w64 (by omega) (by omega)
          refine ih (g0 + 2 - (d + 1).toNat) _ _ ⟨s, nx, d + 1, _, L ++ ⟨nx.map (.int .i64), g, 3⟩ :: G, rfl, by omega, by omega, hsl, by omega, by simp [h2], by simp [h5], rfl, by simp [wd], by simp, ?_, ?_⟩ (by omega)
          · intro r1 L'
            simp
            exact IsI.at (k := L.length + 1 + 1) (by simp; rfl)
          · rcases run_level R i with ⟨rfl, rfl⟩ | hh
            · exact .inl ⟨rfl, rfl⟩
            · exact .inr hh
      · have hs : s = depths w h b root := by
          rcases hRI with ⟨_, hs⟩ | ⟨R, i⟩
          · exact hs
          · obtain rfl : fr = [] := by
              cases fr with
              | nil => rfl
              | cons a l => simp at hf0
            rcases run_level R i with ⟨_, hh⟩ | ⟨R2, i2⟩
            · exact hh
            · cases R with
              | done => rfl
        subst hs
        simp [h2, h5, h7, h8]
        exact ⟨_, rfl, Ow.new (k := 1) rfl (cellsOf_int _).symm (by simp) rfl, by simp⟩
    · intro r1 L'
      simp
      exact IsI.at (xs := [root]) (k := G.length + 1 + 1) (e := 3) (by simp)
theorem sTreeDepths_w (w h : Int) (v : Value) (b : List Int) (root : Int) (hI : IsI H v b) (hl : b.length ≤ 1073741824) :
   wp (vcall C frz 128 [.agg #[.int .i64 w, .int .i64 h, v], .int .i64 root] H) (Made Fl.int 3 H (depths w h b root)) := by
  rw [vcall_go (fn := Try.f128) Try.func128 rfl (by kernel_rfl) rfl]
  have one := And.intro hI.one' hI.cells
  simp [one, l31Ok_c _ _ _ _ _ (hI.app _) hl, -Bool.decide_and]
  refine wp_dec ?_ ?_ <;> intro hR
  · simp [one]
    refine wp_thn (l31Depths_w w h v b root (hI.app _) hl hR) ?_
    intro r H' k
    simp
    exact made_base k
  · rw [depths_no hR]
    simp
    exact ⟨_, rfl, Ow.new (D := Fl.int) (e := 3) (k := 1) (g := 0) (cs := []) rfl rfl rfl rfl, by simp⟩
end Go.Proofs.Ytnakhkfgheapoaa.V
/-! TreeParents, IsConnected, DepthOfTree, BestRoot. -/
set_option linter.all false
namespace Go.Proofs.Ytnakhkfgheapoaa.V
open Go Go.VM Go.Proofs
set_option maxRecDepth 10000
variable {frz : Nat} {H : Heap}
/-- the parent that j ports, from the last one on, tell -/
def pF (w h : Int) (b d : List Int) (i : Int) : Nat → Int
  | 0 => -1
  | j + 1 => if toRoot w h b d i (3 - j) then next w h i (3 - j : Nat) else pF w h b d i j
theorem pF_par {w h : Int} {b d : List Int} {i : Int} (h0 : rd d i > 0) : pF w h b d i 4 = par w h b d i := by
  simp only [par, pF, if_pos h0]
theorem wrm1 : IntKind.i64.wrap (-1) = -1 := by decide
theorem treeParents_w (w h : Int) (v : Value) (b : List Int) (root : Int) (hI : IsI H v b) (hl : b.length ≤ 1073741824) :
   wp (vcall C frz 25 [.agg #[.int .i64 w, .int .i64 h, v], .int .i64 root] H) (Made Fl.int 3 H (parents w h b root)) := by
  rw [vcall_go (fn := Try.f25) Try.func25 rfl (by kernel_rfl) rfl]
  have one := And.intro hI.one' hI.cells
  have hc := cnt_range w h
  simp [one]
  refine wp_thn (treeDepths_w w h v b root (hI.app _) hl) ?_
  rintro vd _ ⟨L, rfl, od, nd⟩
  have od := od.rd.isI
  simp only [List.append_assoc, List.singleton_append] at od
  have hdl := depths_length w h b root
  have dm := fun v (hv : v ∈ depths w h b root) => depths_mem hv
  have dv : (depths w h b root) ≠ [] → rootOk w h b root ∧ ((depths w h b root).length : Int) = cnt w h := fun hne => by
    by_cases hR : rootOk w h b root
    · exact ⟨hR, (depths_inv hR).1⟩
    · exact absurd (depths_no hR) hne
  unfold parents pars
  generalize depths w h b root = D at *
  have fD := fun L' => od.app L'
  simp only [List.append_assoc, List.cons_append, List.nil_append] at fD
  have lD := fun L' => (fD L').len (P := Try.prog) (ty := 22) (by simp)
  simp [lD]
  refine wp_inv (fun n t H' => ∃ (i g : Nat) (G : Heap) (o : List Int), n = D.length - i ∧ i ≤ D.length ∧ o = (List.range i).map (fun i : Nat => par w h b D (i : Int)) ∧
    t 2 = .pointer (some ⟨H.length, 0, some 0⟩) ∧ t 5 = vd ∧ t 6 = .slice (some ⟨H.length + (L.length + 1), 0, some g⟩) o.length 0 ∧ t 16 = vd ∧ t 17 = .int .i64 D.length ∧ t 18 = .int .i64 i ∧
    H' = H ++ ⟨[.int .i64 w, .int .i64 h, v], 0, 33⟩ :: (L ++ ⟨o.map (.int .i64), g, 3⟩ :: G)) ?_ (n := D.length) ⟨0, 0, [], [], by simp⟩
  rintro n t H' ⟨i, g, G, o, rfl, hi, ho, h2, h5, h6, h16, h17, h18, rfl⟩ ih
  simp [h2, h5, h6, h16, h17, h18]
  have hol : o.length = i := by rw [ho]; simp
  refine wp_dec ?_ ?_ <;> intro hid
  · obtain ⟨⟨hm, hr⟩, hlc⟩ := dv (fun hh => by rw [hh] at hid; simp at hid)
    have hid' : i < D.length := by omega
    have xD := fun L' => (fD L').idx (P := Try.prog) (ty := 22) (e := 3) (by simp) (i := (i : Int)) (by omega) (by omega)
    have rD := fun L' => ((fD L').load (P := Try.prog) (e := 3) (by simp) hid').trans (by rw [getD_get _ _ hid', ← rd_at hid'])
    simp only [Int.toNat_natCast] at xD
    have hd := dm _ (rd_mem (s := D) (k := (i : Int)) (by omega) (by omega))
    have w3 : IntKind.i64.wrap (rd D i - 1) = rd D i - 1 := w64 (by omega) (by omega)
    simp [h2, h5, h6, h16, h17, h18, xD, rD]
    refine wp_inv (fun n t H' => ∃ (j : Nat), n = 4 - j ∧ j ≤ 4 ∧ (rd D i > 0 ∨ j = 0) ∧
      t 2 = .pointer (some ⟨H.length, 0, some 0⟩) ∧ t 5 = vd ∧ t 6 = .slice (some ⟨H.length + (L.length + 1), 0, some g⟩) o.length 0 ∧ t 16 = vd ∧ t 17 = .int .i64 D.length ∧ t 18 = .int .i64 i ∧
      t 7 = .int .i64 i ∧ t 8 = .int .i64 (rd D i) ∧ t 9 = .int .i64 (pF w h b D i j) ∧ t 10 = .int .i64 (3 - j : Int) ∧
      H' = H ++ ⟨[.int .i64 w, .int .i64 h, v], 0, 33⟩ :: (L ++ ⟨o.map (.int .i64), g, 3⟩ :: G)) ?_ (n := 4) ⟨0, by simp [h2, h5, h6, h16, h17, h18, pF]⟩
    clear h2 h5 h6 h16 h17 h18
    rintro n t H' ⟨j, rfl, hj, hpos, h2, h5, h6, h16, h17, h18, h7, h8, h9, h10, rfl⟩ ih2
    simp [h2, h5, h6, h16, h17, h18, h7, h8, h9, h10]
    refine wpg_dec ?_ ?_ <;> intro hj3
    · have hj4 : j < 4 := by omega
      simp [h2, h5, h6, h16, h17, h18, h7, h8, h9, h10, hj3]
      refine wp_dec ?_ ?_ <;> intro hp0
      · have ep : (3 - (j : Int)) = ((3 - j : Nat) : Int) := by omega
        have hp4 : 3 - j < 4 := by omega
        have e1 : IntKind.i64.wrap (4 * (i : Int)) = 4 * i := w64 (by omega) (by omega)
        have e2 : IntKind.i64.wrap (4 * (i : Int) + (3 - j : Nat)) = 4 * i + (3 - j : Nat) := w64 (by omega) (by omega)
        have nxt := fun (t' : Env) (k2 : t' 2 = .pointer (some ⟨H.length, 0, some 0⟩)) (k5 : t' 5 = vd) (k6 : t' 6 = .slice (some ⟨H.length + (L.length + 1), 0, some g⟩) o.length 0) (k16 : t' 16 = vd) (k17 : t' 17 = .int .i64 D.length) (k18 : t' 18 = .int .i64 i) (k7 : t' 7 = .int .i64 i) (k8 : t' 8 = .int .i64 (rd D i)) (k9 : t' 9 = .int .i64 (pF w h b D i (j + 1))) (k10 : t' 10 = .int .i64 (IntKind.i64.wrap (((3 - j : Nat) : Int) - 1))) =>
          ih2 (4 - (j + 1)) t' (H ++ ⟨[.int .i64 w, .int .i64 h, v], 0, 33⟩ :: (L ++ ⟨o.map (.int .i64), g, 3⟩ :: G)) ⟨j + 1, rfl, by omega, .inl hp0, k2, k5, k6, k16, k17, k18, k7, k8, k9, by rw [k10, w64 (by omega) (by omega)]; congr 1; omega, rfl⟩ (by omega)
        rw [ep] at h10
        simp [h2, h5, h6, h16, h17, h18, h7, h8, h9, h10, e1, e2, one, isLink_c _ _ _ _ _ (hI.app _) hl, hm]
        refine wpg_dec ?_ ?_ <;> intro hlk
        · obtain ⟨_, hn, he⟩ := link_next hp4 hlk
          have hend := fun F L => (congrArg (fun z => some (Value.int .i64 z, H ++ L)) he) ▸ endOf_c (frz := F) w h v b (4 * (i : Int) + (3 - j : Nat)) (hI.app L) hlk.1.1
          have xE := fun L' => (fD L').idx (P := Try.prog) (ty := 22) (e := 3) (by simp) hn.1 (by have := hn.2; omega)
          have rE := fun L' => ((fD L').load (P := Try.prog) (e := 3) (by simp) (j := (next w h i (3 - j : Nat)).toNat) (by have := hn.1; have := hn.2; omega))
          have rE' : D.getD (next w h i (3 - j : Nat)).toNat 0 = rd D (next w h i (3 - j : Nat)) := rfl
          rw [rE'] at rE
          simp [h2, h5, h6, h16, h17, h18, h7, h8, h9, h10, e1, e2, one, hlk, hend, xE, rE, w3]
          refine wp_dec ?_ ?_ <;> intro hdd
          · simp [h2, h5, h6, h16, h17, h18, h7, h8, h9, h10, e1, e2, one, hlk, hend]
            refine nxt _ (by simp [h2]) (by simp [h5]) (by simp [h6]) (by simp [h16]) (by simp [h17]) (by simp [h18]) (by simp [h7]) (by simp [h8]) ?_ (by simp [h10])
            simp [pF, toRoot, hlk, hdd]
          · simp [h2, h5, h6, h16, h17, h18, h7, h8, h9, h10, hdd]
            refine nxt _ (by simp [h2]) (by simp [h5]) (by simp [h6]) (by simp [h16]) (by simp [h17]) (by simp [h18]) (by simp [h7]) (by simp [h8]) ?_ (by simp [h10])
            simp [pF, toRoot, hdd, h9]
        · simp [h2, h5, h6, h16, h17, h18, h7, h8, h9, h10, hlk]
          refine nxt _ (by simp [h2]) (by simp [h5]) (by simp [h6]) (by simp [h16]) (by simp [h17]) (by simp [h18]) (by simp [h7]) (by simp [h8]) ?_ (by simp [h10])
          simp [pF, toRoot, hlk, h9]
      · have hj0 : j = 0 := by omega
        subst hj0
        have he : pF w h b D i 0 = par w h b D i := by unfold par; rw [if_neg hp0]; rfl
        rw [he] at h9
        simp [h2, h5, h6, h16, h17, h18, h7, h8, h9, h10, hp0]
        refine wp_need (by omega) ?_
        refine ih (D.length - (i + 1)) _ _ ⟨i + 1, g + 1, G ++ [⟨[.int .i64 (par w h b D i)], 0, 3⟩], o ++ [par w h b D i], rfl, by omega, by rw [List.range_succ, List.map_append, ← ho]; rfl, by simp [h2], by simp [h5], by simp, by simp [h16], by simp [h17], ?_, by simp⟩ (by omega)
        simp; rw [w64 (by omega) (by omega)]
    · have hj4 : j = 4 := by omega
      subst hj4
      have he : pF w h b D i 4 = par w h b D i := pF_par (by omega)
      rw [he] at h9
      simp [h2, h5, h6, h16, h17, h18, h7, h8, h9, h10]
      refine wp_need (by omega) ?_
      refine ih (D.length - (i + 1)) _ _ ⟨i + 1, g + 1, G ++ [⟨[.int .i64 (par w h b D i)], 0, 3⟩], o ++ [par w h b D i], rfl, by omega, by rw [List.range_succ, List.map_append, ← ho]; rfl, by simp [h2], by simp [h5], by simp, by simp [h16], by simp [h17], ?_, by simp⟩ (by omega)
      simp; rw [w64 (by omega) (by omega)]
  · have : i = D.length := by omega
    subst this
    simp [h2, h5, h6, h16, h17, h18]
    rw [← ho]
    exact ⟨_, rfl, Ow.new (k := L.length + 1) (by simp) (cellsOf_int _).symm (by simp) rfl, by simp⟩
end Go.Proofs.Ytnakhkfgheapoaa.V
/-! TreeParents of the reference. -/
set_option linter.all false
namespace Go.Proofs.Ytnakhkfgheapoaa.V
open Go Go.VM Go.Proofs
set_option maxRecDepth 10000
variable {frz : Nat} {H : Heap}
theorem par_at {w h : Int} {b d : List Int} {i : Int} {p : Nat} (hp : p < 4) (h0 : rd d i > 0) (h1 : ∀ q < p, ¬ toRoot w h b d i q) (h2 : toRoot w h b d i p) : par w h b d i = next w h i p := by
  unfold par
  rw [if_pos h0]
  have : p = 0 ∨ p = 1 ∨ p = 2 ∨ p = 3 := by omega
  rcases this with rfl | rfl | rfl | rfl
  · rw [if_pos h2]
  · rw [if_neg (h1 0 (by omega)), if_pos h2]
  · rw [if_neg (h1 0 (by omega)), if_neg (h1 1 (by omega)), if_pos h2]
  · rw [if_neg (h1 0 (by omega)), if_neg (h1 1 (by omega)), if_neg (h1 2 (by omega)), if_pos h2]
theorem par_none {w h : Int} {b d : List Int} {i : Int} (h1 : rd d i > 0 → ∀ q < 4, ¬ toRoot w h b d i q) : par w h b d i = -1 := by
  unfold par
  by_cases h0 : rd d i > 0
  · have h1 := h1 h0
    rw [if_pos h0, if_neg (h1 0 (by omega)), if_neg (h1 1 (by omega)), if_neg (h1 2 (by omega)), if_neg (h1 3 (by omega))]
  · rw [if_neg h0]
theorem sTreeParents_w (w h : Int) (v : Value) (b : List Int) (root : Int) (hI : IsI H v b) (hl : b.length ≤ 1073741824) :
   wp (vcall C frz 129 [.agg #[.int .i64 w, .int .i64 h, v], .int .i64 root] H) (Made Fl.int 3 H (parents w h b root)) := by
  rw [vcall_go (fn := Try.f129) Try.func129 rfl (by kernel_rfl) rfl]
  have one := And.intro hI.one' hI.cells
  have hc := cnt_range w h
  simp [one, l31Ok_c _ _ _ _ _ (hI.app _) hl, -Bool.decide_and]
  refine wp_dec ?_ ?_ <;> intro hR
  · have hR' : rootOk w h b root := hR
    simp [one]
    refine wp_thn (l31Depths_w w h v b root (hI.app _) hl hR') ?_
    rintro vd _ ⟨L, rfl, od, nd⟩
    have od := od.rd.isI
    simp only [List.append_assoc, List.cons_append, List.nil_append] at od
    have hdl := depths_length w h b root
    have dm := fun v (hv : v ∈ depths w h b root) => depths_mem hv
    have hlc := (depths_inv hR').1
    have hm := hR.1
    unfold parents pars
    generalize depths w h b root = D at *
    have fD := fun (r : Row) (L' : Heap) => (swapI (A := H ++ [⟨[.int .i64 w, .int .i64 h, v], 0, 33⟩]) (B := L) (r := ⟨[], 0, 3⟩) r (by simpa using od) (fun i hi => by have := nd i hi; simp at this ⊢; omega)).app L'
    simp only [List.append_assoc, List.cons_append, List.nil_append] at fD
    have lD := fun r L' => (fD r L').len (P := Try.prog) (ty := 22) (by simp)
    simp
    refine wp_inv (fun n t H' => ∃ (i g : Nat) (G : Heap) (o : List Int), n = D.length - i ∧ i ≤ D.length ∧ o = (List.range i).map (fun i : Nat => par w h b D (i : Int)) ∧
      t 2 = .pointer (some ⟨H.length, 0, some 0⟩) ∧ t 5 = .slice (some ⟨H.length + 1, 0, some g⟩) o.length 0 ∧ t 6 = vd ∧ t 7 = .int .i64 i ∧
      H' = H ++ ⟨[.int .i64 w, .int .i64 h, v], 0, 33⟩ :: ⟨o.map (.int .i64), g, 3⟩ :: (L ++ G)) ?_ (n := D.length) ⟨0, 0, [], [], by simp⟩
    rintro n t H' ⟨i, g, G, o, rfl, hi, ho, h2, h5, h6, h7, rfl⟩ ih
    simp [h2, h5, h6, h7, lD]
    have hol : o.length = i := by rw [ho]; simp
    refine wp_dec ?_ ?_ <;> intro hid
    · have hid' : i < D.length := by omega
      have xD := fun r L' => (fD r L').idx (P := Try.prog) (ty := 22) (e := 3) (by simp) (i := (i : Int)) (by omega) (by omega)
      have rD := fun r L' => ((fD r L').load (P := Try.prog) (e := 3) (by simp) hid').trans (by rw [getD_get _ _ hid', ← rd_at hid'])
      simp only [Int.toNat_natCast] at xD
      have hd := dm _ (rd_mem (s := D) (k := (i : Int)) (by omega) (by omega))
      have w3 : IntKind.i64.wrap (rd D i - 1) = rd D i - 1 := w64 (by omega) (by omega)
      simp [h2, h5, h6, h7]
      refine wp_inv (fun n t H' => ∃ (p : Nat) (x : Int), n = 4 - p ∧ p ≤ 4 ∧ ((x = par w h b D i ∧ 0 ≤ x) ∨ (x = -1 ∧ (0 < p → rd D i > 0) ∧ ∀ q < p, ¬ toRoot w h b D i q)) ∧
        t 2 = .pointer (some ⟨H.length, 0, some 0⟩) ∧ t 5 = .slice (some ⟨H.length + 1, 0, some g⟩) o.length 0 ∧ t 6 = vd ∧ t 7 = .int .i64 i ∧ t 8 = .int .i64 x ∧ t 9 = .int .i64 p ∧
        H' = H ++ ⟨[.int .i64 w, .int .i64 h, v], 0, 33⟩ :: ⟨o.map (.int .i64), g, 3⟩ :: (L ++ G)) ?_ (n := 4) ⟨0, -1, by simp [h2, h5, h6, h7]⟩
      clear h2 h5 h6 h7
      rintro n t H' ⟨p, x, rfl, hp, hx, h2, h5, h6, h7, h8, h9, rfl⟩ ih2
      simp [h2, h5, h6, h7, h8, h9]
      refine wpg_dec ?_ ?_ <;> intro hp4
      · have hp4' : p < 4 := by omega
        simp [h2, h5, h6, h7, h8, h9, hp4]
        refine wpg_dec ?_ ?_ <;> intro hx0
        · obtain ⟨rfl, hpo, hno⟩ : x = -1 ∧ (0 < p → rd D i > 0) ∧ ∀ q < p, ¬ toRoot w h b D i q := by
            rcases hx with hx | hx
            · omega
            · exact hx
          simp [h2, h5, h6, h7, h8, h9, hp4, hx0, xD, rD]
          refine wp_dec ?_ ?_ <;> intro hd0
          · have e1 : IntKind.i64.wrap (4 * (i : Int)) = 4 * i := w64 (by omega) (by omega)
            have e2 : IntKind.i64.wrap (4 * (i : Int) + p) = 4 * i + p := w64 (by omega) (by omega)
            simp [h2, h5, h6, h7, h8, h9, e1, e2, one, l31Link_c _ _ _ _ _ (hI.app _) hl]
            refine wp_dec ?_ ?_ <;> intro hlk
            · obtain ⟨_, hn, he⟩ := link_next hp4' hlk
              have xE := fun r L' => (fD r L').idx (P := Try.prog) (ty := 22) (e := 3) (by simp) hn.1 (by have := hn.2; omega)
              have rE := fun r L' => ((fD r L').load (P := Try.prog) (e := 3) (by simp) (j := (next w h i p).toNat) (by have := hn.1; have := hn.2; omega))
              have rE' : D.getD (next w h i p).toNat 0 = rd D (next w h i p) := rfl
              rw [rE'] at rE
              simp [h2, h5, h6, h7, h8, h9, one, sNextNode_c]
              rw [go_draw (h := by kernel_rfl)]
              simp [h2, h5, h6, h7, h8, h9, one, xE, rE, xD, rD, w3]
              refine wp_dec ?_ ?_ <;> intro hdd
              · simp [h2, h5, h6, h7, h8, h9]
                refine ih2 (4 - (p + 1)) _ _ ⟨p + 1, next w h i p, rfl, by omega, .inl ⟨(par_at hp4' hd0 hno ⟨hlk, hdd⟩).symm, hn.1⟩, by simp [h2], by simp [h5], by simp [h6], by simp [h7], by simp, ?_, rfl⟩ (by omega)
                simp; rw [w64 (by omega) (by omega)]
              · simp [h2, h5, h6, h7, h8, h9, hdd]
                refine ih2 (4 - (p + 1)) _ _ ⟨p + 1, -1, rfl, by omega, .inr ⟨rfl, fun _ => hd0, fun q hq => ?_⟩, by simp [h2], by simp [h5], by simp [h6], by simp [h7], by simp [h8], ?_, rfl⟩ (by omega)
                · by_cases hqp : q < p
                  · exact hno q hqp
                  · have : q = p := by omega
                    subst this; exact fun hh => hdd hh.2
                · simp; rw [w64 (by omega) (by omega)]
            · simp [h2, h5, h6, h7, h8, h9, hlk]
              refine ih2 (4 - (p + 1)) _ _ ⟨p + 1, -1, rfl, by omega, .inr ⟨rfl, fun _ => hd0, fun q hq => ?_⟩, by simp [h2], by simp [h5], by simp [h6], by simp [h7], by simp [h8], ?_, rfl⟩ (by omega)
              · by_cases hqp : q < p
                · exact hno q hqp
                · have : q = p := by omega
                  subst this; exact fun hh => hlk hh.1
              · simp; rw [w64 (by omega) (by omega)]
          · have hxe : (-1 : Int) = par w h b D i := (par_none (fun hh => absurd hh hd0)).symm
            simp [h2, h5, h6, h7, h8, h9, hd0]
            refine wp_need (by omega) ?_
            refine ih (D.length - (i + 1)) _ _ ⟨i + 1, g + 1, G ++ [⟨[.int .i64 (-1)], 0, 3⟩], o ++ [-1], rfl, by omega, by rw [List.range_succ, List.map_append, ← ho, hxe]; rfl, by simp [h2], by simp, by simp [h6], ?_, by simp⟩ (by omega)
            simp; rw [w64 (by omega) (by omega)]
        · have hxe : x = par w h b D i := by
            rcases hx with hx | hx
            · exact hx.1
            · omega
          simp [h2, h5, h6, h7, h8, h9, hp4, hx0]
          refine wp_need (by omega) ?_
          refine ih (D.length - (i + 1)) _ _ ⟨i + 1, g + 1, G ++ [⟨[.int .i64 x], 0, 3⟩], o ++ [x], rfl, by omega, by rw [List.range_succ, List.map_append, ← ho, hxe]; rfl, by simp [h2], by simp, by simp [h6], ?_, by simp⟩ (by omega)
          simp; rw [w64 (by omega) (by omega)]
      · have hp4' : p = 4 := by omega
        have hxe : x = par w h b D i := by
          rcases hx with hx | ⟨rfl, hpo, hno⟩
          · exact hx.1
          · exact (par_none (fun _ q hq => hno q (by omega))).symm
        simp [h2, h5, h6, h7, h8, h9, hp4]
        refine wp_need (by omega) ?_
        refine ih (D.length - (i + 1)) _ _ ⟨i + 1, g + 1, G ++ [⟨[.int .i64 x], 0, 3⟩], o ++ [x], rfl, by omega, by rw [List.range_succ, List.map_append, ← ho, hxe]; rfl, by simp [h2], by simp, by simp [h6], ?_, by simp⟩ (by omega)
        simp; rw [w64 (by omega) (by omega)]
    · have : i = D.length := by omega
      subst this
      simp [h2, h5, h6, h7]
      rw [← ho]
      exact ⟨_, rfl, Ow.new (k := 1) (by simp) (cellsOf_int _).symm (by simp) rfl, by simp⟩
  · have : depths w h b root = [] := depths_no hR
    unfold parents pars
    rw [this]
    simp
    exact ⟨_, rfl, Ow.new (D := Fl.int) (e := 3) (k := 1) (g := 0) (cs := []) rfl rfl rfl rfl, by simp⟩
end Go.Proofs.Ytnakhkfgheapoaa.V
/-! IsConnected, DepthOfTree, BestRoot. -/
set_option linter.all false
namespace Go.Proofs.Ytnakhkfgheapoaa.V
open Go Go.VM Go.Proofs
set_option maxRecDepth 10000
variable {frz : Nat} {H : Heap}
theorem ite_max (a b : Int) : (if a < b then b else a) = max a b := by omega
theorem foldl_max_take {xs : List Int} {a : Int} {i : Nat} (h : i < xs.length) : (xs.take (i + 1)).foldl max a = max ((xs.take i).foldl max a) xs[i] := by
  rw [List.take_succ_eq_append_getElem h, List.foldl_append]; rfl
theorem max_c (v : Value) (xs : List Int) (hI : IsI H v xs) (h0 : 0 < xs.length) (hl : xs.length ≤ 1073741824) (hm : ∀ x ∈ xs, -1 ≤ x) :
   vcall C frz 86 [v] H = some (.int .i64 (xs.foldl max (-1)), H) := by
  rw [vcall_go (fn := Try.f86) Try.func86 rfl (by kernel_rfl) rfl]
  have q0 := hI.idx (P := Try.prog) (ty := 22) (e := 3) (by simp) (i := 0) (by omega) (by omega)
  have r0 := (hI.load (P := Try.prog) (e := 3) (by simp) h0).trans (by rw [getD_get _ _ h0])
  have n0 : ¬ (xs.length : Int) < 1 := by omega
  have e0 : xs ≠ [] := fun hh => by rw [hh] at h0; simp at h0
  simp [hI.len, e0, n0, q0, r0]
  refine go_inv (fun n t H' => ∃ i : Nat, n = xs.length - i ∧ 1 ≤ i ∧ i ≤ xs.length ∧ t 0 = v ∧ t 3 = .int .i64 ((xs.take i).foldl max (-1)) ∧ t 4 = .int .i64 i ∧ H' = H) ?_ (n := xs.length - 1) ⟨1, rfl, by omega, by omega, by simp, ?_, by simp, rfl⟩
  · rintro n t H' ⟨i, rfl, h1, hi, k0, k3, k4, rfl⟩ ih
    simp [k0, k3, k4, hI.len]
    refine br_dec _ ?_ ?_ <;> intro h5
    · have q1 := hI.idx (P := Try.prog) (ty := 22) (e := 3) (by simp) (i := (i : Int)) (by omega) (by omega)
      have r1 := (hI.load (P := Try.prog) (e := 3) (by simp) h5).trans (by rw [getD_get _ _ h5])
      simp only [Int.toNat_natCast] at q1
      simp [k0, k3, k4, q1, r1]
      refine ih (xs.length - (i + 1)) _ _ ⟨i + 1, rfl, by omega, by omega, by simp [k0], ?_, ?_, rfl⟩ (by omega)
      · simp [foldl_max_take h5, ite_max]
      · simp; rw [w64 (by omega) (by omega)]
    · have : i = xs.length := by omega
      subst this
      simp [k0, k3, k4]
  · have := hm _ (List.getElem_mem h0)
    rw [show (1 : Nat) = 0 + 1 from rfl, foldl_max_take h0]
    simp; omega
theorem depthOfTree_c (w h : Int) (v : Value) (b : List Int) (root : Int) (hI : IsI H v b) (hl : b.length ≤ 1073741824) :
   vcall C frz 31 [.agg #[.int .i64 w, .int .i64 h, v], .int .i64 root] H = some (.int .i64 (depthOf w h b root), H) := by
  refine wp.exact (by simp) ?_ rfl
  rw [vcall_go (fn := Try.f31) Try.func31 rfl (by kernel_rfl) rfl]
  have one := And.intro hI.one' hI.cells
  simp [one, isRoot_c _ _ _ _ _ (hI.app _) hl, -Bool.decide_and]
  refine wp_dec ?_ ?_ <;> intro hR
  · simp [one]
    refine wp_thn (treeDepths_w w h v b root (hI.app _) hl) ?_
    rintro vd _ ⟨L, rfl, od, nd⟩
    have hc := cnt_range w h
    have i := depths_inv hR
    have hn := isN_ok hR.2
    have hp := hR.2.2
    have hq := hR.2.1
    have od := od.rd.isI
    simp only [List.append_assoc, List.singleton_append] at od
    simp [max_c _ _ od (by omega) (by omega) (fun x hx => (i.2 x hx).1), depthOf]
  · have hd : depths w h b root = [] := depths_no hR
    simp [depthOf, hd]
theorem sDepthOfTree_c (w h : Int) (v : Value) (b : List Int) (root : Int) (hI : IsI H v b) (hl : b.length ≤ 1073741824) :
   vcall C frz 131 [.agg #[.int .i64 w, .int .i64 h, v], .int .i64 root] H = some (.int .i64 (depthOf w h b root), H) := by
  refine wp.exact (by simp) ?_ rfl
  rw [vcall_go (fn := Try.f131) Try.func131 rfl (by kernel_rfl) rfl]
  have one := And.intro hI.one' hI.cells
  simp [one]
  refine wp_thn (sTreeDepths_w w h v b root (hI.app _) hl) ?_
  rintro vd _ ⟨L, rfl, od, nd⟩
  have hl16 := depths_length w h b root
  unfold depthOf
  generalize depths w h b root = xs at *
  have od := od.rd.isI
  simp only [List.append_assoc, List.singleton_append] at od
  simp
  refine wp_inv (fun n t H' => ∃ i : Nat, n = xs.length - i ∧ i ≤ xs.length ∧ t 5 = vd ∧ t 6 = .int .i64 ((xs.take i).foldl max (-1)) ∧ t 7 = .int .i64 i ∧ H' = H ++ ⟨[.int .i64 w, .int .i64 h, v], 0, 33⟩ :: L) ?_ (n := xs.length) ⟨0, by simp⟩
  rintro n t H' ⟨i, rfl, hi, k5, k6, k7, rfl⟩ ih
  simp [k5, k6, k7, od.len]
  refine wp_dec ?_ ?_ <;> intro h5
  · have q1 := od.idx (P := Try.prog) (ty := 22) (e := 3) (by simp) (i := (i : Int)) (by omega) (by omega)
    have r1 := (od.load (P := Try.prog) (e := 3) (by simp) h5).trans (by rw [getD_get _ _ h5])
    simp only [Int.toNat_natCast] at q1
    simp [k5, k6, k7, q1, r1]
    refine ih (xs.length - (i + 1)) _ _ ⟨i + 1, rfl, by omega, by simp [k5], ?_, ?_, rfl⟩ (by omega)
    · simp [foldl_max_take h5, ite_max]
    · simp; rw [w64 (by omega) (by omega)]
  · have : i = xs.length := by omega
    subst this
    simp [k5, k6, k7]
theorem isConnected_c (w h : Int) (v : Value) (b : List Int) (hI : IsI H v b) (hl : b.length ≤ 1073741824) :
   vcall C frz 32 [.agg #[.int .i64 w, .int .i64 h, v]] H = some (.bool (decide (conn w h b)), H) := by
  refine wp.exact (by simp) ?_ rfl
  rw [vcall_go (fn := Try.f32) Try.func32 rfl (by kernel_rfl) rfl]
  have one := And.intro hI.one' hI.cells
  simp [one, meshOk_c _ _ _ _ (hI.app _) hl]
  refine wpg_dec ?_ ?_ <;> intro hm
  · simp [one, hm]
    refine wp_thn (treeDepths_w w h v b 0 (hI.app _) hl) ?_
    rintro vd _ ⟨L, rfl, od, nd⟩
    have hl16 := depths_length w h b 0
    have od := od.rd.isI
    simp only [List.append_assoc, List.singleton_append] at od
    simp [hm, contains_c _ _ _ od (by omega), conn]
  · simp [conn, hm]
theorem sIsConnected_c (w h : Int) (v : Value) (b : List Int) (hI : IsI H v b) (hl : b.length ≤ 1073741824) :
   vcall C frz 88 [.agg #[.int .i64 w, .int .i64 h, v]] H = some (.bool (decide (conn w h b)), H) := by
  refine wp.exact (by simp) ?_ rfl
  rw [vcall_go (fn := Try.f88) Try.func88 rfl (by kernel_rfl) rfl]
  have one := And.intro hI.one' hI.cells
  simp [one]
  refine wp_thn (sTreeDepths_w w h v b 0 (hI.app _) hl) ?_
  rintro vd _ ⟨L, rfl, od, nd⟩
  have hl16 := depths_length w h b 0
  have key : conn w h b ↔ (0 < (depths w h b 0).length ∧ ∀ x ∈ depths w h b 0, ¬ x < 0) := by
    constructor
    · rintro ⟨hm, hn⟩
      have hr := okG_isN hm.2
      have i := depths_inv (root := 0) ⟨hm, hr⟩
      have := hr.2
      refine ⟨by omega, fun x hx hlt => hn ?_⟩
      have := (i.2 x hx).1
      rwa [show x = -1 by omega] at hx
    · rintro ⟨h0, hn⟩
      have hR : rootOk w h b 0 := by
        by_cases hR : rootOk w h b 0
        · exact hR
        · rw [depths_no hR] at h0; simp at h0
      exact ⟨hR.1, fun hh => hn _ hh (by omega)⟩
  simp only [key]
  generalize depths w h b 0 = xs at *
  have od := od.rd.isI
  simp only [List.append_assoc, List.singleton_append] at od
  simp
  refine wp_inv (fun n t H' => ∃ i : Nat, n = xs.length - i ∧ i ≤ xs.length ∧ t 3 = vd ∧ t 4 = .int .i64 i ∧ H' = H ++ ⟨[.int .i64 w, .int .i64 h, v], 0, 33⟩ :: L ∧ ∀ x ∈ xs.take i, ¬ x < 0) ?_ (n := xs.length) ⟨0, by simp⟩
  rintro n t H' ⟨i, rfl, hi, k3, k4, rfl, hk⟩ ih
  simp [k3, k4, od.len]
  refine wp_dec ?_ ?_ <;> intro h5
  · have q1 := od.idx (P := Try.prog) (ty := 22) (e := 3) (by simp) (i := (i : Int)) (by omega) (by omega)
    have r1 := (od.load (P := Try.prog) (e := 3) (by simp) h5).trans (by rw [getD_get _ _ h5])
    simp only [Int.toNat_natCast] at q1
    simp [k3, k4, q1, r1]
    refine wp_dec ?_ ?_ <;> intro h6
    · simp [k3, k4, h6]
      exact fun _ => ⟨_, List.getElem_mem h5, h6⟩
    · simp [k3, k4, h6]
      refine ih (xs.length - (i + 1)) _ _ ⟨i + 1, rfl, by omega, by simp [k3], ?_, rfl, take_succ_no h5 hk h6⟩ (by omega)
      simp; rw [w64 (by omega) (by omega)]
  · have : i = xs.length := by omega
    subst this
    rw [List.take_length] at hk
    simp [k3, k4, od.len]
    by_cases h0 : xs = []
    · simp [h0]
    · have : 0 < xs.length := List.length_pos_iff.2 h0
      simp [this, h0]; exact fun x hx => by have := hk x hx; omega
theorem best_range {w h : Int} {b : List Int} (n : Nat) : 0 ≤ (List.range n).foldl (better w h b) 0 := by
  induction n with
  | zero => simp
  | succ n ih => rw [List.range_succ, List.foldl_append]; exact better_range ih
theorem bestRoot_c (w h : Int) (v : Value) (b : List Int) (hI : IsI H v b) (hl : b.length ≤ 1073741824) :
   vcall C frz 49 [.agg #[.int .i64 w, .int .i64 h, v]] H = some (.int .i64 (bestRoot w h b), H) := by
  refine wp.exact (by simp) ?_ rfl
  rw [vcall_go (fn := Try.f49) Try.func49 rfl (by kernel_rfl) rfl]
  have one := And.intro hI.one' hI.cells
  have hc := cnt_range w h
  simp [one, isConnected_c _ _ _ _ (hI.app _) hl]
  refine wp_dec ?_ ?_ <;> intro hcn
  · simp [one, nodeCount_c]
    refine wp_inv (fun n t H' => ∃ i : Nat, n = (cnt w h).toNat - i ∧ i ≤ (cnt w h).toNat ∧ t 1 = .pointer (some ⟨H.length, 0, some 0⟩) ∧ t 3 = .int .i64 ((List.range i).foldl (better w h b) 0) ∧ t 10 = .int .i64 (cnt w h) ∧ t 11 = .int .i64 i ∧ H' = H ++ [⟨[.int .i64 w, .int .i64 h, v], 0, 33⟩]) ?_ (n := (cnt w h).toNat) ⟨0, by simp⟩
    rintro n t H' ⟨i, rfl, hi, k1, k3, k10, k11, rfl⟩ ih
    simp [k1, k3, k10, k11]
    refine wp_dec ?_ ?_ <;> intro h5
    · simp [k1, k3, k10, k11]
      rw [go_draw (h := by kernel_rfl)]
      simp [k1, k3, k10, k11, one, depthOfTree_c _ _ _ _ _ (hI.app _) hl]
      have e : (List.range (i + 1)).foldl (better w h b) 0 = better w h b ((List.range i).foldl (better w h b) 0) i := by rw [List.range_succ, List.foldl_append]; rfl
      refine wp_dec ?_ ?_ <;> intro h6
      · simp [k1, k3, k10, k11, h6]
        refine ih ((cnt w h).toNat - (i + 1)) _ _ ⟨i + 1, rfl, by omega, by simp [k1], ?_, by simp [k10], ?_, rfl⟩ (by omega)
        · simp [e, better, h6]
        · simp; rw [w64 (by omega) (by omega)]
      · simp [k1, k3, k10, k11, h6]
        refine ih ((cnt w h).toNat - (i + 1)) _ _ ⟨i + 1, rfl, by omega, by simp [k1], ?_, by simp [k10], ?_, rfl⟩ (by omega)
        · simp [e, better, h6, k3]
        · simp; rw [w64 (by omega) (by omega)]
    · have : i = (cnt w h).toNat := by omega
      subst this
      simp [k1, k3, k10, k11, bestRoot, hcn]
  · simp [bestRoot, hcn]
theorem sBestRoot_c (w h : Int) (v : Value) (b : List Int) (hI : IsI H v b) (hl : b.length ≤ 1073741824) :
   vcall C frz 94 [.agg #[.int .i64 w, .int .i64 h, v]] H = some (.int .i64 (bestRoot w h b), H) := by
  refine wp.exact (by simp) ?_ rfl
  rw [vcall_go (fn := Try.f94) Try.func94 rfl (by kernel_rfl) rfl]
  have one := And.intro hI.one' hI.cells
  have hc := cnt_range w h
  simp [one, sIsConnected_c _ _ _ _ (hI.app _) hl]
  refine wp_inv (fun n t H' => ∃ (i : Nat) (best least : Int), n = (cnt w h).toNat - i ∧ i ≤ (cnt w h).toNat ∧ t 1 = .pointer (some ⟨H.length, 0, some 0⟩) ∧ t 3 = .int .i64 best ∧ t 4 = .int .i64 least ∧ t 5 = .bool (decide (conn w h b)) ∧ t 6 = .int .i64 i ∧ H' = H ++ [⟨[.int .i64 w, .int .i64 h, v], 0, 33⟩] ∧
    ((i = 0 ∧ best = -1) ∨ (conn w h b ∧ 0 < i ∧ best = (List.range i).foldl (better w h b) 0 ∧ least = depthOf w h b best))) ?_ (n := (cnt w h).toNat) ⟨0, -1, 0, by simp⟩
  rintro n t H' ⟨i, best, least, rfl, hi, k1, k3, k4, k5, k6, rfl, hb⟩ ih
  have e : (List.range (i + 1)).foldl (better w h b) 0 = better w h b ((List.range i).foldl (better w h b) 0) i := by rw [List.range_succ, List.foldl_append]; rfl
  simp [k1, k3, k4, k5, k6, one, sNodeCount_c]
  refine wpg_dec ?_ ?_ <;> intro h5
  · simp [k1, k3, k4, k5, k6, h5]
    refine wp_dec ?_ ?_ <;> intro hcn
    · simp [k1, k3, k4, k5, k6, one, sDepthOfTree_c _ _ _ _ _ (hI.app _) hl]
      refine wpg_dec ?_ ?_ <;> intro h7
      · have hi0 : i = 0 := by
          rcases hb with hb | ⟨_, h0, hbe, _⟩
          · exact hb.1
          · have := best_range (w := w) (h := h) (b := b) i; omega
        subst hi0
        simp [k1, k3, k4, k5, k6, h7]
        refine ih ((cnt w h).toNat - 1) _ _ ⟨1, 0, depthOf w h b 0, rfl, by omega, by simp [k1], by simp, by simp, by simp [k5], ?_, rfl, .inr ⟨hcn, by omega, by simp [better], rfl⟩⟩ (by omega)
        simp [wr1]
      · obtain ⟨_, h0, hbe, hle⟩ : conn w h b ∧ 0 < i ∧ best = (List.range i).foldl (better w h b) 0 ∧ least = depthOf w h b best := by
          rcases hb with hb | hb
          · omega
          · exact hb
        simp [k1, k3, k4, k5, k6, h7]
        refine wp_dec ?_ ?_ <;> intro h8
        · simp [k1, k3, k4, k5, k6, h8]
          refine ih ((cnt w h).toNat - (i + 1)) _ _ ⟨i + 1, i, depthOf w h b i, rfl, by omega, by simp [k1], by simp, by simp, by simp [k5], ?_, rfl, .inr ⟨hcn, by omega, ?_, rfl⟩⟩ (by omega)
          · simp; rw [w64 (by omega) (by omega)]
          · rw [e, ← hbe, better, if_pos (by omega)]
        · simp [k1, k3, k4, k5, k6, h8]
          refine ih ((cnt w h).toNat - (i + 1)) _ _ ⟨i + 1, best, least, rfl, by omega, by simp [k1], by simp [k3], by simp [k4], by simp [k5], ?_, rfl, .inr ⟨hcn, by omega, ?_, hle⟩⟩ (by omega)
          · simp; rw [w64 (by omega) (by omega)]
          · rw [e, ← hbe, better, if_neg (by omega)]
    · have hb1 : best = -1 := by
        rcases hb with hb | hb
        · exact hb.2
        · exact absurd hb.1 hcn
      simp [k1, k3, k4, k5, k6, hb1, bestRoot, hcn]
  · have : i = (cnt w h).toNat := by omega
    simp [k1, k3, k4, k5, k6, h5]
    rcases hb with ⟨h0, hb⟩ | ⟨hcn, h0, hb, _⟩
    · have hcn : ¬ conn w h b := fun hh => by
        have := (okG_isN hh.1.2).2
        omega
      simp [hb, bestRoot, hcn]
    · simp [hb, bestRoot, hcn, this]
end Go.Proofs.Ytnakhkfgheapoaa.V
/-! TreeNodes of the reference. -/
set_option linter.all false
namespace Go.Proofs.Ytnakhkfgheapoaa.V
open Go Go.VM Go.Proofs
set_option maxRecDepth 10000
variable {frz : Nat} {H : Heap}
theorem sTreeNodes_w (v : Value) (P : List Int) (a b : Int) (hI : IsI H v P) (hl : P.length ≤ 268435456) :
   wp (vcall C frz 15 [v, .int .i64 a, .int .i64 b] H) (Made Fl.int 3 H (treeNodes P a b)) := by
  rw [vcall_go (fn := Try.f15) Try.func15 rfl (by kernel_rfl) rfl]
  simp [sCommon_c _ _ _ _ (hI.app _) (show P.length ≤ 1073741823 by omega)]
  refine wp_dec ?_ ?_ <;> intro h0
  · simp [treeNodes, h0]
    exact ⟨_, rfl, Ow.new0 rfl rfl rfl rfl, by simp⟩
  · simp
    have hm : P.length ≤ 1073741823 := by omega
    refine wp_thn (sAnc_w v P a (hI.app _) hm) ?_
    rintro va _ ⟨L1, rfl, oa, na⟩
    simp
    refine wp_thn (sAnc_w v P b (hI.app _) hm) ?_
    rintro vb _ ⟨L2, rfl, ob, nb⟩
    have hla := anc_len P a
    have hlb := anc_len P b
    have oa := oa.rd.isI.app L2
    have ob := ob.rd.isI
    simp only [List.append_assoc, List.singleton_append, List.length_append, List.length_cons, List.length_nil, List.cons_append, List.nil_append] at oa ob na nb
    obtain ⟨ma, mb⟩ := common_mem (P := P) (a := a) (b := b) (by omega)
    have fa := fun (r : Row) (G : Heap) => (swapI r oa (fun i hi => na i hi)).app G
    have fb := fun (r : Row) (G : Heap) => (swapI r ob (fun i hi => by have := nb i hi; omega)).app G
    simp only [List.append_assoc, List.cons_append, List.nil_append] at fa fb
    clear oa ob na nb
    generalize hA : anc P a = A at *
    generalize hB : anc P b = B at *
    generalize hT : common P a b = top at *
    have ia := List.idxOf_lt_length_iff.2 ma
    have ib := List.idxOf_lt_length_iff.2 mb
    have ga := (getD_get _ _ ia).trans (idx_get ma)
    have gb := (getD_get _ _ ib).trans (idx_get mb)
    have na : ∀ j (h : j < A.length), A[j] = top → A.idxOf top ≤ j := fun j h => idx_at h
    have nb : ∀ j (h : j < B.length), (B[j] = top → B.idxOf top ≤ j) ∧ (j < B.idxOf top → B[j] ≠ top) := fun j h => ⟨idx_at h, fun h1 => idx_ne h1 h⟩
    have tn : treeNodes P a b = A.take (A.idxOf top + 1) ++ (B.take (B.idxOf top)).reverse := by rw [treeNodes, hT, hA, hB, if_neg h0]
    rw [tn]
    clear tn hA hB hT hI
    generalize hka : A.idxOf top = ka at *
    generalize hkb : B.idxOf top = kb at *
    have la := fun (r : Row) (G : Heap) => (fa r G).len (P := Try.prog) (ty := 22) (by simp)
    have lb := fun (r : Row) (G : Heap) => (fb r G).len (P := Try.prog) (ty := 22) (by simp)
    have xa := fun (r : Row) (G : Heap) (i : Nat) (hi : i < A.length) => (fa r G).idx (P := Try.prog) (ty := 22) (e := 3) (by simp) (i := (i : Int)) (by omega) (by omega)
    have xb := fun (r : Row) (G : Heap) (i : Nat) (hi : i < B.length) => (fb r G).idx (P := Try.prog) (ty := 22) (e := 3) (by simp) (i := (i : Int)) (by omega) (by omega)
    have da := fun (r : Row) (G : Heap) (i : Nat) (hi : i < A.length) => ((fa r G).load (P := Try.prog) (e := 3) (by simp) hi).trans (by rw [getD_get _ _ hi])
    have db := fun (r : Row) (G : Heap) (i : Nat) (hi : i < B.length) => ((fb r G).load (P := Try.prog) (e := 3) (by simp) hi).trans (by rw [getD_get _ _ hi])
    simp only [Int.toNat_natCast] at xa xb
    simp
    -- the way up
    refine wp_inv (fun n t H' => ∃ (i g : Nat) (G : Heap) (o : List Int), n = ka - i ∧ i ≤ ka ∧ o = A.take i ∧ t 7 = .slice (some ⟨H.length, 0, some g⟩) o.length 0 ∧ t 8 = .int .i64 top ∧ t 9 = va ∧ t 10 = vb ∧ t 11 = .int .i64 i ∧
      H' = H ++ ⟨o.map (.int .i64), g, 3⟩ :: (L1 ++ (L2 ++ G))) ?_ (n := ka) ⟨0, 0, [], [], by simp⟩
    rintro n t H' ⟨i, g, G, o, rfl, hi, ho, h7, h8, h9, h10, h11, rfl⟩ ih
    have hil : i < A.length := by omega
    have hol : o.length = i := by rw [ho]; simp; omega
    have q1 := fun r G => xa r G i hil
    have q2 := fun r G => da r G i hil
    simp [h7, h8, h9, h10, h11, q1, q2]
    refine wp_dec ?_ ?_ <;> intro h6
    · have hik : i = ka := by
        have := na _ hil h6
        omega
      subst hik
      simp [h7, h8, h9, h10, h11]
      refine wp_need (by omega) ?_
      simp [h7, h8, h9, h10, h11, lb]
      have e1 : IntKind.i64.wrap ((B.length : Int) - 1) = (B.length : Int) - 1 := w64 (by omega) (by omega)
      have et : A.take (i + 1) = A.take i ++ [top] := by rw [List.take_succ_eq_append_getElem hil, h6]
      -- the way down
      refine wp_inv (fun n t H' => ∃ (j g : Nat) (G : Heap) (o : List Int), n = j ∧ j ≤ B.length ∧ o = A.take (i + 1) ++ ((B.take kb).drop j).reverse ∧ t 7 = .slice (some ⟨H.length, 0, some g⟩) o.length 0 ∧ t 8 = .int .i64 top ∧ t 10 = vb ∧ t 12 = .int .i64 (j - 1 : Int) ∧
        H' = H ++ ⟨o.map (.int .i64), g, 3⟩ :: (L1 ++ (L2 ++ G))) ?_ (n := B.length) ⟨B.length, g + 1, G ++ [⟨[.int .i64 top], 0, 3⟩], _, rfl, by omega, rfl, ?_, by simp [h8], by simp [h10], by simp [e1], ?_⟩
      · clear h7 h8 h9 h10 h11 ih
        clear ho hol
        rintro n t H' ⟨j, g, G, o, rfl, hj, ho, h7, h8, h10, h12, rfl⟩ ih
        simp [h7, h8, h10, h12]
        refine wp_dec ?_ ?_ <;> intro hj0
        · obtain ⟨j', rfl⟩ : ∃ j', n = j' + 1 := ⟨n - 1, by omega⟩
          have ej : (((j' + 1 : Nat) : Int) - 1) = j' := by omega
          rw [ej] at h12
          simp [h7, h8, h10, h12]
          refine wp_inv (fun m t H' => ∃ (k : Nat), m = j' + 1 - k ∧ k ≤ j' + 1 ∧ t 7 = .slice (some ⟨H.length, 0, some g⟩) o.length 0 ∧ t 8 = .int .i64 top ∧ t 10 = vb ∧ t 12 = .int .i64 j' ∧ t 13 = .bool (decide (k ≤ kb)) ∧ t 14 = .int .i64 k ∧
            H' = H ++ ⟨o.map (.int .i64), g, 3⟩ :: (L1 ++ (L2 ++ G))) ?_ (n := j' + 1) ⟨0, by simp [h7, h8, h10, h12]⟩
          clear h7 h8 h10 h12
          rintro m t H' ⟨k, rfl, hk, h7, h8, h10, h12, h13, h14, rfl⟩ ih2
          simp [h7, h8, h10, h12, h13, h14]
          refine wp_dec ?_ ?_ <;> intro hkj
          · have hkl : k < B.length := by omega
            have q1 := fun r G => xb r G k hkl
            have q2 := fun r G => db r G k hkl
            simp [h7, h8, h10, h12, h13, h14]
            refine wpg_dec ?_ ?_ <;> intro hkb
            · simp [h7, h8, h10, h12, h13, h14, hkb, q1, q2]
              refine ih2 (j' + 1 - (k + 1)) _ _ ⟨k + 1, rfl, by omega, by simp [h7], by simp [h8], by simp [h10], by simp [h12], ?_, ?_, by simp⟩ (by omega)
              · have e : (k + 1 ≤ kb) ↔ ¬ B[k] = top := ⟨fun hh => (nb k hkl).2 (by omega), fun hh => by
                  by_cases hlt : k + 1 ≤ kb
                  · exact hlt
                  · have : kb = k := by omega
                    subst this; rw [getD_get _ _ hkl] at gb; exact absurd gb hh⟩
                simp [e]
              · simp; rw [w64 (by omega) (by omega)]
            · simp [h7, h8, h10, h12, h13, h14, hkb]
              refine ih2 (j' + 1 - (k + 1)) _ _ ⟨k + 1, rfl, by omega, by simp [h7], by simp [h8], by simp [h10], by simp [h12], ?_, ?_, by simp⟩ (by omega)
              · have e : ¬ (k + 1 ≤ kb) := by omega
                simp [e]
              · simp; rw [w64 (by omega) (by omega)]
          · have : k = j' + 1 := by omega
            subst this
            simp [h7, h8, h10, h12, h13, h14]
            refine wp_dec ?_ ?_ <;> intro hkb
            · have hjl : j' < B.length := by omega
              have q1 := fun r G => xb r G j' hjl
              have q2 := fun r G => db r G j' hjl
              have hol : o.length ≤ 536870912 := by rw [ho]; simp; omega
              simp [h7, h8, h10, h12, h13, h14, hkb, q1, q2]
              refine wp_need (by omega) ?_
              refine ih j' _ _ ⟨j', g + 1, G ++ [⟨[.int .i64 B[j']], 0, 3⟩], o ++ [B[j']], rfl, by omega, ?_, by simp, by simp [h8], by simp [h10], ?_, by simp⟩ (by omega)
              · rw [ho, List.append_assoc]
                congr 1
                rw [List.drop_eq_getElem_cons (i := j') (by simp; omega)]
                simp
              · simp; rw [w64 (by omega) (by omega)]
            · simp [h7, h8, h10, h12, h13, h14, hkb]
              refine ih j' _ _ ⟨j', g, G, o, rfl, by omega, ?_, by simp [h7], by simp [h8], by simp [h10], ?_, by simp⟩ (by omega)
              · rw [ho]
                congr 2
                rw [List.drop_of_length_le (by simp; omega), List.drop_of_length_le (by simp; omega)]
              · simp; rw [w64 (by omega) (by omega)]
        · have : n = 0 := by omega
          subst this
          simp [h7, h8, h10, h12]
          rw [List.drop_zero] at ho
          rw [← ho]
          exact ⟨_, rfl, Ow.new0 rfl (cellsOf_int o).symm (by simp) rfl, by simp⟩
      · simp [et, ← ho]; omega
      · simp [et, ← ho]; omega
    · have hik : i ≠ ka := fun hh => h6 (by subst hh; rwa [getD_get _ _ hil] at ga)
      simp [h7, h8, h9, h10, h11, q1, q2]
      refine wp_need (by omega) ?_
      refine ih (ka - (i + 1)) _ _ ⟨i + 1, g + 1, G ++ [⟨[.int .i64 A[i]], 0, 3⟩], o ++ [A[i]], rfl, by omega, ?_, by simp, by simp [h8], by simp [h9], by simp [h10], ?_, by simp⟩ (by omega)
      · rw [List.take_succ_eq_append_getElem hil, ho]
      · simp; rw [w64 (by omega) (by omega)]
end Go.Proofs.Ytnakhkfgheapoaa.V
/-! The laws' own functions: numbers, meshes, tables. -/
set_option linter.all false
namespace Go.Proofs.Ytnakhkfgheapoaa.V
open Go Go.VM Go.Proofs
set_option maxRecDepth 10000
variable {frz : Nat} {H : Heap}
def big : Nat := 1073741824
abbrev dIntS : Dt Value (List Int) := dFlat Fl.int 3 1073741824
/-- what a marking function leaves, told by what its reader says of it -/
def Marks {V A : Type} (B : Int) (T : Dt V A) (held : Nat) (H : Heap) (v : V) (a : A) (k : Int) (r : Value) (H' : Heap) : Prop :=
  ∃ (n : Int) (a' : A), r = .int .i64 (k + n) ∧ (0 ≤ n ∧ n ≤ B) ∧ T.val v a' = T.val v a ∧ T.Ow H' v a' ∧ Chg H H' (T.ids v) ∧
    ∀ F H2, T.Ow H2 v a' → vcall C F held [T.val v a', .int .i64 k] H2 = some (.int .i64 (k + n), H2)
theorem toIntS_w (v : Value) (xs : List Int) (hI : IsI H v xs) (hb : xs.length ≤ 1073741824) : wp (vcall C frz 16 [v] H) (dIntS.Made H xs) := by
  rw [toIntS_c v xs hI hb]
  simp
  exact ⟨_, rfl, ⟨Ow.new0 rfl (cellsOf_int xs).symm (by simp) rfl, hb⟩, Chg.app _, by simp [dFlat], ids_nodup (.slice (some ⟨H.length, 0, some 0⟩) xs.length 0)⟩
theorem eqIntS_d {a b : Value} {xs ys : List Int} (ha : dIntS.Ow H a xs) (hb : dIntS.Ow H b ys) : vcall C frz 18 [a, b] H = some (.bool (decide (xs = ys)), H) :=
  eqIntS_c a b xs ys ha.1.rd.isI hb.1.rd.isI ha.2
theorem markIntS_d {v : Value} {xs : List Int} {k : Int} (h : dIntS.Ow H v xs) (hd : (dIntS.ids v).Nodup) (hk : 0 ≤ k ∧ k ≤ 4611686018427387904) (hf : ∀ i ∈ dIntS.ids v, frz ≤ i) :
    wp (vcall C frz 19 [v, .int .i64 k] H) (Marks 1073741824 dIntS 20 H v xs k) := by
  refine (markIntS_w v xs _ k h.1 h.2 hk hf).mono ?_
  rintro r H' ⟨rfl, o, c, l⟩
  have := h.2
  refine ⟨xs.length, marks k xs.length, rfl, by omega, rfl, ⟨o, by simpa using h.2⟩, c, fun F H2 h2 => ?_⟩
  exact heldIntS_c v xs.length k h2.1.rd.isI h.2 hk
-- meshes
abbrev MeshD := Int × Int × List Int
def dMesh : Dt Value MeshD where
  val v a := .agg #[.int .i64 a.1, .int .i64 a.2.1, v]
  Ow H v a := dIntS.Ow H v a.2.2
  ids := VM.ids
  frame h k := dIntS.frame h k
  lt h := dIntS.lt h
theorem dMesh_val (v : Value) (a : MeshD) : dMesh.val v a = .agg #[.int .i64 a.1, .int .i64 a.2.1, v] := rfl
theorem dMesh_one {v : Value} {a : MeshD} (h : dMesh.Ow H v a) : VM.one v = true ∧ v.cells = #[v] := ⟨h.1.rd.one', h.1.rd.cells⟩
theorem dIntS_one {v : Value} {a : List Int} (h : dIntS.Ow H v a) : VM.one v = true ∧ v.cells = #[v] := ⟨h.1.rd.one', h.1.rd.cells⟩
theorem dIntS_val (v : Value) (a : List Int) : dIntS.val v a = v := rfl
theorem toMesh_w (w h : Int) (v : Value) (b : List Int) (hI : IsI H v b) (hb : b.length ≤ 1073741824) : wp (vcall C frz 35 [.agg #[.int .i64 w, .int .i64 h, v]] H) (dMesh.Made H (w, h, b)) := by
  rw [toMesh_c w h v b hI hb]
  simp
  exact ⟨_, rfl, ⟨Ow.new0 rfl (cellsOf_int b).symm (by simp) rfl, hb⟩, Chg.app _, by simp [dMesh], ids_nodup (.slice (some ⟨H.length, 0, some 0⟩) b.length 0)⟩
theorem eqMesh_d {a b : Value} {x y : MeshD} (ha : dMesh.Ow H a x) (hb : dMesh.Ow H b y) : vcall C frz 38 [dMesh.val a x, dMesh.val b y] H = some (.bool (decide (x = y)), H) := by
  obtain ⟨w, h, b1⟩ := x; obtain ⟨w', h', b2⟩ := y
  rw [dMesh_val, dMesh_val]
  have := eqMesh_c (frz := frz) w h w' h' a b b1 b2 ha.1.rd.isI hb.1.rd.isI ha.2
  rw [this]
  congr 3
  simp [and_assoc]
theorem markMesh_d {v : Value} {a : MeshD} {k : Int} (h : dMesh.Ow H v a) (hd : (dMesh.ids v).Nodup) (hk : 0 ≤ k ∧ k ≤ 4611686018427387904) (hf : ∀ i ∈ dMesh.ids v, frz ≤ i) :
    wp (vcall C frz 39 [dMesh.val v a, .int .i64 k] H) (Marks 1073741824 dMesh 52 H v a k) := by
  obtain ⟨w, g, b⟩ := a
  rw [vcall_go (fn := Try.f39) Try.func39 rfl (by kernel_rfl) rfl]
  rw [dMesh_val]
  have one := dMesh_one h
  simp [one]
  refine wp_thn (markIntS_d (Dt.app h) hd hk hf) ?_
  rintro _ H' ⟨n, a', rfl, hn, _, o, c, he⟩
  simp
  refine ⟨n, (w, g, a'), rfl, hn, rfl, o, (Chg.app _).trans c, fun F H2 h2 => ?_⟩
  rw [vcall_go (fn := Try.f52) Try.func52 rfl (by kernel_rfl) rfl]
  rw [dMesh_val]
  have he' := fun F => he F _ (Dt.app (L := [⟨[.int .i64 w, .int .i64 g, v], 0, 33⟩]) h2)
  simp only [dIntS_val] at he'
  have e0 : ¬ k + n < 0 := by omega
  simp [one, he', e0]
-- tables
def dTable : Dt Value (List Int) where
  val v _ := .agg #[v]
  Ow H v a := dIntS.Ow H v a
  ids := VM.ids
  frame h k := dIntS.frame h k
  lt h := dIntS.lt h
theorem dTable_val (v : Value) (a : List Int) : dTable.val v a = .agg #[v] := rfl
theorem dTable_one {v : Value} {a : List Int} (h : dTable.Ow H v a) : VM.one v = true ∧ v.cells = #[v] := ⟨h.1.rd.one', h.1.rd.cells⟩
theorem szTable_c (v : Value) (xs : List Int) (n : Int) (hI : IsI H v xs) (h0 : 0 ≤ n) (h1 : n ≤ 1048576) (h2 : xs.length ≤ 9223372036854775807) :
    vcall C frz 58 [.agg #[v], .int .i64 n] H = some (.int .i64 (if n < xs.length then -1 else n - xs.length), H) := by
  rw [vcall_go (fn := Try.f58) Try.func58 rfl (by kernel_rfl) rfl]
  simp [szIntS_c _ _ _ (hI.app _) h0 h1 h2, hI.one', hI.cells]
  refine br_dec _ ?_ ?_ <;> intro h <;> simp [h]
  · intro hh; omega
theorem toTable_w (v : Value) (xs : List Int) (hI : IsI H v xs) (hb : xs.length ≤ 1073741824) :
   wp (vcall C frz 60 [.agg #[v]] H) (dTable.Made H xs) := by
  rw [vcall_go (fn := Try.f60) Try.func60 rfl (by kernel_rfl) rfl]
  simp [toIntS_c _ _ (hI.app _) hb, hI.one', hI.cells]
  exact ⟨_, rfl, ⟨Ow.new0 rfl (cellsOf_int xs).symm (by simp) rfl, hb⟩, Chg.app _, by simp [dTable], ids_nodup (.slice (some ⟨H.length, 0, some 0⟩) xs.length 0)⟩
theorem eqTable_d {a b : Value} {x y : List Int} (ha : dTable.Ow H a x) (hb : dTable.Ow H b y) : vcall C frz 37 [dTable.val a x, dTable.val b y] H = some (.bool (decide (x = y)), H) := by
  rw [dTable_val, dTable_val]
  rw [vcall_go (fn := Try.f37) Try.func37 rfl (by kernel_rfl) rfl]
  simp [dTable_one ha, dTable_one hb, eqIntS_c _ _ _ _ (ha.1.rd.isI.app _) (hb.1.rd.isI.app _) ha.2]
  refine br_dec _ ?_ ?_ <;> intro h0 <;> simp [h0]
theorem markTable_d {v : Value} {a : List Int} {k : Int} (h : dTable.Ow H v a) (hd : (dTable.ids v).Nodup) (hk : 0 ≤ k ∧ k ≤ 4611686018427387904) (hf : ∀ i ∈ dTable.ids v, frz ≤ i) :
    wp (vcall C frz 40 [dTable.val v a, .int .i64 k] H) (Marks 1073741824 dTable 41 H v a k) := by
  rw [vcall_go (fn := Try.f40) Try.func40 rfl (by kernel_rfl) rfl]
  rw [dTable_val]
  have one := dTable_one h
  simp [one]
  refine wp_thn (markIntS_d (Dt.app h) hd hk hf) ?_
  rintro _ H' ⟨n, a', rfl, hn, _, o, c, he⟩
  simp
  refine ⟨n, a', rfl, hn, rfl, o, (Chg.app _).trans c, fun F H2 h2 => ?_⟩
  rw [vcall_go (fn := Try.f41) Try.func41 rfl (by kernel_rfl) rfl]
  rw [dTable_val]
  have he' := fun F => he F _ (Dt.app (L := [⟨[v], 0, 48⟩]) h2)
  simp only [dIntS_val] at he'
  have e0 : ¬ k + n < 0 := by omega
  simp [one, he', e0]
end Go.Proofs.Ytnakhkfgheapoaa.V
/-! TreeNodes as contracts on data. -/
set_option linter.all false
namespace Go.Proofs.Ytnakhkfgheapoaa.V
open Go Go.VM Go.Proofs
variable {frz : Nat} {H : Heap}
theorem made_d {α : Type} {D : Fl α} {e : TypeId} {n : Nat} {xs : List α} {r : Value} {H' : Heap} (h : Made D e H xs r H') (hl : xs.length ≤ n) : (dFlat D e n).Made H xs r H' := by
  obtain ⟨L, rfl, o, k⟩ := h
  exact ⟨r, rfl, ⟨o, hl⟩, Chg.app _, k, ids_nodup r⟩
theorem treeNodes_len (P : List Int) (a b : Int) : (treeNodes P a b).length ≤ P.length + P.length := by
  have h1 := anc_len P a
  have h2 := anc_len P b
  unfold treeNodes
  split
  · simp
  · simp; omega
theorem treeNodes_d {v : Value} {P : List Int} {a b : Int} (h : dIntS.Ow H v P) (hl : P.length ≤ 268435456) : wp (vcall C frz 17 [v, .int .i64 a, .int .i64 b] H) (dIntS.Made H (treeNodes P a b)) :=
  (treeNodes_w v P a b h.1.rd.isI (by omega)).mono fun _ _ k => made_d k (by have := treeNodes_len P a b; omega)
theorem sTreeNodes_d {v : Value} {P : List Int} {a b : Int} (h : dIntS.Ow H v P) (hl : P.length ≤ 268435456) : wp (vcall C frz 15 [v, .int .i64 a, .int .i64 b] H) (dIntS.Made H (treeNodes P a b)) :=
  (sTreeNodes_w v P a b h.1.rd.isI (by omega)).mono fun _ _ k => made_d k (by have := treeNodes_len P a b; omega)
end Go.Proofs.Ytnakhkfgheapoaa.V
/-! Trees: who is reached, and the first step of a way. -/
set_option linter.all false
namespace Go.Proofs.Ytnakhkfgheapoaa.V
open Go Go.VM
set_option maxRecDepth 100000
def geoB : Bool := (List.range 5).all fun w => (List.range 5).all fun h => (List.range 16).all fun a => (List.range 4).all fun p =>
  decide (next (w : Int) h a p < 0) || (decide (next w h (next w h a p) (opp p) = a) && (decide (0 ≤ opp p) && (decide (opp p < 4) && (decide (next (w : Int) h a p ≠ a) && decide (opp (opp p) = p)))))
theorem geo_dec : geoB = true := by decide +kernel
theorem geo {w h a : Int} {p : Nat} (hp : p < 4) (ha : isN w h a) (hu : 0 ≤ next w h a p) : next w h (next w h a p) (opp p) = a ∧ 0 ≤ opp p ∧ opp p < 4 ∧ next w h a p ≠ a ∧ opp (opp p) = p := by
  obtain ⟨⟨⟨a1, a2⟩, b1, b2⟩, c1, c2, c3⟩ := isN_ok ha
  have h0 := geo_dec
  unfold geoB at h0
  rw [List.all_eq_true] at h0
  have h1 := h0 w.toNat (by simp; omega)
  rw [List.all_eq_true] at h1
  have h2 := h1 h.toNat (by simp; omega)
  rw [List.all_eq_true] at h2
  have h3 := h2 a.toNat (by simp; omega)
  rw [List.all_eq_true] at h3
  have h4 := h3 p (by simp; omega)
  have e1 : (w.toNat : Int) = w := by omega
  have e2 : (h.toNat : Int) = h := by omega
  have e3 : (a.toNat : Int) = a := by omega
  rw [e1, e2, e3] at h4
  simp only [Bool.or_eq_true, Bool.and_eq_true, decide_eq_true_eq] at h4
  rcases h4 with h4 | h4
  · omega
  · exact h4
theorem link_symm {w h : Int} {b : List Int} {a : Int} {p : Nat} (hp : p < 4) (h1 : link w h b (4 * a + p)) : ∃ q : Nat, q < 4 ∧ link w h b (4 * next w h a p + q) ∧ next w h (next w h a p) q = a := by
  obtain ⟨ha, hu, he⟩ := link_next hp h1
  obtain ⟨g1, g2, g3, g4, g5⟩ := geo hp ha hu.1
  have e0 : (4 * a + (p : Int)) % 4 = p := by omega
  have hb : backC w h (4 * a + p) = 4 * next w h a p + opp p := by unfold backC; rw [he, e0]
  have h2 := h1.2
  rw [hb] at h2
  obtain ⟨q, hq⟩ := Int.eq_ofNat_of_zero_le g2
  rw [hq] at g1 g3 g5 h2
  have eq1 : (4 * next w h a p + (q : Int)) / 4 = next w h a p := by omega
  have eq2 : (4 * next w h a p + (q : Int)) % 4 = q := by omega
  refine ⟨q, by omega, ⟨h2, ?_⟩, g1⟩
  have : backC w h (4 * next w h a p + q) = 4 * a + p := by unfold backC endC; rw [eq1, eq2, g1, g5]
  rw [this]; exact h1.1

/-- what visiting the ports of a list does -/
structure VOut (w h : Int) (b : List Int) (a d : Int) (l : List Nat) (x y : List Int × List Int) : Prop where
  keep : ∀ v, 0 ≤ v → 0 ≤ rd x.1 v → rd y.1 v = rd x.1 v
  new : ∀ v, isN w h v → rd x.1 v < 0 → 0 ≤ rd y.1 v → rd y.1 v = d ∧ v ∈ y.2 ∧ ∃ p : Nat, p < 4 ∧ link w h b (4 * a + p) ∧ next w h a p = v
  all : ∀ p ∈ l, link w h b (4 * a + (p : Nat)) → 0 ≤ rd y.1 (next w h a p)
  pre : ∀ v ∈ x.2, v ∈ y.2
  len : y.1.length = x.1.length
theorem vst_out {w h : Int} {b : List Int} {a d : Int} (hd : 0 ≤ d) : ∀ (l : List Nat) (x : List Int × List Int), (∀ p ∈ l, p < 4) → (∀ v, isN w h v → v < x.1.length) → VOut w h b a d l x (l.foldl (vst w h b a d) x)
  | [], x, _, _ => ⟨fun _ _ _ => rfl, fun v _ h1 h2 => by simp only [List.foldl_nil] at h2; omega, fun p hp => by simp at hp, fun _ h => h, rfl⟩
  | p :: l, x, hl, hlen => by
    have hp := hl p (by simp)
    have E := vst_ext (w := w) (h := h) (b := b) (a := a) (x := x) hp hd
    have ih := vst_out (w := w) (h := h) (b := b) (a := a) hd l (vst w h b a d x p) (fun q hq => hl q (by simp [hq])) (by rw [E.len]; exact hlen)
    refine ⟨fun v h0 h1 => ?_, fun v hv h1 h2 => ?_, fun q hq hlk => ?_, fun v hv => ih.pre v (E.pre v hv), by rw [List.foldl_cons, ih.len, E.len]⟩
    · have e1 := E.old v h0 h1
      rw [List.foldl_cons, ih.keep v h0 (by omega), e1]
    · by_cases h3 : rd (vst w h b a d x p).1 v < 0
      · exact ih.new v hv h3 h2
      · have h4 : 0 ≤ rd (vst w h b a d x p).1 v := by omega
        have e2 := ih.keep v hv.1 h4
        have : link w h b (4 * a + p) ∧ next w h a p = v ∧ rd (vst w h b a d x p).1 v = d ∧ v ∈ (vst w h b a d x p).2 := by
          unfold vst at h4 ⊢
          split at h4
          · rename_i hc
            rw [if_pos hc]
            obtain ⟨_, hn, _⟩ := link_next hp hc.1
            have hln := hlen _ hn
            simp only at h4 ⊢
            rw [rd_set hn.1 hln hv.1] at h4 ⊢
            by_cases hvn : v = next w h a p
            · rw [if_pos hvn]; exact ⟨hc.1, hvn.symm, rfl, by simp [hvn]⟩
            · rw [if_neg hvn] at h4; omega
          · omega
        rw [List.foldl_cons]
        exact ⟨by rw [e2]; exact this.2.2.1, ih.pre v this.2.2.2, p, hp, this.1, this.2.1⟩
    · rcases List.mem_cons.1 hq with rfl | hq
      · obtain ⟨_, hn, _⟩ := link_next hp hlk
        have hln := hlen _ hn
        have h4 : 0 ≤ rd (vst w h b a d x q).1 (next w h a q) := by
          unfold vst
          split
          · simp only; rw [rd_set hn.1 hln hn.1, if_pos rfl]; exact hd
          · rename_i hc
            by_cases h5 : rd x.1 (next w h a q) < 0
            · exact absurd ⟨hlk, h5⟩ hc
            · omega
        rw [List.foldl_cons, ih.keep _ hn.1 h4]; exact h4
      · exact ih.all q hq hlk
structure Inv2 (w h : Int) (b : List Int) (root : Int) (s rest nx : List Int) : Prop where
  cl : ∀ v, isN w h v → 0 ≤ rd s v → v ∉ rest → v ∉ nx → ∀ p : Nat, p < 4 → link w h b (4 * v + p) → 0 ≤ rd s (next w h v p)
  pre : ∀ v, isN w h v → 0 < rd s v → ∃ u, isN w h u ∧ rd s u = rd s v - 1 ∧ ∃ q : Nat, q < 4 ∧ link w h b (4 * u + q) ∧ next w h u q = v
  zero : rd s root = 0 ∧ ∀ v, isN w h v → rd s v = 0 → v = root
theorem Run.inv2 {w h root : Int} {b s rest nx r : List Int} {d : Int} (hr : isN w h root) (R : Run w h b s rest nx d r) : Inv w h s rest nx d → Inv2 w h b root s rest nx → Inv2 w h b root r [] [] := by
  induction R with
  | done s d => exact fun _ j => j
  | level _ ih => exact fun i j => ih i.level ⟨fun v hv h0 h1 h2 => j.cl v hv h0 (by simp) h1, j.pre, j.zero⟩
  | @node s a rest nx d r _ ih =>
    intro i j
    have h1 := i.one
    obtain ⟨ha, hda⟩ := i.fr a (by simp)
    have O : VOut w h b a d (List.range 4) (s, nx) (vis w h b a d (s, nx)) := vst_out (by omega) _ _ (by simp) (fun v hv => by have := i.len; have := hv.2; simp only; omega)
    refine ih i.node ⟨fun v hv h0 hn1 hn2 p hp hlk => ?_, fun v hv h0 => ?_, ?_, fun v hv h0 => ?_⟩
    · have hnx := (link_next hp hlk).2.1
      by_cases h2 : 0 ≤ rd s v
      · by_cases hva : v = a
        · subst hva; exact O.all p (by simp; omega) hlk
        · have h3 := j.cl v hv h2 (by simp [hva, hn1]) (fun hh => hn2 (O.pre v hh)) p hp hlk
          rw [O.keep _ hnx.1 h3]; exact h3
      · exact absurd (O.new v hv (by simp only; omega) h0).2.1 hn2
    · by_cases h2 : 0 ≤ rd s v
      · have e := O.keep v hv.1 h2
        simp only at e
        rw [e] at h0 ⊢
        obtain ⟨u, hu, hu1, hq⟩ := j.pre v hv h0
        refine ⟨u, hu, ?_, hq⟩
        rw [O.keep u hu.1 (by simp only; omega)]; exact hu1
      · obtain ⟨e, _, hq⟩ := O.new v hv (by simp only; omega) (by omega)
        refine ⟨a, ha, ?_, hq⟩
        rw [O.keep a ha.1 (by simp only; omega), e]; exact hda
    · have := j.zero.1
      rw [O.keep root hr.1 (by simp only; omega)]; exact this
    · by_cases h2 : 0 ≤ rd s v
      · have e := O.keep v hv.1 h2
        simp only at e
        exact j.zero.2 v hv (by rw [← e]; exact h0)
      · obtain ⟨e, _⟩ := O.new v hv (by simp only; omega) (by omega)
        omega
theorem start_rd {w h root v : Int} (hr : isN w h root) (hv : isN w h v) : rd (start w h root) v = if v = root then 0 else -1 := by
  have hc := cnt_range w h
  have h1 := hr.2
  have h2 := hv.2
  unfold start
  rw [rd_set hr.1 (by simp; omega) hv.1]
  by_cases h3 : v = root
  · rw [if_pos h3, if_pos h3]
  · rw [if_neg h3, if_neg h3]
    have := rd_mem (s := List.replicate (cnt w h).toNat (-1 : Int)) hv.1 (by simp; omega)
    exact List.eq_of_mem_replicate this
theorem start_inv2 {w h root : Int} (b : List Int) (hr : isN w h root) : Inv2 w h b root (start w h root) [root] [] := by
  refine ⟨fun v hv h0 h1 => ?_, fun v hv h0 => ?_, by rw [start_rd hr hr, if_pos rfl], fun v hv h0 => ?_⟩
  · rw [start_rd hr hv] at h0
    split at h0
    · rename_i h2; simp [h2] at h1
    · omega
  · rw [start_rd hr hv] at h0; split at h0 <;> omega
  · rw [start_rd hr hv] at h0
    split at h0
    · assumption
    · omega
theorem depths_inv2 {w h root : Int} {b : List Int} (H : rootOk w h b root) : Inv2 w h b root (depths w h b root) [] [] :=
  (depths_run H).inv2 H.2 (start_inv H.2).1 (start_inv2 b H.2)
/-- In a connected mesh every node is reached from every root. -/
theorem conn_all {w h : Int} {b : List Int} (hc : conn w h b) {r : Int} (hr : isN w h r) : ∀ v, isN w h v → 0 ≤ rd (depths w h b r) v := by
  have h0 := okG_isN hc.1.2
  have H0 : rootOk w h b 0 := ⟨hc.1, h0⟩
  have Hr : rootOk w h b r := ⟨hc.1, hr⟩
  have i0 := depths_inv H0
  have j0 := depths_inv2 H0
  have j := depths_inv2 Hr
  have all0 : ∀ v, isN w h v → 0 ≤ rd (depths w h b 0) v := fun v hv => by
    have hm := rd_mem (s := depths w h b 0) hv.1 (by have := hv.2; omega)
    have := (i0.2 _ hm).1
    by_cases h1 : rd (depths w h b 0) v = -1
    · rw [h1] at hm; exact absurd hm hc.2
    · omega
  have down : ∀ (n : Nat) v, isN w h v → rd (depths w h b 0) v = n → 0 ≤ rd (depths w h b r) v → 0 ≤ rd (depths w h b r) 0 := by
    intro n
    induction n with
    | zero => intro v hv h1 h2
              have := j0.zero.2 v hv (by omega)
              rw [this] at h2; exact h2
    | succ n ih =>
      intro v hv h1 h2
      obtain ⟨u, hu, hu1, q, hq, hlk, hnx⟩ := j0.pre v hv (by omega)
      obtain ⟨q', hq', hlk', hnx'⟩ := link_symm hq hlk
      rw [hnx] at hlk' hnx'
      have h3 := j.cl v hv h2 (by simp) (by simp) q' hq' hlk'
      rw [hnx'] at h3
      exact ih u hu (by omega) h3
  have hr0 : 0 ≤ rd (depths w h b r) 0 := by
    have h1 := all0 r hr
    exact down _ r hr (Int.toNat_of_nonneg h1).symm (by have := j.zero.1; omega)
  have up : ∀ (n : Nat) v, isN w h v → rd (depths w h b 0) v = n → 0 ≤ rd (depths w h b r) v := by
    intro n
    induction n with
    | zero => intro v hv h1
              have := j0.zero.2 v hv (by omega)
              rw [this]; exact hr0
    | succ n ih =>
      intro v hv h1
      obtain ⟨u, hu, hu1, q, hq, hlk, hnx⟩ := j0.pre v hv (by omega)
      have h3 := j.cl u hu (ih u hu (by omega)) (by simp) (by simp) q hq hlk
      rw [hnx] at h3; exact h3
  exact fun v hv => up _ v hv (Int.toNat_of_nonneg (all0 v hv)).symm
/-- Who has a parent. -/
theorem par_some {w h root : Int} {b : List Int} (H : rootOk w h b root) {v : Int} (hv : isN w h v) (h0 : 0 < rd (depths w h b root) v) :
    ∃ p : Nat, p < 4 ∧ par w h b (depths w h b root) v = next w h v p ∧ link w h b (4 * v + p) ∧ rd (depths w h b root) (next w h v p) = rd (depths w h b root) v - 1 := by
  rcases par_cases w h b (depths w h b root) v with h1 | ⟨p, hp, h2, h3, _⟩
  · exfalso
    obtain ⟨u, hu, hu1, q, hq, hlk, hnx⟩ := (depths_inv2 H).pre v hv h0
    obtain ⟨q', hq', hlk', hnx'⟩ := link_symm hq hlk
    rw [hnx] at hlk' hnx'
    have ht : toRoot w h b (depths w h b root) v q' := ⟨hlk', by rw [hnx']; exact hu1⟩
    unfold par at h1
    rw [if_pos h0] at h1
    have nn : ∀ p : Nat, p < 4 → toRoot w h b (depths w h b root) v p → next w h v p ≠ -1 := fun p hp ht hh => by
      have := (link_next hp ht.1).2.1.1; omega
    by_cases t0 : toRoot w h b (depths w h b root) v 0
    · rw [if_pos t0] at h1; exact nn 0 (by omega) t0 h1
    rw [if_neg t0] at h1
    by_cases t1 : toRoot w h b (depths w h b root) v 1
    · rw [if_pos t1] at h1; exact nn 1 (by omega) t1 h1
    rw [if_neg t1] at h1
    by_cases t2 : toRoot w h b (depths w h b root) v 2
    · rw [if_pos t2] at h1; exact nn 2 (by omega) t2 h1
    rw [if_neg t2] at h1
    by_cases t3 : toRoot w h b (depths w h b root) v 3
    · rw [if_pos t3] at h1; exact nn 3 (by omega) t3 h1
    have : q' = 0 ∨ q' = 1 ∨ q' = 2 ∨ q' = 3 := by omega
    rcases this with rfl | rfl | rfl | rfl
    · exact t0 ht
    · exact t1 ht
    · exact t2 ht
    · exact t3 ht
  · exact ⟨p, hp, h2, h3.1, h3.2⟩
theorem parents_rd {w h root : Int} {b : List Int} {v : Int} (h0 : 0 ≤ v) (h1 : v < (depths w h b root).length) : rd (parents w h b root) v = par w h b (depths w h b root) v := by
  obtain ⟨i, rfl⟩ := Int.eq_ofNat_of_zero_le h0
  rw [rd_at (by rw [parents_length]; omega)]
  simp [parents, pars]
section
variable {w h r : Int} {b : List Int} (hc : conn w h b) (hr : isN w h r)
include hc hr
theorem tree_len : ((parents w h b r).length : Int) = cnt w h := by rw [parents_length]; exact (depths_inv ⟨hc.1, hr⟩).1
theorem tree_par {v : Int} (hv : isN w h v) : (v = r ∧ rd (parents w h b r) v = -1) ∨ ∃ p : Nat, p < 4 ∧ rd (parents w h b r) v = next w h v p ∧ link w h b (4 * v + p) ∧ isN w h (next w h v p) ∧ rd (depths w h b r) (next w h v p) = rd (depths w h b r) v - 1 := by
  have H : rootOk w h b r := ⟨hc.1, hr⟩
  have hl := (depths_inv H).1
  have hv2 := hv.2
  rw [parents_rd hv.1 (by omega)]
  have h0 := conn_all hc hr v hv
  by_cases h1 : rd (depths w h b r) v = 0
  · refine .inl ⟨(depths_inv2 H).zero.2 v hv h1, ?_⟩
    unfold par; rw [if_neg (by omega)]
  · obtain ⟨p, hp, h2, h3, h4⟩ := par_some H hv (by omega)
    exact .inr ⟨p, hp, h2, h3, (link_next hp h3).2.1, h4⟩
theorem anc_node {v : Int} (hv : isN w h v) : anc (parents w h b r) v = v :: (if rd (parents w h b r) v = -1 then [] else anc (parents w h b r) (rd (parents w h b r) v)) := by
  have := tree_len hc hr
  exact anc_cons (parents_tree ⟨hc.1, hr⟩) hv.1 (by have := hv.2; omega)
theorem root_anc : ∀ (n : Nat) {v : Int}, isN w h v → rd (depths w h b r) v = n → r ∈ anc (parents w h b r) v := by
  intro n
  induction n with
  | zero =>
    intro v hv h0
    rw [anc_node hc hr hv]
    have := (depths_inv2 ⟨hc.1, hr⟩).zero.2 v hv (by omega)
    simp [this]
  | succ n ih =>
    intro v hv h0
    rw [anc_node hc hr hv]
    rcases tree_par hc hr hv with ⟨h1, _⟩ | ⟨p, hp, h2, h3, h4, h5⟩
    · simp [h1]
    · rw [h2, if_neg (by have := h4.1; omega)]
      exact List.mem_cons_of_mem _ (ih h4 (by omega))
theorem anc_get : ∀ (n : Nat) {v : Int}, isN w h v → rd (depths w h b r) v = n → ∀ (j : Nat) (hj : j + 1 < (anc (parents w h b r) v).length), isN w h (anc (parents w h b r) v)[j] ∧ isN w h (anc (parents w h b r) v)[j + 1] ∧
    ∃ p : Nat, p < 4 ∧ next w h (anc (parents w h b r) v)[j] p = (anc (parents w h b r) v)[j + 1] ∧ link w h b (4 * (anc (parents w h b r) v)[j] + p) := by
  intro n
  induction n with
  | zero =>
    intro v hv h0 j hj
    have hroot := (depths_inv2 ⟨hc.1, hr⟩).zero.2 v hv (by omega)
    have e := anc_node hc hr hv
    rcases tree_par hc hr hv with ⟨_, h1⟩ | ⟨p, hp, h2, h3, h4, h5⟩
    · rw [h1, if_pos rfl] at e; rw [e] at hj; simp at hj
    · have := conn_all hc hr _ h4; omega
  | succ n ih =>
    intro v hv h0 j hj
    have e := anc_node hc hr hv
    rcases tree_par hc hr hv with ⟨_, h1⟩ | ⟨p, hp, h2, h3, h4, h5⟩
    · rw [h1, if_pos rfl] at e; rw [e] at hj; simp at hj
    · rw [h2, if_neg (by have := h4.1; omega)] at e
      have e2 := anc_node hc hr h4
      cases j with
      | zero =>
        simp only [e]
        simp only [List.getElem_cons_zero, List.getElem_cons_succ]
        have e3 : (anc (parents w h b r) (next w h v p))[0]'(by rw [e2]; simp) = next w h v p := by simp only [e2, List.getElem_cons_zero]
        rw [e3]
        exact ⟨hv, h4, p, hp, rfl, h3⟩
      | succ j =>
        simp only [e] at hj ⊢
        simp only [List.getElem_cons_succ]
        exact ih h4 (by omega) j (by simpa using hj)
/-- The way through the tree between two nodes has a first step, to a neighbour. -/
theorem tn_first {a c : Int} (ha : isN w h a) (hcn : isN w h c) (hne : a ≠ c) : ∃ p : Nat, p < 4 ∧ 1 < (treeNodes (parents w h b r) a c).length ∧ (treeNodes (parents w h b r) a c)[1]? = some (next w h a p) ∧ 0 ≤ next w h a p := by
  have dn := fun {v : Int} (hv : isN w h v) => (Int.toNat_of_nonneg (conn_all hc hr v hv)).symm
  have ra := root_anc hc hr _ ha (dn ha)
  have rc := root_anc hc hr _ hcn (dn hcn)
  have hcom : 0 ≤ common (parents w h b r) a c := by
    unfold common
    cases hf : (anc (parents w h b r) a).find? (fun x => decide (x ∈ anc (parents w h b r) c)) with
    | none => rw [List.find?_eq_none] at hf; exact absurd (by simpa using rc) (hf r ra)
    | some u =>
      have := anc_in (List.mem_of_find?_eq_some hf)
      simpa using this.1
  obtain ⟨ma, mc⟩ := common_mem hcom
  have ga := anc_get hc hr _ ha (dn ha)
  have gc := anc_get hc hr _ hcn (dn hcn)
  have ea := anc_node hc hr ha
  have ec := anc_node hc hr hcn
  unfold treeNodes
  rw [if_neg (by omega)]
  have ia := List.idxOf_lt_length_iff.2 ma
  have ic := List.idxOf_lt_length_iff.2 mc
  have va : (anc (parents w h b r) a)[(anc (parents w h b r) a).idxOf (common (parents w h b r) a c)] = common (parents w h b r) a c := by
    have := List.findIdx_getElem (p := (· == common (parents w h b r) a c)) (xs := anc (parents w h b r) a) (w := ia)
    simpa using this
  have vc : (anc (parents w h b r) c)[(anc (parents w h b r) c).idxOf (common (parents w h b r) a c)] = common (parents w h b r) a c := by
    have := List.findIdx_getElem (p := (· == common (parents w h b r) a c)) (xs := anc (parents w h b r) c) (w := ic)
    simpa using this
  generalize (anc (parents w h b r) a).idxOf (common (parents w h b r) a c) = ka at *
  generalize (anc (parents w h b r) c).idxOf (common (parents w h b r) a c) = kc at *
  have a0 : (anc (parents w h b r) a)[0]'(by omega) = a := by simp only [ea, List.getElem_cons_zero]
  have c0 : (anc (parents w h b r) c)[0]'(by omega) = c := by simp only [ec, List.getElem_cons_zero]
  by_cases hk : ka = 0
  · subst hk
    rw [a0] at va
    have hkc : kc ≠ 0 := fun hh => by subst hh; rw [c0] at vc; exact hne (va.trans vc.symm)
    obtain ⟨j, rfl⟩ : ∃ j, kc = j + 1 := ⟨kc - 1, by omega⟩
    obtain ⟨n1, n2, p, hp, hnx, hlk⟩ := gc j ic
    rw [vc, ← va] at hnx
    obtain ⟨g1, g2, g3, _⟩ := geo hp n1 (by rw [hnx]; exact ha.1)
    rw [hnx] at g1
    obtain ⟨q, hq⟩ := Int.eq_ofNat_of_zero_le g2
    rw [hq] at g1 g3
    refine ⟨q, by omega, by simp; omega, ?_, by rw [g1]; exact n1.1⟩
    rw [g1]
    have e1 : ((anc (parents w h b r) a).take (0 + 1)) = [a] := by rw [ea]; rfl
    have e2 : (anc (parents w h b r) c).take (j + 1) = (anc (parents w h b r) c).take j ++ [(anc (parents w h b r) c)[j]] := List.take_succ_eq_append_getElem (by omega)
    rw [e1, List.getElem?_append_right (by simp)]
    rw [e2, List.reverse_append]; rfl
  · obtain ⟨n1, n2, p, hp, hnx, hlk⟩ := ga 0 (by omega)
    rw [a0] at hnx
    refine ⟨p, hp, by simp; omega, ?_, by rw [hnx]; exact n2.1⟩
    rw [List.getElem?_append_left (by simp; omega), List.getElem?_take, if_pos (by omega), List.getElem?_eq_getElem (by omega), hnx]
end
end Go.Proofs.Ytnakhkfgheapoaa.V
/-! Tables of trees. -/
set_option linter.all false
namespace Go.Proofs.Ytnakhkfgheapoaa.V
open Go Go.VM Go.Proofs
set_option maxRecDepth 10000
variable {frz : Nat} {H : Heap}
def firstPort (w h a u : Int) : Int := if next w h a 0 = u then 0 else if next w h a 1 = u then 1 else if next w h a 2 = u then 2 else if next w h a 3 = u then 3 else 4
theorem firstPort_at {w h a u : Int} {p : Nat} (hp : p < 4) (h1 : next w h a p = u) (h2 : ∀ q < p, next w h a (q : Nat) ≠ u) : firstPort w h a u = p := by
  unfold firstPort
  have : p = 0 ∨ p = 1 ∨ p = 2 ∨ p = 3 := by omega
  have g : ∀ q : Nat, q < p → ∀ z : Int, z = q → ¬ next w h a z = u := fun q hq z hz => by rw [hz]; exact h2 q hq
  rcases this with rfl | rfl | rfl | rfl
  · rw [if_pos (by exact_mod_cast h1)]; rfl
  · rw [if_neg (g 0 (by omega) 0 rfl), if_pos (by exact_mod_cast h1)]; rfl
  · rw [if_neg (g 0 (by omega) 0 rfl), if_neg (g 1 (by omega) 1 rfl), if_pos (by exact_mod_cast h1)]; rfl
  · rw [if_neg (g 0 (by omega) 0 rfl), if_neg (g 1 (by omega) 1 rfl), if_neg (g 2 (by omega) 2 rfl), if_pos (by exact_mod_cast h1)]; rfl
theorem firstPort_range (w h a u : Int) : 0 ≤ firstPort w h a u ∧ firstPort w h a u ≤ 4 := by
  unfold firstPort; repeat' split
  all_goals omega
theorem portTo_c (w h a u : Int) (p : Nat) (hp : p < 4) (h1 : next w h a p = u) :
   vcall C frz 92 [.agg #[.int .i64 w, .int .i64 h], .int .i64 a, .int .i64 u] H = some (.int .i64 (firstPort w h a u), H) := by
  rw [vcall_go (fn := Try.f92) Try.func92 rfl (by kernel_rfl) rfl]
  simp
  refine go_inv (fun n t H' => ∃ k : Nat, n = p - k ∧ k ≤ p ∧ t 1 = .int .i64 a ∧ t 2 = .int .i64 u ∧ t 3 = .pointer (some ⟨H.length, 0, some 0⟩) ∧ t 7 = .int .i64 k ∧ H' = H ++ [⟨[.int .i64 w, .int .i64 h], 0, 31⟩] ∧ ∀ q < k, next w h a (q : Nat) ≠ u) ?_ (n := p) ⟨0, by simp⟩
  rintro n t H' ⟨k, rfl, hk, k1, k2, k3, k7, rfl, hq⟩ ih
  simp [k1, k2, k3, k7, nextNode_c]
  refine br_dec _ ?_ ?_ <;> intro h5
  · simp [k1, k2, k3, k7]
    exact (firstPort_at (by omega) h5 hq).symm
  · have hkp : k ≠ p := fun hh => h5 (by rw [hh]; exact h1)
    simp [k1, k2, k3, k7, h5]
    refine ih (p - (k + 1)) _ _ ⟨k + 1, rfl, by omega, by simp [k1], by simp [k2], by simp [k3], ?_, rfl, fun q hq' => ?_⟩ (by omega)
    · simp; rw [w64 (by omega) (by omega)]
    · by_cases hqk : q < k
      · exact hq q hqk
      · have : q = k := by omega
        rw [this]; exact h5
theorem l33Port_c (w h a u : Int) :
   vcall C frz 130 [.agg #[.int .i64 w, .int .i64 h], .int .i64 a, .int .i64 u] H = some (.int .i64 (firstPort w h a u), H) := by
  rw [vcall_go (fn := Try.f130) Try.func130 rfl (by kernel_rfl) rfl]
  simp
  refine go_inv (fun n t H' => ∃ k : Nat, n = 4 - k ∧ k ≤ 4 ∧ t 1 = .int .i64 a ∧ t 2 = .int .i64 u ∧ t 3 = .pointer (some ⟨H.length, 0, some 0⟩) ∧ t 7 = .int .i64 k ∧ H' = H ++ [⟨[.int .i64 w, .int .i64 h], 0, 31⟩] ∧ ∀ q < k, next w h a (q : Nat) ≠ u) ?_ (n := 4) ⟨0, by simp⟩
  rintro n t H' ⟨k, rfl, hk, k1, k2, k3, k7, rfl, hq⟩ ih
  simp [k1, k2, k3, k7]
  refine br_dec _ ?_ ?_ <;> intro h4
  · simp [k1, k2, k3, k7, sNextNode_c]
    refine br_dec _ ?_ ?_ <;> intro h5
    · simp [k1, k2, k3, k7, h5]
      exact (firstPort_at (by omega) h5 hq).symm
    · simp [k1, k2, k3, k7, h5]
      refine ih (4 - (k + 1)) _ _ ⟨k + 1, rfl, by omega, by simp [k1], by simp [k2], by simp [k3], ?_, rfl, fun q hq' => ?_⟩ (by omega)
      · simp; rw [w64 (by omega) (by omega)]
      · by_cases hqk : q < k
        · exact hq q hqk
        · have : q = k := by omega
          rw [this]; exact h5
  · have : k = 4 := by omega
    subst this
    simp [k1, k2, k3, k7]
    unfold firstPort
    have q0 := hq 0 (by omega); have q1 := hq 1 (by omega); have q2 := hq 2 (by omega); have q3 := hq 3 (by omega)
    simp at q0 q1 q2 q3
    rw [if_neg q0, if_neg q1, if_neg q2, if_neg q3]
noncomputable def treePort (w h : Int) (P : List Int) (n i : Nat) : Int := if i / n = i % n then 4 else firstPort w h (i / n : Nat) ((treeNodes P (i / n : Nat) (i % n : Nat)).getD 1 0)
noncomputable def treeTab (w h : Int) (b : List Int) (r : Int) : List Int := (List.range ((cnt w h).toNat * (cnt w h).toNat)).map (treePort w h (parents w h b r) (cnt w h).toNat)
def treeOk (w h : Int) (b : List Int) (r : Int) : Prop := conn w h b ∧ isN w h r
noncomputable instance (w h : Int) (b : List Int) (r : Int) : Decidable (treeOk w h b r) := inferInstanceAs (Decidable (_ ∧ _))
noncomputable def treeTable (w h : Int) (b : List Int) (r : Int) : List Int := if treeOk w h b r then treeTab w h b r else []
theorem treeTab_len (w h : Int) (b : List Int) (r : Int) : (treeTab w h b r).length ≤ 256 := by
  have := cnt_range w h
  unfold treeTab
  rw [List.length_map, List.length_range]
  have : (cnt w h).toNat * (cnt w h).toNat ≤ 16 * 16 := Nat.mul_le_mul (by omega) (by omega)
  omega
theorem treeTable_len (w h : Int) (b : List Int) (r : Int) : (treeTable w h b r).length ≤ 256 := by
  unfold treeTable; split
  · exact treeTab_len w h b r
  · simp
/-- a data value and a flag -/
def Made2 {V A : Type} (T : Dt V A) (H : Heap) (a : A) (ok : Bool) (r : Value) (H' : Heap) : Prop := ∃ u, r = .tuple #[u, .bool ok] ∧ T.Made H a u H'
theorem treeTable_w (w h : Int) (v : Value) (b : List Int) (root : Int) (hI : IsI H v b) (hl : b.length ≤ 1073741824) :
   wp (vcall C frz 36 [.agg #[.int .i64 w, .int .i64 h, v], .int .i64 root] H) (Made2 dTable H (treeTable w h b root) (decide (treeOk w h b root))) := by
  rw [vcall_go (fn := Try.f36) Try.func36 rfl (by kernel_rfl) rfl]
  have one := And.intro hI.one' hI.cells
  have hc := cnt_range w h
  have no : ∀ (L : Heap), ¬ treeOk w h b root → Made2 dTable H (treeTable w h b root) (decide (treeOk w h b root)) (.tuple #[.agg #[.slice none 0 0], .bool false]) (H ++ L) := fun L hh => by
    refine ⟨.agg #[.slice none 0 0], by simp [hh], .slice none 0 0, rfl, ⟨.inl ⟨rfl, by simp [treeTable, hh]⟩, ?_⟩, Chg.app _, by simp [dTable], by simp [dTable]⟩
    simp [treeTable, hh]
  by_cases hcn : conn w h b
  · by_cases hr : isN w h root
    · have hok : treeOk w h b root := ⟨hcn, hr⟩
      simp [one, isConnected_c _ _ _ _ (hI.app _) hl, hcn, isNode_c, hr]
      refine wp_thn (treeParents_w w h v b root (hI.app _) hl) ?_
      rintro vp H1 ⟨L, hH1, op, np⟩
      have hpl := tree_len hcn hr
      have tn := fun {a c : Int} (ha : isN w h a) (hc : isN w h c) (hne : a ≠ c) => tn_first hcn hr ha hc hne
      have ett : treeTable w h b root = (List.range ((cnt w h).toNat * (cnt w h).toNat)).map (treePort w h (parents w h b root) (cnt w h).toNat) := if_pos hok
      have hcc : (cnt w h).toNat ≤ 16 := by omega
      have hlt2 : (cnt w h).toNat * (cnt w h).toNat ≤ 256 := Nat.mul_le_mul hcc hcc
      rw [ett]
      generalize parents w h b root = P at *
      have c1 : Chg H H1 [] := by rw [hH1]; exact (Chg.app []).trans (Chg.app [])
      have b2 : H1[H.length]? = some ⟨[.int .i64 w, .int .i64 h, v], 0, 33⟩ := by rw [hH1]; simp
      have b4 : H1[H.length + 1]? = some ⟨[.slice none 0 0], 0, 48⟩ := by rw [hH1]; simp
      rw [← hH1] at op
      simp at np
      have lp := op.lt
      have l1 : H.length + 2 ≤ H1.length := by rw [hH1]; simp
      clear hH1 L
      have lp1 := op.lt
      generalize hB6 : H1.length = B6 at *
      have hPl : P.length = (cnt w h).toNat := by omega
      simp [VM.look, b2, one, hB6, (op.app (L := [⟨[.slice none 0 0], 0, 48⟩])).rd.len]
      refine wp_need (by omega) ?_
      refine wp_inv (fun n t H' => ∃ (i : Nat) (vo : Value) (o : List Int), n = (cnt w h).toNat - i ∧ i ≤ (cnt w h).toNat ∧ o = (List.range (i * (cnt w h).toNat)).map (treePort w h P (cnt w h).toNat) ∧
      t 2 = .pointer (some ⟨H.length, 0, some 0⟩) ∧ t 4 = .pointer (some ⟨H.length + 1, 0, some 0⟩) ∧ t 6 = .pointer (some ⟨B6, 0, some 0⟩) ∧ t 7 = vp ∧ t 27 = .int .i64 P.length ∧ t 28 = .int .i64 i ∧
      Chg H H' [] ∧ H'[H.length]? = some ⟨[.int .i64 w, .int .i64 h, v], 0, 33⟩ ∧ H'[H.length + 1]? = some ⟨[.slice none 0 0], 0, 48⟩ ∧ H'[B6]? = some ⟨[vo], 0, 48⟩ ∧
      Ow Fl.int 3 H' vp P ∧ Ow Fl.int 3 H' vo o ∧ (∀ i ∈ ids vo, B6 < i)) ?_ (n := (cnt w h).toNat)
        ⟨0, .slice none 0 0, [], by simp, by omega, by simp, by simp, by simp, by simp, by simp, by simp, by simp, c1.trans (Chg.app []), get_app' b2 _, get_app' b4 _, by rw [← hB6]; simp, op.app, .inl ⟨rfl, rfl⟩, by simp⟩
      clear b2 b4 op
      rintro n t H' ⟨i, vo, o, rfl, hi, ho, h2, h4, h6, h7, h27, h28, c0, b2, b4, b6, op, oo, no⟩ ih
      simp [h2, h4, h6, h7, h27, h28]
      refine wp_dec ?_ ?_ <;> intro hin
      · have hin' : i < (cnt w h).toNat := by omega
        simp [h2, h4, h6, h7, h27, h28, op.rd.len]
        refine wp_inv (fun n t H' => ∃ (j : Nat) (vo : Value) (o : List Int), n = (cnt w h).toNat - j ∧ j ≤ (cnt w h).toNat ∧ o = (List.range (i * (cnt w h).toNat + j)).map (treePort w h P (cnt w h).toNat) ∧
          t 2 = .pointer (some ⟨H.length, 0, some 0⟩) ∧ t 4 = .pointer (some ⟨H.length + 1, 0, some 0⟩) ∧ t 6 = .pointer (some ⟨B6, 0, some 0⟩) ∧ t 7 = vp ∧ t 27 = .int .i64 P.length ∧ t 28 = .int .i64 i ∧
          t 8 = .int .i64 i ∧ t 32 = .int .i64 P.length ∧ t 33 = .int .i64 j ∧
          Chg H H' [] ∧ H'[H.length]? = some ⟨[.int .i64 w, .int .i64 h, v], 0, 33⟩ ∧ H'[H.length + 1]? = some ⟨[.slice none 0 0], 0, 48⟩ ∧ H'[B6]? = some ⟨[vo], 0, 48⟩ ∧
      Ow Fl.int 3 H' vp P ∧ Ow Fl.int 3 H' vo o ∧ (∀ i ∈ ids vo, B6 < i)) ?_ (n := (cnt w h).toNat) ⟨0, vo, o, by simp, by omega, by simpa using ho, by simp [h2], by simp [h4], by simp [h6], by simp [h7], by simp [h27], by simp [h28], by simp, by simp, by simp, c0, b2, b4, b6, op, oo, no⟩
        clear h2 h4 h6 h7 h27 h28 c0 b2 b4 b6 op oo no ho
        rintro n t H' ⟨j, vo, o, rfl, hj, ho, h2, h4, h6, h7, h27, h28, h8, h32, h33, c0, b2, b4, b6, op, oo, no⟩ ih2
        simp [h2, h4, h6, h7, h27, h28, h8, h32, h33]
        refine wp_dec ?_ ?_ <;> intro hjn
        · have hjn' : j < (cnt w h).toNat := by omega
          have hol : o.length = i * (cnt w h).toNat + j := by rw [ho]; simp
          have hsm : i * (cnt w h).toNat + j < (cnt w h).toNat * (cnt w h).toNat := by
            have := Nat.mul_le_mul_right (cnt w h).toNat (show i + 1 ≤ (cnt w h).toNat by omega)
            rw [Nat.succ_mul] at this; omega
          have hdv : (i * (cnt w h).toNat + j) / (cnt w h).toNat = i := by rw [Nat.mul_comm, Nat.mul_add_div (by omega), Nat.div_eq_of_lt hjn']; omega
          have hmd : (i * (cnt w h).toNat + j) % (cnt w h).toNat = j := by rw [Nat.mul_comm, Nat.mul_add_mod, Nat.mod_eq_of_lt hjn']
          simp [h2, h4, h6, h7, h27, h28, h8, h32, h33]
          refine wp_dec ?_ ?_ <;> intro hij
          · have hx : treePort w h P (cnt w h).toNat (i * (cnt w h).toNat + j) = 4 := by unfold treePort; rw [hdv, hmd, if_pos (by omega)]
            simp [VM.look, b6, h2, h4, h6, h7, h27, h28, h8, h32, h33]
            obtain ⟨vo', H3, e3, oo3, c3, n3⟩ := oo.push (P := Try.prog) (frz := H.length) (ty := 22) (a := 4) (by simp) rfl (by omega) (fun i hi => by have := no i hi; omega)
            simp only [Fl.int_f] at e3
            have lc := box_lt b6
            have b2 := box_chg b2 c3 (fun hh => by have := no _ hh; omega)
            have b4 := box_chg b4 c3 (fun hh => by have := no _ hh; omega)
            have b6 := box_chg b6 c3 (fun hh => by have := no _ hh; omega)
            have op := op.chg c3 (fun i hi hh => by have := lp i hi; have := no _ hh; omega)
            have no3 : ∀ i ∈ ids vo', B6 < i := fun i hi => by rcases n3 i hi with h | h; exact no i h; omega
            have one3 := And.intro oo3.rd.one' oo3.rd.cells
            simp [e3, VM.look, b6, one3, h2, h4, h6, h7, h27, h28, h8, h32, h33]
            refine wp_need (by omega) ?_
            refine ih2 ((cnt w h).toNat - (j + 1)) _ _ ⟨j + 1, vo', o ++ [4], rfl, by omega, ?_, by simp [h2], by simp [h4], by simp [h6], by simp [h7], by simp [h27], by simp [h28], by simp [h8], by simp [h32], ?_,
              (c0.trans' c3 (fun i hi => .inr (by have := no i hi; omega))).trans' (chg_set _ _) (fun i hi => .inr (by simp at hi; omega)), box_chg b2 (chg_set _ _) (by simp; omega), box_chg b4 (chg_set _ _) (by simp; omega), set_get b6,
              op.chg (chg_set _ _) (fun i hi hh => by have := lp i hi; simp at hh; omega), oo3.chg (chg_set _ _) (fun i hi hh => by have := no3 i hi; simp at hh; omega), no3⟩ (by omega)
            · rw [← Nat.add_assoc, List.range_succ, List.map_append, ← ho]; simp [hx]
            · simp; rw [w64 (by omega) (by omega)]
          · rw [go_draw (h := by kernel_rfl)]
            simp [h2, h4, h6, h7, h27, h28, h8, h32, h33, VM.look, b2]
            obtain ⟨p, hp, htl, htg, hn0⟩ := tn (isN_nat hin') (isN_nat hjn') (by omega : (i : Int) ≠ (j : Int))
            refine wp_thn (treeNodes_w vp P i j op.rd.isI (by omega)) ?_
            rintro vt H2 ⟨L2, hH2, ot, nt⟩
            have c2 : Chg H' H2 [] := by rw [hH2]; exact Chg.app []
            rw [← hH2] at ot
            clear hH2 L2
            have b2 := box_chg b2 c2 (by simp)
            have b4 := box_chg b4 c2 (by simp)
            have b6 := box_chg b6 c2 (by simp)
            have op := op.chg c2 (by simp)
            have oo := oo.chg c2 (by simp)
            have c0 := c0.trans c2
            have q1 := ot.rd.isI.idx (P := Try.prog) (ty := 22) (e := 3) (by simp) (i := 1) (by omega) (by omega)
            have q2 := ot.rd.isI.load (P := Try.prog) (e := 3) (by simp) htl
            have etn : (treeNodes P (i : Int) (j : Int)).getD 1 0 = next w h i p := by rw [List.getD_eq_getElem?_getD, htg]; rfl
            have hpt := fun F L => portTo_c (frz := F) (H := L) w h i _ p hp etn.symm
            have hx : treePort w h P (cnt w h).toNat (i * (cnt w h).toNat + j) = firstPort w h i ((treeNodes P i j).getD 1 0) := by unfold treePort; rw [hdv, hmd, if_neg (by omega)]
            have q1' : vindexAddr Try.prog H2 22 vt (.int .i64 1) = some (elp vt 1) := q1
            generalize (treeNodes P (i : Int) (j : Int)).getD 1 0 = u at *
            generalize firstPort w h (i : Int) u = y at *
            simp [q1', q2, hpt, h2, h4, h6, h7, h27, h28, h8, h32, h33]
            simp [VM.look, b6, h2, h4, h6, h7, h27, h28, h8, h32, h33]
            obtain ⟨vo', H3, e3, oo3, c3, n3⟩ := oo.push (P := Try.prog) (frz := H.length) (ty := 22) (a := y) (by simp) rfl (by omega) (fun i hi => by have := no i hi; omega)
            simp only [Fl.int_f] at e3
            have lc := box_lt b6
            have b2 := box_chg b2 c3 (fun hh => by have := no _ hh; omega)
            have b4 := box_chg b4 c3 (fun hh => by have := no _ hh; omega)
            have b6 := box_chg b6 c3 (fun hh => by have := no _ hh; omega)
            have op := op.chg c3 (fun i hi hh => by have := lp i hi; have := no _ hh; omega)
            have no3 : ∀ i ∈ ids vo', B6 < i := fun i hi => by rcases n3 i hi with h | h; exact no i h; omega
            have one3 := And.intro oo3.rd.one' oo3.rd.cells
            simp [e3, VM.look, b6, one3, h2, h4, h6, h7, h27, h28, h8, h32, h33]
            refine wp_need (by omega) ?_
            refine ih2 ((cnt w h).toNat - (j + 1)) _ _ ⟨j + 1, vo', o ++ [y], rfl, by omega, ?_, by simp [h2], by simp [h4], by simp [h6], by simp [h7], by simp [h27], by simp [h28], by simp [h8], by simp [h32], ?_,
              (c0.trans' c3 (fun i hi => .inr (by have := no i hi; omega))).trans' (chg_set _ _) (fun i hi => .inr (by simp at hi; omega)), box_chg b2 (chg_set _ _) (by simp; omega), box_chg b4 (chg_set _ _) (by simp; omega), set_get b6,
              op.chg (chg_set _ _) (fun i hi hh => by have := lp i hi; simp at hh; omega), oo3.chg (chg_set _ _) (fun i hi hh => by have := no3 i hi; simp at hh; omega), no3⟩ (by omega)
            · rw [← Nat.add_assoc, List.range_succ, List.map_append, ← ho]; simp [hx]
            · simp; rw [w64 (by omega) (by omega)]
        · have hjn2 : j = (cnt w h).toNat := by omega
          have hjn' : ¬ j < P.length := by omega
          simp [h2, h4, h6, h7, h27, h28, h8, h32, h33]
          refine ih ((cnt w h).toNat - (i + 1)) _ _ ⟨i + 1, vo, o, rfl, by omega, by rw [ho, hjn2, Nat.succ_mul], by simp [h2], by simp [h4], by simp [h6], by simp [h7], by simp [h27], ?_, c0, b2, b4, b6, op, oo, no⟩ (by omega)
          simp; rw [w64 (by omega) (by omega)]
      · have hi2 : i = (cnt w h).toNat := by omega
        have l4 := box_lt b4
        rw [hi2] at ho
        rw [ho] at oo
        have l5 : ∀ i ∈ ids vo, i ∉ [H.length + 1] := fun i hi hh => by have := no i hi; simp at hh; omega
        have g4 := set_get (r' := ⟨[vo], 0, 48⟩) b4
        simp [h2, h4, h6, h7, h27, h28, VM.look, b4, b6, oo.rd.one', oo.rd.cells, g4]
        refine ⟨.agg #[vo], by simp [hok], vo, rfl, ⟨oo.chg (chg_set _ _) l5, by simp; omega⟩, c0.trans' (chg_set _ _) (fun i hi => .inr (by simp at hi; omega)), fun i hi => by have := no i hi; omega, ids_nodup vo⟩
    · simp [one, isConnected_c _ _ _ _ (hI.app _) hl, hcn, isNode_c, hr]
      exact no _ (fun hh => hr hh.2)
  · simp [one, isConnected_c _ _ _ _ (hI.app _) hl, hcn]
    exact no _ (fun hh => hcn hh.1)
end Go.Proofs.Ytnakhkfgheapoaa.V
/-! Tables of trees, of the reference. -/
set_option linter.all false
namespace Go.Proofs.Ytnakhkfgheapoaa.V
open Go Go.VM Go.Proofs
set_option maxRecDepth 10000
variable {frz : Nat} {H : Heap}
theorem tdiv_nat {i n : Nat} (hn : 0 < n) (hi : i < 1000) : IntKind.i64.wrap ((i : Int).tdiv n) = ((i / n : Nat) : Int) := by
  rw [Int.tdiv_eq_ediv_of_nonneg (by omega)]
  have : i / n ≤ i := Nat.div_le_self _ _
  rw [← Int.natCast_ediv]
  generalize i / n = q at *
  exact w64 (by omega) (by omega)
theorem tmod_nat {i n : Nat} : (i : Int).tmod n = ((i % n : Nat) : Int) := by
  rw [Int.tmod_eq_emod_of_nonneg (by omega)]; rfl
theorem l33Table_w (w h : Int) (v : Value) (b : List Int) (root : Int) (hI : IsI H v b) (hl : b.length ≤ 1073741824) (hok : treeOk w h b root) :
   wp (vcall C frz 90 [.agg #[.int .i64 w, .int .i64 h, v], .int .i64 root] H) (dTable.Made H (treeTable w h b root)) := by
  rw [vcall_go (fn := Try.f90) Try.func90 rfl (by kernel_rfl) rfl]
  have one := And.intro hI.one' hI.cells
  have hc := cnt_range w h
  obtain ⟨hcn, hr⟩ := hok
  have hok : treeOk w h b root := ⟨hcn, hr⟩
  simp [one]
  refine wp_thn (sTreeParents_w w h v b root (hI.app _) hl) ?_
  rintro vp H1 ⟨L, hH1, op, np⟩
  have hpl := tree_len hcn hr
  have tn := fun {a c : Int} (ha : isN w h a) (hc : isN w h c) (hne : a ≠ c) => tn_first hcn hr ha hc hne
  have ett : treeTable w h b root = (List.range ((cnt w h).toNat * (cnt w h).toNat)).map (treePort w h (parents w h b root) (cnt w h).toNat) := if_pos hok
  obtain ⟨N, hN⟩ : ∃ N : Nat, cnt w h = N := ⟨(cnt w h).toNat, by omega⟩
  have hNt : (cnt w h).toNat = N := by omega
  rw [hNt] at ett
  have nc := fun F L => (sNodeCount_c (frz := F) (H := L) w h).trans (by rw [hN])
  have isNN := fun {q : Nat} (hq : q < N) => isN_nat (w := w) (h := h) (a := q) (by omega)
  have hcc : N ≤ 16 := by omega
  have hlt2 : N * N ≤ 256 := Nat.mul_le_mul hcc hcc
  rw [ett]
  generalize parents w h b root = P at *
  have c1 : Chg H H1 [] := by rw [hH1]; exact (Chg.app []).trans (Chg.app [])
  have b2 : H1[H.length]? = some ⟨[.int .i64 w, .int .i64 h, v], 0, 33⟩ := by rw [hH1]; simp
  have b4 : H1[H.length + 1]? = some ⟨[.slice none 0 0], 0, 48⟩ := by rw [hH1]; simp
  have b5 : H1[H.length + 2]? = some ⟨[.slice none 0 0], 0, 48⟩ := by rw [hH1]; simp
  rw [← hH1] at op
  simp at np
  have lp1 := op.lt
  have l1 : H.length + 3 ≤ H1.length := by rw [hH1]; simp
  clear hH1 L
  generalize hB6 : H1.length = B6 at *
  have hPl : P.length = N := by omega
  have hn0 : 0 < N := by have := hr.1; have := hr.2; omega
  have esq : IntKind.i64.wrap ((N : Int) * N) = ((N * N : Nat) : Int) := by
    rw [← Int.natCast_mul, w64 (by omega) (by omega)]
  simp [VM.look, b2, one, nc]
  refine wp_inv (fun n t H' => ∃ (i : Nat) (vo : Value) (o : List Int), n = N * N - i ∧ i ≤ N * N ∧ o = (List.range i).map (treePort w h P N) ∧
      t 2 = .pointer (some ⟨H.length, 0, some 0⟩) ∧ t 4 = .pointer (some ⟨H.length + 1, 0, some 0⟩) ∧ t 5 = .pointer (some ⟨H.length + 2, 0, some 0⟩) ∧ t 6 = vp ∧ t 7 = .int .i64 N ∧ t 8 = .int .i64 i ∧
      Chg H H' [] ∧ B6 ≤ H'.length ∧ H'[H.length]? = some ⟨[.int .i64 w, .int .i64 h, v], 0, 33⟩ ∧ H'[H.length + 1]? = some ⟨[.slice none 0 0], 0, 48⟩ ∧ H'[H.length + 2]? = some ⟨[vo], 0, 48⟩ ∧
      Ow Fl.int 3 H' vp P ∧ Ow Fl.int 3 H' vo o ∧ (∀ i ∈ ids vo, B6 ≤ i)) ?_ (n := N * N)
    ⟨0, .slice none 0 0, [], by simp, by omega, by simp, by simp, by simp, by simp, by simp, by simp, by simp, c1, by omega, b2, b4, b5, op, .inl ⟨rfl, rfl⟩, by simp⟩
  clear b2 b4 b5 op
  rintro n t H' ⟨i, vo, o, rfl, hi, ho, h2, h4, h5, h6, h7, h8, c0, lB, b2, b4, b5, op, oo, no⟩ ih
  simp [h2, h4, h5, h6, h7, h8, esq]
  refine wp_dec ?_ ?_ <;> intro hin
  · have hin' : i < N * N := by
      have : (i : Int) < ((N * N : Nat) : Int) := by simpa using hin
      omega
    have hol : o.length = i := by rw [ho]; simp
    have hdv := tdiv_nat (i := i) hn0 (by omega)
    have hmd := tmod_nat (i := i) (n := N)
    have hd1 : i / N < N := Nat.div_lt_of_lt_mul hin'
    have hm1 : i % N < N := Nat.mod_lt _ hn0
    have hne0 : ¬ N = 0 := by omega
    have hdv2 : IntKind.i64.wrap ((i : Int) / (N : Int)) = ((i / N : Nat) : Int) := by
      rw [← Int.natCast_ediv]
      have : i / N ≤ i := Nat.div_le_self _ _
      generalize i / N = q at *
      exact w64 (by omega) (by omega)
    have hmd2 : (i : Int) % (N : Int) = ((i % N : Nat) : Int) := rfl
    generalize hqa : i / N = qa at *
    generalize hqc : i % N = qc at *
    simp [h2, h4, h5, h6, h7, h8]
    rw [go_draw (h := by kernel_rfl)]
    simp [h2, h4, h5, h6, h7, h8, hdv, hmd, hdv2, hmd2, hne0]
    refine wp_dec ?_ ?_ <;> intro hij
    · have hx : treePort w h P N i = 4 := by unfold treePort; rw [hqa, hqc, if_pos (by omega)]
      simp [VM.look, b5, h2, h4, h5, h6, h7, h8]
      obtain ⟨vo', H3, e3, oo3, c3, n3⟩ := oo.push (P := Try.prog) (frz := H.length) (ty := 22) (a := 4) (by simp) rfl (by omega) (fun i hi => by have := no i hi; omega)
      simp only [Fl.int_f] at e3
      have lc := c0.1
      have lc2 := box_lt b5
      have b2 := box_chg b2 c3 (fun hh => by have := no _ hh; omega)
      have b4 := box_chg b4 c3 (fun hh => by have := no _ hh; omega)
      have b5 := box_chg b5 c3 (fun hh => by have := no _ hh; omega)
      have op := op.chg c3 (fun i hi hh => by have := lp1 i hi; have := no _ hh; omega)
      have no3 : ∀ i ∈ ids vo', B6 ≤ i := fun i hi => by rcases n3 i hi with h | h; exact no i h; omega
      have one3 := And.intro oo3.rd.one' oo3.rd.cells
      simp [e3, VM.look, b5, one3, h2, h4, h5, h6, h7, h8]
      refine ih (N * N - (i + 1)) _ _ ⟨i + 1, vo', o ++ [4], rfl, by omega, ?_, by simp [h2], by simp [h4], by simp [h5], by simp [h6], by simp [h7], ?_,
        (c0.trans' c3 (fun i hi => .inr (by have := no i hi; omega))).trans' (chg_set _ _) (fun i hi => .inr (by simp at hi; omega)), by have := c3.1; simp; omega, box_chg b2 (chg_set _ _) (by simp), box_chg b4 (chg_set _ _) (by simp), set_get b5,
        op.chg (chg_set _ _) (fun i hi hh => by have := np i hi; simp at hh; omega), oo3.chg (chg_set _ _) (fun i hi hh => by have := no3 i hi; simp at hh; omega), no3⟩ (by omega)
      · rw [List.range_succ, List.map_append, ← ho]; simp [hx]
      · simp; rw [w64 (by omega) (by omega)]
    · have hij' : ¬ (qa = qc) := by omega
      rw [go_draw (h := by kernel_rfl)]
      obtain ⟨p, hp, htl, htg, hn0'⟩ := tn (isNN hd1) (isNN hm1) (by omega : (qa : Int) ≠ (qc : Int))
      simp [h2, h4, h5, h6, h7, h8, hdv, hmd, hdv2, hmd2, hne0, VM.look, b2]
      refine wp_thn (sTreeNodes_w vp P qa qc op.rd.isI (by omega)) ?_
      rintro vt H2 ⟨L2, hH2, ot, nt⟩
      have c2 : Chg H' H2 [] := by rw [hH2]; exact Chg.app []
      rw [← hH2] at ot
      clear hH2 L2
      have b2 := box_chg b2 c2 (by simp)
      have b4 := box_chg b4 c2 (by simp)
      have b5 := box_chg b5 c2 (by simp)
      have op := op.chg c2 (by simp)
      have oo := oo.chg c2 (by simp)
      have c0 := c0.trans c2
      have lB : B6 ≤ H2.length := by have := c2.1; omega
      have q1 : vindexAddr Try.prog H2 22 vt (.int .i64 1) = some (elp vt 1) := ot.rd.isI.idx (P := Try.prog) (ty := 22) (e := 3) (by simp) (i := 1) (by omega) (by omega)
      have q2 := ot.rd.isI.load (P := Try.prog) (e := 3) (by simp) htl
      have hx : treePort w h P N i = firstPort w h qa ((treeNodes P qa qc).getD 1 0) := by unfold treePort; rw [hqa, hqc, if_neg hij']
      have hpt := fun F L u => l33Port_c (frz := F) (H := L) w h qa u
      generalize (treeNodes P qa qc).getD 1 0 = u at *
      have hpt := fun F L => hpt F L u
      generalize firstPort w h qa u = y at *
      simp [q1, q2, hpt, h2, h4, h5, h6, h7, h8]
      simp [VM.look, b5, h2, h4, h5, h6, h7, h8]
      obtain ⟨vo', H3, e3, oo3, c3, n3⟩ := oo.push (P := Try.prog) (frz := H.length) (ty := 22) (a := y) (by simp) rfl (by omega) (fun i hi => by have := no i hi; omega)
      simp only [Fl.int_f] at e3
      have lc := c0.1
      have lc2 := box_lt b5
      have b2 := box_chg b2 c3 (fun hh => by have := no _ hh; omega)
      have b4 := box_chg b4 c3 (fun hh => by have := no _ hh; omega)
      have b5 := box_chg b5 c3 (fun hh => by have := no _ hh; omega)
      have op := op.chg c3 (fun i hi hh => by have := lp1 i hi; have := no _ hh; omega)
      have no3 : ∀ i ∈ ids vo', B6 ≤ i := fun i hi => by rcases n3 i hi with h | h; exact no i h; omega
      have one3 := And.intro oo3.rd.one' oo3.rd.cells
      simp [e3, VM.look, b5, one3, h2, h4, h5, h6, h7, h8]
      refine ih (N * N - (i + 1)) _ _ ⟨i + 1, vo', o ++ [y], rfl, by omega, ?_, by simp [h2], by simp [h4], by simp [h5], by simp [h6], by simp [h7], ?_,
        (c0.trans' c3 (fun i hi => .inr (by have := no i hi; omega))).trans' (chg_set _ _) (fun i hi => .inr (by simp at hi; omega)), by have := c3.1; simp; omega, box_chg b2 (chg_set _ _) (by simp), box_chg b4 (chg_set _ _) (by simp), set_get b5,
        op.chg (chg_set _ _) (fun i hi hh => by have := np i hi; simp at hh; omega), oo3.chg (chg_set _ _) (fun i hi hh => by have := no3 i hi; simp at hh; omega), no3⟩ (by omega)
      · rw [List.range_succ, List.map_append, ← ho]; simp [hx]
      · simp; rw [w64 (by omega) (by omega)]
  · have hi2 : i = N * N := by
      have : ¬ (i : Int) < ((N * N : Nat) : Int) := by simpa using hin
      omega
    have l4 := box_lt b4
    rw [hi2] at ho
    rw [ho] at oo
    have l5 : ∀ i ∈ ids vo, i ∉ [H.length + 1] := fun i hi hh => by have := no i hi; simp at hh; omega
    have g4 := set_get (r' := ⟨[vo], 0, 48⟩) b4
    simp [h2, h4, h5, h6, h7, h8, VM.look, b4, b5, oo.rd.one', oo.rd.cells, g4]
    exact ⟨vo, rfl, ⟨oo.chg (chg_set _ _) l5, by simp; omega⟩, c0.trans' (chg_set _ _) (fun i hi => .inr (by simp at hi; omega)), fun i hi => by have := no i hi; omega, ids_nodup vo⟩
end Go.Proofs.Ytnakhkfgheapoaa.V
/-! Two tables. -/
set_option linter.all false
namespace Go.Proofs.Ytnakhkfgheapoaa.V
open Go Go.VM Go.Proofs
set_option maxRecDepth 10000
variable {frz : Nat} {H : Heap}
abbrev ClassesD := List Int × List Int
def dClasses : Dt (Value × Value) ClassesD where
  val v _ := .agg #[v.1, v.2]
  Ow H v a := dIntS.Ow H v.1 a.1 ∧ dIntS.Ow H v.2 a.2
  ids v := VM.ids v.1 ++ VM.ids v.2
  frame h k := ⟨dIntS.frame h.1 fun i hi => k i (List.mem_append.2 (.inl hi)), dIntS.frame h.2 fun i hi => k i (List.mem_append.2 (.inr hi))⟩
  lt h i hi := by
    rcases List.mem_append.1 hi with hi | hi
    · exact dIntS.lt h.1 i hi
    · exact dIntS.lt h.2 i hi
theorem dClasses_val (v : Value × Value) (a : ClassesD) : dClasses.val v a = .agg #[v.1, v.2] := rfl
theorem dClasses_one {v : Value × Value} {a : ClassesD} (h : dClasses.Ow H v a) : (VM.one v.1 = true ∧ v.1.cells = #[v.1]) ∧ VM.one v.2 = true ∧ v.2.cells = #[v.2] := ⟨⟨h.1.1.rd.one', h.1.1.rd.cells⟩, h.2.1.rd.one', h.2.1.rd.cells⟩
theorem eqClasses_d {a b : Value × Value} {x y : ClassesD} (ha : dClasses.Ow H a x) (hb : dClasses.Ow H b y) : vcall C frz 44 [dClasses.val a x, dClasses.val b y] H = some (.bool (decide (x = y)), H) := by
  obtain ⟨x1, x2⟩ := x; obtain ⟨y1, y2⟩ := y; obtain ⟨a1, a2⟩ := a; obtain ⟨b1, b2⟩ := b
  rw [dClasses_val, dClasses_val]
  rw [vcall_go (fn := Try.f44) Try.func44 rfl (by kernel_rfl) rfl]
  have one := And.intro (dClasses_one ha) (dClasses_one hb)
  have e1 := fun F L => eqTable_d (frz := F) (H := H ++ L) (a := a1) (b := b1) (x := x1) (y := y1) (Dt.app (T := dIntS) ha.1) (Dt.app (T := dIntS) hb.1)
  have e2 := fun F L => eqTable_d (frz := F) (H := H ++ L) (a := a2) (b := b2) (x := x2) (y := y2) (Dt.app (T := dIntS) ha.2) (Dt.app (T := dIntS) hb.2)
  simp only [dTable_val] at e1 e2
  simp at one
  simp [one, e1]
  refine br_dec _ ?_ ?_ <;> intro h0 <;> simp [h0, one, e2]
  refine br_dec _ ?_ ?_ <;> intro h0 <;> simp [h0]
theorem markClasses_d {v : Value × Value} {a : ClassesD} {k : Int} (h : dClasses.Ow H v a) (hd : (dClasses.ids v).Nodup) (hk : 0 ≤ k ∧ k ≤ 2305843009213693952) (hf : ∀ i ∈ dClasses.ids v, frz ≤ i) :
    wp (vcall C frz 45 [dClasses.val v a, .int .i64 k] H) (Marks 2147483648 dClasses 46 H v a k) := by
  obtain ⟨a1, a2⟩ := a; obtain ⟨v1, v2⟩ := v
  rw [vcall_go (fn := Try.f45) Try.func45 rfl (by kernel_rfl) rfl]
  rw [dClasses_val]
  have one := dClasses_one h
  simp only at one
  obtain ⟨h1, h2⟩ := h
  simp only at h1 h2
  obtain ⟨d1, d2, d3⟩ := List.nodup_append.1 hd
  have dis : ∀ i ∈ VM.ids v2, i ∉ VM.ids v1 := fun i hi hh => d3 i hh i hi rfl
  have dis' : ∀ i ∈ VM.ids v1, i ∉ VM.ids v2 := fun i hi hh => d3 i hi i hh rfl
  have lt1 := dIntS.lt h1
  have lt2 := dIntS.lt h2
  simp [one]
  have m1 := markTable_d (frz := frz) (k := k) (H := H ++ [⟨[v1, v2], 0, 57⟩]) (v := v1) (a := a1) (Dt.app (T := dIntS) h1) d1 (by omega) (fun i hi => hf i (List.mem_append.2 (.inl hi)))
  simp only [dTable_val] at m1
  refine wp_thn m1 ?_
  rintro _ H1 ⟨n1, b1, rfl, hn1, _, o1, c1, he1⟩
  have bx : H1[H.length]? = some ⟨[v1, v2], 0, 57⟩ := box_chg (by simp) c1 (fun hh => by have := lt1 _ hh; omega)
  have o2 := Dt.chg (T := dIntS) (Dt.app (T := dIntS) h2) c1 dis
  simp [VM.look, bx, one]
  have m2 := markTable_d (frz := frz) (k := k + n1) (H := H1) (v := v2) (a := a2) o2 d2 (by omega) (fun i hi => hf i (List.mem_append.2 (.inr hi)))
  simp only [dTable_val] at m2
  refine wp_thn m2 ?_
  rintro _ H2 ⟨n2, b2, rfl, hn2, _, o2', c2, he2⟩
  simp
  refine ⟨n1 + n2, (b1, b2), by rw [Int.add_assoc], by omega, rfl, ⟨Dt.chg (T := dIntS) o1 c2 dis', o2'⟩, ?_, fun F H3 h3 => ?_⟩
  · refine ((Chg.app (dClasses.ids (v1, v2))).trans' (c1.mono fun i hi => List.mem_append.2 (.inl hi)) (fun i hi => .inl hi)).trans' (c2.mono fun i hi => List.mem_append.2 (.inr hi)) (fun i hi => .inl hi)
  · rw [vcall_go (fn := Try.f46) Try.func46 rfl (by kernel_rfl) rfl]
    rw [dClasses_val]
    have g1 := fun F => he1 F (H3 ++ [⟨[v1, v2], 0, 57⟩]) (Dt.app (T := dIntS) h3.1)
    have g2 := fun F => he2 F (H3 ++ [⟨[v1, v2], 0, 57⟩]) (Dt.app (T := dIntS) h3.2)
    simp only [dTable_val] at g1 g2
    have e0 : ¬ k + n1 < 0 := by omega
    have e1 : ¬ k + n1 + n2 < 0 := by omega
    simp [one, g1, e0, g2, e1, Int.add_assoc]
    simp [← Int.add_assoc, e1]
end Go.Proofs.Ytnakhkfgheapoaa.V
/-! RepairClasses. -/
set_option linter.all false
namespace Go.Proofs.Ytnakhkfgheapoaa.V
open Go Go.VM Go.Proofs
set_option maxRecDepth 10000
variable {frz : Nat} {H : Heap}
theorem sTreeTable_w (w h : Int) (v : Value) (b : List Int) (root : Int) (hI : IsI H v b) (hl : b.length ≤ 1073741824) :
   wp (vcall C frz 34 [.agg #[.int .i64 w, .int .i64 h, v], .int .i64 root] H) (Made2 dTable H (treeTable w h b root) (decide (treeOk w h b root))) := by
  rw [vcall_go (fn := Try.f34) Try.func34 rfl (by kernel_rfl) rfl]
  have one := And.intro hI.one' hI.cells
  have hc := cnt_range w h
  have no : ∀ (L : Heap), ¬ treeOk w h b root → Made2 dTable H (treeTable w h b root) (decide (treeOk w h b root)) (.tuple #[.agg #[.slice none 0 0], .bool false]) (H ++ L) := fun L hh => by
    refine ⟨.agg #[.slice none 0 0], by simp [hh], .slice none 0 0, rfl, ⟨.inl ⟨rfl, by simp [treeTable, hh]⟩, ?_⟩, Chg.app _, by simp [dTable], by simp [dTable]⟩
    simp [treeTable, hh]
  by_cases hcn : conn w h b
  · by_cases hr : isN w h root
    · have hok : treeOk w h b root := ⟨hcn, hr⟩
      simp [one, sIsConnected_c _ _ _ _ (hI.app _) hl, hcn, l02Has_c, hr]
      refine wp_thn (l33Table_w w h v b root (hI.app _) hl hok) ?_
      rintro _ H1 ⟨vt, rfl, ot, c1, nt, dt⟩
      have b4 : H1[H.length + 1]? = some ⟨[.slice none 0 0], 0, 48⟩ := box_chg (by simp) c1 (by simp)
      have l4 := box_lt b4
      simp at nt
      have g4 := set_get (r' := ⟨[vt], 0, 48⟩) b4
      simp [dTable_val, dTable_one ot, VM.look, b4, g4]
      refine ⟨.agg #[vt], by simp [hok], vt, rfl, Dt.chg (T := dTable) ot (chg_set _ _) (fun i hi hh => by have := nt i hi; simp at hh; omega), ((Chg.app []).trans c1).trans' (chg_set _ _) (fun i hi => .inr (by simp at hi; omega)), fun i hi => by have := nt i hi; omega, dt⟩
    · simp [one, sIsConnected_c _ _ _ _ (hI.app _) hl, hcn, l02Has_c, hr]
      exact no _ (fun hh => hr hh.2)
  · simp [one, sIsConnected_c _ _ _ _ (hI.app _) hl, hcn]
    exact no _ (fun hh => hcn hh.1)
theorem copyTable_w (v : Value) (xs : List Int) (hI : IsI H v xs) (hl : xs.length ≤ 1073741824) : wp (vcall C frz 96 [.agg #[v]] H) (dTable.Made H xs) := by
  rw [vcall_go (fn := Try.f96) Try.func96 rfl (by kernel_rfl) rfl]
  have one := And.intro hI.one' hI.cells
  simp [one, (hI.app _).src]
  by_cases h0 : xs = []
  · subst h0
    simp
    exact ⟨_, rfl, ⟨Ow.new (D := Fl.int) (e := 3) (xs := []) (k := 2) (by simp) rfl rfl rfl, by simp⟩, Chg.app _, by simp [dTable], ids_nodup (.slice (some ⟨H.length + 2, 0, some 0⟩) 0 0)⟩
  · simp [h0, hl]
    exact ⟨_, rfl, ⟨Ow.new (D := Fl.int) (e := 3) (xs := xs) (k := 2) (by simp) (cellsOf_int _).symm (by simp) rfl, hl⟩, Chg.app _, by simp [dTable], ids_nodup (.slice (some ⟨H.length + 2, 0, some 1⟩) xs.length 0)⟩
theorem l12Copy_w (v : Value) (xs : List Int) (hI : IsI H v xs) (hl : xs.length ≤ 1073741824) : wp (vcall C frz 95 [.agg #[v]] H) (dTable.Made H xs) := by
  rw [vcall_go (fn := Try.f95) Try.func95 rfl (by kernel_rfl) rfl]
  have one := And.intro hI.one' hI.cells
  simp [one, (hI.app _).src]
  by_cases h0 : xs = []
  · subst h0
    simp
    exact ⟨_, rfl, ⟨Ow.new (D := Fl.int) (e := 3) (xs := []) (k := 2) (by simp) rfl rfl rfl, by simp⟩, Chg.app _, by simp [dTable], ids_nodup (.slice (some ⟨H.length + 2, 0, some 0⟩) 0 0)⟩
  · simp [h0, hl]
    exact ⟨_, rfl, ⟨Ow.new (D := Fl.int) (e := 3) (xs := xs) (k := 2) (by simp) (cellsOf_int _).symm (by simp) rfl, hl⟩, Chg.app _, by simp [dTable], ids_nodup (.slice (some ⟨H.length + 2, 0, some 1⟩) xs.length 0)⟩
noncomputable def repair (w h : Int) (b : List Int) : ClassesD := (treeTable w h b (bestRoot w h b), treeTable w h b (bestRoot w h b))
noncomputable def repairOk (w h : Int) (b : List Int) : Bool := decide (treeOk w h b (bestRoot w h b))
theorem repair_w (w h : Int) (v : Value) (b : List Int) (hI : IsI H v b) (hl : b.length ≤ 1073741824) :
   wp (vcall C frz 43 [.agg #[.int .i64 w, .int .i64 h, v]] H) (Made2 dClasses H (repair w h b) (repairOk w h b)) := by
  rw [vcall_go (fn := Try.f43) Try.func43 rfl (by kernel_rfl) rfl]
  have one := And.intro hI.one' hI.cells
  simp [one]
  rw [go_draw (h := by kernel_rfl)]
  simp [one, bestRoot_c _ _ _ _ (hI.app _) hl]
  refine wp_thn (treeTable_w w h v b (bestRoot w h b) (hI.app _) hl) ?_
  rintro _ H1 ⟨_, rfl, vt, rfl, ot, c1, nt, dt⟩
  have b1 : H1[H.length + 1]? = some ⟨[.slice none 0 0, .slice none 0 0], 0, 57⟩ := box_chg (by simp) c1 (by simp)
  have l1 := box_lt b1
  simp at nt
  have cH : Chg H H1 [] := (Chg.app []).trans c1
  have hle := treeTable_len w h b (bestRoot w h b)
  have hne : ¬ treeOk w h b (bestRoot w h b) → treeTable w h b (bestRoot w h b) = [] := fun hh => if_neg hh
  unfold repair repairOk
  generalize treeTable w h b (bestRoot w h b) = tt at *
  have one1 := dTable_one ot
  simp [dTable_val, one1, VM.look, b1]
  by_cases hok : treeOk w h b (bestRoot w h b)
  · have l0 := cH.1
    simp [hok, l0]
    rw [go_draw (h := by kernel_rfl)]
    simp [one1, l0]
    refine wp_thn (copyTable_w vt tt (ot.1.rd.isI.app _) (by omega)) ?_
    rintro _ H2 ⟨vu, rfl, ou, c2, nu, du⟩
    have b2 : H2[H.length + 1]? = some ⟨[.slice none 0 0, .slice none 0 0], 0, 57⟩ := box_chg (get_app' b1 _) c2 (by simp)
    have ot2 := Dt.chg0 (T := dIntS) (Dt.app (T := dIntS) ot) c2
    have lt1 := dIntS.lt ot
    simp at nu
    have one2 := dTable_one ou
    have g4 := set_get (r' := ⟨[vt, vu], 0, 57⟩) b2
    simp [dTable_val, one1, one2, VM.look, b2, g4]
    have h1 : ∀ i ∈ VM.ids vt, i ∉ [H.length + 1] := fun i hi hh => by have := nt i hi; simp at hh; omega
    have h2 : ∀ i ∈ VM.ids vu, i ∉ [H.length + 1] := fun i hi hh => by have := nu i hi; simp at hh; omega
    refine ⟨.agg #[vt, vu], by simp [hok], (vt, vu), rfl, ⟨Dt.chg (T := dIntS) ot2 (chg_set _ _) h1, Dt.chg (T := dIntS) ou (chg_set _ _) h2⟩, ((cH.trans (Chg.app [])).trans c2).trans' (chg_set _ _) (fun i hi => .inr (by simp at hi; omega)), fun i hi => ?_, List.nodup_append.2 ⟨ids_nodup vt, ids_nodup vu, fun i hi j hj hh => ?_⟩⟩
    · rcases List.mem_append.1 hi with hi | hi
      · have := nt i hi; omega
      · have := nu i hi; omega
    · have := lt1 i hi; have := nu j hj; omega
  · obtain rfl := hne hok
    have l0 := cH.1
    have g4 := set_get (r' := ⟨[.slice none 0 0, .slice none 0 0], 0, 57⟩) (get_app' b1 [⟨[vt], 0, 48⟩])
    have b1' := get_app' b1 [⟨[vt], 0, 48⟩]
    simp [hok, l0, VM.look, b1, b1', g4]
    refine ⟨.agg #[.slice none 0 0, .slice none 0 0], by simp [hok], (.slice none 0 0, .slice none 0 0), rfl, ⟨⟨.inl ⟨rfl, rfl⟩, by simp⟩, .inl ⟨rfl, rfl⟩, by simp⟩, (cH.trans (Chg.app [])).trans' (chg_set _ _) (fun i hi => .inr (by simp at hi; omega)), by simp [dClasses], by simp [dClasses]⟩
theorem sRepair_w (w h : Int) (v : Value) (b : List Int) (hI : IsI H v b) (hl : b.length ≤ 1073741824) :
   wp (vcall C frz 42 [.agg #[.int .i64 w, .int .i64 h, v]] H) (Made2 dClasses H (repair w h b) (repairOk w h b)) := by
  rw [vcall_go (fn := Try.f42) Try.func42 rfl (by kernel_rfl) rfl]
  have one := And.intro hI.one' hI.cells
  simp [one]
  rw [go_draw (h := by kernel_rfl)]
  simp [one, sBestRoot_c _ _ _ _ (hI.app _) hl]
  refine wp_thn (sTreeTable_w w h v b (bestRoot w h b) (hI.app _) hl) ?_
  rintro _ H1 ⟨_, rfl, vt, rfl, ot, c1, nt, dt⟩
  have b1 : H1[H.length + 1]? = some ⟨[.slice none 0 0, .slice none 0 0], 0, 57⟩ := box_chg (by simp) c1 (by simp)
  have l1 := box_lt b1
  simp at nt
  have cH : Chg H H1 [] := (Chg.app []).trans c1
  have hle := treeTable_len w h b (bestRoot w h b)
  have hne : ¬ treeOk w h b (bestRoot w h b) → treeTable w h b (bestRoot w h b) = [] := fun hh => if_neg hh
  unfold repair repairOk
  generalize treeTable w h b (bestRoot w h b) = tt at *
  have one1 := dTable_one ot
  simp [dTable_val, one1, VM.look, b1]
  by_cases hok : treeOk w h b (bestRoot w h b)
  · have l0 := cH.1
    simp [hok, l0]
    rw [go_draw (h := by kernel_rfl)]
    simp [one1, l0]
    refine wp_thn (l12Copy_w vt tt (ot.1.rd.isI.app _) (by omega)) ?_
    rintro _ H2 ⟨vu, rfl, ou, c2, nu, du⟩
    have b2 : H2[H.length + 1]? = some ⟨[.slice none 0 0, .slice none 0 0], 0, 57⟩ := box_chg (get_app' b1 _) c2 (by simp)
    have ot2 := Dt.chg0 (T := dIntS) (Dt.app (T := dIntS) ot) c2
    have lt1 := dIntS.lt ot
    simp at nu
    have one2 := dTable_one ou
    have g4 := set_get (r' := ⟨[vt, vu], 0, 57⟩) b2
    simp [dTable_val, one1, one2, VM.look, b2, g4]
    have h1 : ∀ i ∈ VM.ids vt, i ∉ [H.length + 1] := fun i hi hh => by have := nt i hi; simp at hh; omega
    have h2 : ∀ i ∈ VM.ids vu, i ∉ [H.length + 1] := fun i hi hh => by have := nu i hi; simp at hh; omega
    refine ⟨.agg #[vt, vu], by simp [hok], (vt, vu), rfl, ⟨Dt.chg (T := dIntS) ot2 (chg_set _ _) h1, Dt.chg (T := dIntS) ou (chg_set _ _) h2⟩, ((cH.trans (Chg.app [])).trans c2).trans' (chg_set _ _) (fun i hi => .inr (by simp at hi; omega)), fun i hi => ?_, List.nodup_append.2 ⟨ids_nodup vt, ids_nodup vu, fun i hi j hj hh => ?_⟩⟩
    · rcases List.mem_append.1 hi with hi | hi
      · have := nt i hi; omega
      · have := nu i hi; omega
    · have := lt1 i hi; have := nu j hj; omega
  · obtain rfl := hne hok
    have l0 := cH.1
    have g4 := set_get (r' := ⟨[.slice none 0 0, .slice none 0 0], 0, 57⟩) (get_app' b1 [⟨[vt], 0, 48⟩])
    have b1' := get_app' b1 [⟨[vt], 0, 48⟩]
    simp [hok, l0, VM.look, b1, b1', g4]
    refine ⟨.agg #[.slice none 0 0, .slice none 0 0], by simp [hok], (.slice none 0 0, .slice none 0 0), rfl, ⟨⟨.inl ⟨rfl, rfl⟩, by simp⟩, .inl ⟨rfl, rfl⟩, by simp⟩, (cH.trans (Chg.app [])).trans' (chg_set _ _) (fun i hi => .inr (by simp at hi; omega)), by simp [dClasses], by simp [dClasses]⟩
end Go.Proofs.Ytnakhkfgheapoaa.V
/-! Contracts on data. -/
set_option linter.all false
namespace Go.Proofs.Ytnakhkfgheapoaa.V
open Go Go.VM Go.Proofs
variable {frz : Nat} {H : Heap} {v : Value} {w h : Int} {b : List Int} {root : Int}
theorem treeTable_d (o : dMesh.Ow H v (w, h, b)) : wp (vcall C frz 36 [dMesh.val v (w, h, b), .int .i64 root] H) (Made2 dTable H (treeTable w h b root) (decide (treeOk w h b root))) := treeTable_w w h v b root o.1.rd.isI o.2
theorem sTreeTable_d (o : dMesh.Ow H v (w, h, b)) : wp (vcall C frz 34 [dMesh.val v (w, h, b), .int .i64 root] H) (Made2 dTable H (treeTable w h b root) (decide (treeOk w h b root))) := sTreeTable_w w h v b root o.1.rd.isI o.2
theorem repair_d (o : dMesh.Ow H v (w, h, b)) : wp (vcall C frz 43 [dMesh.val v (w, h, b)] H) (Made2 dClasses H (repair w h b) (repairOk w h b)) := repair_w w h v b o.1.rd.isI o.2
theorem sRepair_d (o : dMesh.Ow H v (w, h, b)) : wp (vcall C frz 42 [dMesh.val v (w, h, b)] H) (Made2 dClasses H (repair w h b) (repairOk w h b)) := sRepair_w w h v b o.1.rd.isI o.2
end Go.Proofs.Ytnakhkfgheapoaa.V
/-! Breaking a channel. -/
set_option linter.all false
namespace Go.Proofs.Ytnakhkfgheapoaa.V
open Go Go.VM Go.Proofs
set_option maxRecDepth 10000
variable {frz : Nat} {H : Heap}
theorem ones_ints (ys : List Int) : ones (cellsOf Fl.int ys) = true := by
  rw [cellsOf_int]; unfold ones
  rw [List.all_eq_true]
  intro x hx
  obtain ⟨y, _, rfl⟩ := List.mem_map.1 hx
  rfl
theorem copyMesh_w (w h : Int) (v : Value) (b : List Int) (hI : IsI H v b) (hl : b.length ≤ 1073741824) : wp (vcall C frz 104 [.agg #[.int .i64 w, .int .i64 h, v]] H) (dMesh.Made H (w, h, b)) := by
  rw [vcall_go (fn := Try.f104) Try.func104 rfl (by kernel_rfl) rfl]
  have one := And.intro hI.one' hI.cells
  simp [one]
  rw [go_drawE (h := ⟨by kernel_rfl, by kernel_rfl⟩)]
  simp [emps, empOp, empB, one, (hI.app _).src]
  by_cases h0 : b = []
  · subst h0
    simp
    exact ⟨_, rfl, ⟨.inl ⟨rfl, rfl⟩, by simp⟩, Chg.app _, by simp [dMesh], by simp [dMesh]⟩
  · simp [h0, hl]
    exact ⟨_, rfl, ⟨Ow.new (D := Fl.int) (e := 3) (xs := b) (k := 2) (by simp) (cellsOf_int _).symm (by simp) rfl, hl⟩, Chg.app _, by simp [dMesh], ids_nodup (.slice (some ⟨H.length + 2, 0, some 0⟩) b.length 0)⟩
theorem l15Mesh_w (w h : Int) (v : Value) (b : List Int) (hI : IsI H v b) (hl : b.length ≤ 1073741824) : wp (vcall C frz 102 [.agg #[.int .i64 w, .int .i64 h, v]] H) (dMesh.Made H (w, h, b)) := by
  rw [vcall_go (fn := Try.f102) Try.func102 rfl (by kernel_rfl) rfl]
  have one := And.intro hI.one' hI.cells
  simp [one]
  rw [go_drawE (h := ⟨by kernel_rfl, by kernel_rfl⟩)]
  simp [emps, empOp, empB, one, (hI.app _).src]
  by_cases h0 : b = []
  · subst h0
    simp
    exact ⟨_, rfl, ⟨.inl ⟨rfl, rfl⟩, by simp⟩, Chg.app _, by simp [dMesh], by simp [dMesh]⟩
  · simp [h0, hl]
    exact ⟨_, rfl, ⟨Ow.new (D := Fl.int) (e := 3) (xs := b) (k := 2) (by simp) (cellsOf_int _).symm (by simp) rfl, hl⟩, Chg.app _, by simp [dMesh], ids_nodup (.slice (some ⟨H.length + 2, 0, some 0⟩) b.length 0)⟩
/-- a channel more is broken -/
def broke (b : List Int) (c : Int) : List Int := isort (b ++ [c])
def breakOk (w h : Int) (b : List Int) (c : Int) : Prop := meshOk w h b ∧ has w h b c
instance (w h : Int) (b : List Int) (c : Int) : Decidable (breakOk w h b c) := inferInstanceAs (Decidable (_ ∧ _))
def withBroken (w h : Int) (b : List Int) (c : Int) : List Int := if breakOk w h b c then broke b c else b
/-- insertion ahead of the first that is not less -/
theorem broke_eq {b : List Int} {c : Int} (hb : b.Pairwise (· < ·)) {k : Nat} (hk : k ≤ b.length) (h1 : ∀ j, j < k → b.getD j 0 < c) (h2 : k < b.length → c ≤ b.getD k 0) : b.take k ++ [c] ++ b.drop k = broke b c := by
  have hs : b.Pairwise (· ≤ ·) := hb.imp (fun h => Int.le_of_lt h)
  have g : ∀ {i : Nat} (hi : i < b.length), b.getD i 0 = b[i] := fun hi => by simp [List.getD_eq_getElem?_getD, hi]
  refine sorted_eq ?_ (isort_sorted _) ?_
  · rw [List.append_assoc, List.pairwise_append]
    refine ⟨hs.sublist (List.take_sublist _ _), ?_, fun x hx y hy => ?_⟩
    · rw [List.singleton_append, List.pairwise_cons]
      refine ⟨fun y hy => ?_, hs.sublist (List.drop_sublist _ _)⟩
      obtain ⟨i, hi, rfl⟩ := List.mem_iff_getElem.1 hy
      rw [List.getElem_drop]
      simp at hi
      have h3 := h2 (by omega)
      rw [g (by omega)] at h3
      by_cases hi0 : i = 0
      · subst hi0; exact h3
      · have := List.pairwise_iff_getElem.1 hs k (k + i) (by omega) (by omega) (by omega); omega
    · obtain ⟨i, hi, rfl⟩ := List.mem_iff_getElem.1 hx
      simp at hi
      rw [List.getElem_take]
      have h3 := h1 i (by omega)
      rw [g (by omega)] at h3
      simp at hy
      rcases hy with rfl | hy
      · omega
      · obtain ⟨j, hj, rfl⟩ := List.mem_iff_getElem.1 hy
        simp at hj
        rw [List.getElem_drop]
        exact List.pairwise_iff_getElem.1 hs i (k + j) (by omega) (by omega) (by omega)
  · refine List.Perm.trans ?_ (isort_perm _).symm
    have h4 : (b.take k ++ [c] ++ b.drop k).Perm (b.take k ++ (b.drop k ++ [c])) := by
      rw [List.append_assoc]
      exact (List.perm_append_left_iff _).2 (List.perm_append_comm)
    refine h4.trans ?_
    rw [← List.append_assoc, List.take_append_drop]
theorem brk_len {w h : Int} {b : List Int} (hm : meshOk w h b) : b.length ≤ 64 := by
  obtain ⟨_, h2, h3⟩ := (meshOk_iff w h b).1 hm
  have hc := cnt_range w h
  refine asc_length h3 (fun c hc' => ?_)
  have := (h2 c hc').1
  omega
theorem withBroken_w (w h : Int) (v : Value) (b : List Int) (c : Int) (hI : IsI H v b) (hl : b.length ≤ 1073741824) :
   wp (vcall C frz 51 [.agg #[.int .i64 w, .int .i64 h, v], .int .i64 c] H) (Made2 dMesh H (w, h, withBroken w h b c) (decide (breakOk w h b c))) := by
  rw [vcall_go (fn := Try.f51) Try.func51 rfl (by kernel_rfl) rfl]
  have one := And.intro hI.one' hI.cells
  simp [one]
  refine wp_thn (copyMesh_w w h v b (hI.app _) hl) ?_
  rintro _ H1 ⟨u, rfl, o1, c1, n1, d1⟩
  have cH : Chg H H1 [] := (Chg.app []).trans c1
  have l0 := cH.1
  have b0 : H1[H.length]? = some ⟨[.int .i64 w, .int .i64 h, v], 0, 33⟩ := box_chg (by simp) c1 (by simp)
  have b1 : H1[H.length + 1]? = some ⟨[.int .i64 0, .int .i64 0, .slice none 0 0], 0, 33⟩ := box_chg (by simp) c1 (by simp)
  have l1 := box_lt b1
  have hI1 := ((hI.rd).chg cH (by simp)).isI
  have ob : Ow Fl.int 3 H1 u b := o1.1
  have one1 := And.intro ob.rd.one' ob.rd.cells
  have n1' : ∀ i ∈ VM.ids u, H.length + 2 ≤ i := fun i hi => by have := n1 i hi; simp at this; omega
  have lu := o1.1.lt
  simp [dMesh_val, one, one1, VM.look, b0, b1, get_app' b0, get_app' b1, hasChannel_c _ _ _ _ _ (hI1.app _) hl, -Bool.decide_and]
  by_cases hok : breakOk w h b c
  · have hok' : meshOk w h b ∧ has w h b c := hok
    simp [hok', one, one1, VM.look, b0, b1, get_app' b0, get_app' b1, l0, Nat.le_add_right_of_le l0]
    have hlb : b.length ≤ 1000 := by have := brk_len hok.1; omega
    obtain ⟨u', H2, hap, o2, c2, n2⟩ := (ob.app (L := [⟨[.int .i64 w, .int .i64 h, u], 0, 33⟩])).push (P := Try.prog) (frz := H.length) (ty := 22) (a := c) (by simp) rfl (by omega) (fun i hi => by have := n1' i hi; omega)
    simp at hap n2
    have q2 : H2[H1.length]? = some ⟨[.int .i64 w, .int .i64 h, u], 0, 33⟩ := box_chg (by simp) c2 (fun hh => by have := lu _ hh; omega)
    have q1 : H2[H.length + 1]? = some ⟨[.int .i64 0, .int .i64 0, .slice none 0 0], 0, 33⟩ := box_chg (get_app' b1 _) c2 (fun hh => by have := n1' _ hh; omega)
    have k2 := box_lt q2
    have n2' : ∀ i ∈ VM.ids u', i ≠ H1.length ∧ H.length + 2 ≤ i := fun i hi => by
      rcases n2 i hi with h1 | h1
      · have := lu i h1; have := n1' i h1; omega
      · omega
    have q3 := set_get (r' := ⟨[.int .i64 w, .int .i64 h, u'], 0, 33⟩) q2
    have q4 : (H2.set H1.length ⟨[.int .i64 w, .int .i64 h, u'], 0, 33⟩)[H.length + 1]? = some ⟨[.int .i64 0, .int .i64 0, .slice none 0 0], 0, 33⟩ := box_chg q1 (chg_set _ _) (by simp; omega)
    have o3 := o2.chg (chg_set H1.length ⟨[.int .i64 w, .int .i64 h, u'], 0, 33⟩) (fun i hi hh => (n2' i hi).1 (List.mem_singleton.1 hh))
    have one3 := And.intro o2.rd.one' o2.rd.cells
    have c3 : Chg H H2 [] := (cH.trans (Chg.app (L := [⟨[.int .i64 w, .int .i64 h, u], 0, 33⟩]) [])).trans' c2 (fun i hi => .inr (by have := n1' i hi; omega))
    have c4 : Chg H2 (H2.set H1.length ⟨[.int .i64 w, .int .i64 h, u'], 0, 33⟩) [H1.length] := chg_set _ _
    simp [hap, one3, VM.look, q2, q3, q4, l0]
    generalize H2.set H1.length ⟨[.int .i64 w, .int .i64 h, u'], 0, 33⟩ = H3 at *
    refine wp_thn (sort_w u' (b ++ [c]) _ o3 (by simp; omega) (fun i hi => by have := n2' i hi; omega) (by have := c4.1; omega)) ?_
    rintro _ H4 ⟨o5, c5⟩
    have q5 : H4[H1.length]? = some ⟨[.int .i64 w, .int .i64 h, u'], 0, 33⟩ := box_chg q3 c5 (fun hh => by have := n2' _ hh; omega)
    have q6 : H4[H.length + 1]? = some ⟨[.int .i64 0, .int .i64 0, .slice none 0 0], 0, 33⟩ := box_chg q4 c5 (fun hh => by have := n2' _ hh; omega)
    have q7 := set_get (r' := ⟨[.int .i64 w, .int .i64 h, u'], 0, 33⟩) q6
    simp [one3, VM.look, q5, q6, q7]
    have cc : Chg H H4 [] := (c3.trans' c4 (fun i hi => .inr (by simp at hi; omega))).trans' c5 (fun i hi => .inr (by have := n2' i hi; omega))
    refine ⟨.agg #[.int .i64 w, .int .i64 h, u'], by simp [hok], u', by simp [withBroken, hok, broke, dMesh_val], ⟨o5.chg (chg_set (H.length + 1) _) (fun i hi hh => by have := n2' i hi; have := List.mem_singleton.1 hh; omega) |> fun hh => by simpa [withBroken, hok, broke] using hh, by simp [withBroken, hok, broke, isort_len]; omega⟩, cc.trans' (chg_set _ _) (fun i hi => .inr (by simp at hi; omega)), fun i hi => by have := n2' i hi; omega, ids_nodup u'⟩
  · have hok' : ¬ (meshOk w h b ∧ has w h b c) := hok
    have g := set_get (r' := ⟨[.int .i64 w, .int .i64 h, u], 0, 33⟩) (get_app' b1 [⟨[.int .i64 w, .int .i64 h, u], 0, 33⟩])
    simp [hok', one, one1, VM.look, b0, b1, get_app' b0, get_app' b1, l0, Nat.le_add_right_of_le l0, g]
    refine ⟨.agg #[.int .i64 w, .int .i64 h, u], by simp [hok], u, by simp [withBroken, hok, dMesh_val], ⟨by simpa [withBroken, hok] using ob.app.chg (chg_set _ _) (fun i hi hh => by have := n1' i hi; simp at hh; omega), by simpa [withBroken, hok] using hl⟩, (cH.trans (Chg.app [])).trans' (chg_set _ _) (fun i hi => .inr (by simp at hi; omega)), fun i hi => by have := n1' i hi; omega, ids_nodup u⟩
theorem sHasChannel_c (w h : Int) (v : Value) (b : List Int) (c : Int) (hI : IsI H v b) (hl : b.length ≤ 1073741824) :
   vcall C frz 103 [.agg #[.int .i64 w, .int .i64 h, v], .int .i64 c] H = some (.bool (decide (meshOk w h b ∧ has w h b c)), H) := by
  rw [vcall_go (fn := Try.f103) Try.func103 rfl (by kernel_rfl) rfl]
  simp [hI.one', hI.cells, sMeshOk_c _ _ _ _ (hI.app _) hl]
  refine gd_dec _ _ ?_ ?_ <;> intro h1 <;> simp [h1, hI.one', hI.cells, l03Has_c _ _ _ _ _ (hI.app _) hl, -Bool.decide_and]
theorem sWithBroken_w (w h : Int) (v : Value) (b : List Int) (c : Int) (hO : Ow Fl.int 3 H v b) (hl : b.length ≤ 1073741824) :
   wp (vcall C frz 50 [.agg #[.int .i64 w, .int .i64 h, v], .int .i64 c] H) (Made2 dMesh H (w, h, withBroken w h b c) (decide (breakOk w h b c))) := by
  rw [vcall_go (fn := Try.f50) Try.func50 rfl (by kernel_rfl) rfl]
  have hI := hO.rd.isI
  have one := And.intro hI.one' hI.cells
  simp [one]
  refine wp_thn (l15Mesh_w w h v b (hI.app _) hl) ?_
  rintro _ H1 ⟨u, rfl, o1, c1, n1, d1⟩
  have cH : Chg H H1 [] := (Chg.app []).trans c1
  have l0 := cH.1
  have b0 : H1[H.length]? = some ⟨[.int .i64 w, .int .i64 h, v], 0, 33⟩ := box_chg (by simp) c1 (by simp)
  have b1 : H1[H.length + 1]? = some ⟨[.int .i64 0, .int .i64 0, .slice none 0 0], 0, 33⟩ := box_chg (by simp) c1 (by simp)
  have l1 := box_lt b1
  have hI1 := ((hI.rd).chg cH (by simp)).isI
  have ob : Ow Fl.int 3 H1 u b := o1.1
  have one1 := And.intro ob.rd.one' ob.rd.cells
  have n1' : ∀ i ∈ VM.ids u, H.length + 2 ≤ i := fun i hi => by have := n1 i hi; simp at this; omega
  have lu := o1.1.lt
  simp [dMesh_val, one, one1, VM.look, b0, b1, get_app' b0, get_app' b1, sHasChannel_c _ _ _ _ _ (hI1.app _) hl, -Bool.decide_and]
  by_cases hok : breakOk w h b c
  · have hok' : meshOk w h b ∧ has w h b c := hok
    simp [hok', one, one1, VM.look, b0, b1, get_app' b0, get_app' b1, l0, Nat.le_add_right_of_le l0]
    have hlb : b.length ≤ 1000 := by have := brk_len hok.1; omega
    have pw := ((meshOk_iff w h b).1 hok.1).2.2
    clear hI1 o1
    refine wp_joino (F := ?F) (k := ?k) (o := ?o) (Q := ?Q) (fun t H' => ∃ (i : Nat) (u : Value), i ≤ b.length ∧ (∀ j, j < i → b.getD j 0 < c) ∧ (i < b.length → c ≤ b.getD i 0) ∧ t 1 = .int .i64 c ∧ t 2 = .pointer (some ⟨H.length, 0, some 0⟩) ∧ t 4 = .pointer (some ⟨H.length + 1, 0, some 0⟩) ∧ t 6 = .pointer (some ⟨H1.length, 0, some 0⟩) ∧ t 7 = .int .i64 i ∧
        H'[H.length]? = some ⟨[.int .i64 w, .int .i64 h, v], 0, 33⟩ ∧ H'[H.length + 1]? = some ⟨[.int .i64 0, .int .i64 0, .slice none 0 0], 0, 33⟩ ∧ H'[H1.length]? = some ⟨[.int .i64 w, .int .i64 h, u], 0, 33⟩ ∧
        Ow Fl.int 3 H' u (b.take i) ∧ (∀ i ∈ VM.ids u, i ≠ H1.length ∧ H.length + 2 ≤ i) ∧ Chg H H' []) ?main ?rest
    case main =>
     intro rest
     refine wp_inv (fun n t H' => ∃ (i : Nat) (u : Value), n = b.length - i ∧ i ≤ b.length ∧ (∀ j, j < i → b.getD j 0 < c) ∧ t 1 = .int .i64 c ∧ t 2 = .pointer (some ⟨H.length, 0, some 0⟩) ∧ t 4 = .pointer (some ⟨H.length + 1, 0, some 0⟩) ∧ t 6 = .pointer (some ⟨H1.length, 0, some 0⟩) ∧ t 7 = .int .i64 i ∧
         H'[H.length]? = some ⟨[.int .i64 w, .int .i64 h, v], 0, 33⟩ ∧ H'[H.length + 1]? = some ⟨[.int .i64 0, .int .i64 0, .slice none 0 0], 0, 33⟩ ∧ H'[H1.length]? = some ⟨[.int .i64 w, .int .i64 h, u], 0, 33⟩ ∧
         Ow Fl.int 3 H' u (b.take i) ∧ (∀ i ∈ VM.ids u, i ≠ H1.length ∧ H.length + 2 ≤ i) ∧ Chg H H' []) ?_ (n := b.length)
       ⟨0, .slice (some ⟨H1.length + 1, 0, some 0⟩) 0 0, rfl, by omega, fun j hj => by omega, by simp, by simp, by simp, by simp, by simp, get_app' b0 _, get_app' b1 _, by simp, by simpa using Ow.new (D := Fl.int) (e := 3) (xs := []) (H := H1) (L := [⟨[.int .i64 w, .int .i64 h, .slice (some ⟨H1.length + 1, 0, some 0⟩) 0 0], 0, 33⟩, ⟨[], 0, 3⟩]) (k := 1) (by simp) rfl rfl rfl,
         fun i hi => by simp at hi; omega, cH.trans (Chg.app [])⟩
     rintro n t H' ⟨i, u, rfl, hi, hlow, t1, t2, t4, t6, t7, b0, b1, b2, o, nu, ch⟩ ih
     have hI1 := ((hI.rd).chg ch (by simp)).isI
     have one1 := And.intro o.rd.one' o.rd.cells
     have lu := o.lt
     have k2 := box_lt b2
     have l0' := ch.1
     simp [t1, t2, t4, t6, t7, VM.look, b0, hI1.len]
     refine wpg_dec ?_ ?_ <;> intro g1
     · have q1 := hI1.idx (P := Try.prog) (ty := 22) (e := 3) (by simp) (i := (i : Int)) (by omega) (by omega)
       have r1 := hI1.load (P := Try.prog) (e := 3) (by simp) g1
       simp only [Int.toNat_natCast] at q1
       have r1' : vload Try.prog H' 3 (elp v i) = some (.int .i64 (G b i)) := r1
       simp [t1, t2, t4, t6, t7, VM.look, b0, hI1.len, g1, q1, r1']
       refine wp_dec ?_ ?_ <;> intro g2
       · simp [t1, t2, t4, t6, t7]
         rw [go_draw (h := by kernel_rfl)]
         obtain ⟨u', H2, hap, o2, c2, n2⟩ := o.push (P := Try.prog) (frz := H.length) (ty := 22) (a := G b i) (by simp) rfl (by simp; omega) (fun i hi => by have := nu i hi; omega)
         simp only [Fl.int_f] at hap
         have p1 : H2[H1.length]? = some ⟨[.int .i64 w, .int .i64 h, u], 0, 33⟩ := box_chg b2 c2 (fun hh => (nu _ hh).1 rfl)
         have p2 := set_get (r' := ⟨[.int .i64 w, .int .i64 h, u'], 0, 33⟩) p1
         have nu' : ∀ i ∈ VM.ids u', i ≠ H1.length ∧ H.length + 2 ≤ i := fun i hi => by
           rcases n2 i hi with h1 | h1
           · exact nu i h1
           · omega
         have one2 := And.intro o2.rd.one' o2.rd.cells
         have l2 := c2.1
         have ne1 : H1.length ≠ H.length := by omega
         have ne2 : H1.length ≠ H.length + 1 := by omega
         simp [t1, t2, t4, t6, t7, VM.look, b0, b2, q1, r1', one1, hI1.one', hI1.cells, hap, p1, one2, l0]
         refine ih (b.length - (i + 1)) _ _ ⟨i + 1, u', rfl, by omega, fun j hj => ?_, by simp [t1], by simp [t2], by simp [t4], by simp [t6], ?_, ?_, ?_, p2, ?_, nu', ?_⟩ (by omega)
         · by_cases hji : j = i
           · subst hji; exact g2
           · exact hlow j (by omega)
         · simp; rw [w64 (by omega) (by omega)]
         · exact box_chg (box_chg b0 c2 (fun hh => by have := nu _ hh; omega)) (chg_set _ _) (by simp; omega)
         · exact box_chg (box_chg b1 c2 (fun hh => by have := nu _ hh; omega)) (chg_set _ _) (by simp; omega)
         · have := o2.chg (chg_set H1.length ⟨[.int .i64 w, .int .i64 h, u'], 0, 33⟩) (fun i hi hh => (nu' i hi).1 (List.mem_singleton.1 hh))
           rw [List.take_succ_eq_append_getElem g1, ← G_get g1]; exact this
         · exact (ch.trans' c2 (fun i hi => .inr (by have := nu i hi; omega))).trans' (chg_set _ _) (fun i hi => .inr (by simp at hi; omega))
       · simp [t1, t2, t4, t6, t7, -go_exit_blk]
         refine rest _ _ ?_
         exact ⟨i, u, hi, hlow, fun _ => by have : ¬ b.getD i 0 < c := g2; omega, by simp [t1], by simp [t2], by simp [t4], by simp [t6], by simp [t7], b0, b1, b2, o, nu, ch⟩
     · simp [t1, t2, t4, t6, t7, g1, -go_exit_blk]
       refine rest _ _ ?_
       exact ⟨i, u, hi, hlow, fun hh => absurd hh g1, by simp [t1], by simp [t2], by simp [t4], by simp [t6], by simp [t7], b0, b1, b2, o, nu, ch⟩
    case rest =>
     rintro t H' ⟨i, u, hi, hlow, hhi, t1, t2, t4, t6, t7, b0, b1, b2, o, nu, ch⟩
     have hI1 := ((hI.rd).chg ch (by simp)).isI
     have one1 := And.intro o.rd.one' o.rd.cells
     have hlt : (b.take i).length = i := by simp; omega
     have l0' := ch.1
     have hmin : min i b.length = i := Nat.min_eq_left hi
     have k2 := box_lt b2
     obtain ⟨u', H2, hap, o2, c2, n2⟩ := o.push (P := Try.prog) (frz := H.length) (ty := 22) (a := c) (by simp) rfl (by simp; omega) (fun i hi => by have := nu i hi; omega)
     simp only [Fl.int_f] at hap
     have p0 : H2[H.length]? = some ⟨[.int .i64 w, .int .i64 h, v], 0, 33⟩ := box_chg b0 c2 (fun hh => by have := nu _ hh; omega)
     have p1 : H2[H1.length]? = some ⟨[.int .i64 w, .int .i64 h, u], 0, 33⟩ := box_chg b2 c2 (fun hh => (nu _ hh).1 rfl)
     have p3 : H2[H.length + 1]? = some ⟨[.int .i64 0, .int .i64 0, .slice none 0 0], 0, 33⟩ := box_chg b1 c2 (fun hh => by have := nu _ hh; omega)
     have p2 := set_get (r' := ⟨[.int .i64 w, .int .i64 h, u'], 0, 33⟩) p1
     have p4 : (H2.set H1.length ⟨[.int .i64 w, .int .i64 h, u'], 0, 33⟩)[H.length]? = _ := box_chg p0 (chg_set _ _) (by simp; omega)
     have p5 : (H2.set H1.length ⟨[.int .i64 w, .int .i64 h, u'], 0, 33⟩)[H.length + 1]? = _ := box_chg p3 (chg_set _ _) (by simp; omega)
     have nu' : ∀ i ∈ VM.ids u', i ≠ H1.length ∧ H.length + 2 ≤ i := fun i hi => by
       rcases n2 i hi with h1 | h1
       · exact nu i h1
       · omega
     have one2 := And.intro o2.rd.one' o2.rd.cells
     have c4 : Chg H2 (H2.set H1.length ⟨[.int .i64 w, .int .i64 h, u'], 0, 33⟩) [H1.length] := chg_set _ _
     have ch3 := (ch.trans' c2 (fun i hi => .inr (by have := nu i hi; omega))).trans' c4 (fun i hi => .inr (by simp at hi; omega))
     have o3 := o2.chg c4 (fun i hi hh => (nu' i hi).1 (List.mem_singleton.1 hh))
     simp [t1, t2, t4, t6, t7, VM.look, b2, one1, o.rd.len, hmin, hap, p1, one2, l0]
     rw [go_draw (h := by kernel_rfl)]
     generalize H2.set H1.length ⟨[.int .i64 w, .int .i64 h, u'], 0, 33⟩ = H3 at *
     have hI3 := ((hI.rd).chg ch3 (by simp)).isI
     obtain ⟨z, hz, oz, nz⟩ := (hO.chg ch3 (by simp)).slice (P := Try.prog) (ty := 22) (lo := some (.int .i64 (i : Int))) (hi := none) (l := i) (u := b.length) (by simp) rfl rfl hi (Nat.le_refl _)
     have hbi : (b.drop i).take (b.length - i) = b.drop i := List.take_of_length_le (by simp)
     rw [hbi] at oz
     obtain ⟨u2, H5, hap2, o5, c5, n5⟩ := o3.append (P := Try.prog) (frz := H.length) (ty := 22) oz.rd (by simp) (ones_ints _) (by simp; omega) (fun i hi => by have := nu' i hi; omega)
     have s1 : H5[H1.length]? = some ⟨[.int .i64 w, .int .i64 h, u'], 0, 33⟩ := box_chg p2 c5 (fun hh => (nu' _ hh).1 rfl)
     have s2 : H5[H.length + 1]? = some ⟨[.int .i64 0, .int .i64 0, .slice none 0 0], 0, 33⟩ := box_chg p5 c5 (fun hh => by have := nu' _ hh; omega)
     have s3 := set_get (r' := ⟨[.int .i64 w, .int .i64 h, u2], 0, 33⟩) s1
     have s4 : (H5.set H1.length ⟨[.int .i64 w, .int .i64 h, u2], 0, 33⟩)[H.length + 1]? = _ := box_chg s2 (chg_set _ _) (by simp; omega)
     have k3 := box_lt p2
     have nu2 : ∀ i ∈ VM.ids u2, i ≠ H1.length ∧ H.length + 2 ≤ i := fun i hi => by
       rcases n5 i hi with h1 | h1
       · exact nu' i h1
       · have := box_lt p5; omega
     have one5 := And.intro o5.rd.one' o5.rd.cells
     have c6 : Chg H5 (H5.set H1.length ⟨[.int .i64 w, .int .i64 h, u2], 0, 33⟩) [H1.length] := chg_set _ _
     have ch6 := (ch3.trans' c5 (fun i hi => .inr (by have := nu' i hi; omega))).trans' c6 (fun i hi => .inr (by simp at hi; omega))
     have o6 := o5.chg c6 (fun i hi hh => (nu2 i hi).1 (List.mem_singleton.1 hh))
     have s5 := set_get (r' := ⟨[.int .i64 w, .int .i64 h, u2], 0, 33⟩) s4
     simp [t1, t2, t4, t6, t7, VM.look, one, one2, p2, p4, p5, l0, hz, hap2, s1, s2, s3, s4, one5]
     generalize H5.set H1.length ⟨[.int .i64 w, .int .i64 h, u2], 0, 33⟩ = H6 at *
     simp [VM.look, s4, s5]
     have heq : b.take i ++ [c] ++ b.drop i = broke b c := broke_eq pw hi hlow hhi
     rw [heq] at o6
     refine ⟨.agg #[.int .i64 w, .int .i64 h, u2], by simp [hok], u2, by simp [withBroken, hok, dMesh_val], ⟨?_, by simp [withBroken, hok, broke, isort_len]; omega⟩, ch6.trans' (chg_set _ _) (fun i hi => .inr (by simp at hi; omega)), fun i hi => by have := nu2 i hi; omega, ids_nodup u2⟩
     have := o6.chg (chg_set (H.length + 1) ⟨[.int .i64 w, .int .i64 h, u2], 0, 33⟩) (fun i hi hh => by have := nu2 i hi; have := List.mem_singleton.1 hh; omega)
     simpa [withBroken, hok] using this
  · have hok' : ¬ (meshOk w h b ∧ has w h b c) := hok
    have g := set_get (r' := ⟨[.int .i64 w, .int .i64 h, u], 0, 33⟩) (get_app' b1 [⟨[.int .i64 w, .int .i64 h, u], 0, 33⟩])
    simp [hok', one, one1, VM.look, b0, b1, get_app' b0, get_app' b1, l0, Nat.le_add_right_of_le l0, g]
    refine ⟨.agg #[.int .i64 w, .int .i64 h, u], by simp [hok], u, by simp [withBroken, hok, dMesh_val], ⟨by simpa [withBroken, hok] using ob.app.chg (chg_set _ _) (fun i hi hh => by have := n1' i hi; simp at hh; omega), by simpa [withBroken, hok] using hl⟩, (cH.trans (Chg.app [])).trans' (chg_set _ _) (fun i hi => .inr (by simp at hi; omega)), fun i hi => by have := n1' i hi; omega, ids_nodup u⟩
theorem withBroken_d {v : Value} {w h : Int} {b : List Int} {c : Int} (o : dMesh.Ow H v (w, h, b)) : wp (vcall C frz 51 [dMesh.val v (w, h, b), .int .i64 c] H) (Made2 dMesh H (w, h, withBroken w h b c) (decide (breakOk w h b c))) := withBroken_w w h v b c o.1.rd.isI o.2
theorem sWithBroken_d {v : Value} {w h : Int} {b : List Int} {c : Int} (o : dMesh.Ow H v (w, h, b)) : wp (vcall C frz 50 [dMesh.val v (w, h, b), .int .i64 c] H) (Made2 dMesh H (w, h, withBroken w h b c) (decide (breakOk w h b c))) := sWithBroken_w w h v b c o.1 o.2
end Go.Proofs.Ytnakhkfgheapoaa.V
