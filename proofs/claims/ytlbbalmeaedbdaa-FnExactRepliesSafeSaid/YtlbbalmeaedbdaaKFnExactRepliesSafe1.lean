/- Texts of a proof, joined. -/
import Derived.Test.YtlbbalmeaedbdaaKM0
import Derived.Test.YtlbbalmeaedbdaaKM1
import Derived.Test.YtlbbalmeaedbdaaKM2
import Derived.Test.YtlbbalmeaedbdaaKFnExactRepliesSafe0
/-! slices.Compact on dependencies (sorte7.py, of VS7). -/
set_option linter.all false
namespace Go.Proofs.Ytlbbalmeaedbdaa.V
open Go Go.VM Go.Proofs
set_option maxRecDepth 10000
variable {frz : Nat} {H : Heap} {v : Value} {xs ys : List Int} {e : TypeId}
theorem Bd.take (h : Bd xs) (k : Nat) : Bd (xs.take k) := fun x hx => h x (List.mem_of_mem_take hx)
theorem Bd.drop (h : Bd xs) (k : Nat) : Bd (xs.drop k) := fun x hx => h x (List.mem_of_mem_drop hx)
theorem Bd.set (h : Bd xs) (k : Nat) {x : Int} (hx : KB x) : Bd (xs.set k x) := fun y hy => by
  rcases List.mem_or_eq_of_mem_set hy with hy | rfl
  · exact h y hy
  · exact hx
theorem Bd.app (h : Bd xs) (h' : Bd ys) : Bd (xs ++ ys) := fun y hy => by
  rcases List.mem_append.1 hy with hy | hy
  · exact h y hy
  · exact h' y hy
theorem KB0 : KB 0 := ⟨by decide, by decide⟩
theorem key_ext {x y : Int} : (x / 1024 = y / 1024 ∧ x % 1024 = y % 1024) ↔ x = y := by omega
@[simp] theorem dv_eql (x y : Int) : vbin Try.prog .eql 61 (dv x) (dv y) = some (.bool (decide (x = y))) := by
  unfold dv
  simp [cseq]
  rw [Bool.eq_iff_iff]
  simp
  omega
@[simp] theorem dv_neq (x y : Int) : vbin Try.prog .neq 61 (dv x) (dv y) = some (.bool (!decide (x = y))) := by
  unfold dv
  simp [cseq]
  rw [Bool.eq_iff_iff]
  simp
  omega
/-- a slice's tail, told once for all heaps -/
theorem dw_tail (o : OwE 61 H v xs) (h0 : 0 < xs.length) {l : Nat} (hl : l ≤ xs.length) : ∃ z, ∀ (H' : Heap) (ys : List Int), OwE 61 H' v ys → ys.length = xs.length →
    vslice Try.prog H' 33 (some (.int .i64 (l : Nat))) none v = some z ∧ OwE 61 H' z (ys.drop l) ∧ ids z = ids v := by
  rcases o with ⟨⟨_, rfl⟩ | ⟨id, off, r, rfl, k2, k3, k4, k5, k6⟩, _⟩
  · simp at h0
  · refine ⟨.slice (some ⟨id, off + l * 2, some r.gen⟩) (xs.length - l) 0, fun H' ys o' hlen => ?_⟩
    obtain ⟨o', bd⟩ := o'
    obtain ⟨z', h1, h2, h3⟩ := o'.slice (P := Try.prog) (ty := 33) (lo := some (.int .i64 (l : Int))) (hi := none) (l := l) (u := ys.length) (by simp) rfl rfl (by omega) (Nat.le_refl _)
    have e : (ys.drop l).take (ys.length - l) = ys.drop l := List.take_of_length_le (by simp)
    rw [e] at h2
    have hz : z' = .slice (some ⟨id, off + l * 2, some r.gen⟩) (xs.length - l) 0 := by
      rcases o' with ⟨hv, _⟩ | ⟨id', off', r', hv, q2, q3, q4, q5, q6⟩
      · cases hv
      · injection hv with hv1 hv2
        injection hv1 with hv1
        injection hv1 with i1 i2 i3
        injection i3 with i3
        subst i1 i2
        have hle : (l : Int) ≤ (xs.length : Int) := by omega
        simp [vslice, VM.look, q2, i3, vbound, q5, hle] at h1
        simp [← h1, i3]
    rw [← hz]
    exact ⟨h1, ⟨h2, bd.drop l⟩, h3⟩
theorem dep0 (n : Nat) : (List.replicate n [Value.int .i64 0, Value.int .i64 0]).flatten = cellsOf Fl.dep (List.replicate n 0) := by
  induction n with
  | zero => rfl
  | succ n ih => rw [List.replicate_succ, List.replicate_succ, cellsOf_cons, List.flatten_cons, ih]; rfl
/-- the tail is cleared -/
theorem dw_clear (o : OwE 61 H v ys) (h0 : 0 < ys.length) {l : Nat} (hl : l ≤ ys.length) {z : Value} (hz : vslice Try.prog H 33 (some (.int .i64 (l : Nat))) none v = some z) (hf : ∀ i ∈ ids v, frz ≤ i) :
    ∃ H' zs, vclear Try.prog frz H 33 z = some (undef, H') ∧ zs.length = ys.length ∧ zs.take l = ys.take l ∧ OwE 61 H' v zs ∧ Chg H H' (ids v) := by
  rcases o with ⟨⟨_, rfl⟩ | ⟨id, off, r, rfl, k2, k3, k4, k5, k6⟩, bd⟩
  · simp at h0
  · have hle : (l : Int) ≤ (ys.length : Int) := by omega
    simp [vslice, VM.look, k2, vbound, k5, hle] at hz
    subst hz
    have hfr : frz ≤ id := hf id (by simp)
    have hn : Fl.dep.n = 2 := rfl
    rw [hn] at k3 k4
    have hroom : off + l * 2 + (ys.length - l) * 2 ≤ r.cells.length := by omega
    have one0 : ones [Value.int .i64 0, Value.int .i64 0] = true := rfl
    have onz : ∀ n, ones (cellsOf Fl.dep (List.replicate n (0 : Int))) = true := fun n => by
      induction n with
      | zero => rfl
      | succ n ih => rw [List.replicate_succ, cellsOf_cons, ones_app, ih]; rfl
    refine ⟨H.set id { r with cells := VM.splice r.cells (off + l * 2) (cellsOf Fl.dep (List.replicate (ys.length - l) 0)) }, ys.take l ++ List.replicate (ys.length - l) 0, ?_, by simp; omega, by rw [List.take_append_of_le_length (by simp; omega), List.take_take, Nat.min_self], ?_, chg_set _ _⟩
    · rw [← dep0]
      simp [vclear, VM.look, k2, hfr, hroom, one0]
    · have hcl : (cellsOf Fl.dep (List.replicate (ys.length - l) (0 : Int))).length = (ys.length - l) * 2 := by simp
      have hlt : id < H.length := box_lt k2
      have hzl : (ys.take l ++ List.replicate (ys.length - l) (0 : Int)).length = ys.length := by simp; omega
      refine ⟨.inr ⟨id, off, { r with cells := VM.splice r.cells (off + l * 2) (cellsOf Fl.dep (List.replicate (ys.length - l) 0)) }, by rw [hzl], by simp [hlt], ?_, ?_, k5, ones_splice k6 (onz _)⟩, (bd.take l).app fun x hx => by rw [(List.mem_replicate.1 hx).2]; exact KB0⟩
      · rw [hzl, hn, splice_region k3 k4 (by rw [hcl]; omega), cellsOf_app, ← cellsOf_take]
        unfold VM.splice
        rw [hcl, hn]
        have e1 : (cellsOf Fl.dep ys).drop (l * 2 + (ys.length - l) * 2) = [] := by rw [List.drop_eq_nil_iff]; simp; omega
        rw [e1, List.append_nil]
      · rw [hzl, hn, splice_len (by rw [hcl]; omega)]; exact k4
theorem compact_e (v : Value) (xs : List Int) (h : OwE 61 H v xs) (hl : xs.length ≤ 1073741824) (hf : ∀ i ∈ ids v, frz ≤ i) :
   wp (vcall C frz 67 [v] H) (fun u H' => OwE 61 H' u (compact xs) ∧ (∀ i ∈ ids u, i ∈ ids v) ∧ Chg H H' (ids v)) := by
  rw [vcall_go (fn := Try.f67) Try.func67 rfl (by kernel_rfl) rfl]
  simp [h.rd.len]
  have dk1 : dk xs 1 = [G xs 0] := by simp [dk]
  refine wp_dec ?_ ?_ <;> intro g0
  · simp
    have : compact xs = xs := by
      match xs, g0 with
      | [], _ => rfl
      | [a], _ => simp [compact, dk, G]
      | a :: b :: l, g => simp at g; omega
    rw [this]
    exact ⟨h, Chg.refl _⟩
  · simp
    have hl1 := h.rd.len (P := Try.prog) (ty := 33) (by simp)
    refine wp_inv (fun n t H' => ∃ i : Nat, n = xs.length - i ∧ 1 ≤ i ∧ i ≤ xs.length ∧ t 0 = v ∧ t 3 = .int .i64 i ∧ H' = H ∧ dk xs i = xs.take i) ?_ (n := xs.length - 1)
      ⟨1, rfl, by omega, by omega, by simp, by simp, rfl, by rw [dk1, take_G (by omega)]; rfl⟩
    rintro n t H' ⟨i, rfl, hi1, hi, t0, t3, hH, hd⟩ ih
    rw [hH]
    simp [t0, t3, hl1]
    refine wp_dec ?_ ?_ <;> intro g1
    · have e1 : ∀ [Inhabited Unit], IntKind.i64.wrap ((i : Int) - 1) = ((i - 1 : Nat) : Int) := by intro _; rw [w64 (by omega) (by omega)]; omega
      have p2 : i - 1 < xs.length := by omega
      simp [t0, t3]
      rw [go_draw (h := by kernel_rfl)]
      simp [t0, t3, e1, dw_ix h g1, dw_ix h p2, dw_ld h g1, dw_ld h p2]
      refine wp_dec ?_ ?_ <;> intro g2
      · obtain ⟨z, hz⟩ := dw_tail h (by omega) (l := i) (by omega)
        obtain ⟨z1, _, z3⟩ := hz H xs h rfl
        simp [t0, t3, z1]
        have dki : dk xs (i + 1) = xs.take i := by
          have : 0 < i ∧ G xs (i - 1) = G xs i := ⟨by omega, g2.symm⟩
          unfold dk; rw [if_pos this, hd]
        refine wp_inv (fun n t H' => ∃ (k j : Nat) (ys : List Int), n = xs.length - (i + j) ∧ 1 ≤ j ∧ i + j ≤ xs.length ∧ k < i + j ∧ t 0 = v ∧ t 3 = .int .i64 k ∧ t 4 = z ∧ t 5 = .int .i64 j ∧ ys.length = xs.length ∧ ys.take k = dk xs (i + j) ∧ (∀ m, i + j ≤ m + 1 → G ys m = G xs m) ∧
            OwE 61 H' v ys ∧ Chg H H' (ids v)) ?_ (n := xs.length - (i + 1))
          ⟨i, 1, xs, rfl, by omega, by omega, by omega, by simp [t0], by simp [t3], by simp, by simp, rfl, dki.symm, fun m hm => rfl, h, Chg.refl _⟩
        clear ih hH t0 t3
        rintro n t H' ⟨k, j, ys, rfl, hj1, hj, hk, t0, t3, t4, t5, hlen, htk, hG, o, ch⟩ ih
        obtain ⟨z1', oz, _⟩ := hz H' ys o hlen
        have lz := oz.rd.len (P := Try.prog) (ty := 33) (by simp)
        have hzl : (ys.drop i).length = xs.length - i := by simp [hlen]
        simp [t0, t3, t4, t5, lz, hlen]
        refine wp_dec ?_ ?_ <;> intro g3
        · have p1 : j < (ys.drop i).length := by omega
          have p2' : j - 1 < (ys.drop i).length := by omega
          have e2 : ∀ [Inhabited Unit], IntKind.i64.wrap ((j : Int) - 1) = ((j - 1 : Nat) : Int) := by intro _; rw [w64 (by omega) (by omega)]; omega
          have e3 : ∀ [Inhabited Unit], IntKind.i64.wrap ((j : Int) + 1) = ((j + 1 : Nat) : Int) := by intro _; rw [w64 (by omega) (by omega)]; omega
          have e4 : ∀ [Inhabited Unit], IntKind.i64.wrap ((k : Int) + 1) = ((k + 1 : Nat) : Int) := by intro _; rw [w64 (by omega) (by omega)]; omega
          have dG : ∀ m, G (ys.drop i) m = G ys (i + m) := fun m => by simp [G, List.getD_eq_getElem?_getD]
          have G1 : G (ys.drop i) j = G xs (i + j) := by rw [dG, hG _ (by omega)]
          have G2 : G (ys.drop i) (j - 1) = G xs (i + j - 1) := by rw [dG, hG _ (by omega), show i + (j - 1) = i + j - 1 by omega]
          simp [t0, t3, t4, t5]
          rw [go_draw (h := by kernel_rfl)]
          simp [t0, t3, t4, t5, e2, dw_ix oz p1, dw_ix oz p2', dw_ld oz p1, dw_ld oz p2', G1, G2]
          have hkl : k < ys.length := by omega
          refine wp_dec ?_ ?_ <;> intro g4
          · have hd2 : dk xs (i + j + 1) = dk xs (i + j) := by
              have : 0 < i + j ∧ G xs (i + j - 1) = G xs (i + j) := ⟨by omega, g4.symm⟩
              rw [dk, if_pos this]
            simp [t0, t3, t4, t5]
            refine ih (xs.length - (i + (j + 1))) _ _ ⟨k, j + 1, ys, rfl, by omega, by omega, by omega, by simp [t0], by simp [t3], by simp [t4], by simp [e3], hlen, by rw [← Nat.add_assoc, hd2]; exact htk, fun m hm => hG m (by omega), o, ch⟩ (by omega)
          · obtain ⟨H2, s2, o2', c2, l2⟩ := o.1.store (P := Try.prog) (frz := frz) (et := 61) (ag := true) (by simp) hkl (x := dv (G xs (i + j))) (y := G xs (i + j)) rfl rfl hf
            have o2 : OwE 61 H2 v (ys.set k (G xs (i + j))) := ⟨o2', o.2.set k (h.2.G _)⟩
            simp only [Fl.dep_n] at s2
            have hd2 : dk xs (i + j + 1) = dk xs (i + j) ++ [G xs (i + j)] := by
              have : ¬ (0 < i + j ∧ G xs (i + j - 1) = G xs (i + j)) := fun hh => g4 hh.2.symm
              rw [dk, if_neg this]
            simp [t0, t3, t4, t5, dw_ix oz p1, dw_ld oz p1, G1, dw_ix o hkl, s2]
            refine ih (xs.length - (i + (j + 1))) _ _ ⟨k + 1, j + 1, ys.set k (G xs (i + j)), rfl, by omega, by omega, by omega, by simp [t0], by simp [e4], by simp [t4], by simp [e3], by simp [hlen], ?_, fun m hm => ?_, o2, ch.trans c2⟩ (by omega)
            · rw [← Nat.add_assoc, hd2, ← htk, List.take_succ_eq_append_getElem (by simpa using hkl), List.getElem_set_self]
              simp [List.take_set_of_le]
            · have hmk : m ≠ k := by omega
              have : G (ys.set k (G xs (i + j))) m = G ys m := by simp [G, List.getD_eq_getElem?_getD, List.getElem?_set_ne (Ne.symm hmk)]
              rw [this]; exact hG m (by omega)
        · have hij : i + j = xs.length := by omega
          have hkl : k ≤ ys.length := by omega
          obtain ⟨y, hy⟩ := dw_tail o (by omega) (l := k) hkl
          obtain ⟨y1, _, _⟩ := hy H' ys o rfl
          obtain ⟨H2, zs, cl, zl, zt, oz2, c2⟩ := dw_clear o (by omega) hkl y1 hf
          obtain ⟨q, q1, q2', q3⟩ := oz2.1.slice (P := Try.prog) (ty := 33) (lo := none) (hi := some (.int .i64 (k : Int))) (l := 0) (u := k) (by simp) rfl rfl (Nat.zero_le _) (by omega)
          simp [t0, t3, t4, t5, y1, cl, q1]
          have q2 : OwE 61 H2 q ((zs.drop 0).take (k - 0)) := ⟨q2', oz2.2.take k⟩
          simp only [List.drop_zero, Nat.sub_zero, zt, htk, hij] at q2
          exact ⟨q2, by rw [q3]; exact fun i hi => hi, ch.trans c2⟩
      · simp [t0, t3]
        refine ih (xs.length - (i + 1)) _ _ ⟨i + 1, rfl, by omega, by omega, by simp [t0], ?_, rfl, ?_⟩ (by omega)
        · simp; rw [w64 (by omega) (by omega)]
        · have : ¬ (0 < i ∧ G xs (i - 1) = G xs i) := fun hh => g2 hh.2.symm
          unfold dk; rw [if_neg this, take_G g1, hd]
    · have him : i = xs.length := by omega
      simp [t0]
      rw [him, List.take_length] at hd
      exact ⟨by rw [compact, hd]; exact h, Chg.refl _⟩
end Go.Proofs.Ytlbbalmeaedbdaa.V
/-! Tables: the walks. -/
set_option linter.all false
namespace Go.Proofs.Ytlbbalmeaedbdaa.V
open Go Go.VM Go.Proofs
set_option maxRecDepth 10000
variable {frz : Nat} {H : Heap}
theorem sWalk_c (w h : Int) (v u : Value) (b T : List Int) (a to : Int) (hI : IsI H v b) (hT : IsI H u T) (hl : b.length ≤ 1073741824) (hz : tsized w h b T) (ha : isN w h a) (hto : isN w h to) :
   vcall C frz 27 [.agg #[.int .i64 w, .int .i64 h, v], .agg #[u], .int .i64 a, .int .i64 to] H =
    some (.slice (some ⟨H.length, 0, some 0⟩) (walk w h b T a to).length 0, H ++ [⟨(walk w h b T a to).map (.int .i64), 0, 3⟩]) := by
  rw [vcall_go (fn := Try.f27) Try.func27 rfl (by kernel_rfl) rfl]
  simp [hI.one', hI.cells, hT.one', hT.cells, sNodeCount_c]
  have hc := cnt_range w h
  refine go_inv (fun n t H' => ∃ (o : List Int) (g : Nat) (x : Int) (G : Heap), n = (cnt w h).toNat + 1 - o.length ∧ t 3 = .int .i64 to ∧ t 4 = .pointer (some ⟨H.length, 0, some 0⟩) ∧ t 5 = .pointer (some ⟨H.length + 1, 0, some 0⟩) ∧
    t 9 = .slice (some ⟨H.length + 2, 0, some g⟩) o.length 0 ∧ t 10 = .int .i64 (cnt w h) ∧ t 11 = .int .i64 x ∧
    H' = H ++ ⟨[.int .i64 w, .int .i64 h, v], 0, 37⟩ :: ⟨[u], 0, 39⟩ :: ⟨o.map (.int .i64), g, 3⟩ :: G ∧
    ((o.length ≤ (cnt w h).toNat ∧ isN w h x ∧ walkN w h b T to ((cnt w h).toNat - o.length) x o = walk w h b T a to) ∨ (o.length = (cnt w h).toNat + 1 ∧ walk w h b T a to = []))) ?_
    (n := (cnt w h).toNat + 1) ⟨[], 0, a, [], by simp [ha, walk]⟩
  rintro n t H' ⟨o, g, x, G, rfl, h3, h4, h5, h9, h10, h11, rfl, ho⟩ ih
  simp [h3, h4, h5, h9, h10, h11]
  refine br_dec _ ?_ ?_ <;> intro hn
  · obtain ⟨ho1, hx, hw⟩ : o.length ≤ (cnt w h).toNat ∧ isN w h x ∧ walkN w h b T to ((cnt w h).toNat - o.length) x o = walk w h b T a to := by
      rcases ho with ho | ho
      · exact ho
      · omega
    obtain ⟨k0, k1, k2, k3⟩ := at_small hx hto
    have hTl := hz.2
    have e1 : IntKind.i64.wrap (x * cnt w h) = x * cnt w h := w64 (by omega) (by omega)
    have e2 : IntKind.i64.wrap (x * cnt w h + to) = x * cnt w h + to := w64 (by omega) (by have := hto.2; omega)
    have q1 : ∀ L, vindexAddr Try.prog (H ++ L) 24 u (.int .i64 (x * cnt w h + to)) = some (elp u (x * cnt w h + to).toNat) := fun L => hT.idxA (e := 3) (by simp) k0 (by omega)
    have q2 : ∀ L, vload Try.prog (H ++ L) 3 (elp u (x * cnt w h + to).toNat) = some (.int .i64 (portOf w h T x to)) := fun L => hT.loadA (by simp) (by omega)
    simp [h3, h4, h5, h9, h10, h11, e1, e2, q1, q2]
    refine br_dec _ ?_ ?_ <;> intro hp
    · have hw' : walk w h b T a to = if x = to then o else [] := by
        rw [← hw]; cases (cnt w h).toNat - o.length <;> simp [walkN, hp]
      simp [h3, h4, h5, h9, h10, h11, hp]
      refine br_dec _ ?_ ?_ <;> intro hq
      · simp [h3, h4, h5, h9, h10, h11, hq] at hw' ⊢
        simp [hw']
      · simp [h3, h4, h5, h9, h10, h11, hq] at hw' ⊢
        simp [hw']
    · simp [h3, h4, h5, h9, h10, h11, hp]
      have hw0 : ¬ stepOk w h b T x to → walk w h b T a to = [] := fun hh => by
        rw [← hw]; cases (cnt w h).toNat - o.length <;> simp [walkN, hp, hh]
      have e3 : IntKind.i64.wrap (4 * x) = 4 * x := w64 (by have := hx.1; omega) (by have := hx.2; omega)
      simp [l01In_c]
      refine gd_dec _ _ ?_ ?_ <;> intro hr
      · have e4 : IntKind.i64.wrap (4 * x + portOf w h T x to) = 4 * x + portOf w h T x to := w64 (by have := hx.1; have := hr.1; omega) (by have := hx.2; have := hr.2; omega)
        simp [h3, h4, h5, h9, h10, h11, hp, hr, e3, e4, l03Has_c _ _ _ _ _ (hI.app _) hl, hI.one', hI.cells]
        refine br_dec _ ?_ ?_ <;> intro hh
        · simp [h3, h4, h5, h9, h10, h11, hp, hr, hh, e3, e4, sNextNode_c, hI.one', hI.cells]
          obtain ⟨s1, s2, s3⟩ := step_next hr hh
          refine vneed_eq (by omega) ?_
          refine ih ((cnt w h).toNat + 1 - (o.length + 1)) _ _ ⟨o ++ [4 * x + portOf w h T x to], g + 1, next w h x (portOf w h T x to), _, by simp, by simp [h3], by simp [h4], by simp [h5], by simp, by simp [h10], by simp, by simp; rfl, ?_⟩ (by omega)
          by_cases hlt : o.length < (cnt w h).toNat
          · refine .inl ⟨by simp; omega, s3, ?_⟩
            rw [show (cnt w h).toNat - o.length = ((cnt w h).toNat - (o ++ [4 * x + portOf w h T x to]).length) + 1 by simp; omega] at hw
            rw [← hw, walkN, if_neg hp, if_pos ⟨hr, hh⟩]
          · refine .inr ⟨by simp; omega, ?_⟩
            rw [show (cnt w h).toNat - o.length = 0 by omega] at hw
            rw [← hw, walkN, if_neg hp]
        · have hw2 := hw0 (fun k => hh k.2)
          simp [h3, h4, h5, h9, h10, h11, hp, hr, hh, e3, e4, hw2]
      · have hw2 := hw0 (fun k => hr k.1)
        simp [h3, h4, h5, h9, h10, h11, hp, hr, hw2]
  · have hw2 : walk w h b T a to = [] := by
      rcases ho with ho | ho
      · omega
      · exact ho.2
    simp [h3, h4, h5, h9, h10, h11, hn, hw2]
end Go.Proofs.Ytlbbalmeaedbdaa.V
/-! Tables: the program's own walk. -/
set_option linter.all false
namespace Go.Proofs.Ytlbbalmeaedbdaa.V
open Go Go.VM Go.Proofs
set_option maxRecDepth 10000
variable {frz : Nat} {H : Heap}
theorem portAt_c (w h : Int) (v u : Value) (b T : List Int) (a to : Int) (hI : IsI H v b) (hT : IsI H u T) (hl : b.length ≤ 1073741824) (hz : tsized w h b T) (ha : isN w h a) (hto : isN w h to) :
   vcall C frz 62 [.agg #[.int .i64 w, .int .i64 h, v], .agg #[u], .int .i64 a, .int .i64 to] H =
    some (.int .i64 (if inR 0 (portOf w h T a to) 4 then portOf w h T a to else -1), H) := by
  rw [vcall_go (fn := Try.f62) Try.func62 rfl (by kernel_rfl) rfl]
  have hc := cnt_range w h
  obtain ⟨k0, k1, k2, k3⟩ := at_small ha hto
  have hTl := hz.2
  have hc2 : cnt w h * cnt w h ≤ 16 * 16 := Int.mul_le_mul hc.2 hc.2 hc.1 (by omega)
  have hc3 : 0 * 0 ≤ cnt w h * cnt w h := Int.mul_le_mul hc.1 hc.1 (by omega) hc.1
  have e0 : IntKind.i64.wrap (cnt w h * cnt w h) = cnt w h * cnt w h := w64 (by omega) (by omega)
  have e1 : IntKind.i64.wrap (a * cnt w h) = a * cnt w h := w64 (by omega) (by omega)
  have e2 : IntKind.i64.wrap (a * cnt w h + to) = a * cnt w h + to := w64 (by omega) (by have := hto.2; omega)
  have q1 : ∀ L, vindexAddr Try.prog (H ++ L) 24 u (.int .i64 (a * cnt w h + to)) = some (elp u (a * cnt w h + to).toNat) := fun L => hT.idxA (e := 3) (by simp) k0 (by omega)
  have q2 : ∀ L, vload Try.prog (H ++ L) 3 (elp u (a * cnt w h + to).toNat) = some (.int .i64 (portOf w h T a to)) := fun L => hT.loadA (by simp) (by omega)
  simp [hI.one', hI.cells, hT.one', hT.cells, nodeCount_c, meshOk_c _ _ _ _ (hI.app _) hl, hz.1, inside_c, isN_inR, ha, hto, e0, e1, e2, q1, q2, hT.lenA, hTl]
  try refine br_dec _ ?_ ?_ <;> intro hr <;> simp [hr, q1, q2, e1, e2]
/-- what the program's walk gives back -/
def ret (H : Heap) (xs : List Int) : Value × Heap := if xs = [] then (.slice none 0 0, H) else (.slice (some ⟨H.length, 0, some 0⟩) xs.length 0, H ++ [⟨xs.map (.int .i64), 0, 3⟩])
theorem walk_c (w h : Int) (v u : Value) (b T : List Int) (a to : Int) (hI : IsI H v b) (hT : IsI H u T) (hl : b.length ≤ 1073741824) (hz : tsized w h b T) (ha : isN w h a) (hto : isN w h to) (hne : a ≠ to) :
   vcall C frz 37 [.agg #[.int .i64 w, .int .i64 h, v], .agg #[u], .int .i64 a, .int .i64 to] H = some (ret H (walk w h b T a to)) := by
  rw [vcall_go (fn := Try.f37) Try.func37 rfl (by kernel_rfl) rfl]
  have hc := cnt_range w h
  simp [hI.one', hI.cells, hT.one', hT.cells, nodeCount_c, meshOk_c _ _ _ _ (hI.app _) hl, hz.1, isNode_c, ha, hto, hne]
  refine go_inv (fun n t H' => ∃ (o : List Int) (g : Nat) (x : Int) (G : Heap), n = (cnt w h).toNat + 1 - o.length ∧ t 3 = .int .i64 to ∧ t 4 = .pointer (some ⟨H.length, 0, some 0⟩) ∧ t 5 = .pointer (some ⟨H.length + 1, 0, some 0⟩) ∧
    t 9 = .slice (some ⟨H.length + 2, 0, some g⟩) o.length 0 ∧ t 10 = .int .i64 x ∧
    H' = H ++ ⟨[.int .i64 w, .int .i64 h, v], 0, 37⟩ :: ⟨[u], 0, 39⟩ :: ⟨o.map (.int .i64), g, 3⟩ :: G ∧
    o.length ≤ (cnt w h).toNat ∧ isN w h x ∧ walkN w h b T to ((cnt w h).toNat - o.length) x o = walk w h b T a to ∧ (o = [] → x ≠ to)) ?_
    (n := (cnt w h).toNat + 1) ⟨[], 0, a, [], by simp [ha, walk, hne]⟩
  rintro n t H' ⟨o, g, x, G, rfl, h3, h4, h5, h9, h10, rfl, ho1, hx, hw, hox⟩ ih
  have hpa := fun F L => portAt_c (frz := F) (H := H ++ L) w h v u b T x to (hI.app _) (hT.app _) hl hz hx hto
  have hw0 : portOf w h T x to ≠ 4 → ¬ stepOk w h b T x to → walk w h b T a to = [] := fun hp hh => by
    rw [← hw]; cases (cnt w h).toNat - o.length <;> simp [walkN, hp, hh]
  simp [h3, h4, h5, h9, h10, hI.one', hI.cells, hT.one', hT.cells, hpa]
  have hnil : walk w h b T a to = [] → (Value.slice none 0 0, H) = ret H (walk w h b T a to) := fun hh => by rw [hh]; rfl
  by_cases hr : inR 0 (portOf w h T x to) 4
  · have hlt : ¬ portOf w h T x to < 0 := by have := hr.1; omega
    simp [hr, hlt]
    refine br_dec _ ?_ ?_ <;> intro hp
    · have hw' : walk w h b T a to = if x = to then o else [] := by
        rw [← hw]; cases (cnt w h).toNat - o.length <;> simp [walkN, hp]
      simp [h3, h4, h5, h9, h10, hp]
      refine br_dec _ ?_ ?_ <;> intro hq
      · have hon : o ≠ [] := fun hh => hox hh hq
        rw [if_pos hq] at hw'
        simp [h3, h4, h5, h9, h10, hq, hw', ret, hon]
      · rw [if_neg hq] at hw'
        simp [h3, h4, h5, h9, h10, hq, hw', ret]
    · have hr3 : inR 0 (portOf w h T x to) 3 := ⟨hr.1, by have := hr.2; omega⟩
      have e3 : IntKind.i64.wrap (4 * x) = 4 * x := w64 (by have := hx.1; omega) (by have := hx.2; omega)
      have e4 : IntKind.i64.wrap (4 * x + portOf w h T x to) = 4 * x + portOf w h T x to := w64 (by have := hx.1; have := hr.1; omega) (by have := hx.2; have := hr.2; omega)
      simp [h3, h4, h5, h9, h10, hp, hI.one', hI.cells, e3, e4, hasChannel_c _ _ _ _ _ (hI.app _) hl, hz.1]
      refine gd_dec _ _ ?_ ?_ <;> intro hh
      · obtain ⟨s1, s2, s3⟩ := step_next hr3 hh
        have he := fun F L => endOf_c (frz := F) (H := H ++ L) w h v b (4 * x + portOf w h T x to) (hI.app _) hh.1
        rw [s1, s2] at he
        simp [h3, h4, h5, h9, h10, hp, hh, hI.one', hI.cells, e3, e4, nodeCount_c]
        refine br_dec _ ?_ ?_ <;> intro hf
        · have hwz : walk w h b T a to = [] := by
            rw [show (cnt w h).toNat - o.length = 0 by omega] at hw
            rw [← hw, walkN, if_neg hp]
          simp [h3, h4, h5, h9, h10, hp, hh, hf, hnil hwz]
        · simp [h3, h4, h5, h9, h10, hp, hh, hf, hI.one', hI.cells, e3, e4]
          refine vneed_eq (by omega) ?_
          simp [h3, h4, h5, h9, h10, hp, hh, hf, hI.one', hI.cells, e3, e4, he]
          refine ih ((cnt w h).toNat + 1 - (o.length + 1)) _ _ ⟨o ++ [4 * x + portOf w h T x to], g + 1, next w h x (portOf w h T x to), _, by simp, by simp [h3], by simp [h4], by simp [h5], by simp, by simp, by simp; rfl, by simp; omega, s3, ?_, by simp⟩ (by omega)
          rw [show (cnt w h).toNat - o.length = ((cnt w h).toNat - (o ++ [4 * x + portOf w h T x to]).length) + 1 by simp; omega] at hw
          rw [← hw, walkN, if_neg hp, if_pos ⟨hr3, hh⟩]
      · simp [h3, h4, h5, h9, h10, hp, hh]
        exact hnil (hw0 hp (fun hs => hh hs.2))
  · simp [hr]
    refine hnil (hw0 (fun hp => hr ?_) fun hs => hr ⟨hs.1.1, by have := hs.1.2; omega⟩)
    rw [hp]; exact ⟨by omega, by omega⟩
end Go.Proofs.Ytlbbalmeaedbdaa.V
/-! Tables that are valid. -/
set_option linter.all false
namespace Go.Proofs.Ytlbbalmeaedbdaa.V
open Go Go.VM Go.Proofs
set_option maxRecDepth 10000
variable {frz : Nat} {H : Heap}
theorem sq_small (w h : Int) : IntKind.i64.wrap (cnt w h * cnt w h) = cnt w h * cnt w h := by
  have hc := cnt_range w h
  have hc2 : cnt w h * cnt w h ≤ 16 * 16 := Int.mul_le_mul hc.2 hc.2 hc.1 (by omega)
  have hc3 : 0 * 0 ≤ cnt w h * cnt w h := Int.mul_le_mul hc.1 hc.1 (by omega) hc.1
  exact w64 (by omega) (by omega)
theorem sized_c (w h : Int) (v u : Value) (b T : List Int) (hI : IsI H v b) (hT : IsI H u T) (hl : b.length ≤ 1073741824) :
   vcall C frz 72 [.agg #[.int .i64 w, .int .i64 h, v], .agg #[u]] H = some (.bool (decide (tsized w h b T)), H) := by
  rw [vcall_go (fn := Try.f72) Try.func72 rfl (by kernel_rfl) rfl]
  simp [hI.one', hI.cells, hT.one', hT.cells, sNodeCount_c, sMeshOk_c _ _ _ _ (hI.app _) hl]
  refine gd_dec _ _ ?_ ?_ <;> intro h1 <;> simp [h1, tsized, hT.lenA, sq_small, hI.one', hI.cells, hT.one', hT.cells, sNodeCount_c, -Bool.decide_and]
def good (w h : Int) (b T : List Int) (a c : Nat) : Prop := ((a : Int) = c → portOf w h T a a = 4) ∧ ((a : Int) ≠ c → walk w h b T a c ≠ [])
theorem tableOk_iff (w h : Int) (b T : List Int) : tableOk w h b T ↔ tsized w h b T ∧ ∀ a, a < (cnt w h).toNat → ∀ c, c < (cnt w h).toNat → good w h b T a c := by
  unfold tableOk good
  refine and_congr Iff.rfl ⟨fun k a ha c hc => ?_, fun k a ha c hc => ?_⟩
  · exact ⟨fun e => (k a ha c hc).1 (by omega), fun e => (k a ha c hc).2 (by omega)⟩
  · exact ⟨fun e => (k a ha c hc).1 (by omega), fun e => (k a ha c hc).2 (by omega)⟩
theorem isN_nat {w h : Int} {a : Nat} (k : a < (cnt w h).toNat) : isN w h a := ⟨by omega, by omega⟩
theorem sTableOk_c (w h : Int) (v u : Value) (b T : List Int) (hI : IsI H v b) (hT : IsI H u T) (hl : b.length ≤ 1073741824) :
   vcall C frz 47 [.agg #[.int .i64 w, .int .i64 h, v], .agg #[u]] H = some (.bool (decide (tableOk w h b T)), H) := by
  rw [vcall_go (fn := Try.f47) Try.func47 rfl (by kernel_rfl) rfl]
  simp [hI.one', hI.cells, hT.one', hT.cells, sNodeCount_c, sized_c _ _ _ _ _ _ (hI.app _) (hT.app _) hl]
  refine br_dec _ ?_ ?_ <;> intro h1
  · simp [h1, hI.one', hI.cells, hT.one', hT.cells, sNodeCount_c]
    have hc := cnt_range w h
    have no : ∀ i j : Nat, i < (cnt w h).toNat → j < (cnt w h).toNat → ¬ good w h b T i j → ¬ tableOk w h b T := fun i j hi hj hg hh => hg (((tableOk_iff w h b T).1 hh).2 i hi j hj)
    refine go_inv (fun n t H' => ∃ (i : Nat) (G : Heap), n = (cnt w h).toNat - i ∧ i ≤ (cnt w h).toNat ∧ t 2 = .pointer (some ⟨H.length, 0, some 0⟩) ∧ t 3 = .pointer (some ⟨H.length + 1, 0, some 0⟩) ∧
      t 5 = .int .i64 (cnt w h) ∧ t 6 = .int .i64 i ∧ H' = H ++ ⟨[.int .i64 w, .int .i64 h, v], 0, 37⟩ :: ⟨[u], 0, 39⟩ :: G ∧ ∀ a, a < i → ∀ c, c < (cnt w h).toNat → good w h b T a c) ?_
      (n := (cnt w h).toNat) ⟨0, [], by simp⟩
    rintro n t H' ⟨i, G, rfl, hi, h2, h3, h5, h6, rfl, hk⟩ ih
    simp [h2, h3, h5, h6]
    refine br_dec _ ?_ ?_ <;> intro hlt
    · simp [h2, h3, h5, h6, hlt]
      refine go_inv (fun n t H' => ∃ (j : Nat) (G : Heap), n = (cnt w h).toNat - j ∧ j ≤ (cnt w h).toNat ∧ t 2 = .pointer (some ⟨H.length, 0, some 0⟩) ∧ t 3 = .pointer (some ⟨H.length + 1, 0, some 0⟩) ∧
        t 5 = .int .i64 (cnt w h) ∧ t 6 = .int .i64 i ∧ t 7 = .int .i64 j ∧ H' = H ++ ⟨[.int .i64 w, .int .i64 h, v], 0, 37⟩ :: ⟨[u], 0, 39⟩ :: G ∧ ∀ c, c < j → good w h b T i c) ?_
        (n := (cnt w h).toNat) ⟨0, G, by simp [h2, h3, h5, h6]⟩
      clear h2 h3 h5 h6
      rintro n t H' ⟨j, G, rfl, hj, h2, h3, h5, h6, h7, rfl, hkj⟩ ih2
      simp [h2, h3, h5, h6, h7]
      refine br_dec _ ?_ ?_ <;> intro hlj
      · have ni : i < (cnt w h).toNat := by omega
        have nj : j < (cnt w h).toNat := by omega
        obtain ⟨k0, k1, k2, k3⟩ := at_small (isN_nat ni) (isN_nat ni)
        have hTl := h1.2
        have e1 : IntKind.i64.wrap (i * cnt w h) = i * cnt w h := w64 (by omega) (by omega)
        have e2 : IntKind.i64.wrap (i * cnt w h + i) = i * cnt w h + i := w64 (by omega) (by omega)
        have q1 : ∀ L, vindexAddr Try.prog (H ++ L) 24 u (.int .i64 (i * cnt w h + i)) = some (elp u (i * cnt w h + i : Int).toNat) := fun L => hT.idxA (e := 3) (by simp) k0 (by omega)
        have q2 : ∀ L, vload Try.prog (H ++ L) 3 (elp u (i * cnt w h + i : Int).toNat) = some (.int .i64 (portOf w h T i i)) := fun L => hT.loadA (by simp) (by omega)
        have sw := fun F L => sWalk_c (frz := F) (H := H ++ L) w h v u b T i j (hI.app _) (hT.app _) hl h1 (isN_nat ni) (isN_nat nj)
        have yes := fun (t' : Env) (G' : Heap) (x2 : t' 2 = .pointer (some ⟨H.length, 0, some 0⟩)) (x3 : t' 3 = .pointer (some ⟨H.length + 1, 0, some 0⟩)) (x5 : t' 5 = .int .i64 (cnt w h)) (x6 : t' 6 = .int .i64 i) (x7 : t' 7 = .int .i64 (j + 1 : Nat)) (hg : good w h b T i j) =>
          ih2 ((cnt w h).toNat - (j + 1)) t' _ ⟨j + 1, G', rfl, by omega, x2, x3, x5, x6, x7, rfl, fun c hc' => by
            by_cases hcj : c < j
            · exact hkj c hcj
            · have : c = j := by omega
              subst this; exact hg⟩ (by omega)
        simp [h2, h3, h5, h6, h7, hlj]
        refine gd_dec _ _ ?_ ?_ <;> intro hij
        · obtain rfl : i = j := by omega
          simp [h2, h3, h5, h6, h7, hlj, e1, e2, q1, q2]
          refine gd_dec _ _ ?_ ?_ <;> intro hp
          · simp [h2, h3, h5, h6, h7, hlj, hp]
            refine yes _ _ (by simp [h2]) (by simp [h3]) (by simp [h5]) (by simp [h6]) ?_ ⟨fun _ => hp, fun hh => absurd rfl hh⟩
            simp; rw [w64 (by omega) (by omega)]
          · simp [h2, h3, h5, h6, h7, hlj, hp]
            exact no i i ni ni (fun hg => hp (hg.1 rfl))
        · simp [h2, h3, h5, h6, h7, hlj, hij, hI.one', hI.cells, hT.one', hT.cells, sw]
          refine br_dec _ ?_ ?_ <;> intro hp
          · simp [h2, h3, h5, h6, h7, hlj, hp]
            exact no i j ni nj (fun hg => hg.2 hij hp)
          · simp [h2, h3, h5, h6, h7, hlj, hp]
            refine yes _ _ (by simp [h2]) (by simp [h3]) (by simp [h5]) (by simp [h6]) ?_ ⟨fun hh => absurd hh hij, fun _ => hp⟩
            simp; rw [w64 (by omega) (by omega)]
      · have : j = (cnt w h).toNat := by omega
        subst this
        simp [h2, h3, h5, h6, h7, hlj]
        refine ih ((cnt w h).toNat - (i + 1)) _ _ ⟨i + 1, G, rfl, by omega, by simp [h2], by simp [h3], by simp [h5], ?_, rfl, fun a ha c hc' => ?_⟩ (by omega)
        · simp; rw [w64 (by omega) (by omega)]
        · by_cases hai : a < i
          · exact hk a hai c hc'
          · have : a = i := by omega
            subst this; exact hkj c hc'
    · simp [h2, h3, h5, h6, hlt]
      have : i = (cnt w h).toNat := by omega
      subst this
      exact (tableOk_iff w h b T).2 ⟨h1, hk⟩
  · simp [h1]
    exact fun k => h1 k.1
def rowPairs (n a m : Nat) : List (Nat × Nat) := ((List.range m).filter (fun c => a ≠ c)).map fun c => (a, c)
/-- the pairs in the order of the visits -/
def allPairs (n m : Nat) : List (Nat × Nat) := (List.range m).flatMap fun a => rowPairs n a n
theorem rowPairs_eq (n a m : Nat) (h : a = m) : rowPairs n a (m + 1) = rowPairs n a m := by
  simp [rowPairs, List.range_succ, h]
theorem rowPairs_ne (n a m : Nat) (h : a ≠ m) : rowPairs n a (m + 1) = rowPairs n a m ++ [(a, m)] := by
  simp [rowPairs, List.range_succ, h]
theorem allPairs_succ (n m : Nat) : allPairs n (m + 1) = allPairs n m ++ rowPairs n m n := by
  simp [allPairs, List.range_succ]
theorem mem_allPairs {n a c : Nat} : (a, c) ∈ allPairs n n ↔ a < n ∧ c < n ∧ a ≠ c := by
  simp [allPairs, rowPairs]
theorem pairs_w (w h : Int) (f : Value) {Q : Value → Heap → Prop} (Inv : List (Nat × Nat) → Heap → Prop)
    (h0 : Inv [] (H ++ [⟨[.int .i64 w, .int .i64 h], 0, 35⟩]))
    (hs : ∀ (done : List (Nat × Nat)) (a c : Nat) (H' : Heap), a < (cnt w h).toNat → c < (cnt w h).toNat → a ≠ c → Inv done H' → wp (vclos (vcall C frz) f [.int .i64 a, .int .i64 c] H') fun r H'' => (r = .bool true ∧ Inv (done ++ [(a, c)]) H'') ∨ (r = .bool false ∧ Q (.bool false) H''))
    (he : ∀ H', Inv (allPairs (cnt w h).toNat (cnt w h).toNat) H' → Q (.bool true) H') :
    wp (vcall C frz 35 [.agg #[.int .i64 w, .int .i64 h], f] H) Q := by
  rw [vcall_go (fn := Try.f35) Try.func35 rfl (by kernel_rfl) rfl]
  have hc := cnt_range w h
  simp [nodeCount_c]
  refine wp_inv (fun n t H' => ∃ (i : Nat), n = (cnt w h).toNat - i ∧ i ≤ (cnt w h).toNat ∧ t 1 = f ∧ t 5 = .int .i64 (cnt w h) ∧ t 10 = .int .i64 (cnt w h) ∧ t 11 = .int .i64 i ∧
    Inv (allPairs (cnt w h).toNat i) H') ?_ (n := (cnt w h).toNat) ⟨0, by simp [allPairs, h0]⟩
  rintro n t H' ⟨i, rfl, hi, h1, h5, h10, h11, hk⟩ ih
  simp [h1, h5, h10, h11]
  refine wp_dec ?_ ?_ <;> intro hlt
  · simp [h1, h5, h10, h11, hlt]
    refine wp_inv (fun n t H' => ∃ (j : Nat), n = (cnt w h).toNat - j ∧ j ≤ (cnt w h).toNat ∧ t 1 = f ∧ t 5 = .int .i64 (cnt w h) ∧ t 10 = .int .i64 (cnt w h) ∧ t 11 = .int .i64 i ∧ t 6 = .int .i64 i ∧ t 14 = .int .i64 (cnt w h) ∧ t 15 = .int .i64 j ∧
      Inv (allPairs (cnt w h).toNat i ++ rowPairs (cnt w h).toNat i j) H') ?_ (n := (cnt w h).toNat) ⟨0, by simp [h1, h5, h10, h11, rowPairs, hk]⟩
    clear h1 h5 h10 h11 hk
    rintro n t H' ⟨j, rfl, hj, h1, h5, h10, h11, h6, h14, h15, hk⟩ ih2
    simp [h1, h5, h10, h11, h6, h14, h15]
    refine wp_dec ?_ ?_ <;> intro hlj
    · have ni : i < (cnt w h).toNat := by omega
      have nj : j < (cnt w h).toNat := by omega
      have yes := fun (t' : Env) (H' : Heap) (x1 : t' 1 = f) (x5 : t' 5 = .int .i64 (cnt w h)) (x10 : t' 10 = .int .i64 (cnt w h)) (x11 : t' 11 = .int .i64 i) (x6 : t' 6 = .int .i64 i) (x14 : t' 14 = .int .i64 (cnt w h)) (x15 : t' 15 = .int .i64 (j + 1 : Nat)) (hg : Inv (allPairs (cnt w h).toNat i ++ rowPairs (cnt w h).toNat i (j + 1)) H') =>
        ih2 ((cnt w h).toNat - (j + 1)) t' H' ⟨j + 1, rfl, by omega, x1, x5, x10, x11, x6, x14, x15, hg⟩ (by omega)
      simp [h1, h5, h10, h11, h6, h14, h15, hlj]
      refine wpg_dec ?_ ?_ <;> intro hij
      · simp [h1, h5, h10, h11, h6, h14, h15, hlj, hij]
        refine yes _ _ (by simp [h1]) (by simp [h5]) (by simp [h10]) (by simp [h11]) (by simp [h6]) (by simp [h14]) ?_ (by rw [rowPairs_eq _ _ _ (by omega)]; exact hk)
        simp; rw [w64 (by omega) (by omega)]
      · simp [h1, h5, h10, h11, h6, h14, h15, hlj, hij]
        refine wp_thn (hs _ i j H' ni nj (by omega) hk) ?_
        rintro r H'' (⟨rfl, hq⟩ | ⟨rfl, hq⟩)
        · simp [h1, h5, h10, h11, h6, h14, h15, hlj, hij]
          refine yes _ _ (by simp [h1]) (by simp [h5]) (by simp [h10]) (by simp [h11]) (by simp [h6]) (by simp [h14]) ?_ (by rw [rowPairs_ne _ _ _ (by omega), ← List.append_assoc]; exact hq)
          simp; rw [w64 (by omega) (by omega)]
        · simp [h1, h5, h10, h11, h6, h14, h15, hlj, hij]
          exact hq
    · have : j = (cnt w h).toNat := by omega
      subst this
      simp [h1, h5, h10, h11, h6, h14, h15, hlj]
      refine ih ((cnt w h).toNat - (i + 1)) _ _ ⟨i + 1, rfl, by omega, by simp [h1], by simp [h5], by simp [h10], ?_, by rw [allPairs_succ]; exact hk⟩ (by omega)
      · simp; rw [w64 (by omega) (by omega)]
  · simp [h1, h5, h10, h11, hlt]
    have : i = (cnt w h).toNat := by omega
    subst this
    exact he _ hk
theorem tableOk1_c (w h : Int) (v u : Value) (b T : List Int) (a c : Int) (r1 r2 : Nat) (hI : IsI H v b) (hT : IsI H u T) (hl : b.length ≤ 1073741824) (hz : tsized w h b T) (ha : isN w h a) (hto : isN w h c) (hne : a ≠ c)
    (g1 : H[r1]? = some ⟨[.int .i64 w, .int .i64 h, v], 0, 37⟩) (g2 : H[r2]? = some ⟨[u], 0, 39⟩) :
   vcall C frz 77 [.int .i64 a, .int .i64 c, .pointer (some ⟨r1, 0, some 0⟩), .pointer (some ⟨r2, 0, some 0⟩)] H = some (.bool (!decide (walk w h b T a c = [])), H) := by
  rw [vcall_go (fn := Try.f77) Try.func77 rfl (by kernel_rfl) rfl]
  simp [VM.look, g1, g2, hI.one', hI.cells, hT.one', hT.cells, walk_c _ _ _ _ _ _ _ _ hI hT hl hz ha hto hne]
  by_cases hw : walk w h b T a c = []
  · simp [ret, hw]
  · have : 0 < (walk w h b T a c).length := List.length_pos_iff.2 hw
    simp [ret, hw, this]
theorem tableOk_w (w h : Int) (v u : Value) (b T : List Int) (hI : IsI H v b) (hT : IsI H u T) (hl : b.length ≤ 1073741824) :
   wp (vcall C frz 54 [.agg #[.int .i64 w, .int .i64 h, v], .agg #[u]] H) (fun r _ => r = .bool (decide (tableOk w h b T))) := by
  rw [vcall_go (fn := Try.f54) Try.func54 rfl (by kernel_rfl) rfl]
  simp [hI.one', hI.cells, hT.one', hT.cells, nodeCount_c, meshOk_c _ _ _ _ (hI.app _) hl]
  refine wpg_dec ?_ ?_ <;> intro hm
  · simp [hm, hT.lenA, sq_small]
    refine wp_dec ?_ ?_ <;> intro hz
    · simp [hz]
      have hs : tsized w h b T := ⟨hm, hz⟩
      have hc := cnt_range w h
      refine wp_inv (fun n t H' => ∃ (i : Nat), n = (cnt w h).toNat - i ∧ i ≤ (cnt w h).toNat ∧ t 2 = .pointer (some ⟨H.length, 0, some 0⟩) ∧ t 3 = .pointer (some ⟨H.length + 1, 0, some 0⟩) ∧ t 5 = .int .i64 (cnt w h) ∧ t 22 = .int .i64 (cnt w h) ∧ t 23 = .int .i64 i ∧
        H' = H ++ [⟨[.int .i64 w, .int .i64 h, v], 0, 37⟩, ⟨[u], 0, 39⟩] ∧ ∀ a, a < i → portOf w h T a a = 4) ?_ (n := (cnt w h).toNat) ⟨0, by simp⟩
      rintro n t H' ⟨i, rfl, hi, h2, h3, h5, h22, h23, rfl, hk⟩ ih
      simp [h2, h3, h5, h22, h23]
      refine wp_dec ?_ ?_ <;> intro hlt
      · have ni : i < (cnt w h).toNat := by omega
        obtain ⟨k0, k1, k2, k3⟩ := at_small (isN_nat ni) (isN_nat ni)
        have e1 : IntKind.i64.wrap (i * cnt w h) = i * cnt w h := w64 (by omega) (by omega)
        have e2 : IntKind.i64.wrap (i * cnt w h + i) = i * cnt w h + i := w64 (by omega) (by omega)
        have q1 : ∀ L, vindexAddr Try.prog (H ++ L) 24 u (.int .i64 (i * cnt w h + i)) = some (elp u (i * cnt w h + i : Int).toNat) := fun L => hT.idxA (e := 3) (by simp) k0 (by omega)
        have q2 : ∀ L, vload Try.prog (H ++ L) 3 (elp u (i * cnt w h + i : Int).toNat) = some (.int .i64 (portOf w h T i i)) := fun L => hT.loadA (by simp) (by omega)
        simp [h2, h3, h5, h22, h23, hlt, e1, e2, q1, q2]
        refine wp_dec ?_ ?_ <;> intro hp
        · simp [h2, h3, h5, h22, h23, hlt, hp]
          refine ih ((cnt w h).toNat - (i + 1)) _ _ ⟨i + 1, rfl, by omega, by simp [h2], by simp [h3], by simp [h5], by simp [h22], ?_, rfl, fun a ha => ?_⟩ (by omega)
          · simp; rw [w64 (by omega) (by omega)]
          · by_cases hai : a < i
            · exact hk a hai
            · have : a = i := by omega
              subst this; exact hp
        · simp [h2, h3, h5, h22, h23, hlt, hp]
          exact fun hh => hp ((hh.2 i ni i ni).1 rfl)
      · simp [h2, h3, h5, h22, h23, hlt]
        have : i = (cnt w h).toNat := by omega
        subst this
        refine wp_thn (pairs_w w h _ (Q := fun r _ => r = .bool (decide (tableOk w h b T))) (fun done H' => ∃ L, H' = H ++ [⟨[.int .i64 w, .int .i64 h, v], 0, 37⟩, ⟨[u], 0, 39⟩] ++ L ∧ ∀ p ∈ done, walk w h b T p.1 p.2 ≠ []) ⟨_, rfl, by simp⟩ ?_ ?_) ?_
        · rintro done a c _ ha hc' hne ⟨L, rfl, hd⟩
          simp
          rw [tableOk1_c w h v u b T a c _ _ (hI.app _) (hT.app _) hl hs (isN_nat ha) (isN_nat hc') (by omega) (by simp) (by simp)]
          simp
          by_cases hw : walk w h b T a c = []
          · refine .inr ⟨hw, ?_⟩
            exact fun hh => (hh.2 a (by omega) c (by omega)).2 (by omega) hw
          · refine .inl ⟨hw, fun p q hp => ?_⟩
            rcases hp with hp | ⟨rfl, rfl⟩
            · exact hd (p, q) hp
            · exact hw
        · rintro _ ⟨L, rfl, hd⟩
          simp
          exact ⟨hs, fun a ha c hc' => ⟨fun _ => hk a ha, fun hne => hd (a, c) (mem_allPairs.2 ⟨ha, hc', hne⟩)⟩⟩
        · rintro _ H' rfl
          simp
    · simp [hz]
      exact fun hh => hz hh.1.2
  · simp [hm]
    exact fun hh => hm hh.1.1
theorem tableOk_c (w h : Int) (v u : Value) (b T : List Int) (hI : IsI H v b) (hT : IsI H u T) (hl : b.length ≤ 1073741824) :
   vcall C frz 54 [.agg #[.int .i64 w, .int .i64 h, v], .agg #[u]] H = some (.bool (decide (tableOk w h b T)), H) :=
  (tableOk_w w h v u b T hI hT hl).exact (by simp) rfl
end Go.Proofs.Ytlbbalmeaedbdaa.V
/-! Dependencies of tables: the program's. -/
set_option linter.all false
namespace Go.Proofs.Ytlbbalmeaedbdaa.V
open Go Go.VM Go.Proofs
set_option maxRecDepth 10000
variable {frz : Nat} {H : Heap} {v : Value} {xs ys : List Int} {e : TypeId}
@[simp] theorem cells_func (g : Fn) (a b : Array Value) : (Value.func g a b).cells = #[Value.func g a b] := rfl
@[simp] theorem one_func (g : Fn) (a b : Array Value) : VM.one (Value.func g a b) = true := rfl
def key (a b : Int) : Int := 1024 * a + b
theorem dv_key {a b : Int} (h : 0 ≤ b ∧ b < 1024) : dv (key a b) = .agg #[.int .i64 a, .int .i64 b] := by
  have e1 : key a b / 1024 = a := by unfold key; omega
  have e2 : key a b % 1024 = b := by unfold key; omega
  rw [dv, e1, e2]
theorem compare_c (x y : Int) (hx : KB x) (hy : KB y) : vcall C frz 66 [dv x, dv y] H = some (.int .i64 (cmpZ x y), H) := by
  rw [vcall_go (fn := Try.f66) Try.func66 rfl (by kernel_rfl) rfl]
  have h1 := hx.1; have h2 := hx.2; have h3 := hy.1; have h4 := hy.2
  have e1 : ∀ [Inhabited Unit], IntKind.i64.wrap (x / 1024 - y / 1024) = x / 1024 - y / 1024 := by intro _; exact w64 (by omega) (by omega)
  have e2 : ∀ [Inhabited Unit], IntKind.i64.wrap (x % 1024 - y % 1024) = x % 1024 - y % 1024 := by intro _; exact w64 (by omega) (by omega)
  simp [dv]
  refine br_dec _ ?_ ?_ <;> intro g <;> simp [g, e1, e2, cmpZ]
theorem arranged_e (v : Value) (xs : List Int) (h : OwE 61 H v xs) (hl : xs.length ≤ 1073741824) (hf : ∀ i ∈ ids v, frz ≤ i) (hF : frz ≤ H.length) :
   wp (vcall C frz 38 [v] H) (fun u H' => OwE 61 H' u (arrK xs) ∧ (∀ i ∈ ids u, i ∈ ids v) ∧ Chg H H' (ids v)) := by
  rw [vcall_go (fn := Try.f38) Try.func38 rfl (by kernel_rfl) rfl]
  simp
  refine wp_thn (sortF_e (cf := .func (.func 66) #[] #[]) (fun F K x y hx hy => by simp [compare_c x y hx hy]) v xs _ h hl hf hF) ?_
  rintro _ H1 ⟨ys, y1, y2, o1, c1⟩
  simp
  refine wp_thn (compact_e v ys o1 (by rw [y2.length_eq]; exact hl) hf) ?_
  rintro u H2 ⟨o2, n2, c2⟩
  simp
  obtain ⟨q1, q2⟩ := compact_sorted y1
  have : compact ys = arrK xs := strict_ext q1 (arrK_asc _) fun x => by rw [q2, mem_arrK, y2.mem_iff]
  rw [this] at o2
  exact ⟨o2, n2, c1.trans c2⟩
/-- both are channels -/
def CB (a b : Int) : Prop := (0 ≤ a ∧ a < 1024) ∧ 0 ≤ b ∧ b < 1024
theorem CB.kb {a b : Int} (h : CB a b) : KB (key a b) := by obtain ⟨⟨h1, h2⟩, h3, h4⟩ := h; unfold KB key; omega
theorem dw_push (o : OwE 61 H v xs) {a b : Int} (hb : CB a b) (hl : xs.length + 1 ≤ 1073741824) (hf : ∀ i ∈ ids v, frz ≤ i) :
    ∃ v' H', vappend Try.prog frz (H ++ [⟨[.int .i64 a, .int .i64 b], 0, 61⟩]) 33 33 v (.slice (some ⟨H.length, 0, some 0⟩) 1 0) = some (v', H') ∧ OwE 61 H' v' (xs ++ [key a b]) ∧ Chg H H' (ids v) ∧ ∀ i ∈ ids v', i ∈ ids v ∨ H.length ≤ i := by
  obtain ⟨v', H', h1, h2, h3, h4⟩ := o.1.push (P := Try.prog) (frz := frz) (ty := 33) (a := key a b) (by simp) rfl hl hf
  have e : Fl.dep.f (key a b) = [.int .i64 a, .int .i64 b] := by
    have := dv_key (a := a) hb.2
    rw [← dv_agg] at this
    injection this with this
    exact List.toArray_inj this
  rw [e] at h1
  exact ⟨v', H', h1, ⟨h2, o.2.app fun x hx => by rw [List.mem_singleton.1 hx]; exact hb.kb⟩, h3, h4⟩
/-- the list that is made: a box holds it -/
def BoxD (H : Heap) (r : Nat) (x : Value) (xs : List Int) : Prop := H[r]? = some ⟨[x], 0, 33⟩ ∧ OwE 61 H x xs ∧ r ∉ ids x
theorem dependsOf1_w (r : Nat) (x : Value) (xs : List Int) (a b : Int) (h : BoxD H r x xs) (hb : CB a b) (hl : xs.length + 1 ≤ 1073741824) (hf : ∀ i ∈ ids x, frz ≤ i) (hr : frz ≤ r) :
   wp (vcall C frz 56 [.int .i64 a, .int .i64 b, .pointer (some ⟨r, 0, some 0⟩)] H) (fun _ H' => ∃ x', BoxD H' r x' (xs ++ [key a b]) ∧ (∀ i ∈ ids x', i ∈ ids x ∨ H.length ≤ i) ∧ Chg H H' (r :: ids x)) := by
  obtain ⟨g, o, nr⟩ := h
  rw [vcall_go (fn := Try.f56) Try.func56 rfl (by kernel_rfl) rfl]
  obtain ⟨x', H2, hap, o2, c2, n2⟩ := dw_push o hb hl hf
  have hlt := box_lt g
  have g2 : H2[r]? = some ⟨[x], 0, 33⟩ := box_chg g c2 nr
  have on := And.intro o.rd.one' o.rd.cells
  have on2 := And.intro o2.rd.one' o2.rd.cells
  simp [VM.look, g, on, hap]
  simp [VM.look, g2, on2, hr]
  have nr2 : r ∉ ids x' := fun hh => by
    rcases n2 r hh with q | q
    · exact nr q
    · omega
  refine ⟨x', ⟨set_get g2, o2.chg (chg_set _ _) (fun i hi hh => by simp at hh; subst hh; exact nr2 hi), nr2⟩, n2, (c2.mono (by simp +contextual)).trans ((chg_set _ _).mono (by simp))⟩
theorem rowPairs_len (n a m : Nat) : (rowPairs n a m).length ≤ m := by
  unfold rowPairs
  rw [List.length_map]
  exact Nat.le_trans (List.length_filter_le ..) (by simp)
theorem allPairs_len (n : Nat) : ∀ m, (allPairs n m).length ≤ m * n
  | 0 => by simp [allPairs]
  | m + 1 => by
    rw [allPairs_succ, List.length_append, Nat.succ_mul]
    have := allPairs_len n m
    have := rowPairs_len n m n
    omega
theorem pairs_len (n i j : Nat) (hi : i < n) (hj : j ≤ n) (hn : n ≤ 16) : (allPairs n i ++ rowPairs n i j).length ≤ 256 := by
  rw [List.length_append]
  have h1 := allPairs_len n i
  have h2 := rowPairs_len n i j
  have h3 : i * n ≤ 15 * 16 := Nat.mul_le_mul (by omega) hn
  omega
theorem pairsB_w (w h : Int) (f : Value) {Q : Value → Heap → Prop} (Inv : List (Nat × Nat) → Heap → Prop)
    (h0 : Inv [] (H ++ [⟨[.int .i64 w, .int .i64 h], 0, 35⟩]))
    (hs : ∀ (done : List (Nat × Nat)) (a c : Nat) (H' : Heap), a < (cnt w h).toNat → c < (cnt w h).toNat → a ≠ c → done.length ≤ 256 → Inv done H' → wp (vclos (vcall C frz) f [.int .i64 a, .int .i64 c] H') fun r H'' => (r = .bool true ∧ Inv (done ++ [(a, c)]) H'') ∨ (r = .bool false ∧ Q (.bool false) H''))
    (he : ∀ H', Inv (allPairs (cnt w h).toNat (cnt w h).toNat) H' → Q (.bool true) H') :
    wp (vcall C frz 35 [.agg #[.int .i64 w, .int .i64 h], f] H) Q := by
  rw [vcall_go (fn := Try.f35) Try.func35 rfl (by kernel_rfl) rfl]
  have hc := cnt_range w h
  simp [nodeCount_c]
  refine wp_inv (fun n t H' => ∃ (i : Nat), n = (cnt w h).toNat - i ∧ i ≤ (cnt w h).toNat ∧ t 1 = f ∧ t 5 = .int .i64 (cnt w h) ∧ t 10 = .int .i64 (cnt w h) ∧ t 11 = .int .i64 i ∧
    Inv (allPairs (cnt w h).toNat i) H') ?_ (n := (cnt w h).toNat) ⟨0, by simp [allPairs, h0]⟩
  rintro n t H' ⟨i, rfl, hi, h1, h5, h10, h11, hk⟩ ih
  simp [h1, h5, h10, h11]
  refine wp_dec ?_ ?_ <;> intro hlt
  · simp [h1, h5, h10, h11, hlt]
    refine wp_inv (fun n t H' => ∃ (j : Nat), n = (cnt w h).toNat - j ∧ j ≤ (cnt w h).toNat ∧ t 1 = f ∧ t 5 = .int .i64 (cnt w h) ∧ t 10 = .int .i64 (cnt w h) ∧ t 11 = .int .i64 i ∧ t 6 = .int .i64 i ∧ t 14 = .int .i64 (cnt w h) ∧ t 15 = .int .i64 j ∧
      Inv (allPairs (cnt w h).toNat i ++ rowPairs (cnt w h).toNat i j) H') ?_ (n := (cnt w h).toNat) ⟨0, by simp [h1, h5, h10, h11, rowPairs, hk]⟩
    clear h1 h5 h10 h11 hk
    rintro n t H' ⟨j, rfl, hj, h1, h5, h10, h11, h6, h14, h15, hk⟩ ih2
    simp [h1, h5, h10, h11, h6, h14, h15]
    refine wp_dec ?_ ?_ <;> intro hlj
    · have ni : i < (cnt w h).toNat := by omega
      have nj : j < (cnt w h).toNat := by omega
      have yes := fun (t' : Env) (H' : Heap) (x1 : t' 1 = f) (x5 : t' 5 = .int .i64 (cnt w h)) (x10 : t' 10 = .int .i64 (cnt w h)) (x11 : t' 11 = .int .i64 i) (x6 : t' 6 = .int .i64 i) (x14 : t' 14 = .int .i64 (cnt w h)) (x15 : t' 15 = .int .i64 (j + 1 : Nat)) (hg : Inv (allPairs (cnt w h).toNat i ++ rowPairs (cnt w h).toNat i (j + 1)) H') =>
        ih2 ((cnt w h).toNat - (j + 1)) t' H' ⟨j + 1, rfl, by omega, x1, x5, x10, x11, x6, x14, x15, hg⟩ (by omega)
      simp [h1, h5, h10, h11, h6, h14, h15, hlj]
      refine wpg_dec ?_ ?_ <;> intro hij
      · simp [h1, h5, h10, h11, h6, h14, h15, hlj, hij]
        refine yes _ _ (by simp [h1]) (by simp [h5]) (by simp [h10]) (by simp [h11]) (by simp [h6]) (by simp [h14]) ?_ (by rw [rowPairs_eq _ _ _ (by omega)]; exact hk)
        simp; rw [w64 (by omega) (by omega)]
      · simp [h1, h5, h10, h11, h6, h14, h15, hlj, hij]
        refine wp_thn (hs _ i j H' ni nj (by omega) (pairs_len _ _ _ (by omega) hj (by have := cnt_range w h; omega)) hk) ?_
        rintro r H'' (⟨rfl, hq⟩ | ⟨rfl, hq⟩)
        · simp [h1, h5, h10, h11, h6, h14, h15, hlj, hij]
          refine yes _ _ (by simp [h1]) (by simp [h5]) (by simp [h10]) (by simp [h11]) (by simp [h6]) (by simp [h14]) ?_ (by rw [rowPairs_ne _ _ _ (by omega), ← List.append_assoc]; exact hq)
          simp; rw [w64 (by omega) (by omega)]
        · simp [h1, h5, h10, h11, h6, h14, h15, hlj, hij]
          exact hq
    · have : j = (cnt w h).toNat := by omega
      subst this
      simp [h1, h5, h10, h11, h6, h14, h15, hlj]
      refine ih ((cnt w h).toNat - (i + 1)) _ _ ⟨i + 1, rfl, by omega, by simp [h1], by simp [h5], by simp [h10], ?_, by rw [allPairs_succ]; exact hk⟩ (by omega)
      · simp; rw [w64 (by omega) (by omega)]
  · simp [h1, h5, h10, h11, hlt]
    have : i = (cnt w h).toNat := by omega
    subst this
    exact he _ hk
/-- keys of the neighbours in a walk -/
def adjN (l : List Int) (i : Nat) : List Int := (List.range i).map fun k => key (G l k) (G l (k + 1))
def adjK (l : List Int) : List Int := adjN l (l.length - 1)
theorem adjN_succ (l : List Int) (i : Nat) : adjN l (i + 1) = adjN l i ++ [key (G l i) (G l (i + 1))] := by simp [adjN, List.range_succ]
theorem adjN_len (l : List Int) (i : Nat) : (adjN l i).length = i := by simp [adjN]
/-- the list grows; what else has changed lies in D -/
def DI (K : Heap) (r : Nat) (D : List Nat) (xs : List Int) (H' : Heap) : Prop := ∃ x, BoxD H' r x xs ∧ (∀ i ∈ ids x, i ∈ D ∨ K.length ≤ i) ∧ Chg K H' (r :: D)
theorem DI.trans {K K1 H' : Heap} {r : Nat} {D : List Nat} {x0 : Value} {xs : List Int} (c : Chg K K1 (r :: D)) (n : ∀ i ∈ ids x0, i ∈ D ∨ K.length ≤ i) (h : DI K1 r (ids x0) xs H') : DI K r D xs H' := by
  obtain ⟨x, bx, nx, ch⟩ := h
  have := c.1
  refine ⟨x, bx, fun i hi => ?_, c.trans' ch fun i hi => ?_⟩
  · rcases nx i hi with q | q
    · exact n i q
    · right; omega
  · rcases List.mem_cons.1 hi with rfl | hi
    · exact .inl (List.mem_cons_self ..)
    · rcases n i hi with q | q
      · exact .inl (List.mem_cons_of_mem _ q)
      · exact .inr q
theorem ret_made (H : Heap) (xs : List Int) : ∃ z L, V.ret H xs = (z, H ++ L) ∧ IsI (H ++ L) z xs ∧ ∀ i ∈ ids z, H.length ≤ i ∧ i < (H ++ L).length := by
  unfold V.ret
  split
  · rename_i h; subst h
    exact ⟨_, [], by rw [List.append_nil], .inl ⟨rfl, rfl⟩, fun i hi => by simp at hi⟩
  · exact ⟨_, _, rfl, IsI.at0 rfl, fun i hi => by simp at hi; subst hi; simp⟩
theorem adjacent1_w (w h : Int) (v u : Value) (b T : List Int) (K : Heap) (r r1 r2 r3 : Nat) (D : List Nat) (a c : Nat) (xs : List Int) (hI : IsI K v b) (hT : IsI K u T) (hl : b.length ≤ 1073741824) (hz : tsized w h b T)
    (ha : a < (cnt w h).toNat) (hc : c < (cnt w h).toNat) (hne : a ≠ c) (hw : ∀ x ∈ walk w h b T a c, 0 ≤ x ∧ x < 1024) (hx : xs.length ≤ 1048576)
    (g1 : K[r1]? = some ⟨[.int .i64 w, .int .i64 h, v], 0, 37⟩) (g2 : K[r2]? = some ⟨[u], 0, 39⟩) (g3 : K[r3]? = some ⟨[.func (.func 56) #[] #[.pointer (some ⟨r, 0, some 0⟩)]], 0, 82⟩)
    (n1 : r1 ∉ r :: D) (n2 : r2 ∉ r :: D) (n3 : r3 ∉ r :: D) (nv : ∀ i ∈ ids v, i ∉ r :: D) (nu : ∀ i ∈ ids u, i ∉ r :: D) (hr : frz ≤ r) (hD : ∀ i ∈ D, frz ≤ i) (hK : frz ≤ K.length) (hd : DI K r D xs H) :
   wp (vcall C frz 78 [.int .i64 a, .int .i64 c, .pointer (some ⟨r1, 0, some 0⟩), .pointer (some ⟨r2, 0, some 0⟩), .pointer (some ⟨r3, 0, some 0⟩)] H) (fun u H' => u = .bool true ∧ DI K r D (xs ++ adjK (walk w h b T a c)) H') := by
  obtain ⟨x, ⟨bx, o, nr⟩, nx, ch⟩ := hd
  have b1 := box_chg g1 ch n1
  have b2 := box_chg g2 ch n2
  have b3 := box_chg g3 ch n3
  rw [vcall_go (fn := Try.f78) Try.func78 rfl (by kernel_rfl) rfl]
  have hIH := (hI.rd.chg ch nv).isI
  have hTH := (hT.rd.chg ch nu).isI
  obtain ⟨z, L, e0, hz1, hz2⟩ := ret_made H (walk w h b T a c)
  have wc := fun F => walk_c (frz := F) w h v u b T a c hIH hTH hl hz (isN_nat ha) (isN_nat hc) (by omega)
  have wl : (walk w h b T a c).length ≤ 256 := by
    have := walkN_len w h b T c (cnt w h).toNat a []
    have := cnt_range w h
    unfold walk; simp at *; omega
  have onv := And.intro hI.one' hI.cells
  have onu := And.intro hT.one' hT.cells
  generalize hws : walk w h b T a c = ws at *
  simp [VM.look, b1, b2, wc, e0, onv, onu]
  have hrH := box_lt bx
  have oL := o.lt
  refine wp_inv (fun n t H' => ∃ i : Nat, n = ws.length - i ∧ 1 ≤ i ∧ i ≤ max 1 ws.length ∧ t 4 = .pointer (some ⟨r3, 0, some 0⟩) ∧ t 8 = z ∧ t 9 = .int .i64 i ∧ DI (H ++ L) r (ids x) (xs ++ adjN ws (i - 1)) H') ?_ (n := ws.length - 1)
    ⟨1, rfl, by omega, by omega, by simp, by simp, by simp, x, ⟨get_app' bx _, by simpa [adjN] using o.app, nr⟩, fun i hi => .inl hi, Chg.refl _⟩
  rintro n t H' ⟨i, rfl, hi1, hi2, t4, t8, t9, di⟩ ih
  obtain ⟨x1, ⟨bx1, o1, nr1⟩, nx1, ch1⟩ := di
  have zH : IsI H' z ws := (hz1.rd.chg ch1 fun j hj hh => by
    have := (hz2 j hj).1
    rcases List.mem_cons.1 hh with rfl | hh
    · omega
    · have := oL j hh; omega).isI
  have b3' : H'[r3]? = some ⟨[.func (.func 56) #[] #[.pointer (some ⟨r, 0, some 0⟩)]], 0, 82⟩ := box_chg (get_app' b3 L) ch1 (fun hh => by
    rcases List.mem_cons.1 hh with q | hh
    · exact n3 (q ▸ List.mem_cons_self ..)
    · rcases nx r3 hh with q | q
      · exact n3 (List.mem_cons_of_mem _ q)
      · have := box_lt g3; omega)
  simp [t4, t8, t9, zH.len]
  refine wp_dec ?_ ?_ <;> intro hlt
  · have e1 : ∀ [Inhabited Unit], IntKind.i64.wrap ((i : Int) - 1) = ((i - 1 : Nat) : Int) := by intro _; rw [w64 (by omega) (by omega)]; omega
    have p1 : ∀ (k : Nat), k < ws.length → vindexAddr Try.prog H' 24 z (.int .i64 k) = some (elp z k) ∧ vload Try.prog H' 3 (elp z k) = some (.int .i64 (G ws k)) := fun k hk => by
      refine ⟨?_, zH.load (by simp) hk⟩
      have := zH.idx (P := Try.prog) (ty := 24) (e := 3) (by simp) (i := (k : Int)) (by omega) (by omega)
      simpa using this
    have q1 := p1 i (by omega)
    have q2 := p1 (i - 1) (by omega)
    have cb : CB (G ws (i - 1)) (G ws i) := by
      rw [G_get (by omega : i - 1 < ws.length), G_get (by omega : i < ws.length)]
      exact ⟨hw _ (List.getElem_mem _), hw _ (List.getElem_mem _)⟩
    have hn : (adjN ws (i - 1)).length = i - 1 := adjN_len _ _
    simp [t4, t8, t9]
    rw [go_draw (h := by kernel_rfl)]
    simp [VM.look, t4, t8, t9, b3', e1, q1, q2]
    refine wp_thn (dependsOf1_w r x1 _ (G ws (i - 1)) (G ws i) ⟨bx1, o1, nr1⟩ cb (by simp [hn]; omega) (fun j hj => ?_) hr) ?_
    · rcases nx1 j hj with q | q
      · rcases nx j q with q | q
        · exact hD j q
        · omega
      · have := ch.1; simp at q; omega
    rintro _ H2 ⟨x2, bx2, nx2, c2⟩
    simp [t4, t8, t9]
    refine ih (ws.length - (i + 1)) _ _ ⟨i + 1, rfl, by omega, by omega, by simp [t4], by simp [t8], ?_, ?_⟩ (by omega)
    · simp; rw [w64 (by omega) (by omega)]
    · have e3 : adjN ws (i + 1 - 1) = adjN ws (i - 1) ++ [key (G ws (i - 1)) (G ws i)] := by
        have := adjN_succ ws (i - 1)
        rw [show i - 1 + 1 = i by omega] at this
        exact this
      rw [e3, ← List.append_assoc]
      exact DI.trans ch1 nx1 ⟨x2, bx2, nx2, c2⟩
  · simp
    have e3 : adjN ws (i - 1) = adjK ws := by
      unfold adjK
      by_cases h0 : ws.length = 0
      · rw [show i - 1 = ws.length - 1 by omega]
      · rw [show i - 1 = ws.length - 1 by omega]
    rw [← e3]
    refine DI.trans (x0 := x) (K1 := H ++ L) (ch.trans' (Chg.app (r :: D)) fun j hj => .inl hj) nx ⟨x1, ⟨bx1, o1, nr1⟩, nx1, ch1⟩
def walkAdj (w h : Int) (b T : List Int) (l : List (Nat × Nat)) : List Int := l.flatMap fun p => adjK (walk w h b T p.1 p.2)
theorem walkAdj_snoc (w h : Int) (b T : List Int) (l : List (Nat × Nat)) (p : Nat × Nat) : walkAdj w h b T (l ++ [p]) = walkAdj w h b T l ++ adjK (walk w h b T p.1 p.2) := by simp [walkAdj]
theorem walk_lenE (w h : Int) (b T : List Int) (a c : Int) : (walk w h b T a c).length ≤ 256 := by
  have := walkN_len w h b T c (cnt w h).toNat a []
  have := cnt_range w h
  unfold walk; simp at *; omega
theorem walkAdj_len (w h : Int) (b T : List Int) (l : List (Nat × Nat)) : (walkAdj w h b T l).length ≤ 256 * l.length := by
  induction l with
  | nil => simp [walkAdj]
  | cons p l ih =>
    have e : walkAdj w h b T (p :: l) = adjK (walk w h b T p.1 p.2) ++ walkAdj w h b T l := rfl
    rw [e, List.length_append, List.length_cons]
    have h1 := walk_lenE w h b T p.1 p.2
    have h2 : (adjK (walk w h b T p.1 p.2)).length = (walk w h b T p.1 p.2).length - 1 := adjN_len _ _
    omega
theorem adjacent_w (w h : Int) (v u : Value) (b T : List Int) (r : Nat) (x0 : Value) (hI : IsI H v b) (hT : IsI H u T) (hl : b.length ≤ 1073741824) (hz : tsized w h b T)
    (hw : ∀ a c : Nat, a < (cnt w h).toNat → c < (cnt w h).toNat → ∀ x ∈ walk w h b T a c, 0 ≤ x ∧ x < 1024)
    (bx : BoxD H r x0 []) (nv : ∀ i ∈ ids v, i ∉ r :: ids x0) (nu : ∀ i ∈ ids u, i ∉ r :: ids x0) (hr : frz ≤ r) (hf : ∀ i ∈ ids x0, frz ≤ i) (hF : frz ≤ H.length) :
   wp (vcall C frz 55 [.agg #[.int .i64 w, .int .i64 h, v], .agg #[u], .func (.func 56) #[] #[.pointer (some ⟨r, 0, some 0⟩)]] H) (fun _ H' => DI H r (ids x0) (walkAdj w h b T (allPairs (cnt w h).toNat (cnt w h).toNat)) H') := by
  rw [vcall_go (fn := Try.f55) Try.func55 rfl (by kernel_rfl) rfl]
  have onv := And.intro hI.one' hI.cells
  have onu := And.intro hT.one' hT.cells
  simp [onv, onu, VM.look]
  obtain ⟨M, hM⟩ : ∃ M : Heap, M = [⟨[.int .i64 w, .int .i64 h, v], 0, 37⟩, ⟨[u], 0, 39⟩, ⟨[.func (.func 56) #[] #[.pointer (some ⟨r, 0, some 0⟩)]], 0, 82⟩] := ⟨_, rfl⟩
  rw [← hM]
  obtain ⟨bx1, bx2, bx3⟩ := bx
  have hrl := box_lt bx1
  have hxl := bx2.lt
  have hMl : M.length = 3 := by rw [hM]; rfl
  refine wp_thn (pairsB_w w h _ (Q := fun r' H' => r' = .bool true ∧ DI H r (ids x0) (walkAdj w h b T (allPairs (cnt w h).toNat (cnt w h).toNat)) H')
    (fun done H' => DI (H ++ M) r (ids x0) (walkAdj w h b T done) H') ?_ ?_ ?_) ?_
  · exact ⟨x0, ⟨get_app' (get_app' bx1 _) _, by simpa [walkAdj] using bx2.app.app, bx3⟩, fun i hi => .inl hi, Chg.app _⟩
  · rintro done a c H' ha hc hne hd di
    have hlen := walkAdj_len w h b T done
    simp
    refine (adjacent1_w w h v u b T (H ++ M) r H.length (H.length + 1) (H.length + 2) (ids x0) a c _ (hI.app _) (hT.app _) hl hz ha hc hne (hw a c ha hc) (by omega) (by simp [hM]) (by simp [hM]) (by simp [hM]) ?_ ?_ ?_ nv nu hr hf (by simp; omega) di).mono ?_
    · simp; exact ⟨by omega, fun hh => by have := hxl _ hh; omega⟩
    · simp; exact ⟨by omega, fun hh => by have := hxl _ hh; omega⟩
    · simp; exact ⟨by omega, fun hh => by have := hxl _ hh; omega⟩
    · rintro _ H2 ⟨rfl, di2⟩
      rw [walkAdj_snoc]
      exact ⟨rfl, di2⟩
  · intro H' di
    exact ⟨rfl, DI.trans (Chg.app _) (fun i hi => .inl hi) di⟩
  · rintro _ H' ⟨rfl, di⟩
    simp
    exact di
theorem walkN_chan {w h : Int} {b T : List Int} {to : Int} : ∀ (f : Nat) (a : Int) (out : List Int), isN w h a → (∀ x ∈ out, 0 ≤ x ∧ x < 64) → ∀ x ∈ walkN w h b T to f a out, 0 ≤ x ∧ x < 64 := by
  intro f
  induction f with
  | zero =>
    intro a out ha ho x hx
    simp only [walkN] at hx
    repeat' split at hx
    · exact ho x hx
    · simp at hx
    · simp at hx
  | succ f ih =>
    intro a out ha ho x hx
    simp only [walkN] at hx
    repeat' split at hx
    · exact ho x hx
    · simp at hx
    · rename_i hs
      refine ih _ _ (step_next hs.1 hs.2).2.2 (fun y hy => ?_) x hx
      rcases List.mem_append.1 hy with hy | hy
      · exact ho y hy
      · rw [List.mem_singleton.1 hy]
        have := hs.1; have := (isN_ok ha).2
        unfold inR at *
        omega
    · simp at hx
theorem walk_chan {w h : Int} {b T : List Int} {a to : Int} (ha : isN w h a) : ∀ x ∈ walk w h b T a to, 0 ≤ x ∧ x < 64 := walkN_chan _ _ _ ha (by simp)
/-- a new list -/
def MadeE (H : Heap) (xs : List Int) (r : Value) (H' : Heap) : Prop := OwE 61 H' r xs ∧ Chg H H' [] ∧ ∀ i ∈ ids r, H.length ≤ i
/-- what a table's walks want -/
noncomputable def depsOf (w h : Int) (b T : List Int) : List Int := if tableOk w h b T then arrK (walkAdj w h b T (allPairs (cnt w h).toNat (cnt w h).toNat)) else []
theorem dependsOf_w (w h : Int) (v u : Value) (b T : List Int) (hI : IsI H v b) (hT : IsI H u T) (hl : b.length ≤ 1073741824) (hF : frz ≤ H.length) :
   wp (vcall C frz 33 [.agg #[.int .i64 w, .int .i64 h, v], .agg #[u]] H) (MadeE H (depsOf w h b T)) := by
  rw [vcall_go (fn := Try.f33) Try.func33 rfl (by kernel_rfl) rfl]
  have onv := And.intro hI.one' hI.cells
  have onu := And.intro hT.one' hT.cells
  have nv := hI.rd.lt
  have nu := hT.rd.lt
  have tk := fun F => tableOk_c (frz := F) w h v u b T (hI.app [⟨[.int .i64 w, .int .i64 h, v], 0, 37⟩, ⟨[u], 0, 39⟩, ⟨[], 0, 61⟩, ⟨[.slice (some ⟨H.length + 2, 0, some 0⟩) 0 0], 0, 33⟩]) (hT.app _) hl
  simp [onv, onu, VM.look, tk]
  obtain ⟨M, hM⟩ : ∃ M : Heap, M = [⟨[.int .i64 w, .int .i64 h, v], 0, 37⟩, ⟨[u], 0, 39⟩, ⟨[], 0, 61⟩, ⟨[.slice (some ⟨H.length + 2, 0, some 0⟩) 0 0], 0, 33⟩] := ⟨_, rfl⟩
  have o0 : OwE 61 (H ++ M) (.slice (some ⟨H.length + 2, 0, some 0⟩) 0 0) [] := ⟨by rw [hM]; exact Ow.new (D := Fl.dep) (xs := []) (k := 2) rfl rfl rfl rfl, fun x hx => by simp at hx⟩
  have g0 : (H ++ M)[H.length + 3]? = some ⟨[.slice (some ⟨H.length + 2, 0, some 0⟩) 0 0], 0, 33⟩ := by rw [hM]; simp
  have b0 : (H ++ M)[H.length]? = some ⟨[.int .i64 w, .int .i64 h, v], 0, 37⟩ := by rw [hM]; simp
  have b1 : (H ++ M)[H.length + 1]? = some ⟨[u], 0, 39⟩ := by rw [hM]; simp
  rw [← hM]
  have hMl : M.length = 4 := by rw [hM]; rfl
  clear hM tk
  refine wp_dec ?_ ?_ <;> intro g
  · simp [VM.look, g0, b0, b1]
    refine wp_thn (adjacent_w w h v u b T (H.length + 3) (.slice (some ⟨H.length + 2, 0, some 0⟩) 0 0) (hI.app _) (hT.app _) hl g.1 (fun a c ha hc x hx => by have := walk_chan (b := b) (T := T) (isN_nat ha) (to := c) x hx; omega) ⟨g0, o0, by simp⟩ ?_ ?_ (by omega) (by simp) (by simp)) ?_
    · intro i hi hh; have := nv i hi; simp at hh; omega
    · intro i hi hh; have := nu i hi; simp at hh; omega
    rintro _ H1 ⟨x, ⟨bx1, bx2, bx3⟩, nx, ch⟩
    have hlen := walkAdj_len w h b T (allPairs (cnt w h).toNat (cnt w h).toNat)
    have hpl := allPairs_len (cnt w h).toNat (cnt w h).toNat
    have hcn : (cnt w h).toNat * (cnt w h).toNat ≤ 16 * 16 := Nat.mul_le_mul (by have := cnt_range w h; omega) (by have := cnt_range w h; omega)
    have nxx : ∀ i ∈ ids x, H.length ≤ i := fun i hi => by
      rcases nx i hi with q | q
      · simp at q; omega
      · simp at q; omega
    have c1 := ch.1
    simp at c1
    simp [VM.look, bx1]
    refine wp_thn (arranged_e x _ bx2 (by omega) nxx (by omega)) ?_
    rintro u2 H2 ⟨o2, n2, c2⟩
    simp
    have : depsOf w h b T = arrK (walkAdj w h b T (allPairs (cnt w h).toNat (cnt w h).toNat)) := by rw [depsOf, if_pos g]
    rw [← this] at o2
    refine ⟨o2, ?_, fun i hi => nxx i (n2 i hi)⟩
    refine (((Chg.app (H := H) (L := M) []).trans' ch (fun i hi => .inr ?_)).trans' c2 fun i hi => .inr (nxx i hi))
    simp at hi; omega
  · simp [VM.look, g0]
    rw [depsOf, if_neg g]
    exact ⟨o0, Chg.app _, by simp⟩
end Go.Proofs.Ytlbbalmeaedbdaa.V
/-! Lists of dependencies: valid, put, merged, shifted. -/
set_option linter.all false
namespace Go.Proofs.Ytlbbalmeaedbdaa.V
open Go Go.VM Go.Proofs
set_option maxRecDepth 10000
variable {frz : Nat} {H : Heap} {v : Value} {xs ys : List Int} {e : TypeId}
@[simp] theorem dv_cells (x : Int) : (dv x).cells = #[.int .i64 (x / 1024), .int .i64 (x % 1024)] := rfl
theorem dv_fold (x : Int) : Value.agg #[.int .i64 (x / 1024), .int .i64 (x % 1024)] = dv x := rfl
@[simp] theorem cmpZ_ge (x y : Int) : 0 ≤ cmpZ x y ↔ y ≤ x := by unfold cmpZ; split <;> omega
def dAt (xs : List Int) (j : Nat) : Prop := (G xs j / 1024 ≤ 127 ∧ G xs j % 1024 ≤ 127) ∧ (0 < j → G xs (j - 1) < G xs j)
instance (xs : List Int) (j : Nat) : Decidable (dAt xs j) := inferInstanceAs (Decidable (_ ∧ _))
/-- the list is valid -/
def dOk (xs : List Int) : Prop := ∀ j, j < xs.length → dAt xs j
instance (xs : List Int) : Decidable (dOk xs) := inferInstanceAs (Decidable (∀ j, _ → _))
theorem dOk_asc (h : dOk xs) : xs.Pairwise (· < ·) := by
  have h1 : ∀ d i : Nat, i + (d + 1) < xs.length → G xs i < G xs (i + (d + 1)) := by
    intro d
    induction d with
    | zero => intro i hi; exact (h (i + 1) hi).2 (by omega)
    | succ d ih =>
      intro i hi
      have q1 := ih i (by omega)
      have q2 := (h (i + (d + 1 + 1)) hi).2 (by omega)
      rw [show i + (d + 1 + 1) - 1 = i + (d + 1) by omega] at q2
      omega
  rw [List.pairwise_iff_getElem]
  intro i j hi hj hij
  have := h1 (j - i - 1) i (by omega)
  rw [show i + (j - i - 1 + 1) = j by omega, G_get hi, G_get hj] at this
  exact this
theorem dOk_of (h : xs.Pairwise (· < ·)) (hs : ∀ x ∈ xs, x / 1024 ≤ 127 ∧ x % 1024 ≤ 127) : dOk xs := fun j hj => by
  refine ⟨?_, fun h0 => ?_⟩
  · rw [G_get hj]; exact hs _ (List.getElem_mem hj)
  · rw [G_get hj, G_get (by omega : j - 1 < xs.length)]
    exact List.pairwise_iff_getElem.1 h _ _ _ _ (by omega)
theorem dOk_small (h : dOk xs) : ∀ x ∈ xs, x / 1024 ≤ 127 ∧ x % 1024 ≤ 127 := fun x hx => by
  obtain ⟨j, hj, rfl⟩ := List.mem_iff_getElem.1 hx
  have := (h j hj).1
  rwa [G_get hj] at this
theorem rw_ix (o : OwE e H v xs) {i : Nat} (h1 : i < xs.length) : ∀ L, vindexAddr Try.prog (H ++ L) 33 v (.int .i64 i) = some (elp v (i * 2)) ∧ vload Try.prog (H ++ L) 61 (elp v (i * 2)) = some (dv (G xs i)) := fun L => ⟨dw_ix o.app h1, dw_ld o.app h1⟩
theorem dependsOk_w (v : Value) (xs : List Int) (h : OwE e H v xs) (hl : xs.length ≤ 1073741824) : wp (vcall C frz 57 [v] H) (fun r _ => r = .bool (decide (dOk xs))) := by
  rw [vcall_go (fn := Try.f57) Try.func57 rfl (by kernel_rfl) rfl]
  simp [h.rd.len]
  refine wp_inv (fun n t H' => ∃ i : Nat, n = xs.length - i ∧ i ≤ xs.length ∧ t 0 = v ∧ t 5 = v ∧ t 6 = .int .i64 xs.length ∧ t 7 = .int .i64 i ∧ (∃ L, H' = H ++ L) ∧ ∀ j, j < i → dAt xs j) ?_ (n := xs.length)
    ⟨0, by simp, by omega, by simp, by simp, by simp, by simp, ⟨[], by simp⟩, fun j hj => by omega⟩
  rintro n t H' ⟨i, rfl, hi, t0, t5, t6, t7, ⟨L, rfl⟩, hd⟩ ih
  simp [t0, t5, t6, t7]
  refine wp_dec ?_ ?_ <;> intro hlt
  · have b := h.2.G i
    have b1 := b.1; have b2 := b.2
    have p1 := rw_ix h hlt
    simp [t0, t5, t6, t7, p1]
    rw [go_draw (h := by kernel_rfl)]
    have e1 : 0 < i → ∀ [Inhabited Unit], IntKind.i64.wrap ((i : Int) - 1) = ((i - 1 : Nat) : Int) := by intro _ _; rw [w64 (by omega) (by omega)]; omega
    have p2 : 0 < i → ∀ L, vindexAddr Try.prog (H ++ L) 33 v (.int .i64 (i - 1 : Nat)) = some (elp v ((i - 1) * 2)) ∧ vload Try.prog (H ++ L) 61 (elp v ((i - 1) * 2)) = some (dv (G xs (i - 1))) := fun h0 L => rw_ix h (by omega) L
    have cc := fun F K (j k : Nat) => compare_c (frz := F) (H := K) (G xs j) (G xs k) (h.2.G j) (h.2.G k)
    have yes := fun (t' : Env) (L' : Heap) (x0 : t' 0 = v) (x5 : t' 5 = v) (x6 : t' 6 = .int .i64 xs.length) (x7 : t' 7 = .int .i64 (i + 1 : Nat)) (hq : dAt xs i) =>
      ih (xs.length - (i + 1)) t' (H ++ L') ⟨i + 1, rfl, by omega, x0, x5, x6, x7, ⟨L', rfl⟩, fun j hj => by
        by_cases hji : j < i
        · exact hd j hji
        · rw [show j = i by omega]; exact hq⟩ (by omega)
    have w1 : IntKind.i64.wrap ((i : Int) + 1) = ((i + 1 : Nat) : Int) := by rw [w64 (by omega) (by omega)]; omega
    simp [t0, t5, t6, t7, p1, VM.look, inside_c, dv_fold]
    refine wpg_dec ?_ ?_ <;> intro g1 <;> simp [t0, t5, t6, t7, p1, VM.look, inside_c, dv_fold, g1]
    · refine wpg_dec ?_ ?_ <;> intro g2 <;> simp [t0, t5, t6, t7, p1, VM.look, inside_c, dv_fold, g1, g2]
      · have g12 : G xs i / 1024 ≤ 127 ∧ G xs i % 1024 ≤ 127 := ⟨g1.2, g2.2⟩
        refine wpg_dec ?_ ?_ <;> intro g3 <;> simp [t0, t5, t6, t7, p1, VM.look, inside_c, dv_fold, g1, g2, g3]
        · have g3' : 0 < i := by omega
          have e1 := fun [Inhabited Unit] => e1 g3'
          have p2 := p2 g3'
          simp [t0, t5, t6, t7, p1, VM.look, inside_c, dv_fold, g1, g2, g3, e1, p2, cc]
          refine wp_dec ?_ ?_ <;> intro g4 <;> simp [t0, t5, t6, t7]
          · intro hh; have := (hh i hlt).2 g3'; omega
          · refine yes _ _ ?_ ?_ ?_ ?_ ⟨g12, fun _ => by omega⟩ <;> simp [t0, t5, t6, w1]
        · refine yes _ _ ?_ ?_ ?_ ?_ ⟨g12, fun _ => by omega⟩ <;> simp [t0, t5, t6, w1]
      · intro hh; have := (hh i hlt).1; exact g2 ⟨by omega, this.2⟩
    · intro hh; have := (hh i hlt).1; exact g1 ⟨by omega, this.1⟩
  · simp
    have : i = xs.length := by omega
    subst this
    exact hd
theorem dependsOk_c (v : Value) (xs : List Int) (h : OwE e H v xs) (hl : xs.length ≤ 1073741824) : vcall C frz 57 [v] H = some (.bool (decide (dOk xs)), H) := (dependsOk_w v xs h hl).exact (by simp) rfl
theorem less_k (x y : Int) : vcall C frz 53 [dv x, dv y] H = some (.bool (decide (x < y)), H) := by
  rw [vcall_go (fn := Try.f53) Try.func53 rfl (by kernel_rfl) rfl]
  simp [dv]
  refine gd_dec _ _ ?_ ?_ <;> intro g1 <;> simp [g1]
  · omega
  · refine gd_dec _ _ ?_ ?_ <;> intro g2 <;> simp [g1, g2]
    · omega
    · omega
theorem dw_fl (o : OwE e H v xs) {i : Nat} (h1 : i < xs.length) : ∀ L, vfieldAddr Try.prog (H ++ L) 61 0 (elp v (i * 2)) = some (elp v (i * 2)) ∧ vfieldAddr Try.prog (H ++ L) 61 1 (elp v (i * 2)) = some (elp v (i * 2 + 1)) ∧
    vload Try.prog (H ++ L) 3 (elp v (i * 2)) = some (.int .i64 (G xs i / 1024)) ∧ vload Try.prog (H ++ L) 3 (elp v (i * 2 + 1)) = some (.int .i64 (G xs i % 1024)) := fun L => by
  have o' := (o.app (L := L)).rd
  refine ⟨?_, ?_, ?_, ?_⟩
  · exact o'.field (P := Try.prog) (s := 61) (f := 0) (o := 0) (ag := false) (n := 1) (by simp) (by omega)
  · exact o'.field (P := Try.prog) (s := 61) (f := 1) (o := 1) (ag := false) (n := 1) (by simp) (by omega)
  · have := o'.cell (P := Try.prog) (e := 3) (by simp) h1 (c := 0) (by decide)
    simp [Fl.dep_f] at this
    rw [G_get h1]; exact this
  · have := o'.cell (P := Try.prog) (e := 3) (by simp) h1 (c := 1) (by decide)
    simp [Fl.dep_f] at this
    rw [G_get h1]; exact this
theorem sDependsOk_w (v : Value) (xs : List Int) (h : OwE e H v xs) (hl : xs.length ≤ 1073741824) : wp (vcall C frz 48 [v] H) (fun r _ => r = .bool (decide (dOk xs))) := by
  rw [vcall_go (fn := Try.f48) Try.func48 rfl (by kernel_rfl) rfl]
  simp
  refine wp_inv (fun n t H' => ∃ i : Nat, n = xs.length - i ∧ i ≤ xs.length ∧ t 0 = v ∧ t 3 = .int .i64 i ∧ H' = H ∧ ∀ j, j < i → dAt xs j) ?_ (n := xs.length)
    ⟨0, by simp, by omega, by simp, by simp, rfl, fun j hj => by omega⟩
  rintro n t H' ⟨i, rfl, hi, t0, t3, rfl, hd⟩ ih
  simp [t0, t3, h.rd.len]
  refine wp_dec ?_ ?_ <;> intro hlt
  · have b := h.2.G i
    have b1 := b.1; have b2 := b.2
    have p1 := rw_ix h hlt []
    have p3 := dw_fl h hlt []
    simp only [List.append_nil] at p1 p3
    simp [t0, t3]
    rw [go_draw (h := by kernel_rfl)]
    have e1 : 0 < i → ∀ [Inhabited Unit], IntKind.i64.wrap ((i : Int) - 1) = ((i - 1 : Nat) : Int) := by intro _ _; rw [w64 (by omega) (by omega)]; omega
    have p2 : 0 < i → vindexAddr Try.prog H' 33 v (.int .i64 (i - 1 : Nat)) = some (elp v ((i - 1) * 2)) ∧ vload Try.prog H' 61 (elp v ((i - 1) * 2)) = some (dv (G xs (i - 1))) := fun h0 => by
      have := rw_ix h (i := i - 1) (by omega) []
      simpa only [List.append_nil] using this
    have yes := fun (t' : Env) (x0 : t' 0 = v) (x7 : t' 3 = .int .i64 (i + 1 : Nat)) (hq : dAt xs i) =>
      ih (xs.length - (i + 1)) t' H' ⟨i + 1, rfl, by omega, x0, x7, rfl, fun j hj => by
        by_cases hji : j < i
        · exact hd j hji
        · rw [show j = i by omega]; exact hq⟩ (by omega)
    have w1 : IntKind.i64.wrap ((i : Int) + 1) = ((i + 1 : Nat) : Int) := by rw [w64 (by omega) (by omega)]; omega
    simp [-vfieldAddr, t0, t3, p1, p3, l01In_c]
    refine wpg_dec ?_ ?_ <;> intro g1 <;> simp [-vfieldAddr, t0, t3, p1, p3, l01In_c, g1]
    · refine wpg_dec ?_ ?_ <;> intro g2 <;> simp [-vfieldAddr, t0, t3, p1, p3, l01In_c, g1, g2]
      · have g12 : G xs i / 1024 ≤ 127 ∧ G xs i % 1024 ≤ 127 := ⟨g1.2, g2.2⟩
        refine wpg_dec ?_ ?_ <;> intro g3 <;> simp [-vfieldAddr, t0, t3, p1, p3, l01In_c, g1, g2, g3]
        · have g3' : 0 < i := by omega
          have e1 := fun [Inhabited Unit] => e1 g3'
          have p2 := p2 g3'
          simp [-vfieldAddr, t0, t3, p1, p3, l01In_c, g1, g2, g3, e1, p2, less_k]
          refine wp_dec ?_ ?_ <;> intro g4 <;> simp [t0, t3]
          · refine yes _ ?_ ?_ ⟨g12, fun _ => by omega⟩ <;> simp [t0, w1]
          · intro hh; have := (hh i hlt).2 g3'; omega
        · refine yes _ ?_ ?_ ⟨g12, fun _ => by omega⟩ <;> simp [t0, w1]
      · intro hh; have := (hh i hlt).1; exact g2 ⟨by omega, this.2⟩
    · intro hh; have := (hh i hlt).1; exact g1 ⟨by omega, this.1⟩
  · simp
    have : i = xs.length := by omega
    subst this
    exact hd
theorem sDependsOk_c (v : Value) (xs : List Int) (h : OwE e H v xs) (hl : xs.length ≤ 1073741824) : vcall C frz 48 [v] H = some (.bool (decide (dOk xs)), H) := (sDependsOk_w v xs h hl).exact (by simp) rfl
theorem insK_at {k : Int} {j : Nat} (hs : xs.Pairwise (· < ·)) (hj : j ≤ xs.length) (h1 : j = 0 ∨ (0 < j ∧ G xs (j - 1) ≤ k)) (h2 : ∀ i, j ≤ i → i < xs.length → k < G xs i) :
    insK k xs = if 0 < j ∧ G xs (j - 1) = k then xs else xs.take j ++ ([k] ++ xs.drop j) := by
  have lo : ∀ x ∈ xs.take j, x ≤ k ∧ (¬ (0 < j ∧ G xs (j - 1) = k) → x < k) := fun x hx => by
    obtain ⟨i, hi, rfl⟩ := List.mem_iff_getElem.1 hx
    simp at hi
    rw [List.getElem_take]
    rcases h1 with h1 | ⟨h1, h3⟩
    · omega
    · rw [G_get (by omega : j - 1 < xs.length)] at h3 ⊢
      by_cases e : i = j - 1
      · subst e; exact ⟨h3, fun hh => by omega⟩
      · have := List.pairwise_iff_getElem.1 hs i (j - 1) (by omega) (by omega) (by omega)
        exact ⟨by omega, fun _ => by omega⟩
  have hi : ∀ x ∈ xs.drop j, k < x := fun x hx => by
    obtain ⟨i, hi, rfl⟩ := List.mem_iff_getElem.1 hx
    simp at hi
    rw [List.getElem_drop, ← G_get (by omega : j + i < xs.length)]
    exact h2 _ (by omega) (by omega)
  split
  · rename_i g
    refine strict_ext (insK_asc k xs hs) hs fun x => ?_
    rw [mem_insK]
    refine ⟨fun hh => hh.elim (fun e => ?_) id, .inr⟩
    rw [e, ← g.2, G_get (by omega : j - 1 < xs.length)]
    exact List.getElem_mem _
  · rename_i g
    refine strict_ext (insK_asc k xs hs) ?_ fun x => ?_
    · rw [List.pairwise_append]
      refine ⟨hs.sublist (List.take_sublist ..), ?_, fun x hx y hy => ?_⟩
      · simp only [List.cons_append, List.nil_append]
        exact List.pairwise_cons.2 ⟨hi, hs.sublist (List.drop_sublist ..)⟩
      · have := (lo x hx).2 g
        rcases List.mem_append.1 hy with hy | hy
        · rw [List.mem_singleton.1 hy]; exact this
        · have := hi y hy; omega
    · rw [mem_insK]
      have e : x ∈ xs ↔ x ∈ xs.take j ∨ x ∈ xs.drop j := by rw [← List.mem_append, List.take_append_drop]
      rw [e, List.mem_append, List.mem_append, List.mem_singleton]
      constructor
      · rintro (h | h | h)
        · exact .inr (.inl h)
        · exact .inl h
        · exact .inr (.inr h)
      · rintro (h | h | h)
        · exact .inr (.inl h)
        · exact .inl h
        · exact .inr (.inr h)
theorem ones_dep (xs : List Int) : ones (cellsOf Fl.dep xs) = true := by
  induction xs with
  | nil => rfl
  | cons a l ih => rw [cellsOf_cons, ones_app, ih]; rfl
theorem put_w (v : Value) (xs : List Int) (k : Int) (h : OwE 61 H v xs) (hk : KB k) (hs : xs.Pairwise (· < ·)) (hl : xs.length + 1 ≤ 1073741824) (hF : frz ≤ H.length) :
   wp (vcall C frz 28 [v, dv k] H) (fun r H' => OwE 61 H' r (insK k xs) ∧ Chg H H' [] ∧ ∀ i ∈ ids r, i ∈ ids v ∨ H.length ≤ i) := by
  rw [vcall_go (fn := Try.f28) Try.func28 rfl (by kernel_rfl) rfl]
  have hone : ones (dv k).cells.toList = true := rfl
  simp [h.rd.len, h.app.rd.len, VM.look, ones, VM.one]
  obtain ⟨H0, hH0⟩ : ∃ H0, H0 = H ++ [⟨[.int .i64 (k / 1024), .int .i64 (k % 1024)], 0, 61⟩] := ⟨_, rfl⟩
  have h' : OwE 61 H0 v xs := by rw [hH0]; exact h.app
  have b0 : H0[H.length]? = some ⟨[.int .i64 (k / 1024), .int .i64 (k % 1024)], 0, 61⟩ := by rw [hH0]; simp
  have c0 : Chg H H0 [] := by rw [hH0]; exact Chg.app _
  rw [← hH0]
  refine wp_join (F := ?F) (k := ?k) (Q := ?Q) (fun t H1 => ∃ j : Nat, j ≤ xs.length ∧ t 0 = v ∧ t 3 = .pointer (some ⟨H.length, 0, some 0⟩) ∧ t 5 = .int .i64 j ∧ H0 = H1 ∧ (∀ i, j ≤ i → i < xs.length → k < G xs i) ∧ (j = 0 ∨ (0 < j ∧ G xs (j - 1) ≤ k))) ?main ?rest
  case main =>
    intro rest
    refine wp_inv (fun n t H' => ∃ j : Nat, n = j ∧ j ≤ xs.length ∧ t 0 = v ∧ t 3 = .pointer (some ⟨H.length, 0, some 0⟩) ∧ t 5 = .int .i64 j ∧ H0 = H' ∧ ∀ i, j ≤ i → i < xs.length → k < G xs i) ?_ (n := xs.length)
      ⟨xs.length, rfl, Nat.le_refl _, by simp, by simp, by simp, rfl, fun i h1 h2 => by omega⟩
    rintro j t H' ⟨_, rfl, hj, t0, t3, t5, rfl, hd⟩ ih
    simp [t0, t3, t5]
    rw [go_draw (h := by kernel_rfl)]
    simp [t0, t3, t5]
    refine wpg_dec ?_ ?_ <;> intro g1
    · have e1 : IntKind.i64.wrap ((j : Int) - 1) = ((j - 1 : Nat) : Int) := by rw [w64 (by omega) (by omega)]; omega
      have p2 := rw_ix h' (i := j - 1) (by omega) []
      simp only [List.append_nil] at p2
      simp [t0, t3, t5, VM.look, b0, dv_fold, g1, e1, p2, less_k]
      refine wp_dec ?_ ?_ <;> intro g2 <;> simp [t0, t3, t5]
      · refine ih (j - 1) _ _ ⟨j - 1, rfl, by omega, by simp [t0], by simp [t3], by simp [e1], rfl, fun i h1 h2 => ?_⟩ (by omega)
        by_cases hi : i = j - 1
        · rw [hi]; exact g2
        · exact hd i (by omega) h2
      · refine rest _ _ ?_
        exact ⟨j, hj, by simp [t0], by simp [t3], by simp [t5], rfl, hd, .inr ⟨g1, by omega⟩⟩
    · simp [t0, t3, t5, g1]
      refine rest _ _ ?_
      exact ⟨j, hj, by simp [t0], by simp [t3], by simp [t5], rfl, hd, .inl (by omega)⟩
  case rest =>
    rintro t _ ⟨j, hj, t0, t3, t5, rfl, hd, h1⟩
    have key := insK_at hs hj h1 hd
    rw [go_draw (h := by kernel_rfl)]
    simp [t0, t3, t5]
    refine wpg_dec ?_ ?_ <;> intro g1
    · have e1 : IntKind.i64.wrap ((j : Int) - 1) = ((j - 1 : Nat) : Int) := by rw [w64 (by omega) (by omega)]; omega
      have p2 := rw_ix h' (i := j - 1) (by omega) []
      simp only [List.append_nil] at p2
      simp [t0, t3, t5, VM.look, b0, dv_fold, g1, e1, p2]
      refine wp_dec ?_ ?_ <;> intro g2
      · simp [t0, t3, t5]
        rw [key, if_pos ⟨g1, g2⟩]
        exact ⟨h', c0, fun i hi => .inl hi⟩
      · simp [t0, t3, t5]
        have key' : insK k xs = xs.take j ++ ([k] ++ xs.drop j) := by rw [key, if_neg (by omega)]
        have ox : Ow Fl.dep 61 (H0 ++ [⟨[], 0, 61⟩]) v xs := h'.1.app
        obtain ⟨q, q1, q2, q3⟩ := ox.slice (P := Try.prog) (ty := 33) (lo := none) (hi := some (.int .i64 (j : Int))) (l := 0) (u := j) (by simp) rfl rfl (Nat.zero_le _) hj
        have o0 : Ow Fl.dep 61 (H0 ++ [⟨[], 0, 61⟩]) (.slice (some ⟨H0.length, 0, some 0⟩) 0 0) [] := Ow.new0 (D := Fl.dep) (xs := []) rfl rfl rfl rfl
        obtain ⟨r1, H1, hap1, o1, c1, n1⟩ := o0.append (P := Try.prog) (frz := H.length) (ty := 33) q2.rd (by simp) (ones_dep _) (by simp; omega) (by have := c0.1; simp; omega)
        rw [List.nil_append] at o1
        have c1' : Chg H0 H1 [] := (Chg.app []).trans' c1 (fun x hx => .inr (by simp at hx; omega))
        have n1' : ∀ i ∈ ids r1, H0.length ≤ i := fun i hi => by
          rcases n1 i hi with hh | hh
          · simp at hh; omega
          · simp at hh; omega
        have b1 := box_chg b0 c1' (by simp)
        obtain ⟨r2, H2, hap2, o2, c2, n2⟩ := o1.push (P := Try.prog) (frz := H.length) (ty := 33) (a := k) (by simp) rfl (by simp; omega) (fun x hx => by have := n1' x hx; have := c0.1; omega)
        simp only [Fl.dep_f] at hap2
        have c2' : Chg H0 H2 [] := c1'.trans' c2 (fun x hx => .inr (n1' x hx))
        have n2' : ∀ i ∈ ids r2, H0.length ≤ i := fun i hi => by
          rcases n2 i hi with hh | hh
          · exact n1' i hh
          · have := c1'.1; omega
        obtain ⟨z, z1, z2, z3⟩ := (h'.1.chg c2' (by simp)).slice (P := Try.prog) (ty := 33) (lo := some (.int .i64 (j : Int))) (hi := none) (l := j) (u := xs.length) (by simp) rfl rfl hj (Nat.le_refl _)
        obtain ⟨r3, H3, hap3, o3, c3, n3⟩ := o2.append (P := Try.prog) (frz := H.length) (ty := 33) z2.rd (by simp) (ones_dep _) (by simp; omega) (fun x hx => by have := n2' x hx; have := c0.1; omega)
        simp [-vappend_mk, t0, t3, t5, q1, hap1, VM.look, b1, hap2, z1, hap3]
        have e3 : ((xs.drop 0).take (j - 0) ++ [k]) ++ (xs.drop j).take (xs.length - j) = insK k xs := by rw [key', List.drop_zero, Nat.sub_zero, List.append_assoc, List.take_of_length_le (l := xs.drop j) (by simp)]
        rw [e3] at o3
        refine ⟨⟨o3, fun x hx => ?_⟩, c0.trans (c2'.trans' c3 (fun x hx => .inr (n2' x hx))), fun i hi => .inr ?_⟩
        · rcases (mem_insK k x xs).1 hx with e | hx
          · rw [e]; exact hk
          · exact h.2 x hx
        · have := c0.1
          rcases n3 i hi with hh | hh
          · have := n2' i hh; omega
          · have := c2'.1; omega
    · simp [t0, t3, t5, g1]
      have key' : insK k xs = xs.take j ++ ([k] ++ xs.drop j) := by rw [key, if_neg (by omega)]
      have ox : Ow Fl.dep 61 (H0 ++ [⟨[], 0, 61⟩]) v xs := h'.1.app
      obtain ⟨q, q1, q2, q3⟩ := ox.slice (P := Try.prog) (ty := 33) (lo := none) (hi := some (.int .i64 (j : Int))) (l := 0) (u := j) (by simp) rfl rfl (Nat.zero_le _) hj
      have o0 : Ow Fl.dep 61 (H0 ++ [⟨[], 0, 61⟩]) (.slice (some ⟨H0.length, 0, some 0⟩) 0 0) [] := Ow.new0 (D := Fl.dep) (xs := []) rfl rfl rfl rfl
      obtain ⟨r1, H1, hap1, o1, c1, n1⟩ := o0.append (P := Try.prog) (frz := H.length) (ty := 33) q2.rd (by simp) (ones_dep _) (by simp; omega) (by have := c0.1; simp; omega)
      rw [List.nil_append] at o1
      have c1' : Chg H0 H1 [] := (Chg.app []).trans' c1 (fun x hx => .inr (by simp at hx; omega))
      have n1' : ∀ i ∈ ids r1, H0.length ≤ i := fun i hi => by
        rcases n1 i hi with hh | hh
        · simp at hh; omega
        · simp at hh; omega
      have b1 := box_chg b0 c1' (by simp)
      obtain ⟨r2, H2, hap2, o2, c2, n2⟩ := o1.push (P := Try.prog) (frz := H.length) (ty := 33) (a := k) (by simp) rfl (by simp; omega) (fun x hx => by have := n1' x hx; have := c0.1; omega)
      simp only [Fl.dep_f] at hap2
      have c2' : Chg H0 H2 [] := c1'.trans' c2 (fun x hx => .inr (n1' x hx))
      have n2' : ∀ i ∈ ids r2, H0.length ≤ i := fun i hi => by
        rcases n2 i hi with hh | hh
        · exact n1' i hh
        · have := c1'.1; omega
      obtain ⟨z, z1, z2, z3⟩ := (h'.1.chg c2' (by simp)).slice (P := Try.prog) (ty := 33) (lo := some (.int .i64 (j : Int))) (hi := none) (l := j) (u := xs.length) (by simp) rfl rfl hj (Nat.le_refl _)
      obtain ⟨r3, H3, hap3, o3, c3, n3⟩ := o2.append (P := Try.prog) (frz := H.length) (ty := 33) z2.rd (by simp) (ones_dep _) (by simp; omega) (fun x hx => by have := n2' x hx; have := c0.1; omega)
      simp [-vappend_mk, t0, t3, t5, q1, hap1, VM.look, b1, hap2, z1, hap3]
      have e3 : ((xs.drop 0).take (j - 0) ++ [k]) ++ (xs.drop j).take (xs.length - j) = insK k xs := by rw [key', List.drop_zero, Nat.sub_zero, List.append_assoc, List.take_of_length_le (l := xs.drop j) (by simp)]
      rw [e3] at o3
      refine ⟨⟨o3, fun x hx => ?_⟩, c0.trans (c2'.trans' c3 (fun x hx => .inr (n2' x hx))), fun i hi => .inr ?_⟩
      · rcases (mem_insK k x xs).1 hx with e | hx
        · rw [e]; exact hk
        · exact h.2 x hx
      · have := c0.1
        rcases n3 i hi with hh | hh
        · have := n2' i hh; omega
        · have := c2'.1; omega
end Go.Proofs.Ytlbbalmeaedbdaa.V
/-! Lists of dependencies: shifted, merged. -/
set_option linter.all false
namespace Go.Proofs.Ytlbbalmeaedbdaa.V
open Go Go.VM Go.Proofs
set_option maxRecDepth 10000
variable {frz : Nat} {H : Heap} {v : Value} {xs ys : List Int} {e : TypeId}
def shiftK (b : Int) (xs : List Int) : List Int := xs.map (· + 1025 * b)
noncomputable def shiftOf (b : Int) (xs : List Int) : List Int := if dOk xs then (if dOk (shiftK b xs) then shiftK b xs else []) else []
theorem shift_at {b : Int} (hb : 0 ≤ b ∧ b ≤ 64) (hd : dOk xs) {i : Nat} (hi : i < xs.length) (h0 : KB (G xs i)) : CB (G xs i / 1024 + b) (G xs i % 1024 + b) ∧ key (G xs i / 1024 + b) (G xs i % 1024 + b) = G xs i + 1025 * b := by
  have := (hd i hi).1
  have := h0.1
  unfold CB key
  omega
theorem shift_take (b : Int) {i : Nat} (hi : i < xs.length) : shiftK b (xs.take (i + 1)) = shiftK b (xs.take i) ++ [G xs i + 1025 * b] := by
  rw [take_G hi]; simp [shiftK]
theorem shift_Bd {b : Int} (hb : 0 ≤ b ∧ b ≤ 64) (h : Bd xs) (hd : dOk xs) : Bd (shiftK b xs) := fun x hx => by
  obtain ⟨y, hy, rfl⟩ := List.mem_map.1 hx
  have h1 := h y hy
  have h2 := dOk_small hd y hy
  unfold KB at *
  omega
theorem shift_w (v : Value) (xs : List Int) (b : Int) (h : OwE e H v xs) (hb : 0 ≤ b ∧ b ≤ 64) (hl : xs.length ≤ 1048576) (hF : frz ≤ H.length) : wp (vcall C frz 34 [v, .int .i64 b] H) (MadeE H (shiftOf b xs)) := by
  rw [vcall_go (fn := Try.f34) Try.func34 rfl (by kernel_rfl) rfl]
  have nil : MadeE H [] (.slice none 0 0) H := ⟨⟨.inl ⟨rfl, rfl⟩, fun x hx => by simp at hx⟩, Chg.refl _, by simp⟩
  have hin : inR (-1000) b 1000 := ⟨by omega, by omega⟩
  simp [dependsOk_c v xs h (by omega), inside_c, hin]
  refine wpg_dec ?_ ?_ <;> intro g1
  · simp [g1, inside_c, hin, h.rd.len]
    have o0 : OwE 61 (H ++ [⟨[], 0, 61⟩]) (.slice (some ⟨H.length, 0, some 0⟩) 0 0) [] := ⟨Ow.new0 (D := Fl.dep) (xs := []) rfl rfl rfl rfl, fun x hx => by simp at hx⟩
    have lenA := fun L => (h.app (L := L)).rd.len (P := Try.prog) (ty := 33) (by simp)
    simp [lenA]
    refine wp_inv (fun n t H' => ∃ (i : Nat) (r : Value), n = xs.length - i ∧ i ≤ xs.length ∧ t 0 = v ∧ t 1 = .int .i64 b ∧ t 5 = r ∧ t 17 = v ∧ t 18 = .int .i64 xs.length ∧ t 19 = .int .i64 i ∧ OwE 61 H' r (shiftK b (xs.take i)) ∧ (∀ j ∈ ids r, H.length ≤ j) ∧ Chg H H' []) ?_ (n := xs.length)
      ⟨0, _, by simp, by omega, by simp, by simp, by simp, by simp, by simp, by simp, o0, by simp, Chg.app _⟩
    rintro n t H' ⟨i, r, rfl, hi, t0, t1, t5, t17, t18, t19, o, nr, ch⟩ ih
    simp [t0, t1, t5, t17, t18, t19]
    refine wp_dec ?_ ?_ <;> intro hlt
    · have hH' := h.chg ch (by simp)
      have p1 := rw_ix hH' hlt []
      simp only [List.append_nil] at p1
      obtain ⟨s1, s2⟩ := shift_at hb g1 hlt (h.2.G i)
      have hlr : (shiftK b (xs.take i)).length = i := by simp [shiftK]; omega
      obtain ⟨r2, H2, hap, o2, c2, n2⟩ := dw_push (frz := H.length) (o.app (L := [⟨[.int .i64 (G xs i / 1024), .int .i64 (G xs i % 1024)], 0, 61⟩])) s1 (by rw [hlr]; omega) nr
      rw [s2, ← shift_take b hlt] at o2
      have e1 : ∀ [Inhabited Unit], IntKind.i64.wrap (G xs i / 1024 + b) = G xs i / 1024 + b := by intro _; have := s1.1; exact w64 (by omega) (by omega)
      have e2 : ∀ [Inhabited Unit], IntKind.i64.wrap (G xs i % 1024 + b) = G xs i % 1024 + b := by intro _; have := s1.2; exact w64 (by omega) (by omega)
      have l1 := ch.1
      simp at hap
      simp [t0, t1, t5, t17, t18, t19, p1, VM.look, e1, e2, hap, l1]
      refine ih (xs.length - (i + 1)) _ _ ⟨i + 1, r2, rfl, by omega, by simp [t0], by simp [t1], by simp, by simp [t17], by simp [t18], ?_, o2, fun j hj => ?_, (ch.trans (Chg.app [])).trans' c2 (fun j hj => .inr (nr j hj))⟩ (by omega)
      · simp; rw [w64 (by omega) (by omega)]
      · rcases n2 j hj with q | q
        · exact nr j q
        · simp at q; omega
    · have hin : i = xs.length := by omega
      rw [hin, List.take_length] at o
      have hlr : (shiftK b xs).length = xs.length := by simp [shiftK]
      simp [t0, t1, t5, dependsOk_c r _ o (by omega)]
      refine wp_dec ?_ ?_ <;> intro g2
      · simp [t5]
        rw [shiftOf, if_pos g1, if_pos g2]
        exact ⟨o, ch, nr⟩
      · simp
        rw [shiftOf, if_pos g1, if_neg g2]
        exact ⟨⟨.inl ⟨rfl, rfl⟩, fun x hx => by simp at hx⟩, ch, by simp⟩
  · simp [g1]
    rw [shiftOf, if_neg g1]
    exact nil
theorem sShift_w (v : Value) (xs : List Int) (b : Int) (h : OwE e H v xs) (hb : 0 ≤ b ∧ b ≤ 64) (hl : xs.length ≤ 1048576) (hF : frz ≤ H.length) : wp (vcall C frz 25 [v, .int .i64 b] H) (MadeE H (shiftOf b xs)) := by
  rw [vcall_go (fn := Try.f25) Try.func25 rfl (by kernel_rfl) rfl]
  have hin : inR (-1000) b 1000 := ⟨by omega, by omega⟩
  have o0 : OwE 61 (H ++ [⟨[], 0, 61⟩]) (.slice (some ⟨H.length, 0, some 0⟩) 0 0) [] := ⟨Ow.new0 (D := Fl.dep) (xs := []) rfl rfl rfl rfl, fun x hx => by simp at hx⟩
  simp [sDependsOk_c v xs h.app (by omega), l01In_c, hin]
  refine wpg_dec ?_ ?_ <;> intro g1
  · simp [g1, l01In_c, hin]
    refine wp_inv (fun n t H' => ∃ (i : Nat) (r : Value), n = xs.length - i ∧ i ≤ xs.length ∧ t 0 = v ∧ t 1 = .int .i64 b ∧ t 5 = r ∧ t 6 = .int .i64 i ∧ OwE 61 H' r (shiftK b (xs.take i)) ∧ (∀ j ∈ ids r, H.length ≤ j) ∧ Chg H H' []) ?_ (n := xs.length)
      ⟨0, _, by simp, by omega, by simp, by simp, by simp, by simp, o0, by simp, Chg.app _⟩
    rintro n t H' ⟨i, r, rfl, hi, t0, t1, t5, t6, o, nr, ch⟩ ih
    have hH' := h.chg ch (by simp)
    simp [t0, t1, t5, t6, hH'.rd.len]
    refine wp_dec ?_ ?_ <;> intro hlt
    · have p1 := rw_ix hH' hlt []
      have p3 := dw_fl hH' hlt []
      simp only [List.append_nil] at p1 p3
      obtain ⟨s1, s2⟩ := shift_at hb g1 hlt (h.2.G i)
      have hlr : (shiftK b (xs.take i)).length = i := by simp [shiftK]; omega
      obtain ⟨r2, H2, hap, o2, c2, n2⟩ := dw_push (frz := H.length) o s1 (by rw [hlr]; omega) nr
      rw [s2, ← shift_take b hlt] at o2
      have e1 : ∀ [Inhabited Unit], IntKind.i64.wrap (G xs i / 1024 + b) = G xs i / 1024 + b := by intro _; have := s1.1; exact w64 (by omega) (by omega)
      have e2 : ∀ [Inhabited Unit], IntKind.i64.wrap (G xs i % 1024 + b) = G xs i % 1024 + b := by intro _; have := s1.2; exact w64 (by omega) (by omega)
      have l1 := ch.1
      simp [t0, t1, t5, t6]
      rw [go_draw (h := by kernel_rfl)]
      simp [-vfieldAddr, t0, t1, t5, t6, p1, p3, VM.look, e1, e2, hap, l1]
      refine ih (xs.length - (i + 1)) _ _ ⟨i + 1, r2, rfl, by omega, by simp [t0], by simp [t1], by simp, ?_, o2, fun j hj => ?_, ch.trans' c2 (fun j hj => .inr (nr j hj))⟩ (by omega)
      · simp; rw [w64 (by omega) (by omega)]
      · rcases n2 j hj with q | q
        · exact nr j q
        · omega
    · have hin : i = xs.length := by omega
      rw [hin, List.take_length] at o
      have hlr : (shiftK b xs).length = xs.length := by simp [shiftK]
      simp [t0, t1, t5, sDependsOk_c r _ o (by omega)]
      refine wp_dec ?_ ?_ <;> intro g2
      · simp [t5]
        rw [shiftOf, if_pos g1, if_pos g2]
        exact ⟨o, ch, nr⟩
      · simp
        rw [shiftOf, if_pos g1, if_neg g2]
        exact ⟨⟨Ow.new0 (D := Fl.dep) (xs := []) rfl rfl rfl rfl, fun x hx => by simp at hx⟩, ch.trans (Chg.app _), by simp; exact ch.1⟩
  · simp [g1]
    rw [shiftOf, if_neg g1]
    exact ⟨o0, Chg.app _, by simp⟩
theorem insK_len (k : Int) : ∀ l : List Int, (insK k l).length ≤ l.length + 1
  | [] => by simp [insK]
  | a :: l => by
    have := insK_len k l
    unfold insK
    repeat' split
    all_goals simp
    omega
theorem fold_len : ∀ (l s : List Int), (l.foldl (fun s k => insK k s) s).length ≤ s.length + l.length
  | [], s => by simp
  | k :: l, s => by
    have := fold_len l (insK k s)
    have := insK_len k s
    simp only [List.foldl_cons, List.length_cons]
    omega
/-- two lists in one -/
noncomputable def mergeOf (xs ys : List Int) : List Int := if dOk xs then (if dOk ys then arrK (xs ++ ys) else []) else []
theorem sMerge_w (u v : Value) (xs ys : List Int) (hu : OwE 61 H u xs) (hv : OwE 61 H v ys) (lx : xs.length ≤ 1048576) (ly : ys.length ≤ 1048576) (hF : frz ≤ H.length) : wp (vcall C frz 23 [u, v] H) (MadeE H (mergeOf xs ys)) := by
  rw [vcall_go (fn := Try.f23) Try.func23 rfl (by kernel_rfl) rfl]
  have o0 : Ow Fl.dep 61 (H ++ [⟨[], 0, 61⟩]) (.slice (some ⟨H.length, 0, some 0⟩) 0 0) [] := Ow.new0 (D := Fl.dep) (xs := []) rfl rfl rfl rfl
  obtain ⟨r1, H1, hap1, o1, c1, n1⟩ := o0.append (P := Try.prog) (frz := H.length) (ty := 33) (hu.app (L := [⟨[], 0, 61⟩])).rd (by simp) (ones_dep _) (by simp; omega) (by simp)
  rw [List.nil_append] at o1
  have c1' : Chg H H1 [] := (Chg.app []).trans' c1 (fun x hx => .inr (by simp at hx; omega))
  have n1' : ∀ i ∈ ids r1, H.length ≤ i := fun i hi => by
    rcases n1 i hi with hh | hh
    · simp at hh; omega
    · simp at hh; omega
  have hu1 := hu.chg c1' (by simp)
  have hv1 := hv.chg c1' (by simp)
  have l1 := c1'.1
  simp [-vappend_mk, hap1, sDependsOk_c u xs hu1 (by omega), sDependsOk_c v ys hv1 (by omega)]
  refine wpg_dec ?_ ?_ <;> intro g1
  · simp [g1, sDependsOk_c v ys hv1 (by omega)]
    refine wp_dec ?_ ?_ <;> intro g2
    · simp
      refine wp_inv (fun n t H' => ∃ (i : Nat) (r : Value), n = ys.length - i ∧ i ≤ ys.length ∧ t 1 = v ∧ t 5 = r ∧ t 6 = .int .i64 i ∧ OwE 61 H' r ((ys.take i).foldl (fun s k => insK k s) xs) ∧ (∀ j ∈ ids r, H.length ≤ j) ∧ Chg H H' []) ?_ (n := ys.length)
        ⟨0, r1, by simp, by omega, by simp, by simp, by simp, ⟨o1, hu.2⟩, n1', c1'⟩
      rintro n t H' ⟨i, r, rfl, hi, t1, t5, t6, o, nr, ch⟩ ih
      have hH' := hv.chg ch (by simp)
      simp [t1, t5, t6, hH'.rd.len]
      refine wp_dec ?_ ?_ <;> intro hlt
      · have p1 := rw_ix hH' hlt []
        simp only [List.append_nil] at p1
        have asc := fold_asc (ys.take i) xs (dOk_asc g1)
        have l2 := ch.1
        simp [t1, t5, t6, p1]
        refine wp_thn (put_w r _ (G ys i) o (hv.2.G i) asc.1 ?_ (by omega)) ?_
        · have := fold_len (ys.take i) xs; simp at this; omega
        rintro r2 H2 ⟨o2, c2, n2⟩
        simp [t1, t5, t6]
        refine ih (ys.length - (i + 1)) _ _ ⟨i + 1, r2, rfl, by omega, by simp [t1], by simp, ?_, ?_, fun j hj => ?_, ch.trans c2⟩ (by omega)
        · simp; rw [w64 (by omega) (by omega)]
        · rw [take_G hlt, List.foldl_append]; exact o2
        · rcases n2 j hj with q | q
          · exact nr j q
          · omega
      · have hin : i = ys.length := by omega
        rw [hin, List.take_length, fold_insK (dOk_asc g1)] at o
        simp [t5]
        rw [mergeOf, if_pos g1, if_pos g2]
        exact ⟨o, ch, nr⟩
    · simp
      rw [mergeOf, if_pos g1, if_neg g2]
      exact ⟨⟨Ow.new0 (D := Fl.dep) (xs := []) rfl rfl rfl rfl, fun x hx => by simp at hx⟩, c1'.trans (Chg.app _), by simp; exact c1'.1⟩
  · simp [g1]
    rw [mergeOf, if_neg g1]
    exact ⟨⟨Ow.new0 (D := Fl.dep) (xs := []) rfl rfl rfl rfl, fun x hx => by simp at hx⟩, c1'.trans (Chg.app _), by simp; exact c1'.1⟩
end Go.Proofs.Ytlbbalmeaedbdaa.V
/-! What unicasts cost. -/
set_option linter.all false
namespace Go.Proofs.Ytlbbalmeaedbdaa.V
open Go Go.VM Go.Proofs
set_option maxRecDepth 10000
variable {frz : Nat} {H : Heap}
def castOk (w h : Int) (b T : List Int) (a : Int) (ts : List Int) : Prop := tableOk w h b T ∧ isN w h a ∧ ∀ x ∈ ts, isN w h x
instance (w h : Int) (b T : List Int) (a : Int) (ts : List Int) : Decidable (castOk w h b T a ts) := inferInstanceAs (Decidable (_ ∧ _))
/-- what single packets to all targets cost -/
def cost (w h : Int) (b T : List Int) (a : Int) (ts : List Int) : Nat := (ts.map fun x => (walk w h b T a x).length).sum
theorem walk_len (w h : Int) (b T : List Int) (a to : Int) : (walk w h b T a to).length ≤ 16 := by
  have := walkN_len w h b T to (cnt w h).toNat a []
  have hc := cnt_range w h
  simp only [walk] at *
  simp at this; omega
theorem cost_succ {w h : Int} {b T : List Int} {a : Int} {ts : List Int} {i : Nat} (hi : i < ts.length) : cost w h b T a (ts.take (i + 1)) = cost w h b T a (ts.take i) + (walk w h b T a ts[i]).length := by
  unfold cost
  rw [List.take_succ_eq_append_getElem hi, List.map_append, List.sum_append]; simp
theorem cost_le (w h : Int) (b T : List Int) (a : Int) (ts : List Int) : cost w h b T a ts ≤ 16 * ts.length := by
  unfold cost
  induction ts with
  | nil => simp
  | cons x ts ih =>
    have := walk_len w h b T a x
    simp only [List.map_cons, List.sum_cons, List.length_cons]; omega
theorem walk_selfT {w h : Int} {b T : List Int} {a : Int} (ht : tableOk w h b T) (ha : isN w h a) : walk w h b T a a = [] := by
  obtain ⟨a0, a1⟩ := ha
  have := (ht.2 a.toNat (by omega) a.toNat (by omega)).1 rfl
  rw [show ((a.toNat : Nat) : Int) = a by omega] at this
  unfold walk
  cases (cnt w h).toNat <;> simp [walkN, this]
theorem walkT_c (w h : Int) (v u : Value) (b T : List Int) (a to : Int) (hI : IsI H v b) (hT : IsI H u T) (hl : b.length ≤ 1073741824) (hz : tableOk w h b T) (ha : isN w h a) (hto : isN w h to) :
   vcall C frz 37 [.agg #[.int .i64 w, .int .i64 h, v], .agg #[u], .int .i64 a, .int .i64 to] H = some (ret H (walk w h b T a to)) := by
  by_cases hne : a = to
  · subst hne
    rw [walk_selfT hz ha, vcall_go (fn := Try.f37) Try.func37 rfl (by kernel_rfl) rfl]
    simp [hI.one', hI.cells, hT.one', hT.cells, ret]
  · exact walk_c w h v u b T a to hI hT hl hz.1 ha hto hne
end Go.Proofs.Ytlbbalmeaedbdaa.V
/-! The laws' own functions: numbers, meshes, tables. -/
set_option linter.all false
namespace Go.Proofs.Ytlbbalmeaedbdaa.V
open Go Go.VM Go.Proofs
set_option maxRecDepth 10000
variable {frz : Nat} {H : Heap}
def big : Nat := 1073741824
abbrev dIntS : Dt Value (List Int) := dFlat Fl.int 3 1073741824
/-- what a marking function leaves, told by what its reader says of it -/
def Marks {V A : Type} (B : Int) (T : Dt V A) (held : Nat) (H : Heap) (v : V) (a : A) (k : Int) (r : Value) (H' : Heap) : Prop :=
  ∃ (n : Int) (a' : A), r = .int .i64 (k + n) ∧ (0 ≤ n ∧ n ≤ B) ∧ T.val v a' = T.val v a ∧ T.Ow H' v a' ∧ Chg H H' (T.ids v) ∧
    ∀ F H2, T.Ow H2 v a' → vcall C F held [T.val v a', .int .i64 k] H2 = some (.int .i64 (k + n), H2)
/-- a data value and a flag -/
def Made2 {V A : Type} (T : Dt V A) (H : Heap) (a : A) (ok : Bool) (r : Value) (H' : Heap) : Prop := ∃ u, r = .tuple #[u, .bool ok] ∧ T.Made H a u H'
theorem toIntS_w (v : Value) (xs : List Int) (hI : IsI H v xs) (hb : xs.length ≤ 1073741824) : wp (vcall C frz 30 [v] H) (dIntS.Made H xs) := by
  rw [toIntS_c v xs hI hb]
  simp
  exact ⟨_, rfl, ⟨Ow.new0 rfl (cellsOf_int xs).symm (by simp) rfl, hb⟩, Chg.app _, by simp [dFlat], ids_nodup (.slice (some ⟨H.length, 0, some 0⟩) xs.length 0)⟩
theorem eqIntS_d {a b : Value} {xs ys : List Int} (ha : dIntS.Ow H a xs) (hb : dIntS.Ow H b ys) : vcall C frz 41 [a, b] H = some (.bool (decide (xs = ys)), H) :=
  eqIntS_c a b xs ys ha.1.rd.isI hb.1.rd.isI ha.2
-- meshes
abbrev MeshD := Int × Int × List Int
def dMesh : Dt Value MeshD where
  val v a := .agg #[.int .i64 a.1, .int .i64 a.2.1, v]
  Ow H v a := dIntS.Ow H v a.2.2
  ids := VM.ids
  frame h k := dIntS.frame h k
  lt h := dIntS.lt h
theorem dMesh_val (v : Value) (a : MeshD) : dMesh.val v a = .agg #[.int .i64 a.1, .int .i64 a.2.1, v] := rfl
theorem dMesh_one {v : Value} {a : MeshD} (h : dMesh.Ow H v a) : VM.one v = true ∧ v.cells = #[v] := ⟨h.1.rd.one', h.1.rd.cells⟩
theorem dIntS_one {v : Value} {a : List Int} (h : dIntS.Ow H v a) : VM.one v = true ∧ v.cells = #[v] := ⟨h.1.rd.one', h.1.rd.cells⟩
theorem dIntS_val (v : Value) (a : List Int) : dIntS.val v a = v := rfl
theorem toMesh_w (w h : Int) (v : Value) (b : List Int) (hI : IsI H v b) (hb : b.length ≤ 1073741824) : wp (vcall C frz 8 [.agg #[.int .i64 w, .int .i64 h, v]] H) (dMesh.Made H (w, h, b)) := by
  rw [toMesh_c w h v b hI hb]
  simp
  exact ⟨_, rfl, ⟨Ow.new0 rfl (cellsOf_int b).symm (by simp) rfl, hb⟩, Chg.app _, by simp [dMesh], ids_nodup (.slice (some ⟨H.length, 0, some 0⟩) b.length 0)⟩
theorem eqMesh_d {a b : Value} {x y : MeshD} (ha : dMesh.Ow H a x) (hb : dMesh.Ow H b y) : vcall C frz 12 [dMesh.val a x, dMesh.val b y] H = some (.bool (decide (x = y)), H) := by
  obtain ⟨w, h, b1⟩ := x; obtain ⟨w', h', b2⟩ := y
  rw [dMesh_val, dMesh_val]
  have := eqMesh_c (frz := frz) w h w' h' a b b1 b2 ha.1.rd.isI hb.1.rd.isI ha.2
  rw [this]
  congr 3
  simp [and_assoc]
-- tables
def dTable : Dt Value (List Int) where
  val v _ := .agg #[v]
  Ow H v a := dIntS.Ow H v a
  ids := VM.ids
  frame h k := dIntS.frame h k
  lt h := dIntS.lt h
theorem dTable_val (v : Value) (a : List Int) : dTable.val v a = .agg #[v] := rfl
theorem dTable_one {v : Value} {a : List Int} (h : dTable.Ow H v a) : VM.one v = true ∧ v.cells = #[v] := ⟨h.1.rd.one', h.1.rd.cells⟩
theorem szTable_c (v : Value) (xs : List Int) (n : Int) (hI : IsI H v xs) (h0 : 0 ≤ n) (h1 : n ≤ 1048576) (h2 : xs.length ≤ 9223372036854775807) :
    vcall C frz 21 [.agg #[v], .int .i64 n] H = some (.int .i64 (if n < xs.length then -1 else n - xs.length), H) := by
  rw [vcall_go (fn := Try.f21) Try.func21 rfl (by kernel_rfl) rfl]
  simp [szIntS_c _ _ _ (hI.app _) h0 h1 h2, hI.one', hI.cells]
  refine br_dec _ ?_ ?_ <;> intro h <;> simp [h]
  · intro hh; omega
theorem toTable_w (v : Value) (xs : List Int) (hI : IsI H v xs) (hb : xs.length ≤ 1073741824) :
   wp (vcall C frz 31 [.agg #[v]] H) (dTable.Made H xs) := by
  rw [vcall_go (fn := Try.f31) Try.func31 rfl (by kernel_rfl) rfl]
  simp [toIntS_c _ _ (hI.app _) hb, hI.one', hI.cells]
  exact ⟨_, rfl, ⟨Ow.new0 rfl (cellsOf_int xs).symm (by simp) rfl, hb⟩, Chg.app _, by simp [dTable], ids_nodup (.slice (some ⟨H.length, 0, some 0⟩) xs.length 0)⟩
theorem eqTable_d {a b : Value} {x y : List Int} (ha : dTable.Ow H a x) (hb : dTable.Ow H b y) : vcall C frz 42 [dTable.val a x, dTable.val b y] H = some (.bool (decide (x = y)), H) := by
  rw [dTable_val, dTable_val]
  rw [vcall_go (fn := Try.f42) Try.func42 rfl (by kernel_rfl) rfl]
  simp [dTable_one ha, dTable_one hb, eqIntS_c _ _ _ _ (ha.1.rd.isI.app _) (hb.1.rd.isI.app _) ha.2]
  refine br_dec _ ?_ ?_ <;> intro h0 <;> simp [h0]
end Go.Proofs.Ytlbbalmeaedbdaa.V
/-! Two tables. -/
set_option linter.all false
namespace Go.Proofs.Ytlbbalmeaedbdaa.V
open Go Go.VM Go.Proofs
set_option maxRecDepth 10000
variable {frz : Nat} {H : Heap}
abbrev ClassesD := List Int × List Int
def dClasses : Dt (Value × Value) ClassesD where
  val v _ := .agg #[v.1, v.2]
  Ow H v a := dIntS.Ow H v.1 a.1 ∧ dIntS.Ow H v.2 a.2
  ids v := VM.ids v.1 ++ VM.ids v.2
  frame h k := ⟨dIntS.frame h.1 fun i hi => k i (List.mem_append.2 (.inl hi)), dIntS.frame h.2 fun i hi => k i (List.mem_append.2 (.inr hi))⟩
  lt h i hi := by
    rcases List.mem_append.1 hi with hi | hi
    · exact dIntS.lt h.1 i hi
    · exact dIntS.lt h.2 i hi
theorem dClasses_val (v : Value × Value) (a : ClassesD) : dClasses.val v a = .agg #[v.1, v.2] := rfl
theorem dClasses_one {v : Value × Value} {a : ClassesD} (h : dClasses.Ow H v a) : (VM.one v.1 = true ∧ v.1.cells = #[v.1]) ∧ VM.one v.2 = true ∧ v.2.cells = #[v.2] := ⟨⟨h.1.1.rd.one', h.1.1.rd.cells⟩, h.2.1.rd.one', h.2.1.rd.cells⟩
theorem eqClasses_d {a b : Value × Value} {x y : ClassesD} (ha : dClasses.Ow H a x) (hb : dClasses.Ow H b y) : vcall C frz 13 [dClasses.val a x, dClasses.val b y] H = some (.bool (decide (x = y)), H) := by
  obtain ⟨x1, x2⟩ := x; obtain ⟨y1, y2⟩ := y; obtain ⟨a1, a2⟩ := a; obtain ⟨b1, b2⟩ := b
  rw [dClasses_val, dClasses_val]
  rw [vcall_go (fn := Try.f13) Try.func13 rfl (by kernel_rfl) rfl]
  have one := And.intro (dClasses_one ha) (dClasses_one hb)
  have e1 := fun F L => eqTable_d (frz := F) (H := H ++ L) (a := a1) (b := b1) (x := x1) (y := y1) (Dt.app (T := dIntS) ha.1) (Dt.app (T := dIntS) hb.1)
  have e2 := fun F L => eqTable_d (frz := F) (H := H ++ L) (a := a2) (b := b2) (x := x2) (y := y2) (Dt.app (T := dIntS) ha.2) (Dt.app (T := dIntS) hb.2)
  simp only [dTable_val] at e1 e2
  simp at one
  simp [one, e1]
  refine br_dec _ ?_ ?_ <;> intro h0 <;> simp [h0, one, e2]
  refine br_dec _ ?_ ?_ <;> intro h0 <;> simp [h0]
theorem szClasses_c (v1 v2 : Value) (A B : List Int) (n : Int) (h1 : IsI H v1 A) (h2 : IsI H v2 B) (h0 : 0 ≤ n) (hn : n ≤ 1048576) (l1 : A.length ≤ 9223372036854775807) (l2 : B.length ≤ 9223372036854775807) :
    vcall C frz 6 [.agg #[v1, v2], .int .i64 n] H = some (.int .i64 (if n < (A.length : Int) + (B.length : Int) then -1 else n - ((A.length : Int) + (B.length : Int))), H) := by
  rw [vcall_go (fn := Try.f6) Try.func6 rfl (by kernel_rfl) rfl]
  have one := And.intro (And.intro h1.one' h1.cells) (And.intro h2.one' h2.cells)
  simp [one, szTable_c _ _ _ (h1.app _) h0 hn (by omega)]
  by_cases g : n < (A.length : Int)
  · simp [g]; omega
  · have g2 : ¬ n - (A.length : Int) < 0 := by omega
    simp [g, g2, one, szTable_c _ _ _ (h2.app _) (by omega : 0 ≤ n - (A.length : Int)) (by omega) (by omega)]
    by_cases g3 : n - (A.length : Int) < (B.length : Int)
    · simp [g3]; omega
    · have g4 : ¬ n - (A.length : Int) - (B.length : Int) < 0 := by omega
      simp [g3, g4]
      rw [if_neg (by omega)]; omega
theorem toClasses_w (v1 v2 : Value) (A B : List Int) (h1 : IsI H v1 A) (h2 : IsI H v2 B) (l1 : A.length ≤ 1073741824) (l2 : B.length ≤ 1073741824) :
   wp (vcall C frz 9 [.agg #[v1, v2]] H) (dClasses.Made H (A, B)) := by
  rw [vcall_go (fn := Try.f9) Try.func9 rfl (by kernel_rfl) rfl]
  have one := And.intro (And.intro h1.one' h1.cells) (And.intro h2.one' h2.cells)
  simp [one]
  refine wp_thn (toTable_w v1 A (h1.app _) l1) ?_
  rintro _ H1 ⟨u1, rfl, o1, c1, n1, d1⟩
  have b0 : H1[H.length]? = some ⟨[v1, v2], 0, 30⟩ := box_chg (by simp) c1 (by simp)
  have bR : H1[H.length + 1]? = some ⟨[.slice none 0 0, .slice none 0 0], 0, 41⟩ := box_chg (by simp) c1 (by simp)
  have b1 : H1[H.length + 2]? = some ⟨[.slice none 0 0, .slice none 0 0], 0, 41⟩ := box_chg (by simp) c1 (by simp)
  have lc := c1.1
  simp at n1 lc
  have onu := dTable_one o1
  have hF : H.length ≤ H.length + 2 := by omega
  have hF1 : H.length ≤ H.length + 1 := by omega
  have e1 : Chg H1 (H1.set (H.length + 2) ⟨[u1, .slice none 0 0], 0, 41⟩) [H.length + 2] := chg_set _ _
  have cH1 : Chg H (H1.set (H.length + 2) ⟨[u1, .slice none 0 0], 0, 41⟩) [] := ((Chg.app []).trans c1).trans' e1 (fun i hi => .inr (by simp at hi; omega))
  have p1 := set_get (r' := ⟨[u1, .slice none 0 0], 0, 41⟩) b1
  have p0 := box_chg b0 e1 (by simp)
  have pR := box_chg bR e1 (by simp)
  have o1' := Dt.chg (T := dTable) o1 e1 (fun i hi hh => by have := n1 i hi; simp at hh; omega)
  simp [dTable_val, VM.look, b0, b1, onu, one, hF]
  generalize H1.set (H.length + 2) ⟨[u1, .slice none 0 0], 0, 41⟩ = H2 at *
  try simp [VM.look, p0, one]
  refine wp_thn (toTable_w v2 B (Rd.isI (h2.rd.chg cH1 (by simp))) l2) ?_
  rintro _ H3 ⟨u2, rfl, o2, c2, n2, d2⟩
  have b1 := box_chg p1 c2 (by simp)
  have bR := box_chg pR c2 (by simp)
  have l2' := cH1.1
  have lu := dTable.lt o1'
  have onu2 := dTable_one o2
  have o3 := Dt.chg0 (T := dTable) o1' c2
  have e2 : Chg H3 (H3.set (H.length + 2) ⟨[u1, u2], 0, 41⟩) [H.length + 2] := chg_set _ _
  have g1 := set_get (r' := ⟨[u1, u2], 0, 41⟩) b1
  have bR := box_chg bR e2 (by simp)
  have hlt := box_lt p1
  have o4 := Dt.chg (T := dTable) o3 e2 (fun i hi hh => by have := n1 i hi; simp at hh; omega)
  have o5 := Dt.chg (T := dTable) o2 e2 (fun i hi hh => by have := n2 i hi; simp at hh; omega)
  have cH4 := (cH1.trans c2).trans' e2 (fun i hi => .inr (by simp at hi; omega))
  simp [dTable_val, VM.look, b1, onu, onu2, hF]
  generalize H3.set (H.length + 2) ⟨[u1, u2], 0, 41⟩ = H4 at *
  have gR := set_get (r' := ⟨[u1, u2], 0, 41⟩) bR
  simp [VM.look, g1, bR, onu, onu2, hF1, gR]
  refine ⟨(u1, u2), rfl, ⟨Dt.chg (T := dTable) o4 (chg_set _ _) (fun i hi hh => by have := n1 i hi; simp at hh; omega), Dt.chg (T := dTable) o5 (chg_set _ _) (fun i hi hh => by have := n2 i hi; simp at hh; omega)⟩, cH4.trans' (chg_set _ _) (fun i hi => .inr (by simp at hi; omega)), fun i hi => ?_, ?_⟩
  · rcases List.mem_append.1 hi with hi | hi
    · have := n1 i hi; omega
    · have := n2 i hi; omega
  · exact List.nodup_append.2 ⟨d1, d2, fun a ha b hb e => by have := lu a ha; have := n2 b hb; omega⟩
end Go.Proofs.Ytlbbalmeaedbdaa.V
/-! Latency without load; requests and replies. -/
set_option linter.all false
namespace Go.Proofs.Ytlbbalmeaedbdaa.V
open Go Go.VM Go.Proofs
set_option maxRecDepth 10000
variable {frz : Nat} {H : Heap}
def classesOk (w h : Int) (b A B : List Int) : Prop := tableOk w h b A ∧ tableOk w h b B
instance (w h : Int) (b A B : List Int) : Decidable (classesOk w h b A B) := inferInstanceAs (Decidable (_ ∧ _))
/-- a packet: its number, whence, whither, class, length -/
abbrev PkD := Int × Int × Int × Int × Int
def packetOk (w h : Int) (p : PkD) : Prop := inR 1 p.1 9999 ∧ isN w h p.2.1 ∧ isN w h p.2.2.1 ∧ p.2.1 ≠ p.2.2.1 ∧ inR 0 p.2.2.2.1 1 ∧ inR 1 p.2.2.2.2 5
instance (w h : Int) (p : PkD) : Decidable (packetOk w h p) := inferInstanceAs (Decidable (_ ∧ _))
def pkV (p : PkD) : Value := .agg #[.int .i64 p.1, .int .i64 p.2.1, .int .i64 p.2.2.1, .int .i64 p.2.2.2.1, .int .i64 p.2.2.2.2]
theorem classesOk_c (w h : Int) (v u1 u2 : Value) (b A B : List Int) (hI : IsI H v b) (h1 : IsI H u1 A) (h2 : IsI H u2 B) (hl : b.length ≤ 1073741824) :
   vcall C frz 32 [.agg #[.int .i64 w, .int .i64 h, v], .agg #[u1, u2]] H = some (.bool (decide (classesOk w h b A B)), H) := by
  rw [vcall_go (fn := Try.f32) Try.func32 rfl (by kernel_rfl) rfl]
  have one := And.intro (And.intro h1.one' h1.cells) (And.intro h2.one' h2.cells)
  simp [hI.one', hI.cells, one, tableOk_c _ _ _ _ _ _ (hI.app _) (h1.app _) hl]
  refine gd_dec _ _ ?_ ?_ <;> intro g <;> simp [g, classesOk, hI.one', hI.cells, one, tableOk_c _ _ _ _ _ _ (hI.app _) (h2.app _) hl]
theorem sClassesOk_c (w h : Int) (v u1 u2 : Value) (b A B : List Int) (hI : IsI H v b) (h1 : IsI H u1 A) (h2 : IsI H u2 B) (hl : b.length ≤ 1073741824) :
   vcall C frz 22 [.agg #[.int .i64 w, .int .i64 h, v], .agg #[u1, u2]] H = some (.bool (decide (classesOk w h b A B)), H) := by
  rw [vcall_go (fn := Try.f22) Try.func22 rfl (by kernel_rfl) rfl]
  have one := And.intro (And.intro h1.one' h1.cells) (And.intro h2.one' h2.cells)
  simp [hI.one', hI.cells, one, sTableOk_c _ _ _ _ _ _ (hI.app _) (h1.app _) hl]
  refine gd_dec _ _ ?_ ?_ <;> intro g <;> simp [g, classesOk, hI.one', hI.cells, one, sTableOk_c _ _ _ _ _ _ (hI.app _) (h2.app _) hl]
def zeroLoad (w h : Int) (b A B : List Int) (p : PkD) : Int :=
  if classesOk w h b A B ∧ packetOk w h p then ((walk w h b (if p.2.2.2.1 = 1 then B else A) p.2.1 p.2.2.1).length : Int) + p.2.2.2.2 + 1 else -1
theorem zeroLoad_range (w h : Int) (b A B : List Int) (p : PkD) : -1 ≤ zeroLoad w h b A B p ∧ zeroLoad w h b A B p ≤ 100 := by
  unfold zeroLoad; split
  · rename_i g
    have h1 := g.2.2.2.2.2.2
    have := walk_len w h b (if p.2.2.2.1 = 1 then B else A) p.2.1 p.2.2.1
    unfold inR at h1; omega
  · omega
/-- a request and its reply -/
def replyTime (w h : Int) (b A B : List Int) (p : PkD) (n : Int) : Int :=
  if zeroLoad w h b A B p < 0 ∨ zeroLoad w h b A B (p.1, p.2.2.1, p.2.1, IntKind.i64.wrap (1 - p.2.2.2.1), n) < 0 then -1 else zeroLoad w h b A B p + zeroLoad w h b A B (p.1, p.2.2.1, p.2.1, IntKind.i64.wrap (1 - p.2.2.2.1), n)
theorem zeroLoad_id {w h : Int} {b A B : List Int} {i j a c k l : Int} (h1 : inR 1 i 9999) (h2 : inR 1 j 9999) : zeroLoad w h b A B (i, a, c, k, l) = zeroLoad w h b A B (j, a, c, k, l) := by
  unfold zeroLoad packetOk
  simp only [h1, h2]
end Go.Proofs.Ytlbbalmeaedbdaa.V
/-! Dependencies of tables and of replies. -/
set_option linter.all false
namespace Go.Proofs.Ytlbbalmeaedbdaa.V
open Go Go.VM Go.Proofs
set_option maxRecDepth 10000
variable {frz : Nat} {H : Heap} {v : Value} {xs ys : List Int} {e : TypeId}
theorem arrK_congr {l m : List Int} (h : ∀ x, x ∈ l ↔ x ∈ m) : arrK l = arrK m := strict_ext (arrK_asc l) (arrK_asc m) fun x => by rw [mem_arrK, mem_arrK, h]
theorem arrK_len (l : List Int) : (arrK l).length ≤ l.length := by
  have := fold_len l []
  unfold arrK; simpa using this
theorem mem_adjN {l : List Int} {i : Nat} {x : Int} : x ∈ adjN l i ↔ ∃ k, k < i ∧ x = key (G l k) (G l (k + 1)) := by
  simp [adjN, eq_comm]
theorem mem_adjK {l : List Int} {x : Int} : x ∈ adjK l ↔ ∃ k, k + 1 < l.length ∧ x = key (G l k) (G l (k + 1)) := by
  unfold adjK
  rw [mem_adjN]
  constructor <;> rintro ⟨k, h1, h2⟩ <;> exact ⟨k, by omega, h2⟩
theorem adj_small {w h : Int} {b T : List Int} {a to : Int} (ha : isN w h a) : ∀ x ∈ adjK (walk w h b T a to), (0 ≤ x / 1024 ∧ x / 1024 < 64) ∧ 0 ≤ x % 1024 ∧ x % 1024 < 64 := fun x hx => by
  obtain ⟨k, h1, rfl⟩ := mem_adjK.1 hx
  have q1 := walk_chan (b := b) (T := T) ha (to := to) (G (walk w h b T a to) k) (by rw [G_get (by omega)]; exact List.getElem_mem _)
  have q2 := walk_chan (b := b) (T := T) ha (to := to) (G (walk w h b T a to) (k + 1)) (by rw [G_get h1]; exact List.getElem_mem _)
  unfold key
  omega
theorem depsOf_small {w h : Int} {b T : List Int} : ∀ x ∈ depsOf w h b T, (0 ≤ x / 1024 ∧ x / 1024 < 64) ∧ 0 ≤ x % 1024 ∧ x % 1024 < 64 := fun x hx => by
  unfold depsOf at hx
  split at hx
  · rw [mem_arrK] at hx
    obtain ⟨p, hp, hx⟩ := List.mem_flatMap.1 hx
    exact adj_small (isN_nat (mem_allPairs (a := p.1) (c := p.2).1 hp).1) x hx
  · simp at hx
theorem depsOf_asc {w h : Int} {b T : List Int} : (depsOf w h b T).Pairwise (· < ·) := by
  unfold depsOf; split
  · exact arrK_asc _
  · exact List.Pairwise.nil
theorem depsOf_ok {w h : Int} {b T : List Int} : dOk (depsOf w h b T) := dOk_of depsOf_asc fun x hx => by have := depsOf_small x hx; omega
theorem depsOf_len (w h : Int) (b T : List Int) : (depsOf w h b T).length ≤ 65536 := by
  unfold depsOf; split
  · have h1 := arrK_len (walkAdj w h b T (allPairs (cnt w h).toNat (cnt w h).toNat))
    have h2 := walkAdj_len w h b T (allPairs (cnt w h).toNat (cnt w h).toNat)
    have h3 := allPairs_len (cnt w h).toNat (cnt w h).toNat
    have h4 : (cnt w h).toNat * (cnt w h).toNat ≤ 16 * 16 := Nat.mul_le_mul (by have := cnt_range w h; omega) (by have := cnt_range w h; omega)
    omega
  · simp
theorem sqp {w h : Int} {i : Nat} (hi : i < (cnt w h).toNat * (cnt w h).toNat) : i / (cnt w h).toNat < (cnt w h).toNat ∧ i % (cnt w h).toNat < (cnt w h).toNat := by
  have h0 : 0 < (cnt w h).toNat := by
    rcases Nat.eq_zero_or_pos (cnt w h).toNat with q | q
    · rw [q] at hi; simp at hi
    · exact q
  exact ⟨Nat.div_lt_of_lt_mul hi, Nat.mod_lt _ h0⟩
def sqAdj (w h : Int) (b T : List Int) (i : Nat) : List Int := (List.range i).flatMap fun i => adjK (walk w h b T (i / (cnt w h).toNat : Nat) (i % (cnt w h).toNat : Nat))
theorem sqAdj_succ (w h : Int) (b T : List Int) (i : Nat) : sqAdj w h b T (i + 1) = sqAdj w h b T i ++ adjK (walk w h b T (i / (cnt w h).toNat : Nat) (i % (cnt w h).toNat : Nat)) := by simp [sqAdj, List.range_succ]
theorem sqAdj_len (w h : Int) (b T : List Int) : ∀ i, (sqAdj w h b T i).length ≤ 256 * i
  | 0 => by simp [sqAdj]
  | i + 1 => by
    rw [sqAdj_succ, List.length_append]
    have := sqAdj_len w h b T i
    have h1 := walk_lenE w h b T (i / (cnt w h).toNat : Nat) (i % (cnt w h).toNat : Nat)
    have h2 : (adjK (walk w h b T (i / (cnt w h).toNat : Nat) (i % (cnt w h).toNat : Nat))).length = (walk w h b T (i / (cnt w h).toNat : Nat) (i % (cnt w h).toNat : Nat)).length - 1 := adjN_len _ _
    omega
theorem walk_self {w h : Int} {b T : List Int} (k : tableOk w h b T) {a : Nat} (ha : a < (cnt w h).toNat) : walk w h b T a a = [] := by
  have h4 := (k.2 a ha a ha).1 rfl
  unfold walk
  cases (cnt w h).toNat <;> simp [walkN, h4]
theorem sqAdj_eq {w h : Int} {b T : List Int} (k : tableOk w h b T) : arrK (sqAdj w h b T ((cnt w h).toNat * (cnt w h).toNat)) = depsOf w h b T := by
  rw [depsOf, if_pos k]
  refine arrK_congr fun x => ?_
  unfold sqAdj walkAdj
  rw [List.mem_flatMap, List.mem_flatMap]
  constructor
  · rintro ⟨i, hi, hx⟩
    have hi := List.mem_range.1 hi
    obtain ⟨q1, q2⟩ := sqp hi
    refine ⟨(i / (cnt w h).toNat, i % (cnt w h).toNat), mem_allPairs.2 ⟨q1, q2, fun e => ?_⟩, hx⟩
    rw [← e, walk_self k q1] at hx
    simp [adjK, adjN] at hx
  · rintro ⟨p, hp, hx⟩
    obtain ⟨q1, q2, q3⟩ := (mem_allPairs (a := p.1) (c := p.2)).1 hp
    have e1 : (p.1 * (cnt w h).toNat + p.2) / (cnt w h).toNat = p.1 := by rw [Nat.mul_comm, Nat.mul_add_div (by omega), Nat.div_eq_of_lt q2, Nat.add_zero]
    have e2 : (p.1 * (cnt w h).toNat + p.2) % (cnt w h).toNat = p.2 := by rw [Nat.mul_comm, Nat.mul_add_mod, Nat.mod_eq_of_lt q2]
    refine ⟨p.1 * (cnt w h).toNat + p.2, List.mem_range.2 ?_, by rw [e1, e2]; exact hx⟩
    have : (p.1 + 1) * (cnt w h).toNat ≤ (cnt w h).toNat * (cnt w h).toNat := Nat.mul_le_mul_right _ q1
    rw [Nat.succ_mul] at this
    omega
theorem arrK_snoc (l : List Int) (k : Int) : arrK (l ++ [k]) = insK k (arrK l) := by unfold arrK; rw [List.foldl_append]; rfl
theorem sDependsOf_w (w h : Int) (v u : Value) (b T : List Int) (hI : IsI H v b) (hT : IsI H u T) (hl : b.length ≤ 1073741824) (hF : frz ≤ H.length) :
   wp (vcall C frz 24 [.agg #[.int .i64 w, .int .i64 h, v], .agg #[u]] H) (MadeE H (depsOf w h b T)) := by
  rw [vcall_go (fn := Try.f24) Try.func24 rfl (by kernel_rfl) rfl]
  have onv := And.intro hI.one' hI.cells
  have onu := And.intro hT.one' hT.cells
  obtain ⟨M, hM⟩ : ∃ M : Heap, M = [⟨[.int .i64 w, .int .i64 h, v], 0, 37⟩, ⟨[u], 0, 39⟩, ⟨[], 0, 61⟩] := ⟨_, rfl⟩
  have o0 : OwE 61 (H ++ M) (.slice (some ⟨H.length + 2, 0, some 0⟩) 0 0) [] := ⟨by rw [hM]; exact Ow.new (D := Fl.dep) (xs := []) (k := 2) rfl rfl rfl rfl, fun x hx => by simp at hx⟩
  have b0 : (H ++ M)[H.length]? = some ⟨[.int .i64 w, .int .i64 h, v], 0, 37⟩ := by rw [hM]; simp
  have b1 : (H ++ M)[H.length + 1]? = some ⟨[u], 0, 39⟩ := by rw [hM]; simp
  have tk := fun F => sTableOk_c (frz := F) w h v u b T (hI.app M) (hT.app M) hl
  have nc := fun F => sNodeCount_c (frz := F) (H := H ++ M) w h
  have hMl : M.length = 3 := by rw [hM]; rfl
  rw [hM] at tk nc
  simp [onv, onu, VM.look, tk, nc]
  rw [← hM]
  clear hM tk
  have hc := cnt_range w h
  refine wp_dec ?_ ?_ <;> intro g
  · simp [VM.look, b0, b1, onv, onu, sNodeCount_c]
    have hsq := sq_small w h
    rw [← sqAdj_eq g]
    have hz := g.1
    obtain ⟨n0, hn0⟩ : ∃ n0 : Nat, cnt w h = n0 := ⟨(cnt w h).toNat, by omega⟩
    have hnt : (cnt w h).toNat = n0 := by omega
    have hlN : n0 * n0 ≤ 16 * 16 := Nat.mul_le_mul (by omega) (by omega)
    have hsq' : ∀ [Inhabited Unit], IntKind.i64.wrap ((n0 : Int) * n0) = ((n0 * n0 : Nat) : Int) := by intro _; rw [hn0] at hsq; rw [hsq]; simp
    obtain ⟨N, hN⟩ : ∃ N, N = n0 * n0 := ⟨_, rfl⟩
    rw [← hN] at hsq' hlN
    rw [hnt, ← hN]
    rw [hn0]
    refine wp_inv (fun n t H' => ∃ (i : Nat) (r : Value), n = N - i ∧ i ≤ N ∧ t 2 = .pointer (some ⟨H.length, 0, some 0⟩) ∧ t 3 = .pointer (some ⟨H.length + 1, 0, some 0⟩) ∧ t 5 = r ∧ t 6 = .int .i64 n0 ∧ t 7 = .int .i64 i ∧
        OwE 61 H' r (arrK (sqAdj w h b T i)) ∧ (∀ j ∈ ids r, H.length ≤ j) ∧ Chg (H ++ M) H' []) ?_ (n := N)
      ⟨0, .slice (some ⟨H.length + 2, 0, some 0⟩) 0 0, by simp, by omega, by simp, by simp, by simp, by simp, by simp, by simpa [sqAdj, arrK] using o0, by simp, Chg.refl _⟩
    rintro n t H' ⟨i, r, rfl, hi, t2, t3, t5, t6, t7, o, nr, ch⟩ ih
    have b0' := box_chg b0 ch (by simp)
    have b1' := box_chg b1 ch (by simp)
    simp [t2, t3, t5, t6, t7, hsq']
    refine wp_dec ?_ ?_ <;> intro hlt
    · have hs := sqp (w := w) (h := h) (i := i) (by rw [hnt, ← hN]; exact hlt)
      rw [hnt] at hs
      simp [t2, t3, t5, t6, t7]
      rw [go_draw (h := by kernel_rfl)]
      have h0 : ¬ n0 = 0 := by omega
      obtain ⟨p, hp⟩ : ∃ p, p = i / n0 := ⟨_, rfl⟩
      obtain ⟨q, hq⟩ : ∃ q, q = i % n0 := ⟨_, rfl⟩
      have hpi : p ≤ i := by rw [hp]; exact Nat.div_le_self i n0
      have sq := sqAdj_succ w h b T i
      rw [hnt, ← hp, ← hq] at sq
      rw [← hp, ← hq] at hs
      have e1 : ∀ [Inhabited Unit], IntKind.i64.wrap ((i : Int) / (n0 : Int)) = (p : Int) := by intro _; rw [hp, ← Int.natCast_ediv, w64 (by omega) (by omega)]
      have e2 : (i : Int).tmod (n0 : Int) = (q : Int) := by rw [hq]; exact (Int.ofNat_tmod i n0).symm
      clear hp hq
      have hIH := (hI.app M).rd.chg ch (by simp) |>.isI
      have hTH := (hT.app M).rd.chg ch (by simp) |>.isI
      have wk := fun F => sWalk_c (frz := F) w h v u b T p q hIH hTH hl hz (isN_nat (by omega)) (isN_nat (by omega))
      have wl := walk_lenE w h b T p q
      have wc := walk_chan (b := b) (T := T) (a := p) (w := w) (h := h) (isN_nat (by omega)) (to := q)
      have sql := sqAdj_len w h b T i
      generalize walk w h b T p q = ws at *
      simp [t2, t3, t5, t6, t7, VM.look, b0', b1', onv, onu, h0, e1, e2, wk]
      have hzI : IsI (H' ++ [⟨ws.map (.int .i64), 0, 3⟩]) (.slice (some ⟨H'.length, 0, some 0⟩) ws.length 0) ws := IsI.at0 rfl
      obtain ⟨z, hz0⟩ : ∃ z, z = Value.slice (some ⟨H'.length, 0, some 0⟩) ws.length 0 := ⟨_, rfl⟩
      rw [← hz0] at hzI ⊢
      obtain ⟨H1, hH1⟩ : ∃ H1, H1 = H' ++ [⟨ws.map (.int .i64), 0, 3⟩] := ⟨_, rfl⟩
      have o1 : OwE 61 H1 r (arrK (sqAdj w h b T i)) := by rw [hH1]; exact o.app
      have ch1 : Chg (H ++ M) H1 [] := by rw [hH1]; exact ch.trans (Chg.app [])
      rw [← hH1] at hzI ⊢
      have lc := ch1.1
      simp at lc
      refine wp_inv (fun n t H' => ∃ (k : Nat) (r : Value), n = ws.length - k ∧ 1 ≤ k ∧ k ≤ max 1 ws.length ∧ t 2 = .pointer (some ⟨H.length, 0, some 0⟩) ∧ t 3 = .pointer (some ⟨H.length + 1, 0, some 0⟩) ∧ t 5 = r ∧ t 6 = .int .i64 n0 ∧ t 7 = .int .i64 i ∧ t 8 = z ∧ t 9 = .int .i64 k ∧
          OwE 61 H' r (arrK (sqAdj w h b T i ++ adjN ws (k - 1))) ∧ (∀ j ∈ ids r, H.length ≤ j) ∧ Chg H1 H' []) ?_ (n := ws.length - 1)
        ⟨1, r, rfl, by omega, by omega, by simp [t2], by simp [t3], by simp [t5], by simp [t6], by simp [t7], by simp, by simp, by simpa [adjN] using o1, nr, Chg.refl _⟩
      clear b0' b1' t2 t3 t5 t6 t7 o nr
      rintro n t H2 ⟨k, r, rfl, hk1, hk2, t2, t3, t5, t6, t7, t8, t9, o, nr, ch2⟩ ih2
      have zH : IsI H2 z ws := (hzI.rd.chg ch2 (by simp)).isI
      have l2 := ch2.1
      simp [t2, t3, t5, t6, t7, t8, t9, zH.len]
      refine wp_dec ?_ ?_ <;> intro hk
      · have e1 : ∀ [Inhabited Unit], IntKind.i64.wrap ((k : Int) - 1) = ((k - 1 : Nat) : Int) := by intro _; rw [w64 (by omega) (by omega)]; omega
        have p1 : ∀ (k : Nat), k < ws.length → vindexAddr Try.prog H2 24 z (.int .i64 k) = some (elp z k) ∧ vload Try.prog H2 3 (elp z k) = some (.int .i64 (G ws k)) := fun k hk => by
          refine ⟨?_, zH.load (by simp) hk⟩
          have := zH.idx (P := Try.prog) (ty := 24) (e := 3) (by simp) (i := (k : Int)) (by omega) (by omega)
          simpa using this
        have q1 := p1 k (by omega)
        have q2 := p1 (k - 1) (by omega)
        have cb : CB (G ws (k - 1)) (G ws k) := by
          rw [G_get (by omega : k - 1 < ws.length), G_get (by omega : k < ws.length)]
          have w1 := wc _ (List.getElem_mem (by omega : k - 1 < ws.length))
          have w2 := wc _ (List.getElem_mem (by omega : k < ws.length))
          unfold CB; omega
        have al := arrK_len (sqAdj w h b T i ++ adjN ws (k - 1))
        rw [List.length_append, adjN_len] at al
        have pw := fun F hF => put_w (frz := F) r _ (key (G ws (k - 1)) (G ws k)) o cb.kb (arrK_asc _) (by omega) hF
        rw [dv_key cb.2] at pw
        simp [t2, t3, t5, t6, t7, t8, t9]
        rw [go_draw (h := by kernel_rfl)]
        simp [t2, t3, t5, t6, t7, t8, t9, e1, q1, q2]
        refine wp_thn (pw _ (by omega)) ?_
        rintro r2 H3 ⟨o3, c3, n3⟩
        simp [t2, t3, t5, t6, t7, t8, t9]
        refine ih2 (ws.length - (k + 1)) _ _ ⟨k + 1, r2, rfl, by omega, by omega, by simp [t2], by simp [t3], by simp, by simp [t6], by simp [t7], by simp [t8], ?_, ?_, fun j hj => ?_, ch2.trans c3⟩ (by omega)
        · simp; rw [w64 (by omega) (by omega)]
        · have e3 : adjN ws (k + 1 - 1) = adjN ws (k - 1) ++ [key (G ws (k - 1)) (G ws k)] := by
            have := adjN_succ ws (k - 1)
            rw [show k - 1 + 1 = k by omega] at this
            exact this
          rw [e3, ← List.append_assoc, arrK_snoc]
          exact o3
        · rcases n3 j hj with q | q
          · exact nr j q
          · omega
      · have e3 : adjN ws (k - 1) = adjK ws := by
          unfold adjK
          rw [show k - 1 = ws.length - 1 by omega]
        rw [e3, ← sq] at o
        simp [t2, t3, t5, t6, t7, t8, t9]
        refine ih (N - (i + 1)) _ _ ⟨i + 1, r, rfl, by omega, by simp [t2], by simp [t3], by simp [t5], by simp [t6], ?_, o, nr, ch1.trans ch2⟩ (by omega)
        simp; rw [w64 (by omega) (by omega)]
    · have hiN : i = N := by omega
      subst hiN
      simp [t5]
      exact ⟨o, ((Chg.app (H := H) (L := M) []).trans ch), nr⟩
  · simp
    rw [depsOf, if_neg g]
    exact ⟨o0, Chg.app _, by simp⟩
end Go.Proofs.Ytlbbalmeaedbdaa.V
/-! Orders: the channels in turn, each behind those that lead to it. -/
set_option linter.all false
namespace Go.Proofs.Ytlbbalmeaedbdaa.V
open Go Go.VM Go.Proofs
set_option maxRecDepth 10000
/-- a channel without a rank to which no channel without a rank leads -/
def ordFree (ds : List (Nat × Nat)) (ranks : List Int) (c : Nat) : Prop := ranks.getD c 0 < 0 ∧ ∀ d ∈ ds, d.2 = c → ¬ ranks.getD d.1 0 < 0
instance (ds : List (Nat × Nat)) (ranks : List Int) (c : Nat) : Decidable (ordFree ds ranks c) := inferInstanceAs (Decidable (_ ∧ _))
def ordNext (ds : List (Nat × Nat)) (ranks : List Int) : Option Nat := (List.range 128).find? fun c => decide (ordFree ds ranks c)
/-- the ranks after some rounds, if there was a free channel in every round -/
def ordRun (ds : List (Nat × Nat)) : Nat → Option (List Int)
  | 0 => some (List.replicate 128 (-1))
  | r + 1 => match ordRun ds r with
    | some ranks => match ordNext ds ranks with
      | some c => some (ranks.set c (r : Int))
      | none => none
    | none => none
def orderOk (ds : List (Nat × Nat)) : Prop := ordRun ds 128 ≠ none
instance (ds : List (Nat × Nat)) : Decidable (orderOk ds) := inferInstanceAs (Decidable (_ ≠ _))
def negs (ranks : List Int) : Nat := (ranks.filter fun x => decide (x < 0)).length
theorem negs_set : ∀ (ranks : List Int) (c : Nat) (x : Int), c < ranks.length → ranks.getD c 0 < 0 → 0 ≤ x → negs (ranks.set c x) + 1 = negs ranks
  | [], c, x, h, _, _ => by simp at h
  | a :: l, 0, x, _, h1, h2 => by
    have h1 : a < 0 := h1
    unfold negs
    rw [List.set_cons_zero, List.filter_cons_of_neg (by simp; omega), List.filter_cons_of_pos (by simp; omega)]
    rfl
  | a :: l, c + 1, x, h, h1, h2 => by
    have ih := negs_set l c x (by simpa using h) h1 h2
    unfold negs at ih ⊢
    rw [List.set_cons_succ, List.filter_cons, List.filter_cons]
    split
    · simp only [List.length_cons]; omega
    · omega
theorem negs_pos {ranks : List Int} (h : 0 < negs ranks) : ∃ c, c < ranks.length ∧ ranks.getD c 0 < 0 := by
  unfold negs at h
  obtain ⟨x, hx⟩ := List.exists_mem_of_length_pos h
  obtain ⟨h1, h2⟩ := List.mem_filter.1 hx
  obtain ⟨c, hc, rfl⟩ := List.mem_iff_getElem.1 h1
  exact ⟨c, hc, by simpa [List.getD_eq_getElem?_getD, hc] using h2⟩
/-- among the channels without a rank one is lowest -/
theorem lowest (φ : Nat → Int) (P : Nat → Prop) : ∀ n, (∃ c, c < n ∧ P c) → ∃ c, c < n ∧ P c ∧ ∀ c', c' < n → P c' → φ c ≤ φ c'
  | 0, ⟨c, h, _⟩ => by omega
  | n + 1, ⟨c, h, hp⟩ => by
    by_cases e : ∃ c, c < n ∧ P c
    · obtain ⟨m, m1, m2, m3⟩ := lowest φ P n e
      by_cases q : P n ∧ φ n < φ m
      · refine ⟨n, by omega, q.1, fun c' h1 h2 => ?_⟩
        by_cases ec : c' = n
        · subst ec; omega
        · have := m3 c' (by omega) h2; omega
      · refine ⟨m, by omega, m2, fun c' h1 h2 => ?_⟩
        by_cases ec : c' = n
        · subst ec
          rcases Int.lt_or_le (φ c') (φ m) with k | k
          · exact absurd ⟨h2, k⟩ q
          · exact k
        · exact m3 c' (by omega) h2
    · have ec : c = n := by
        rcases Nat.lt_or_ge c n with k | k
        · exact absurd ⟨c, k, hp⟩ e
        · omega
      subst ec
      refine ⟨c, h, hp, fun c' h1 h2 => ?_⟩
      have : c' = c := by
        rcases Nat.lt_or_ge c' c with k | k
        · exact absurd ⟨c', k, h2⟩ e
        · omega
      subst this; omega
theorem ordRun_ok {ds : List (Nat × Nat)} (hd : ∀ d ∈ ds, d.1 < 128) (φ : Nat → Int) (hφ : ∀ d ∈ ds, φ d.1 < φ d.2) : ∀ r, r ≤ 128 → ∃ ranks, ordRun ds r = some ranks ∧ ranks.length = 128 ∧ negs ranks = 128 - r
  | 0, _ => ⟨_, rfl, by simp, by
    unfold negs
    rw [List.filter_eq_self.2]
    · simp
    · intro x hx
      rw [List.eq_of_mem_replicate hx]; decide⟩
  | r + 1, hr => by
    obtain ⟨ranks, h1, h2, h3⟩ := ordRun_ok hd φ hφ r (by omega)
    obtain ⟨c0, k1, k2⟩ := negs_pos (ranks := ranks) (by omega)
    obtain ⟨c, m1, m2, m3⟩ := lowest φ (fun c => ranks.getD c 0 < 0) 128 ⟨c0, by omega, k2⟩
    have hf : ordFree ds ranks c := ⟨m2, fun d hdm e k => by
      have := m3 d.1 (hd d hdm) k
      have := hφ d hdm
      rw [e] at this; omega⟩
    have hn : ordNext ds ranks ≠ none := fun e => by
      have := List.find?_eq_none.1 e c (List.mem_range.2 m1)
      simp [hf] at this
    obtain ⟨c', hc'⟩ : ∃ c', ordNext ds ranks = some c' := Option.ne_none_iff_exists'.1 hn
    have hf' : ordFree ds ranks c' := by simpa using List.find?_some hc'
    have hl' : c' < 128 := List.mem_range.1 (List.mem_of_find?_eq_some hc')
    refine ⟨ranks.set c' (r : Int), ?_, by rw [List.length_set]; exact h2, ?_⟩
    · unfold ordRun; rw [h1]; simp only; rw [hc']
    · have := negs_set ranks c' (r : Int) (by omega) hf'.1 (by omega)
      omega
/-- where ranks grow there is an order -/
theorem order_of {ds : List (Nat × Nat)} (hd : ∀ d ∈ ds, d.1 < 128) (φ : Nat → Int) (hφ : ∀ d ∈ ds, φ d.1 < φ d.2) : orderOk ds := by
  obtain ⟨ranks, h, _⟩ := ordRun_ok hd φ hφ 128 (Nat.le_refl _)
  unfold orderOk; rw [h]; simp
end Go.Proofs.Ytlbbalmeaedbdaa.V
/-! slices.Repeat of one number. -/
set_option linter.all false
namespace Go.Proofs.Ytlbbalmeaedbdaa.V
open Go Go.VM Go.Proofs
set_option maxRecDepth 10000
variable {frz : Nat} {H : Heap}
theorem u64w {x : Int} (h1 : 0 ≤ x) (h2 : x ≤ 18446744073709551615) : IntKind.u64.wrap x = x := by
  have : IntKind.u64.wrap x = x % 18446744073709551616 := by
    simp [IntKind.wrap, IntKind.bits, IntKind.signed]
  rw [this]; omega
theorem iand_mask (m : Nat) (h : m < 4294967296) : iand .u64 (m : Int) 4294967295 = m := by
  have := bits_and m 4294967295 (by omega) (by omega) .u64 rfl
  have e : ((4294967295 : Nat) : Int) = 4294967295 := rfl
  rw [e] at this
  unfold iand
  rw [this, show (4294967295 : Nat) = 2 ^ 32 - 1 from rfl, Nat.and_two_pow_sub_one_eq_mod, u64w (by omega) (by omega)]
  omega
theorem ishr32 (m : Nat) (h : m < 4294967296) : ishr .u64 (m : Int) 32 = 0 := by
  have := ishr_nat .u64 m 32 (by decide)
  have e : ((32 : Nat) : Int) = 32 := rfl
  rw [e] at this
  rw [this]; omega
theorem mul64_c (n : Nat) (h : n < 4294967296) : vcall C frz 102 [.int .u64 1, .int .u64 n] H = some (.tuple #[.int .u64 0, .int .u64 n], H) := by
  rw [vcall_go (fn := Try.f102) Try.func102 rfl (by kernel_rfl) rfl]
  have a1 := iand_mask 1 (by omega)
  have a0 := iand_mask 0 (by omega)
  have s1 := ishr32 1 (by omega)
  have s0 := ishr32 0 (by omega)
  have an := iand_mask n h
  have sn := ishr32 n h
  simp only [Int.natCast_zero, Int.natCast_one] at a1 a0 s1 s0
  have w0 : IntKind.u64.wrap 0 = 0 := by decide
  have wn : IntKind.u64.wrap (n : Int) = n := u64w (by omega) (by omega)
  simp [a1, s1, an, sn, wn, w0, a0, s0]
theorem mul_c (n : Nat) (h : n < 4294967296) : vcall C frz 85 [.int .u64 1, .int .u64 n] H = some (.tuple #[.int .u64 0, .int .u64 n], H) := by
  rw [vcall_go (fn := Try.f85) Try.func85 rfl (by kernel_rfl) rfl]
  simp [mul64_c n h]
theorem splice_rep (c z : Value) (k m : Nat) (j : Nat) (h : j ≤ m) : VM.splice (List.replicate k c ++ List.replicate m z) k (List.replicate j c) = List.replicate (k + j) c ++ List.replicate (m - j) z := by
  unfold VM.splice
  rw [List.take_left' (by simp), List.drop_append, List.drop_of_length_le (by simp)]
  simp only [List.length_replicate, Nat.add_sub_cancel_left, List.nil_append, List.drop_replicate]
  rw [List.replicate_append_replicate]
theorem repeat_c (id : Nat) (c : Int) (n : Nat) (hr : H[id]? = some ⟨[.int .i64 c], 0, 3⟩) (h1 : 1 ≤ n) (h2 : n ≤ 536870912) :
   vcall C frz 69 [.slice (some ⟨id, 0, some 0⟩) 1 0, .int .i64 n] H = some (.slice (some ⟨H.length, 0, some 0⟩) n 0, H ++ [⟨List.replicate n (.int .i64 c), 0, 3⟩]) := by
  rw [vcall_go (fn := Try.f69) Try.func69 rfl (by kernel_rfl) rfl]
  have e0 : ¬ (n : Int) < 0 := by omega
  have e1 : IntKind.u64.wrap (n : Int) = n := u64w (by omega) (by omega)
  have e2 : IntKind.u64.wrap 1 = 1 := by decide
  have e3 : IntKind.i64.wrap (n : Int) = n := w64 (by omega) (by omega)
  have e4 : ¬ (9223372036854775807 : Int) < n := by omega
  simp [VM.look, hr, e0, e1, e2, e3, e4, mul_c n (by omega)]
  refine vneed_eq (by omega) ?_
  have lk : ∀ L, (H ++ L)[id]? = some ⟨[.int .i64 c], 0, 3⟩ := fun L => by rw [List.getElem?_append_left (List.getElem?_eq_some_iff.1 hr).1, hr]
  have er : VM.splice (List.replicate n (Value.int .i64 0)) 0 [.int .i64 c] = List.replicate 1 (.int .i64 c) ++ List.replicate (n - 1) (.int .i64 0) := by
    have := splice_rep (.int .i64 c) (.int .i64 0) 0 n 1 h1
    simpa using this
  have m1 : Nat.min 1 n = 1 := Nat.min_eq_left h1
  simp [VM.look, lk, m1, er]
  refine go_inv (fun m t H' => ∃ k : Nat, m = n - k ∧ 1 ≤ k ∧ k ≤ n ∧ t 7 = .slice (some ⟨H.length, 0, some 0⟩) n 0 ∧ t 8 = .int .i64 k ∧ H' = H ++ [⟨List.replicate k (.int .i64 c) ++ List.replicate (n - k) (.int .i64 0), 0, 3⟩]) ?_ (n := n - 1) ⟨1, by simp [e3]; exact h1⟩
  rintro m t H' ⟨k, rfl, hk1, hk, h7, h8, rfl⟩ ih
  simp [h7, h8]
  refine br_dec _ ?_ ?_ <;> intro hkn
  · simp [h7, h8]
    rw [go_draw (h := by kernel_rfl)]
    simp [h7, h8]
    have hmin : k.min (n - k) = min k (n - k) := rfl
    have hrep := splice_rep (.int .i64 c) (.int .i64 0) k (n - k) (min k (n - k)) (Nat.min_le_right _ _)
    have hones : ones (List.replicate k (Value.int .i64 c)) = true := by simp [ones, VM.one]
    refine vneed_eq hk (vneed_eq hk (vneed_eq hones ?_))
    refine ih (n - (k + min k (n - k))) _ _ ⟨k + min k (n - k), rfl, by omega, by omega, by simp [h7], ?_, ?_⟩ (by omega)
    · simp [hmin]; rw [w64 (by omega) (by omega)]
    · rw [hrep]; congr 3; congr 1; congr 1; omega
  · have : k = n := by omega
    subst this
    simp [h7, h8]
end Go.Proofs.Ytlbbalmeaedbdaa.V
/-! Branching channels: the functions with closures. -/
set_option linter.all false
namespace Go.Proofs.Ytlbbalmeaedbdaa.V
open Go Go.VM Go.Proofs
set_option maxRecDepth 10000
variable {frz : Nat} {H : Heap}
/-- the first place where a test holds, or -1 -/
def placeP (p : Int → Bool) (b : List Int) : Int := if b.any p then b.findIdx p else -1
theorem placeP_range (p : Int → Bool) (b : List Int) : -1 ≤ placeP p b ∧ placeP p b < b.length ∧ (0 ≤ placeP p b ↔ b.any p = true) := by
  unfold placeP
  split
  · rename_i h
    obtain ⟨x, hx, hp⟩ := List.any_eq_true.1 h
    have := List.findIdx_lt_length_of_exists ⟨x, hx, hp⟩
    refine ⟨by omega, by omega, ?_⟩
    simp only [h, iff_true]; omega
  · rename_i h
    refine ⟨by omega, by omega, ?_⟩
    simp only [h]; simp
theorem placeP_at {p : Int → Bool} {b : List Int} {i : Nat} (h : i < b.length) (h1 : ∀ x ∈ b.take i, p x = false) (h2 : p b[i] = true) : placeP p b = i := by
  unfold placeP
  rw [if_pos (List.any_eq_true.2 ⟨b[i], List.getElem_mem h, h2⟩)]
  congr 1
  rw [List.findIdx_eq h]
  refine ⟨h2, fun j hj => ?_⟩
  refine Bool.eq_false_iff.1 ?_ |> fun hh => by simpa using hh
  exact h1 _ (by rw [List.mem_take_iff_getElem]; exact ⟨j, by omega, rfl⟩)
theorem indexFunc_c (v f : Value) (p : Int → Bool) (b : List Int) (hI : IsI H v b) (hl : b.length ≤ 1073741824)
    (hf : ∀ x ∈ b, vclos (vcall C H.length) f [.int .i64 x] H = some (.bool (p x), H)) :
   vcall C frz 86 [v, f] H = some (.int .i64 (placeP p b), H) := by
  rw [vcall_go (fn := Try.f86) Try.func86 rfl (by kernel_rfl) rfl]
  simp [hI.len]
  refine go_inv (fun n t H' => ∃ i : Nat, n = b.length - i ∧ i ≤ b.length ∧ t 0 = v ∧ t 1 = f ∧ t 6 = v ∧ t 7 = .int .i64 b.length ∧ t 8 = .int .i64 i ∧ H' = H ∧ ∀ x ∈ b.take i, p x = false) ?_ (n := b.length) ⟨0, by simp⟩
  rintro n t H' ⟨i, rfl, hi, h0, h1, h2, h3, h4, rfl, hj⟩ ih
  simp [h0, h1, h2, h3, h4, hI.len]
  refine br_dec _ ?_ ?_ <;> intro h5
  · simp [h0, h1, h2, h3, h4, h5, hI.idx, hI.load, getD_get, hf]
    refine br_eq _ ?_ ?_ <;> intro h6 <;> simp [h0, h1, h2, h3, h4, h6]
    · rw [placeP_at h5 hj h6]
    · refine ih (b.length - (i + 1)) _ _ ⟨i + 1, rfl, by omega, by simp [h0], by simp [h1], by simp [h2], by simp [h3], ?_, rfl, ?_⟩ (by omega)
      · simp; rw [w64 (by omega) (by omega)]
      · rw [List.take_succ_eq_append_getElem h5]
        intro x hx
        rcases List.mem_append.1 hx with hx | hx
        · exact hj x hx
        · rw [List.mem_singleton.1 hx]; exact h6
  · have : i = b.length := by omega
    subst this
    simp [h0, h1, h2, h3]
    rw [List.take_length] at hj
    rw [placeP, if_neg]
    rw [List.any_eq_true]
    rintro ⟨x, hx, hp⟩
    rw [hj x hx] at hp; cases hp
end Go.Proofs.Ytlbbalmeaedbdaa.V
/-! Orders of dependencies. -/
set_option linter.all false
namespace Go.Proofs.Ytlbbalmeaedbdaa.V
open Go Go.VM Go.Proofs
set_option maxRecDepth 10000
variable {frz : Nat} {H : Heap} {v : Value} {xs ys : List Int} {e : TypeId}
theorem clone_c (v : Value) (l : List Int) (hI : IsI H v l) (hne : 0 < l.length) (hl : l.length ≤ 1073741824) : vcall C frz 70 [v] H = some (.slice (some ⟨H.length, 0, some 0⟩) l.length 0, H ++ [⟨l.map (.int .i64), 0, 3⟩]) := by
  rw [vcall_go (fn := Try.f70) Try.func70 rfl (by kernel_rfl) rfl]
  have hsrc := (hI.app [⟨[], 0, 3⟩]).src
  rcases hI with ⟨rfl, rfl⟩ | ⟨id, off, r, rfl, h2, h3⟩
  · simp at hne
  have h0 : ¬ l.length = 0 := by omega
  simp [hsrc, h0, hl, vnilq, VM.look, h2]
  done
end Go.Proofs.Ytlbbalmeaedbdaa.V
/-! Dependencies of replies. -/
set_option linter.all false
namespace Go.Proofs.Ytlbbalmeaedbdaa.V
open Go Go.VM Go.Proofs
set_option maxRecDepth 10000
variable {frz : Nat} {H : Heap} {v : Value} {xs ys : List Int} {e : TypeId}
/-- a request's last channel and its reply's first -/
def repKey (w h : Int) (b A B : List Int) (y : Int) (p : Nat × Nat) : Int := key (G (walk w h b A p.1 p.2) ((walk w h b A p.1 p.2).length - 1)) (G (walk w h b B p.2 p.1) 0 + y)
theorem walk_ne {w h : Int} {b T : List Int} (k : tableOk w h b T) {a c : Nat} (ha : a < (cnt w h).toNat) (hc : c < (cnt w h).toNat) (hne : a ≠ c) : 0 < (walk w h b T a c).length := List.length_pos_iff.2 ((k.2 a ha c hc).2 (by omega))
theorem ints_ix {z : Value} {ws : List Int} (hz : IsI H z ws) {k : Nat} (hk : k < ws.length) : vindexAddr Try.prog H 24 z (.int .i64 k) = some (elp z k) ∧ vload Try.prog H 3 (elp z k) = some (.int .i64 (G ws k)) := by
  refine ⟨?_, hz.load (by simp) hk⟩
  have := hz.idx (P := Try.prog) (ty := 24) (e := 3) (by simp) (i := (k : Int)) (by omega) (by omega)
  simpa using this
theorem reply1_w (w h : Int) (v u1 u2 : Value) (b A B : List Int) (y : Int) (K : Heap) (r r1 r2 r3 : Nat) (D : List Nat) (a c : Nat) (xs : List Int) (hI : IsI K v b) (h1 : IsI K u1 A) (h2 : IsI K u2 B) (hl : b.length ≤ 1073741824) (hA : tableOk w h b A) (hB : tableOk w h b B)
    (hy : 0 ≤ y ∧ y ≤ 64) (ha : a < (cnt w h).toNat) (hc : c < (cnt w h).toNat) (hne : a ≠ c) (hx : xs.length ≤ 1048576)
    (g1 : K[r1]? = some ⟨[.int .i64 w, .int .i64 h, v], 0, 37⟩) (g2 : K[r2]? = some ⟨[u1, u2], 0, 41⟩) (g3 : K[r3]? = some ⟨[.int .i64 y], 0, 3⟩)
    (n1 : r1 ∉ r :: D) (n2 : r2 ∉ r :: D) (n3 : r3 ∉ r :: D) (nv : ∀ i ∈ ids v, i ∉ r :: D) (nu1 : ∀ i ∈ ids u1, i ∉ r :: D) (nu2 : ∀ i ∈ ids u2, i ∉ r :: D) (hr : frz ≤ r) (hD : ∀ i ∈ D, frz ≤ i) (hK : frz ≤ K.length) (hd : DI K r D xs H) :
   wp (vcall C frz 36 [.int .i64 a, .int .i64 c, .pointer (some ⟨r1, 0, some 0⟩), .pointer (some ⟨r2, 0, some 0⟩), .pointer (some ⟨r, 0, some 0⟩), .pointer (some ⟨r3, 0, some 0⟩)] H) (fun u H' => u = .bool true ∧ DI K r D (xs ++ [repKey w h b A B y (a, c)]) H') := by
  obtain ⟨x, ⟨bx, o, nr⟩, nx, ch⟩ := hd
  have b1 := box_chg g1 ch n1
  have b2 := box_chg g2 ch n2
  have b3 := box_chg g3 ch n3
  rw [vcall_go (fn := Try.f36) Try.func36 rfl (by kernel_rfl) rfl]
  have hIH := (hI.rd.chg ch nv).isI
  have h1H := (h1.rd.chg ch nu1).isI
  have h2H := (h2.rd.chg ch nu2).isI
  obtain ⟨z1, L1, e1, hz1, hn1⟩ := ret_made H (walk w h b A a c)
  have wc1 := fun F => walk_c (frz := F) w h v u1 b A a c hIH h1H hl hA.1 (isN_nat ha) (isN_nat hc) (by omega)
  obtain ⟨z2, L2, e2, hz2, hn2⟩ := ret_made (H ++ L1) (walk w h b B c a)
  have wc2 := fun F => walk_c (frz := F) w h v u2 b B c a (hIH.app L1) (h2H.app L1) hl hB.1 (isN_nat hc) (isN_nat ha) (by omega)
  have onv := And.intro hI.one' hI.cells
  have onu := And.intro h1.one' h1.cells
  have onu2 := And.intro h2.one' h2.cells
  have p1 := walk_ne hA ha hc hne
  have p2 := walk_ne hB hc ha (Ne.symm hne)
  have q1 := walk_chan (b := b) (T := A) (isN_nat ha) (to := c)
  have q2 := walk_chan (b := b) (T := B) (isN_nat hc) (to := a)
  have wl1 := walk_lenE w h b A a c
  unfold repKey
  simp only
  generalize walk w h b A a c = ws at *
  generalize walk w h b B c a = us at *
  simp
  rw [go_draw (h := by kernel_rfl)]
  have b1L := get_app' b1 L1
  have b2L := get_app' b2 L1
  simp [VM.look, b1, b2, wc1, e1, wc2, e2, onv, onu, onu2, b1L, b2L]
  rw [← List.append_assoc]
  have hz1' := hz1.app L2
  obtain ⟨H2, hH2⟩ : ∃ H2, H2 = H ++ L1 ++ L2 := ⟨_, rfl⟩
  rw [← hH2] at hz1' hz2 ⊢
  have cH : Chg H H2 [] := by rw [hH2, List.append_assoc]; exact Chg.app _
  have bx2 := box_chg bx cH (by simp)
  have b32 := box_chg b3 cH (by simp)
  have o2 := o.chg cH (by simp)
  have i1 := ints_ix hz1' (k := ws.length - 1) (by omega)
  have i2 := ints_ix hz2 (k := 0) (by omega)
  have w1 : ∀ [Inhabited Unit], IntKind.i64.wrap ((ws.length : Int) - 1) = ((ws.length - 1 : Nat) : Int) := by intro _; rw [w64 (by omega) (by omega)]; omega
  have qa := q1 (G ws (ws.length - 1)) (by rw [G_get (by omega)]; exact List.getElem_mem _)
  have qb := q2 (G us 0) (by rw [G_get (by omega)]; exact List.getElem_mem _)
  have w2 : ∀ [Inhabited Unit], IntKind.i64.wrap (G us 0 + y) = G us 0 + y := by intro _; exact w64 (by omega) (by omega)
  have cb : CB (G ws (ws.length - 1)) (G us 0 + y) := by unfold CB; omega
  have oL := o.lt
  have nxx : ∀ j ∈ ids x, frz ≤ j := fun j hj => by
    rcases nx j hj with q | q
    · exact hD j q
    · omega
  obtain ⟨x3, H3, hap, o3, c3, n3'⟩ := dw_push (frz := frz) o2 cb (by omega) nxx
  have on3 := And.intro o3.rd.one' o3.rd.cells
  have onx := And.intro o2.rd.one' o2.rd.cells
  have bx3 := box_chg bx2 c3 nr
  have hrl := box_lt bx
  have nr3 : r ∉ ids x3 := fun hh => by
    rcases n3' r hh with q | q
    · exact nr q
    · have := cH.1; omega
  rw [go_draw (h := by kernel_rfl)]
  have i2' : vindexAddr Try.prog H2 24 z2 (.int .i64 0) = some (elp z2 0) := i2.1
  simp [VM.look, bx2, b32, hz1'.len, w1, i1, i2', i2.2, w2, onx, hap, bx3, on3, hr]
  refine DI.trans (ch.trans (cH.mono (by simp))) nx ⟨x3, ⟨set_get bx3, o3.chg (chg_set _ _) (fun i hi hh => by simp at hh; subst hh; exact nr3 hi), nr3⟩, n3', (c3.mono (by simp +contextual)).trans ((chg_set _ _).mono (by simp))⟩
def sharedBy (s : Bool) : Int := if s then 0 else 64
noncomputable def replyOf (w h : Int) (b A B : List Int) (s : Bool) : List Int := if classesOk w h b A B then arrK (depsOf w h b A ++ (shiftOf (sharedBy s) (depsOf w h b B) ++ (allPairs (cnt w h).toNat (cnt w h).toNat).map (repKey w h b A B (sharedBy s)))) else []
theorem shiftOf_len (y : Int) (xs : List Int) : (shiftOf y xs).length ≤ xs.length := by
  unfold shiftOf shiftK; repeat' split
  all_goals simp
theorem isI_live {u : Value} {l : List Int} (h : IsI H u l) : VM.live1 H u := by
  rcases h with ⟨rfl, _⟩ | ⟨id, off, r, rfl, h2, _⟩
  · trivial
  · show VM.look H ⟨id, off, some r.gen⟩ ≠ none
    simp [VM.look, h2]
theorem mesh_live {u : Value} {l : List Int} (w h : Int) (hu : IsI H u l) : VM.live H (.agg #[.int .i64 w, .int .i64 h, u]) := fun c hc => by
  simp only [List.mem_cons, List.not_mem_nil, or_false] at hc
  rcases hc with rfl | rfl | rfl <;> first | trivial | exact isI_live hu
theorem tab_live {u : Value} {l : List Int} (hu : IsI H u l) : VM.live H (.agg #[u]) := fun c hc => by
  simp only [List.mem_cons, List.not_mem_nil, or_false] at hc
  rw [hc]; exact isI_live hu
theorem replyDepends_w (w h : Int) (v u1 u2 : Value) (b A B : List Int) (s : Bool) (hI : IsI H v b) (h1 : IsI H u1 A) (h2 : IsI H u2 B) (hl : b.length ≤ 1073741824) (hF : frz ≤ H.length) :
   wp (vcall C frz 10 [.agg #[.int .i64 w, .int .i64 h, v], .agg #[u1, u2], .bool s] H) (MadeE H (replyOf w h b A B s)) := by
  rw [vcall_go (fn := Try.f10) Try.func10 rfl (by kernel_rfl) rfl]
  have onv := And.intro hI.one' hI.cells
  have onu := And.intro h1.one' h1.cells
  have onu2 := And.intro h2.one' h2.cells
  obtain ⟨M, hM⟩ : ∃ M : Heap, M = [⟨[.int .i64 w, .int .i64 h, v], 0, 37⟩, ⟨[u1, u2], 0, 41⟩, ⟨[], 0, 61⟩, ⟨[.slice (some ⟨H.length + 2, 0, some 0⟩) 0 0], 0, 33⟩, ⟨[.int .i64 64], 0, 3⟩] := ⟨_, rfl⟩
  have ck := fun F => classesOk_c (frz := F) w h v u1 u2 b A B (hI.app M) (h1.app M) (h2.app M) hl
  rw [hM] at ck
  simp [onv, onu, onu2, VM.look, ck]
  rw [← hM]
  have o0 : OwE 61 (H ++ M) (.slice (some ⟨H.length + 2, 0, some 0⟩) 0 0) [] := ⟨by rw [hM]; exact Ow.new (D := Fl.dep) (xs := []) (k := 2) rfl rfl rfl rfl, fun x hx => by simp at hx⟩
  have g3 : (H ++ M)[H.length + 3]? = some ⟨[.slice (some ⟨H.length + 2, 0, some 0⟩) 0 0], 0, 33⟩ := by rw [hM]; simp
  have g4 : (H ++ M)[H.length + 4]? = some ⟨[.int .i64 64], 0, 3⟩ := by rw [hM]; simp
  have g0 : (H ++ M)[H.length]? = some ⟨[.int .i64 w, .int .i64 h, v], 0, 37⟩ := by rw [hM]; simp
  have g1 : (H ++ M)[H.length + 1]? = some ⟨[u1, u2], 0, 41⟩ := by rw [hM]; simp
  have g2 : (H ++ M)[H.length + 2]? = some ⟨[], 0, 61⟩ := by rw [hM]; simp
  have hMl : M.length = 5 := by rw [hM]; rfl
  clear hM ck
  have cHK : Chg H (H ++ M) [] := Chg.app _
  have hKl : (H ++ M).length = H.length + 5 := by simp; omega
  have hIK := hI.app M
  have h1K := h1.app M
  have h2K := h2.app M
  generalize H ++ M = K at *
  refine wp_dec ?_ ?_ <;> intro g
  · simp
    obtain ⟨hA, hB⟩ := g
    refine wp_join (F := ?F) (k := ?k) (Q := ?Q) (fun t H1 => t 3 = .pointer (some ⟨H.length, 0, some 0⟩) ∧ t 4 = .pointer (some ⟨H.length + 1, 0, some 0⟩) ∧ t 7 = .pointer (some ⟨H.length + 3, 0, some 0⟩) ∧ t 8 = .pointer (some ⟨H.length + 4, 0, some 0⟩) ∧ Chg K H1 [H.length + 4] ∧ H1[H.length + 4]? = some ⟨[.int .i64 (sharedBy s)], 0, 3⟩) ?main ?rest
    case main =>
      intro rest
      refine wp_bool ?_ ?_ <;> intro gs <;> simp [VM.look, g4]
      · refine rest _ _ ?_
        exact ⟨by simp, by simp, by simp, by simp, chg_set _ _, by rw [gs]; exact set_get g4⟩
      · refine rest _ _ ?_
        exact ⟨by simp, by simp, by simp, by simp, Chg.refl _, by rw [gs]; exact g4⟩
    case rest =>
      rintro t H1 ⟨t3, t4, t7, t8, ch1, b4⟩
      have b0 := box_chg g0 ch1 (by simp)
      have b1 := box_chg g1 ch1 (by simp)
      have b3 := box_chg g3 ch1 (by simp)
      have hvl := hI.rd.lt
      have h1l := h1.rd.lt
      have h2l := h2.rd.lt
      have hI1 := (hIK.rd.chg ch1 (fun i hi hh => by have := hvl i hi; simp at hh; omega)).isI
      have h11 := (h1K.rd.chg ch1 (fun i hi hh => by have := h1l i hi; simp at hh; omega)).isI
      have h21 := (h2K.rd.chg ch1 (fun i hi hh => by have := h2l i hi; simp at hh; omega)).isI
      have o1 := o0.chg ch1 (by simp)
      have l1 := ch1.1
      rw [go_drawP (fl := ([4, 6, 7], [11, 12, 13])) (pl := [0, 1, 2, 3, 6, 7, 8, 10, 4, 5, 9, 11, 12, 13]) (h := ⟨by kernel_rfl, by kernel_rfl, by kernel_rfl, by kernel_rfl, by kernel_rfl, by kernel_rfl⟩)]
      have b2 := box_chg g2 ch1 (by simp)
      have lm1 := mesh_live w h hI1
      have lt1 := tab_live h21
      simp [permA, renO, emps, empOp, empB, -vappend_nil, -vappend_mk, VM.look, t3, t4, t7, t8, b0, b1, b2, b3, b4, onv, onu, onu2, lm1, lt1]
      refine wp_thnW (dependsOf_w w h v u1 b A hI1 h11 hl (by omega)) ?_
      rintro d1 H2 ⟨od, c2, nd⟩
      have ch2 := ch1.trans (c2.mono (by simp))
      have b0 := box_chg b0 c2 (by simp)
      have b1 := box_chg b1 c2 (by simp)
      have b2 := box_chg b2 c2 (by simp)
      have b3 := box_chg b3 c2 (by simp)
      have b4 := box_chg b4 c2 (by simp)
      have hI2 := (hI1.rd.chg c2 (by simp)).isI
      have h12 := (h11.rd.chg c2 (by simp)).isI
      have h22 := (h21.rd.chg c2 (by simp)).isI
      have lm2 := mesh_live w h hI2
      have lt2 := tab_live h22
      have o2 := o1.chg c2 (by simp)
      refine ⟨by simp [VM.look, b0, b1, b2, b3, b4, onv, onu, onu2, lm2, lt2], ?_⟩
      obtain ⟨x3, H3, hap3, o3, c3, n3⟩ := o2.1.append (P := Try.prog) (frz := H.length) (ty := 33) od.rd (by simp) (ones_dep _) (by simp; have := depsOf_len w h b A; omega) (by simp)
      have hx3 : ∀ i ∈ ids x3, H.length + 2 = i ∨ H2.length ≤ i := fun i hi => by
        rcases n3 i hi with q | q
        · left; simp at q; omega
        · exact .inr q
      have l2 := ch2.1
      have b0 := box_chg b0 c3 (by simp)
      have b1 := box_chg b1 c3 (by simp)
      have b3 := box_chg b3 c3 (by simp)
      have b4 := box_chg b4 c3 (by simp)
      have hI3 := (hI2.rd.chg c3 (fun i hi hh => by have := hvl i hi; simp at hh; omega)).isI
      have h13 := (h12.rd.chg c3 (fun i hi hh => by have := h1l i hi; simp at hh; omega)).isI
      have h23 := (h22.rd.chg c3 (fun i hi hh => by have := h2l i hi; simp at hh; omega)).isI
      have lm3 := mesh_live w h hI3
      have lt3 := tab_live h23
      have l3 := c3.1
      simp [permA, renO, emps, empOp, empB, -vappend_nil, -vappend_mk, VM.look, t3, t4, t7, t8, b0, b1, b3, b4, onv, onu, onu2, lm3, lt3, hap3]
      refine wp_thnW (dependsOf_w w h v u2 b B hI3 h23 hl (by omega)) ?_
      rintro d2 H4 ⟨od2, c4, nd2⟩
      have b0 := box_chg b0 c4 (by simp)
      have b1 := box_chg b1 c4 (by simp)
      have b3 := box_chg b3 c4 (by simp)
      have b4 := box_chg b4 c4 (by simp)
      have hI4 := (hI3.rd.chg c4 (by simp)).isI
      have h14 := (h13.rd.chg c4 (by simp)).isI
      have h24 := (h23.rd.chg c4 (by simp)).isI
      have lm4 := mesh_live w h hI4
      have lt4 := tab_live h24
      have l4 := c4.1
      refine ⟨by simp [VM.look, b0, b1, b3, b4, onv, onu, onu2, lm4, lt4], ?_⟩
      simp [permA, renO, emps, empOp, empB, -vappend_nil, -vappend_mk, VM.look, t3, t4, t7, t8, b0, b1, b3, b4, onv, onu, onu2, lm4, lt4]
      have hy : 0 ≤ sharedBy s ∧ sharedBy s ≤ 64 := by unfold sharedBy; split <;> omega
      refine wp_thnW (shift_w d2 _ (sharedBy s) od2 hy (by have := depsOf_len w h b B; omega) (by omega)) ?_
      rintro d3 H5 ⟨od3, c5, nd3⟩
      have b0 := box_chg b0 c5 (by simp)
      have b1 := box_chg b1 c5 (by simp)
      have b3 := box_chg b3 c5 (by simp)
      have b4 := box_chg b4 c5 (by simp)
      have hI5 := (hI4.rd.chg c5 (by simp)).isI
      have h15 := (h14.rd.chg c5 (by simp)).isI
      have h25 := (h24.rd.chg c5 (by simp)).isI
      have lm5 := mesh_live w h hI5
      have lt5 := tab_live h25
      have l5 := c5.1
      have o5 := (o3.chg c4 (by simp)).chg c5 (by simp)
      refine ⟨by simp [VM.look, b0, b1, b3, b4, onv, onu, onu2, lm5, lt5], ?_⟩
      have dl2 := shiftOf_len (sharedBy s) (depsOf w h b B)
      have dl1 := depsOf_len w h b A
      have dl0 := depsOf_len w h b B
      obtain ⟨x6, H6, hap6, o6, c6, n6⟩ := o5.append (P := Try.prog) (frz := H.length) (ty := 33) od3.rd (by simp) (ones_dep _) (by simp; omega) (fun i hi => by rcases hx3 i hi with q | q <;> omega)
      have on6 := And.intro o6.rd.one' o6.rd.cells
      have hx6 : ∀ i ∈ ids x6, H.length + 2 = i ∨ H2.length ≤ i := fun i hi => by
        rcases n6 i hi with q | q
        · exact hx3 i q
        · right; omega
      have nx3 : ∀ j, j < 5 → j ≠ 2 → H.length + j ∉ ids x3 := fun j hj hne hh => by rcases hx3 _ hh with q | q <;> omega
      have b0 := box_chg b0 c6 (nx3 0 (by decide) (by decide))
      have b1 := box_chg b1 c6 (nx3 1 (by decide) (by decide))
      have b3 := box_chg b3 c6 (nx3 3 (by decide) (by decide))
      have b4 := box_chg b4 c6 (nx3 4 (by decide) (by decide))
      have nv3 : ∀ i ∈ ids v, i ∉ ids x3 := fun i hi hh => by have := hvl i hi; rcases hx3 _ hh with q | q <;> omega
      have n13 : ∀ i ∈ ids u1, i ∉ ids x3 := fun i hi hh => by have := h1l i hi; rcases hx3 _ hh with q | q <;> omega
      have n23 : ∀ i ∈ ids u2, i ∉ ids x3 := fun i hi hh => by have := h2l i hi; rcases hx3 _ hh with q | q <;> omega
      have hI6 := (hI5.rd.chg c6 nv3).isI
      have h16 := (h15.rd.chg c6 n13).isI
      have h26 := (h25.rd.chg c6 n23).isI
      have l6 := c6.1
      have c16 : Chg H H6 [] := (((((cHK.trans' ch1 (fun i hi => .inr (by simp at hi; omega))).trans c2).trans' c3 (fun i hi => .inr (by simp at hi; omega))).trans c4).trans c5).trans' c6 (fun i hi => .inr (by rcases hx3 i hi with q | q <;> omega))
      simp [permA, renO, emps, empOp, empB, -vappend_nil, -vappend_mk, VM.look, t3, t4, t7, t8, b0, b1, b3, b4, onv, onu, onu2, hap6, on6]
      have cS : Chg H6 (H6.set (H.length + 3) ⟨[x6], 0, 33⟩) [H.length + 3] := chg_set _ _
      have gS := set_get (r' := ⟨[x6], 0, 33⟩) b3
      have nr6 : H.length + 3 ∉ ids x6 := fun hh => by rcases hx6 _ hh with q | q <;> omega
      have b0 := box_chg b0 cS (by simp)
      have b1 := box_chg b1 cS (by simp)
      have b4 := box_chg b4 cS (by simp)
      have hI7 := (hI6.rd.chg cS (fun i hi hh => by have := hvl i hi; simp at hh; omega)).isI
      have h17 := (h16.rd.chg cS (fun i hi hh => by have := h1l i hi; simp at hh; omega)).isI
      have h27 := (h26.rd.chg cS (fun i hi hh => by have := h2l i hi; simp at hh; omega)).isI
      have oE : OwE 61 (H6.set (H.length + 3) ⟨[x6], 0, 33⟩) x6 (([] ++ depsOf w h b A) ++ shiftOf (sharedBy s) (depsOf w h b B)) := (OwE.chg ⟨o6, (o2.2.app od.2).app od3.2⟩ cS (fun i hi hh => by simp at hh; subst hh; exact nr6 hi))
      have c17 := c16.trans' cS (fun i hi => .inr (by simp at hi; omega))
      have l7 := cS.1
      generalize H6.set (H.length + 3) ⟨[x6], 0, 33⟩ = H7 at *
      rw [List.nil_append] at oE
      have D2 : ∀ i ∈ ids x6, H.length ≤ i := fun i hi => by rcases hx6 i hi with q | q <;> omega
      have nD : ∀ j, j < 5 → j ≠ 2 → j ≠ 3 → H.length + j ∉ (H.length + 3) :: ids x6 := fun j hj hne h3 hh => by
        rcases List.mem_cons.1 hh with q | q
        · omega
        · rcases hx6 _ q with q | q <;> omega
      have nV : ∀ {u : Value}, (∀ i ∈ ids u, i < H.length) → ∀ i ∈ ids u, i ∉ (H.length + 3) :: ids x6 := fun hu i hi hh => by
        have := hu i hi
        rcases List.mem_cons.1 hh with q | q
        · omega
        · have := D2 _ q; omega
      refine wp_thn (pairsB_w w h _ (Q := fun r' H' => DI H7 (H.length + 3) (ids x6) ((depsOf w h b A ++ shiftOf (sharedBy s) (depsOf w h b B)) ++ (allPairs (cnt w h).toNat (cnt w h).toNat).map (repKey w h b A B (sharedBy s))) H')
        (fun dn H' => DI H7 (H.length + 3) (ids x6) ((depsOf w h b A ++ shiftOf (sharedBy s) (depsOf w h b B)) ++ dn.map (repKey w h b A B (sharedBy s))) H') ?_ ?_ ?_) ?_
      · refine ⟨x6, ⟨get_app' gS _, by simpa using oE.app, nr6⟩, fun i hi => .inl hi, Chg.app _⟩
      · intro dn a c H' ha hc hne hdl di
        simp
        refine (reply1_w w h v u1 u2 b A B (sharedBy s) H7 (H.length + 3) H.length (H.length + 1) (H.length + 4) (ids x6) a c _ hI7 h17 h27 hl hA hB hy ha hc hne (by simp; omega) b0 b1 b4 (nD 0 (by decide) (by decide) (by decide)) (nD 1 (by decide) (by decide) (by decide)) (nD 4 (by decide) (by decide) (by decide)) (nV hvl) (nV h1l) (nV h2l) (by omega) D2 (by omega) di).mono ?_
        rintro _ H' ⟨rfl, di2⟩
        simpa using di2
      · intro H' di; exact di
      · rintro r' H8 ⟨x8, ⟨bx8, o8, nr8⟩, nx8, ch8⟩
        have l8 := ch8.1
        have apl := allPairs_len (cnt w h).toNat (cnt w h).toNat
        have hcn : (cnt w h).toNat * (cnt w h).toNat ≤ 16 * 16 := Nat.mul_le_mul (by have := cnt_range w h; omega) (by have := cnt_range w h; omega)
        have nxx : ∀ i ∈ ids x8, H.length ≤ i := fun i hi => by
          rcases nx8 i hi with q | q
          · exact D2 i q
          · omega
        simp [VM.look, t7, bx8]
        refine wp_thn (arranged_e x8 _ o8 (by simp; omega) nxx (by omega)) ?_
        rintro u9 H9 ⟨o9, n9, c9⟩
        simp
        have e9 : replyOf w h b A B s = arrK ((depsOf w h b A ++ shiftOf (sharedBy s) (depsOf w h b B)) ++ (allPairs (cnt w h).toNat (cnt w h).toNat).map (repKey w h b A B (sharedBy s))) := by rw [replyOf, if_pos ⟨hA, hB⟩, List.append_assoc]
        rw [← e9] at o9
        refine ⟨o9, (c17.trans' ch8 (fun i hi => .inr ?_)).trans' c9 (fun i hi => .inr (nxx i hi)), fun i hi => nxx i (n9 i hi)⟩
        rcases List.mem_cons.1 hi with q | q
        · omega
        · exact D2 i q
  · simp [VM.look, g3]
    rw [replyOf, if_neg g]
    exact ⟨o0, cHK, by simp⟩
end Go.Proofs.Ytlbbalmeaedbdaa.V
/-! Orders of dependencies: what the program finds. -/
set_option linter.all false
namespace Go.Proofs.Ytlbbalmeaedbdaa.V
open Go Go.VM Go.Proofs
set_option maxRecDepth 10000
variable {frz : Nat} {H : Heap} {v : Value} {xs ys : List Int} {e : TypeId}
/-- the channels of a key -/
def prs (xs : List Int) : List (Nat × Nat) := xs.map fun k => ((k / 1024).toNat, (k % 1024).toNat)
theorem G_set {l : List Int} {i : Nat} (x : Int) (h : i < l.length) (c : Nat) : G (l.set i x) c = if c = i then x else G l c := by
  unfold G
  rw [List.getD_eq_getElem?_getD, List.getD_eq_getElem?_getD, List.getElem?_set]
  by_cases e : i = c
  · subst e; simp [h]
  · rw [if_neg e, if_neg (Ne.symm e)]
theorem prs_free (rk : List Int) (c : Nat) : ordFree (prs xs) rk c ↔ G rk c < 0 ∧ ∀ j, j < xs.length → (G xs j % 1024).toNat = c → ¬ G rk (G xs j / 1024).toNat < 0 := by
  unfold ordFree prs
  refine and_congr Iff.rfl ⟨fun h j hj e => ?_, fun h d hd e => ?_⟩
  · rw [G_get hj] at e ⊢
    exact h _ (List.mem_map_of_mem (List.getElem_mem hj)) e
  · obtain ⟨k, hk, rfl⟩ := List.mem_map.1 hd
    obtain ⟨j, hj, rfl⟩ := List.mem_iff_getElem.1 hk
    have := h j hj
    rw [G_get hj] at this
    exact this e
theorem ordRun_len {ds : List (Nat × Nat)} : ∀ {r : Nat} {rk : List Int}, ordRun ds r = some rk → rk.length = 128
  | 0, rk, h => by cases h; simp
  | r + 1, rk, h => by
    unfold ordRun at h
    split at h
    · rename_i rk0 h0
      split at h
      · cases h; rw [List.length_set]; exact ordRun_len h0
      · cases h
    · cases h
theorem ordRun_none {ds : List (Nat × Nat)} {r : Nat} (h : ordRun ds r = none) : ∀ k, ordRun ds (r + k) = none
  | 0 => h
  | k + 1 => by
    show ordRun ds ((r + k) + 1) = none
    unfold ordRun
    rw [ordRun_none h k]
theorem ordRun_no {ds : List (Nat × Nat)} {r : Nat} {rk : List Int} (hr : r < 128) (h : ordRun ds r = some rk) (hn : ordNext ds rk = none) : ¬ orderOk ds := fun k => by
  have h1 : ordRun ds (r + 1) = none := by
    unfold ordRun; rw [h]; simp only [hn]
  have := ordRun_none h1 (128 - (r + 1))
  rw [show r + 1 + (128 - (r + 1)) = 128 by omega] at this
  exact k this
theorem ordRun_go {ds : List (Nat × Nat)} {r c : Nat} {rk : List Int} (h : ordRun ds r = some rk) (hn : ordNext ds rk = some c) : ordRun ds (r + 1) = some (rk.set c (r : Int)) := by
  unfold ordRun; rw [h]; simp only [hn]
theorem ordNext_at {ds : List (Nat × Nat)} {rk : List Int} {c : Nat} (hc : c < 128) (h : ordFree ds rk c) (hl : ∀ k, k < c → ¬ ordFree ds rk k) : ordNext ds rk = some c := by
  unfold ordNext
  rw [List.find?_eq_some_iff_getElem]
  refine ⟨by simpa using h, c, by simpa using hc, by simp, fun j hj => ?_⟩
  simpa using hl j hj
theorem ordNext_no {ds : List (Nat × Nat)} {rk : List Int} (hl : ∀ k, k < 128 → ¬ ordFree ds rk k) : ordNext ds rk = none := by
  unfold ordNext
  rw [List.find?_eq_none]
  intro k hk
  simpa using hl k (List.mem_range.1 hk)
theorem place_next {fr rk : List Int} (fl : fr.length = 128) (hf : ∀ c, G fr c = -2 ↔ ordFree (prs xs) rk c) :
    (∃ c : Nat, c < 128 ∧ placeP (fun x => decide (x = -2)) fr = c ∧ ordNext (prs xs) rk = some c) ∨ (placeP (fun x => decide (x = -2)) fr = -1 ∧ ordNext (prs xs) rk = none) := by
  cases hn : ordNext (prs xs) rk with
  | none =>
    refine .inr ⟨?_, rfl⟩
    unfold placeP
    rw [if_neg]
    rw [List.any_eq_true]
    rintro ⟨x, hx, hp⟩
    obtain ⟨c, hc, rfl⟩ := List.mem_iff_getElem.1 hx
    have h1 : G fr c = -2 := by rw [G_get hc]; simpa using hp
    have := List.find?_eq_none.1 hn c (List.mem_range.2 (by omega))
    exact this (by simpa using (hf c).1 h1)
  | some c =>
    unfold ordNext at hn
    rw [List.find?_eq_some_iff_getElem] at hn
    obtain ⟨h1, i, hi, h2, h3⟩ := hn
    simp at hi h2 h1
    subst h2
    refine .inl ⟨i, hi, placeP_at (by omega) (fun x hx => ?_) ?_, rfl⟩
    · rw [List.mem_take_iff_getElem] at hx
      obtain ⟨j, hj, rfl⟩ := hx
      have := h3 j (by omega)
      simp at this
      have q : ¬ G fr j = -2 := fun h => this ((hf j).1 h)
      rw [G_get (by omega)] at q
      simpa using q
    · have := (hf i).2 h1
      rw [G_get (by omega)] at this
      simpa using this
/-- what an order's search returns -/
def OrdRes (H : Heap) (xs : List Int) (r : Value) (H' : Heap) : Prop :=
  ∃ z ranks, r = .tuple #[z, .bool (decide (dOk xs ∧ orderOk (prs xs)))] ∧ Rd Fl.int H' z ranks ∧ Chg H H' [] ∧ ∀ i ∈ ids z, H.length ≤ i
theorem chg_app_of {A B : Heap} {is : List Nat} (h : Chg A B is) (L : Heap) : Chg A (B ++ L) is := h.trans (Chg.app _)
theorem next1_c (x : Int) : vcall C frz 87 [.int .i64 x] H = some (.bool (decide (x = -2)), H) := by
  rw [vcall_go (fn := Try.f87) Try.func87 rfl (by kernel_rfl) rfl]
  simp
theorem nextRanked_c (u : Value) (fr : List Int) (hI : IsI H u fr) (hl : fr.length ≤ 1073741824) : vcall C frz 71 [v, u] H = some (.int .i64 (placeP (fun x => decide (x = -2)) fr), H) := by
  rw [vcall_go (fn := Try.f71) Try.func71 rfl (by kernel_rfl) rfl]
  have hf : ∀ F, ∀ x ∈ fr, vclos (vcall C F) (.func (.func 87) #[] #[]) [.int .i64 x] H = some (.bool (decide (x = -2)), H) := fun F x hx => by
    simp [vclos, next1_c]
  have := fun F => indexFunc_c (frz := F) u (.func (.func 87) #[] #[]) (fun x => decide (x = -2)) fr hI hl (hf _)
  simp [this]
  done
theorem orderOf_w (v : Value) (xs : List Int) (h : OwE e H v xs) (hl : xs.length ≤ 1073741824) : wp (vcall C frz 46 [v] H) (OrdRes H xs) := by
  rw [vcall_go (fn := Try.f46) Try.func46 rfl (by kernel_rfl) rfl]
  simp [dependsOk_c v xs h hl]
  refine wp_dec ?_ ?_ <;> intro hd
  · obtain ⟨R, hR⟩ : ∃ R : List Value, R = List.replicate 128 (.int .i64 (-1)) := ⟨_, rfl⟩
    have rc := fun F => repeat_c (frz := F) (H := H ++ [⟨[.int .i64 (-1)], 0, 3⟩]) H.length (-1) 128 (by simp) (by decide) (by decide)
    rw [← hR] at rc
    simp at rc
    simp [rc]
    obtain ⟨K, hK⟩ : ∃ K, K = H ++ [⟨[.int .i64 (-1)], 0, 3⟩, ⟨R, 0, 3⟩] := ⟨_, rfl⟩
    obtain ⟨s, hs⟩ : ∃ s : Value, s = .slice (some ⟨H.length + 1, 0, some 0⟩) 128 0 := ⟨_, rfl⟩
    have hcell : R = cellsOf Fl.int (List.replicate 128 (-1)) := by rw [hR, cellsOf_int, List.map_replicate]
    have o0 : Ow Fl.int 3 K s (List.replicate 128 (-1)) := by
      rw [hK, hs]; exact Ow.new (k := 1) rfl hcell (by rw [hR]; simp [ones, VM.one]) (by simp)
    have cK : Chg H K [] := by rw [hK]; exact Chg.app _
    have hids : ids s = [H.length + 1] := by rw [hs]; rfl
    rw [← hK, ← hs]
    clear hK rc hcell
    refine wp_inv (fun n t H' => ∃ (r : Nat) (rk : List Int), n = 128 - r ∧ r ≤ 128 ∧ t 0 = v ∧ t 4 = s ∧ t 17 = .int .i64 r ∧ ordRun (prs xs) r = some rk ∧ Ow Fl.int 3 H' s rk ∧ Chg H H' []) ?_ (n := 128)
      ⟨0, _, rfl, by omega, by simp, by simp, by simp, rfl, o0, cK⟩
    rintro n t H' ⟨r, rk, rfl, hr, t0, t4, t17, hrk, o, ch⟩ ih
    have hlen := ordRun_len hrk
    simp [t0, t4, t17]
    refine wp_dec ?_ ?_ <;> intro hlt
    · have cl := fun F => clone_c (frz := F) s rk o.rd.isI (by omega) (by omega)
      have rl := o.rd.len (P := Try.prog) (ty := 24) (by simp)
      rw [hlen] at cl rl
      have rlL := fun L => (o.app (L := L)).rd.len (P := Try.prog) (ty := 24) (by simp)
      rw [hlen] at rlL
      simp [t0, t4, t17, cl, rlL]
      obtain ⟨u, hu⟩ : ∃ u : Value, u = .slice (some ⟨H'.length, 0, some 0⟩) 128 0 := ⟨_, rfl⟩
      obtain ⟨K1, hK1⟩ : ∃ K1, K1 = H' ++ [⟨rk.map (.int .i64), 0, 3⟩] := ⟨_, rfl⟩
      have ou : Ow Fl.int 3 K1 u rk := by rw [hK1, hu, ← hlen]; exact Ow.new0 rfl (cellsOf_int rk).symm (by simp) rfl
      have c1 : Chg H' K1 [] := by rw [hK1]; exact Chg.app _
      have hiu : ids u = [H'.length] := by rw [hu]; rfl
      have hsl : H.length + 1 < H'.length := o.lt _ (by rw [hids]; simp)
      rw [← hK1, ← hu]
      clear hK1
      have o1 := o.chg c1 (by simp)
      refine wp_inv (fun m t H2 => ∃ (i : Nat) (fr : List Int), m = 128 - i ∧ i ≤ 128 ∧ t 0 = v ∧ t 4 = s ∧ t 5 = .int .i64 r ∧ t 6 = u ∧ t 17 = .int .i64 r ∧ t 22 = s ∧ t 23 = .int .i64 128 ∧ t 24 = .int .i64 i ∧ Ow Fl.int 3 H2 u fr ∧ fr.length = 128 ∧ Chg K1 H2 [H'.length] ∧
          ∀ c, G fr c = if c < i ∧ G rk c < 0 then -2 else G rk c) ?_ (n := 128)
        ⟨0, rk, rfl, by omega, by simp [t0], by simp [t4], by simp, by simp, by simp [t17], by simp, by simp, by simp, ou, hlen, Chg.refl _, fun c => by simp⟩
      rintro m t H2 ⟨i, fr, rfl, hi, t0, t4, t5, t6, t17, t22, t23, t24, o2, fl, ch2, hf⟩ ih1
      simp [t0, t4, t5, t6, t17, t22, t23, t24]
      refine wp_dec ?_ ?_ <;> intro hlt1
      · have os := o1.chg ch2 (by rw [hids]; simp; omega)
        have p1 := ints_ix os.rd.isI (k := i) (by omega)
        have p2 := ints_ix o2.rd.isI (k := i) (by omega)
        have w1 : ∀ [Inhabited Unit], IntKind.i64.wrap ((i : Int) + 1) = ((i + 1 : Nat) : Int) := by intro _; rw [w64 (by omega) (by omega)]; omega
        simp [t0, t4, t5, t6, t17, t22, t23, t24, p1]
        refine wp_dec ?_ ?_ <;> intro hneg
        · obtain ⟨H3, st, o3, c3, l3⟩ := o2.put1 (P := Try.prog) (frz := H.length) (et := 3) (ag := false) rfl (by simp) (j := i) (by omega) (x := .int .i64 (-2)) (y := -2) rfl rfl rfl (by rw [hiu]; simp; omega)
          simp [t0, t4, t5, t6, t17, t22, t23, t24, p2, st, w1]
          refine ih1 (128 - (i + 1)) _ _ ⟨i + 1, _, rfl, by omega, by simp [t0], by simp [t4], by simp [t5], by simp [t6], by simp [t17], by simp [t22], by simp [t23], by simp, o3, by simpa using fl, ch2.trans (hiu ▸ c3), fun c => ?_⟩ (by omega)
          rw [G_set _ (by omega), hf c]
          by_cases hc : c = i
          · subst hc; simp [hneg]
          · rw [if_neg hc]
            by_cases hc2 : c < i
            · simp [hc2, show c < i + 1 by omega]
            · rw [if_neg (fun h => hc2 h.1), if_neg (fun h => by omega)]
        · simp [t0, t4, t5, t6, t17, t22, t23, t24, w1]
          refine ih1 (128 - (i + 1)) _ _ ⟨i + 1, fr, rfl, by omega, by simp [t0], by simp [t4], by simp [t5], by simp [t6], by simp [t17], by simp [t22], by simp [t23], by simp, o2, fl, ch2, fun c => ?_⟩ (by omega)
          rw [hf c]
          by_cases hc : c = i
          · subst hc; rw [if_neg (fun h => by omega), if_neg (fun h => hneg h.2)]
          · by_cases hc2 : c < i
            · simp [hc2, show c < i + 1 by omega]
            · rw [if_neg (fun h => hc2 h.1), if_neg (fun h => by omega)]
      · have hi' : i = 128 := by omega
        subst hi'
        have h2 := h.chg (((ch.trans c1).trans' ch2 (fun i hi => .inr (by simp at hi; omega)))) (by simp)
        simp [t0, t4, t5, t6, t17, h2.rd.len]
        have hsm := fun j (hj : j < xs.length) => (hd j hj).1
        have hbd := fun j => h.2.G j
        refine wp_inv (fun m t H3 => ∃ (i : Nat) (fr : List Int), m = xs.length - i ∧ i ≤ xs.length ∧ t 0 = v ∧ t 4 = s ∧ t 5 = .int .i64 r ∧ t 6 = u ∧ t 17 = .int .i64 r ∧ t 35 = v ∧ t 36 = .int .i64 xs.length ∧ t 37 = .int .i64 i ∧ Ow Fl.int 3 H3 u fr ∧ fr.length = 128 ∧ Chg K1 H3 [H'.length] ∧
            ∀ c, G fr c = -2 ↔ G rk c < 0 ∧ ∀ j, j < i → (G xs j % 1024).toNat = c → ¬ G rk (G xs j / 1024).toNat < 0) ?_ (n := xs.length)
          ⟨0, fr, by simp, by omega, by simp [t0], by simp [t4], by simp [t5], by simp [t6], by simp [t17], by simp, by simp, by simp, o2, fl, ch2, fun c => by
            rw [hf c]
            by_cases hc : c < 128
            · by_cases hg : G rk c < 0
              · simp [hc, hg]
              · simp [hg]; omega
            · have : G rk c = 0 := by unfold G; rw [List.getD_eq_getElem?_getD, List.getElem?_eq_none (by omega)]; rfl
              simp [this]⟩
        clear hf o2 fl ch2 t0 t4 t5 t6 t17 t22 t23 t24 h2
        rintro m t H3 ⟨i, fr, rfl, hi2, t0, t4, t5, t6, t17, t35, t36, t37, o2, fl, ch2, hf⟩ ih2
        have h2 := h.chg (((ch.trans c1).trans' ch2 (fun i hi => .inr (by simp at hi; omega)))) (by simp)
        simp [t0, t4, t5, t6, t17, t35, t36, t37]
        refine wp_dec ?_ ?_ <;> intro hlt2
        · have os := fun L => (o1.chg ch2 (by rw [hids]; simp; omega)).app (L := L)
          have b := hbd i
          have b1 := b.1; have b2 := b.2
          have b3 := hsm i hlt2
          have p1 := rw_ix h2 hlt2
          have p10 := p1 []
          simp only [List.append_nil] at p10
          obtain ⟨f, hfr⟩ : ∃ f : Nat, f = (G xs i / 1024).toNat := ⟨_, rfl⟩
          obtain ⟨g, hto⟩ : ∃ g : Nat, g = (G xs i % 1024).toNat := ⟨_, rfl⟩
          have ef : G xs i / 1024 = (f : Int) := by omega
          have eg : G xs i % 1024 = (g : Int) := by omega
          have p2 := fun L => ints_ix (os L).rd.isI (k := f) (by omega)
          have p3 := fun L => ints_ix (os L).rd.isI (k := g) (by omega)
          have o2L := fun L => o2.app (L := L)
          have p4 := fun L => ints_ix (o2L L).rd.isI (k := g) (by omega)
          have w1 : ∀ [Inhabited Unit], IntKind.i64.wrap ((i : Int) + 1) = ((i + 1 : Nat) : Int) := by intro _; rw [w64 (by omega) (by omega)]; omega
          have yes := fun (t' : Env) (H4 : Heap) (fr' : List Int) (x0 : t' 0 = v) (x4 : t' 4 = s) (x5 : t' 5 = .int .i64 r) (x6 : t' 6 = u) (x17 : t' 17 = .int .i64 r) (x35 : t' 35 = v) (x36 : t' 36 = .int .i64 xs.length) (x37 : t' 37 = .int .i64 (i + 1 : Nat)) (o4 : Ow Fl.int 3 H4 u fr') (fl' : fr'.length = 128) (ch4 : Chg K1 H4 [H'.length])
            (hq : ∀ c, G fr' c = -2 ↔ G rk c < 0 ∧ ∀ j, j < i + 1 → (G xs j % 1024).toNat = c → ¬ G rk (G xs j / 1024).toNat < 0) =>
            ih2 (xs.length - (i + 1)) t' H4 ⟨i + 1, fr', rfl, by omega, x0, x4, x5, x6, x17, x35, x36, x37, o4, fl', ch4, hq⟩ (by omega)
          have stay : ¬ (G rk f < 0 ∧ G rk g < 0) → ∀ c, G fr c = -2 ↔ G rk c < 0 ∧ ∀ j, j < i + 1 → (G xs j % 1024).toNat = c → ¬ G rk (G xs j / 1024).toNat < 0 := fun hn c => by
            rw [hf c]
            refine and_congr_right fun hc => ⟨fun hh j hj e => ?_, fun hh j hj => hh j (by omega)⟩
            by_cases hji : j = i
            · subst hji; rw [← hfr]; intro hneg; refine hn ⟨hneg, ?_⟩; rw [hto, e]; exact hc
            · exact hh j (by omega) e
          have hHl : H.length ≤ H3.length := by have := ch.1; have := c1.1; have := ch2.1; omega
          simp [t0, t4, t5, t6, t17, t35, t36, t37, p10, hHl, ef, eg, p2]
          have cb := fun L => chg_app_of ch2 L
          refine wpg_dec ?_ ?_ <;> intro g1 <;> simp [t0, t4, t5, t6, t17, t35, t36, t37, VM.look, p3, g1]
          · refine wp_dec ?_ ?_ <;> intro g2
            · obtain ⟨H5, st, o5, c5, l5⟩ := (o2L [⟨[.int .i64 (f : Int), .int .i64 (g : Int)], 0, 61⟩]).put1 (P := Try.prog) (frz := H.length) (et := 3) (ag := false) rfl (by simp) (j := g) (by omega) (x := .int .i64 (-1)) (y := -1) rfl rfl rfl (by rw [hiu]; simp; omega)
              simp [t0, t4, t5, t6, t17, t35, t36, t37, VM.look, p4, st, w1]
              refine yes _ _ _ ?_ ?_ ?_ ?_ ?_ ?_ ?_ ?_ o5 (by simpa using fl) ((cb _).trans (hiu ▸ c5)) ?_
              any_goals simp [t0, t4, t5, t6, t17, t35, t36]
              intro c
              rw [G_set _ (by omega)]
              by_cases hc : c = g
              · rw [if_pos hc]
                refine ⟨fun hh => by omega, fun hh => ?_⟩
                have := hh.2 i (by omega) (by rw [hc, hto])
                rw [← hfr] at this; omega
              · rw [if_neg hc, hf c]
                refine and_congr_right fun _ => ⟨fun hh j hj e => ?_, fun hh j hj e => ?_⟩
                · by_cases hji : j = i
                  · subst hji; omega
                  · have := hh j (by omega) e; omega
                · have := hh j (by omega) e; omega
            · simp [t0, t4, t5, t6, t17, t35, t36, t37, w1]
              refine yes _ _ _ ?_ ?_ ?_ ?_ ?_ ?_ ?_ ?_ (o2L _) fl (cb _) (stay fun h => g2 h.2) <;> simp [t0, t4, t5, t6, t17, t35, t36]
          · simp [t0, t4, t5, t6, t17, t35, t36, t37, w1]
            refine yes _ _ _ ?_ ?_ ?_ ?_ ?_ ?_ ?_ ?_ (o2L _) fl (cb _) (stay fun h => g1 h.1) <;> simp [t0, t4, t5, t6, t17, t35, t36]
        · have hi' : i = xs.length := by omega
          subst hi'
          simp [t0, t4, t5, t6, t17]
          have pl := place_next fl (fun c => (hf c).trans (prs_free rk c).symm)
          have nx := fun F => nextRanked_c (v := v) (frz := F) u fr o2.rd.isI (by omega)
          rcases pl with ⟨c, hc, e1, e2⟩ | ⟨e1, e2⟩
          · rw [e1] at nx
            have os := o1.chg ch2 (by rw [hids]; simp; omega)
            have p2 := ints_ix os.rd.isI (k := c) (by omega)
            have w1 : ∀ [Inhabited Unit], IntKind.i64.wrap ((r : Int) + 1) = ((r + 1 : Nat) : Int) := by intro _; rw [w64 (by omega) (by omega)]; omega
            have hc0 : ¬ ((c : Int) < 0) := by omega
            obtain ⟨H5, st, o5, c5, l5⟩ := os.put1 (P := Try.prog) (frz := H.length) (et := 3) (ag := false) rfl (by simp) (j := c) (by omega) (x := .int .i64 (r : Int)) (y := (r : Int)) rfl rfl rfl (by rw [hids]; simp)
            simp [t0, t4, t5, t6, t17, nx, hc0, p2, st, w1]
            refine ih (128 - (r + 1)) _ _ ⟨r + 1, _, rfl, by omega, by simp [t0], by simp [t4], by simp, ordRun_go hrk e2, o5, ?_⟩ (by omega)
            exact ((ch.trans c1).trans' ch2 (fun i hi => .inr (by simp at hi; omega))).trans' c5 (fun i hi => .inr (by rw [hids] at hi; simp at hi; omega))
          · rw [e1] at nx
            simp [t0, t4, t5, t6, t17, nx]
            refine ⟨.slice none 0 0, [], ?_, .inl ⟨rfl, rfl⟩, (ch.trans c1).trans' ch2 (fun i hi => .inr (by simp at hi; omega)), by simp⟩
            have := ordRun_no (by omega) hrk e2
            simp [this]
    · have hr' : r = 128 := by omega
      subst hr'
      simp [t4]
      refine ⟨s, rk, ?_, o.rd, ch, by rw [hids]; simp⟩
      have : orderOk (prs xs) := by unfold orderOk; rw [hrk]; simp
      simp [this, hd]
  · simp
    exact ⟨.slice none 0 0, [], by simp [hd], .inl ⟨rfl, rfl⟩, Chg.refl _, by simp⟩
end Go.Proofs.Ytlbbalmeaedbdaa.V
/-! Dependencies of replies: the reference. -/
set_option linter.all false
namespace Go.Proofs.Ytlbbalmeaedbdaa.V
open Go Go.VM Go.Proofs
set_option maxRecDepth 10000
variable {frz : Nat} {H : Heap} {v : Value} {xs ys : List Int} {e : TypeId}
theorem shiftOf_ok {y : Int} {xs : List Int} : dOk (shiftOf y xs) := by
  unfold shiftOf
  repeat' split
  · assumption
  · intro j hj; simp at hj
  · intro j hj; simp at hj
theorem mergeOf_eq {xs ys : List Int} (h : dOk xs) (h' : dOk ys) : mergeOf xs ys = arrK (xs ++ ys) := by rw [mergeOf, if_pos h, if_pos h']
/-- the pairs of different nodes among the first squares -/
def sqRep (w h : Int) (b A B : List Int) (y : Int) (i : Nat) : List Int := ((List.range i).filter fun i => decide (i / (cnt w h).toNat ≠ i % (cnt w h).toNat)).map fun i => repKey w h b A B y (i / (cnt w h).toNat, i % (cnt w h).toNat)
theorem sqRep_succ (w h : Int) (b A B : List Int) (y : Int) (i : Nat) : sqRep w h b A B y (i + 1) = sqRep w h b A B y i ++ (if i / (cnt w h).toNat = i % (cnt w h).toNat then [] else [repKey w h b A B y (i / (cnt w h).toNat, i % (cnt w h).toNat)]) := by
  unfold sqRep
  rw [List.range_succ, List.filter_append, List.map_append]
  split <;> rename_i g <;> simp [g]
theorem sqRep_len (w h : Int) (b A B : List Int) (y : Int) (i : Nat) : (sqRep w h b A B y i).length ≤ i := by
  unfold sqRep
  rw [List.length_map]
  exact Nat.le_trans (List.length_filter_le ..) (by simp)
theorem sqRep_eq {w h : Int} {b A B : List Int} {s : Bool} (k : classesOk w h b A B) : arrK ((depsOf w h b A ++ shiftOf (sharedBy s) (depsOf w h b B)) ++ sqRep w h b A B (sharedBy s) ((cnt w h).toNat * (cnt w h).toNat)) = replyOf w h b A B s := by
  rw [replyOf, if_pos k, ← List.append_assoc]
  refine arrK_congr fun x => ?_
  rw [List.mem_append, List.mem_append (s := depsOf w h b A ++ shiftOf (sharedBy s) (depsOf w h b B))]
  refine or_congr Iff.rfl ?_
  unfold sqRep
  rw [List.mem_map, List.mem_map]
  constructor
  · rintro ⟨i, hi, rfl⟩
    obtain ⟨hi, hne⟩ := List.mem_filter.1 hi
    have hi := List.mem_range.1 hi
    obtain ⟨q1, q2⟩ := sqp hi
    exact ⟨(i / (cnt w h).toNat, i % (cnt w h).toNat), mem_allPairs.2 ⟨q1, q2, by simpa using hne⟩, rfl⟩
  · rintro ⟨p, hp, rfl⟩
    obtain ⟨q1, q2, q3⟩ := (mem_allPairs (a := p.1) (c := p.2)).1 hp
    have e1 : (p.1 * (cnt w h).toNat + p.2) / (cnt w h).toNat = p.1 := by rw [Nat.mul_comm, Nat.mul_add_div (by omega), Nat.div_eq_of_lt q2, Nat.add_zero]
    have e2 : (p.1 * (cnt w h).toNat + p.2) % (cnt w h).toNat = p.2 := by rw [Nat.mul_comm, Nat.mul_add_mod, Nat.mod_eq_of_lt q2]
    refine ⟨p.1 * (cnt w h).toNat + p.2, List.mem_filter.2 ⟨List.mem_range.2 ?_, by rw [e1, e2]; simpa using q3⟩, by rw [e1, e2]⟩
    have : (p.1 + 1) * (cnt w h).toNat ≤ (cnt w h).toNat * (cnt w h).toNat := Nat.mul_le_mul_right _ q1
    rw [Nat.succ_mul] at this
    omega
theorem sReplyDepends_w (w h : Int) (v u1 u2 : Value) (b A B : List Int) (s : Bool) (hI : IsI H v b) (h1 : IsI H u1 A) (h2 : IsI H u2 B) (hl : b.length ≤ 1073741824) (hF : frz ≤ H.length) :
   wp (vcall C frz 7 [.agg #[.int .i64 w, .int .i64 h, v], .agg #[u1, u2], .bool s] H) (MadeE H (replyOf w h b A B s)) := by
  rw [vcall_go (fn := Try.f7) Try.func7 rfl (by kernel_rfl) rfl]
  have onv := And.intro hI.one' hI.cells
  have onu := And.intro h1.one' h1.cells
  have onu2 := And.intro h2.one' h2.cells
  obtain ⟨M, hM⟩ : ∃ M : Heap, M = [⟨[.int .i64 w, .int .i64 h, v], 0, 37⟩, ⟨[u1, u2], 0, 41⟩, ⟨[], 0, 61⟩] := ⟨_, rfl⟩
  have ck := fun F => sClassesOk_c (frz := F) w h v u1 u2 b A B (hI.app M) (h1.app M) (h2.app M) hl
  rw [hM] at ck
  simp [onv, onu, onu2, VM.look, ck]
  rw [← hM]
  have o0 : OwE 61 (H ++ M) (.slice (some ⟨H.length + 2, 0, some 0⟩) 0 0) [] := ⟨by rw [hM]; exact Ow.new (D := Fl.dep) (xs := []) (k := 2) rfl rfl rfl rfl, fun x hx => by simp at hx⟩
  have g0 : (H ++ M)[H.length]? = some ⟨[.int .i64 w, .int .i64 h, v], 0, 37⟩ := by rw [hM]; simp
  have g1 : (H ++ M)[H.length + 1]? = some ⟨[u1, u2], 0, 41⟩ := by rw [hM]; simp
  have hMl : M.length = 3 := by rw [hM]; rfl
  clear hM ck
  have cHK : Chg H (H ++ M) [] := Chg.app _
  have hKl : (H ++ M).length = H.length + 3 := by simp; omega
  have hIK := hI.app M
  have h1K := h1.app M
  have h2K := h2.app M
  generalize H ++ M = K at *
  refine wp_dec ?_ ?_ <;> intro g
  · simp
    obtain ⟨hA, hB⟩ := g
    refine wp_join (F := ?F) (k := ?k) (Q := ?Q) (fun t H1 => t 3 = .pointer (some ⟨H.length, 0, some 0⟩) ∧ t 4 = .pointer (some ⟨H.length + 1, 0, some 0⟩) ∧ t 8 = .int .i64 (sharedBy s) ∧ K = H1) ?main ?rest
    case main =>
      intro rest
      refine wp_bool ?_ ?_ <;> intro gs <;> simp
      · refine rest _ _ ?_
        exact ⟨by simp, by simp, by rw [gs]; rfl, rfl⟩
      · refine rest _ _ ?_
        exact ⟨by simp, by simp, by rw [gs]; rfl, rfl⟩
    case rest =>
      rintro t _ ⟨t3, t4, t8, rfl⟩
      rw [go_draw (h := by kernel_rfl)]
      have hvl := hI.rd.lt
      have dl1 := depsOf_len w h b A
      have dl0 := depsOf_len w h b B
      have dl2 := shiftOf_len (sharedBy s) (depsOf w h b B)
      have hy : 0 ≤ sharedBy s ∧ sharedBy s ≤ 64 := by unfold sharedBy; split <;> omega
      simp [VM.look, t3, t4, t8, g0, g1, onv, onu, onu2]
      refine wp_thn (sDependsOf_w w h v u1 b A hIK h1K hl (by omega)) ?_
      rintro d1 H2 ⟨od1, c2, nd1⟩
      have b0 := box_chg g0 c2 (by simp)
      have b1 := box_chg g1 c2 (by simp)
      have hI2 := (hIK.rd.chg c2 (by simp)).isI
      have h22 := (h2K.rd.chg c2 (by simp)).isI
      have l2 := c2.1
      simp [VM.look, t3, t4, t8, b0, b1, onv, onu, onu2]
      refine wp_thn (sDependsOf_w w h v u2 b B hI2 h22 hl (by omega)) ?_
      rintro d2 H3 ⟨od2, c3, nd2⟩
      have l3 := c3.1
      simp [t3, t4, t8]
      refine wp_thn (sShift_w d2 _ (sharedBy s) od2 hy (by omega) (by omega)) ?_
      rintro d3 H4 ⟨od3, c4, nd3⟩
      have l4 := c4.1
      have od1' := (od1.chg c3 (by simp)).chg c4 (by simp)
      simp [t3, t4, t8]
      refine wp_thn (sMerge_w d1 d3 _ _ od1' od3 (by omega) (by omega) (by omega)) ?_
      rintro r0 H5 ⟨o5, c5, n5⟩
      have l5 := c5.1
      rw [mergeOf_eq depsOf_ok shiftOf_ok] at o5
      have cK5 : Chg K H5 [] := ((c2.trans c3).trans c4).trans c5
      have b0 := box_chg g0 cK5 (by simp)
      simp [VM.look, t3, t4, t8, b0, sNodeCount_c]
      have hc := cnt_range w h
      have hsq := sq_small w h
      rw [← sqRep_eq (s := s) ⟨hA, hB⟩]
      obtain ⟨n0, hn0⟩ : ∃ n0 : Nat, cnt w h = n0 := ⟨(cnt w h).toNat, by omega⟩
      have hnt : (cnt w h).toNat = n0 := by omega
      have hlN : n0 * n0 ≤ 16 * 16 := Nat.mul_le_mul (by omega) (by omega)
      have hsq' : ∀ [Inhabited Unit], IntKind.i64.wrap ((n0 : Int) * n0) = ((n0 * n0 : Nat) : Int) := by intro _; rw [hn0] at hsq; rw [hsq]; simp
      obtain ⟨N, hN⟩ : ∃ N, N = n0 * n0 := ⟨_, rfl⟩
      rw [← hN] at hsq' hlN
      rw [hnt, ← hN]
      rw [hn0]
      obtain ⟨base, hbase⟩ : ∃ base, base = depsOf w h b A ++ shiftOf (sharedBy s) (depsOf w h b B) := ⟨_, rfl⟩
      have hbl : base.length ≤ 131072 := by rw [hbase]; simp; omega
      rw [← hbase] at o5 ⊢
      clear hbase
      refine wp_inv (fun n t H' => ∃ (i : Nat) (r : Value), n = N - i ∧ i ≤ N ∧ t 3 = .pointer (some ⟨H.length, 0, some 0⟩) ∧ t 4 = .pointer (some ⟨H.length + 1, 0, some 0⟩) ∧ t 7 = r ∧ t 8 = .int .i64 (sharedBy s) ∧ t 9 = .int .i64 n0 ∧ t 10 = .int .i64 i ∧
          OwE 61 H' r (arrK (base ++ sqRep w h b A B (sharedBy s) i)) ∧ (∀ j ∈ ids r, H.length ≤ j) ∧ Chg K H' []) ?_ (n := N)
        ⟨0, r0, by simp, by omega, by simp [t3], by simp [t4], by simp, by simp [t8], by simp, by simp, by simpa [sqRep] using o5, fun j hj => by have := n5 j hj; omega, cK5⟩
      clear t3 t4 t8 b0 b1 o5
      rintro n t H' ⟨i, r, rfl, hi, t3, t4, t7, t8, t9, t10, o, nr, ch⟩ ih
      have b0 := box_chg g0 ch (by simp)
      have b1 := box_chg g1 ch (by simp)
      have lch := ch.1
      simp [t3, t4, t7, t8, t9, t10, hsq']
      refine wp_dec ?_ ?_ <;> intro hlt
      · have hs := sqp (w := w) (h := h) (i := i) (by rw [hnt, ← hN]; exact hlt)
        rw [hnt] at hs
        have h0 : ¬ n0 = 0 := by omega
        obtain ⟨p, hp⟩ : ∃ p, p = i / n0 := ⟨_, rfl⟩
        obtain ⟨q, hq⟩ : ∃ q, q = i % n0 := ⟨_, rfl⟩
        have hpi : p ≤ i := by rw [hp]; exact Nat.div_le_self i n0
        have sq := sqRep_succ w h b A B (sharedBy s) i
        rw [hnt, ← hp, ← hq] at sq
        rw [← hp, ← hq] at hs
        have e1 : ∀ [Inhabited Unit], IntKind.i64.wrap ((i : Int) / (n0 : Int)) = (p : Int) := by intro _; rw [hp, ← Int.natCast_ediv, w64 (by omega) (by omega)]
        have e2 : (i : Int).tmod (n0 : Int) = (q : Int) := by rw [hq]; exact (Int.ofNat_tmod i n0).symm
        clear hp hq
        have sl := sqRep_len w h b A B (sharedBy s) i
        have w1 : IntKind.i64.wrap ((i : Int) + 1) = ((i + 1 : Nat) : Int) := by rw [w64 (by omega) (by omega)]; omega
        simp [t3, t4, t7, t8, t9, t10]
        rw [go_draw (h := by kernel_rfl)]
        simp [t3, t4, t7, t8, t9, t10, h0, e1, e2]
        refine wp_dec ?_ ?_ <;> intro hpq
        · rw [if_pos (by omega), List.append_nil] at sq
          simp [t3, t4, t7, t8, t9, t10, w1]
          refine ih (N - (i + 1)) _ _ ⟨i + 1, r, rfl, by omega, by simp [t3], by simp [t4], by simp [t7], by simp [t8], by simp [t9], by simp, by rw [sq]; exact o, nr, ch⟩ (by omega)
        · have hpq : ¬ p = q := fun hh => hpq (by omega)
          rw [if_neg hpq] at sq
          have hI' := (hIK.rd.chg ch (by simp)).isI
          have h1' := (h1K.rd.chg ch (by simp)).isI
          have h2' := (h2K.rd.chg ch (by simp)).isI
          have wk1 := fun F => sWalk_c (frz := F) w h v u1 b A p q hI' h1' hl hA.1 (isN_nat (by omega)) (isN_nat (by omega))
          have wk2 := fun F L => sWalk_c (frz := F) w h v u2 b B q p (hI'.app L) (h2'.app L) hl hB.1 (isN_nat (by omega)) (isN_nat (by omega))
          have wl1 := walk_lenE w h b A p q
          have p1 := walk_ne hA (a := p) (c := q) (by omega) (by omega) hpq
          have p2 := walk_ne hB (a := q) (c := p) (by omega) (by omega) (Ne.symm hpq)
          have q1 := walk_chan (b := b) (T := A) (a := p) (w := w) (h := h) (isN_nat (by omega)) (to := q)
          have q2 := walk_chan (b := b) (T := B) (a := q) (w := w) (h := h) (isN_nat (by omega)) (to := p)
          unfold repKey at sq
          simp only at sq
          generalize walk w h b A p q = ws at *
          generalize walk w h b B q p = us at *
          simp [t3, t4, t7, t8, t9, t10]
          rw [go_draw (h := by kernel_rfl)]
          simp [VM.look, t3, t4, t7, t8, t9, t10, h0, e1, e2, b0, b1, onv, onu, onu2, wk1]
          have b0L := fun L => get_app' b0 L
          have b1L := fun L => get_app' b1 L
          rw [go_draw (h := by kernel_rfl)]
          simp [VM.look, t3, t4, t7, t8, t9, t10, h0, e1, e2, b0L, b1L, onv, onu, onu2, wk2]
          have hz1 : IsI (H' ++ [⟨ws.map (.int .i64), 0, 3⟩, ⟨us.map (.int .i64), 0, 3⟩]) (.slice (some ⟨H'.length, 0, some 0⟩) ws.length 0) ws := IsI.at0 rfl
          have hz2 : IsI (H' ++ [⟨ws.map (.int .i64), 0, 3⟩, ⟨us.map (.int .i64), 0, 3⟩]) (.slice (some ⟨H'.length + 1, 0, some 0⟩) us.length 0) us := IsI.at rfl
          have c7 : Chg H' (H' ++ [⟨ws.map (.int .i64), 0, 3⟩, ⟨us.map (.int .i64), 0, 3⟩]) [] := Chg.app _
          have l7 := c7.1
          obtain ⟨z1, hz1e⟩ : ∃ z, z = Value.slice (some ⟨H'.length, 0, some 0⟩) ws.length 0 := ⟨_, rfl⟩
          obtain ⟨z2, hz2e⟩ : ∃ z, z = Value.slice (some ⟨H'.length + 1, 0, some 0⟩) us.length 0 := ⟨_, rfl⟩
          rw [← hz1e] at hz1 ⊢
          rw [← hz2e] at hz2 ⊢
          generalize H' ++ [⟨ws.map (.int .i64), 0, 3⟩, ⟨us.map (.int .i64), 0, 3⟩] = H7 at *
          have i1 := ints_ix hz1 (k := ws.length - 1) (by omega)
          have i2 := ints_ix hz2 (k := 0) (by omega)
          have i2' : vindexAddr Try.prog H7 24 z2 (.int .i64 0) = some (elp z2 0) := i2.1
          have w3 : ∀ [Inhabited Unit], IntKind.i64.wrap ((ws.length : Int) - 1) = ((ws.length - 1 : Nat) : Int) := by intro _; rw [w64 (by omega) (by omega)]; omega
          have qa := q1 (G ws (ws.length - 1)) (by rw [G_get (by omega)]; exact List.getElem_mem _)
          have qb := q2 (G us 0) (by rw [G_get (by omega)]; exact List.getElem_mem _)
          have w2 : ∀ [Inhabited Unit], IntKind.i64.wrap (G us 0 + sharedBy s) = G us 0 + sharedBy s := by intro _; exact w64 (by omega) (by omega)
          have cb : CB (G ws (ws.length - 1)) (G us 0 + sharedBy s) := by unfold CB; omega
          have al := arrK_len (base ++ sqRep w h b A B (sharedBy s) i)
          rw [List.length_append] at al
          have pw := fun F hF => put_w (frz := F) r _ (key (G ws (ws.length - 1)) (G us 0 + sharedBy s)) (o.chg c7 (by simp)) cb.kb (arrK_asc _) (by omega) hF
          rw [dv_key cb.2] at pw
          rw [go_draw (h := by kernel_rfl)]
          simp [t3, t4, t7, t8, t9, t10, hz1.len, w3, i1, i2', i2.2, w2]
          refine wp_thn (pw _ (by omega)) ?_
          rintro r8 H8 ⟨o8, c8, n8⟩
          rw [← arrK_snoc, List.append_assoc, ← sq] at o8
          simp [t3, t4, t7, t8, t9, t10, w1]
          refine ih (N - (i + 1)) _ _ ⟨i + 1, r8, rfl, by omega, by simp [t3], by simp [t4], by simp, by simp [t8], by simp [t9], by simp, o8, fun j hj => ?_, (ch.trans c7).trans c8⟩ (by omega)
          rcases n8 j hj with q | q
          · exact nr j q
          · omega
      · have hiN : i = N := by omega
        subst hiN
        simp [t7]
        exact ⟨o, cHK.trans ch, nr⟩
  · simp
    rw [replyOf, if_neg g]
    exact ⟨o0, cHK, by simp⟩
end Go.Proofs.Ytlbbalmeaedbdaa.V
/-! Lists of dependencies in the laws: equal, marked, held. -/
set_option linter.all false
namespace Go.Proofs.Ytlbbalmeaedbdaa.V
open Go Go.VM Go.Proofs
set_option maxRecDepth 10000
variable {frz : Nat} {H : Heap}
abbrev DpD := Int × Int
def dpF : Fl DpD := ⟨2, fun a => [.int .i64 a.1, .int .i64 a.2], fun _ => rfl⟩
@[simp] theorem dpF_n : dpF.n = 2 := rfl
theorem dpF_f (a : DpD) : dpF.f a = [.int .i64 a.1, .int .i64 a.2] := rfl
def kp (k : Int) : DpD := (k / 1024, k % 1024)
theorem cells_kp (xs : List Int) : cellsOf Fl.dep xs = cellsOf dpF (xs.map kp) := by
  induction xs with
  | nil => rfl
  | cons a l ih => rw [cellsOf_cons, List.map_cons, cellsOf_cons, ih]; rfl
theorem ow_kp {e : TypeId} {v : Value} {xs : List Int} (h : Ow Fl.dep e H v xs) : Ow dpF e H v (xs.map kp) := by
  rcases h with ⟨h1, rfl⟩ | ⟨id, off, r, h1, h2, h3, h4, h5⟩
  · exact .inl ⟨h1, rfl⟩
  · refine .inr ⟨id, off, r, by rw [List.length_map]; exact h1, h2, ?_, by rw [List.length_map]; exact h4, h5⟩
    rw [List.length_map, ← cells_kp]; exact h3
theorem eqDepend_c (x y : DpD) : vcall C frz 39 [.agg (dpF.f x).toArray, .agg (dpF.f y).toArray] H = some (.bool (decide (x = y)), H) := by
  obtain ⟨p, t⟩ := x
  obtain ⟨p', t'⟩ := y
  rw [vcall_go (fn := Try.f39) Try.func39 rfl (by kernel_rfl) rfl]
  simp [dpF_f]
  by_cases e1 : p = p'
  · by_cases e2 : t = t' <;> simp [e1, e2]
  · simp [e1]
theorem eqDependS_c (a b : Value) (xs ys : List DpD) (ha : Rd dpF H a xs) (hb : Rd dpF H b ys) (hl : xs.length ≤ 1073741824) :
   vcall C frz 11 [a, b] H = some (.bool (decide (xs = ys)), H) := by
  refine wp.exact (by simp) ?_ rfl
  rw [vcall_go (fn := Try.f11) Try.func11 rfl (by kernel_rfl) rfl]
  simp [ha.len, hb.len]
  refine wp_dec ?_ ?_ <;> intro h0 <;> simp [h0]
  · refine wp_inv (fun n t H' => ∃ i : Nat, n = xs.length - i ∧ i ≤ xs.length ∧ t 0 = a ∧ t 1 = b ∧ t 5 = .int .i64 i ∧ H' = H ∧ xs.take i = ys.take i) ?_ (n := xs.length) ⟨0, rfl, by omega, by simp, by simp, by simp, rfl, by simp⟩
    rintro n t H' ⟨i, rfl, hi, h1, h2, h3, rfl, h4⟩ ih
    simp [h1, h2, h3, ha.len]
    refine wp_dec ?_ ?_ <;> intro h
    · have hx : i < xs.length := by omega
      have hy : i < ys.length := by omega
      have q1 := ha.idx (P := Try.prog) (ty := 33) (e := 61) (by simp) (i := (i : Int)) (by omega) (by omega)
      have q2 := ha.load (P := Try.prog) (e := 61) (by simp) hx
      have q3 := hb.idx (P := Try.prog) (ty := 33) (e := 61) (by simp) (i := (i : Int)) (by omega) (by omega)
      have q4 := hb.load (P := Try.prog) (e := 61) (by simp) hy
      simp only [Int.toNat_natCast, dpF_n] at q1 q2 q3 q4
      simp [h1, h2, h3]
      rw [go_draw (h := by kernel_rfl)]
      simp [h1, h2, h3, q1, q2, q3, q4, eqDepend_c]
      refine wp_dec ?_ ?_ <;> intro h5
      · simp [h1, h2, h3]
        refine ih (xs.length - (i + 1)) _ _ ⟨i + 1, rfl, by omega, by simp [h1], by simp [h2], ?_, rfl, ?_⟩ (by omega)
        · simp; rw [w64 (by omega) (by omega)]
        · rw [List.take_succ_eq_append_getElem hx, List.take_succ_eq_append_getElem hy, h4]; simp [h5]
      · simp [h1, h2, h3]
        intro hh; subst hh; simp at h5
    · have : i = xs.length := by omega
      subst this
      simp [h1, h2, h3]
      rw [List.take_length, List.take_of_length_le (by omega)] at h4
      exact h4
  · intro hh; exact h0 (by rw [hh])
def mkD (k : Int) : DpD := (k, k + 1)
def marksD (k : Int) : Nat → List DpD
  | 0 => []
  | n + 1 => marksD k n ++ [mkD (k + 2 * n)]
@[simp] theorem marksD_len (k : Int) : ∀ n, (marksD k n).length = n
  | 0 => rfl
  | n + 1 => by simp [marksD, marksD_len k n]
theorem marksD_get (k : Int) {i : Nat} : ∀ n (h : i < n), (marksD k n)[i]'(by simpa using h) = mkD (k + 2 * i)
  | 0, h => by omega
  | n + 1, h => by
    simp only [marksD]
    by_cases hi : i < n
    · rw [List.getElem_append_left (by simpa using hi)]; exact marksD_get k n hi
    · have : i = n := by omega
      subst this
      rw [List.getElem_append_right (by simp)]; simp
theorem marksD_set (k : Int) (xs : List DpD) {i : Nat} (h : i < xs.length) : (marksD k i ++ xs.drop i).set i (mkD (k + 2 * i)) = marksD k (i + 1) ++ xs.drop (i + 1) := by
  rw [List.set_append_right _ _ (by simp), marksD_len, Nat.sub_self, List.drop_eq_getElem_cons h, List.set_cons_zero, marksD]
  simp
theorem markDependS_w (v : Value) (xs : List DpD) (e : TypeId) (k : Int) (h : Ow dpF e H v xs) (hl : xs.length ≤ 1073741824) (hk : 0 ≤ k ∧ k ≤ 4611686018427387904) (hf : ∀ i ∈ ids v, frz ≤ i) :
   wp (vcall C frz 16 [v, .int .i64 k] H) (fun r H' => r = .int .i64 (k + 2 * xs.length) ∧ Ow dpF e H' v (marksD k xs.length) ∧ Chg H H' (ids v) ∧ H'.length = H.length) := by
  rw [vcall_go (fn := Try.f16) Try.func16 rfl (by kernel_rfl) rfl]
  simp
  refine wp_inv (fun n t H' => ∃ i : Nat, n = xs.length - i ∧ i ≤ xs.length ∧ t 0 = v ∧ t 1 = .int .i64 (k + 2 * i) ∧ t 5 = .int .i64 i ∧ Ow dpF e H' v (marksD k i ++ xs.drop i) ∧ Chg H H' (ids v) ∧ H'.length = H.length) ?_ (n := xs.length)
    ⟨0, by simp, by omega, by simp, by simp, by simp, by simpa [marksD] using h, Chg.refl _, rfl⟩
  rintro n t H' ⟨i, rfl, hi, h0, h1, h5, o, c, l⟩ ih
  have hlen : (marksD k i ++ xs.drop i).length = xs.length := by simp; omega
  have ll := o.rd.len (P := Try.prog) (ty := 33) (by simp)
  rw [hlen] at ll
  simp [h0, h1, h5, ll]
  refine wp_dec ?_ ?_ <;> intro h6
  · have hi' : i < xs.length := by omega
    have hms := marksD_set k xs hi'
    generalize marksD k i ++ xs.drop i = ys at *
    have hy : i < ys.length := by omega
    obtain ⟨K, hK⟩ : ∃ K, K = k + 2 * (i : Int) := ⟨_, rfl⟩
    obtain ⟨K1, hK1⟩ : ∃ K1, K1 = K + 1 := ⟨_, rfl⟩
    have hmk : mkD K = (K, K1) := by rw [hK1]; rfl
    have w1 : ∀ [Inhabited Unit], IntKind.i64.wrap (K + 1) = K1 := by intro _; rw [w64 (by omega) (by omega), hK1]
    have w2 : ∀ [Inhabited Unit], IntKind.i64.wrap (K1 + 1) = k + 2 * ((i + 1 : Nat) : Int) := by intro _; rw [w64 (by omega) (by omega)]; omega
    rw [← hK] at hms h1
    obtain ⟨z, hz⟩ : ∃ z, z = ys[i] := ⟨_, rfl⟩
    have ix := fun {G : Heap} {zs : List DpD} (oo : Ow dpF e G v zs) (hh : i < zs.length) => oo.rd.idx (P := Try.prog) (ty := 33) (e := 61) (by simp) (i := (i : Int)) (by omega) (by omega)
    have fa := fun {G : Heap} {zs : List DpD} (oo : Ow dpF e G v zs) (hh : i < zs.length) => (show _ ∧ _ from
      ⟨oo.rd.field (P := Try.prog) (s := 61) (f := 0) (o := 0) (n := 1) (ag := false) (by simp) (j := i * 2) (by omega), oo.rd.field (P := Try.prog) (s := 61) (f := 1) (o := 1) (n := 1) (ag := false) (by simp) (j := i * 2) (by omega)⟩)
    obtain ⟨H1, s1, o1, c1, l1⟩ := o.store1 (P := Try.prog) (frz := frz) (et := 3) (ag := false) (x := .int .i64 K) (by simp) (j := i) (c := 0) (y := (K, z.2)) hy (by decide) rfl rfl (by rw [← hz]; rfl) hf
    obtain ⟨H2, s2, o2, c2, l2⟩ := o1.store1 (P := Try.prog) (frz := frz) (et := 3) (ag := false) (x := .int .i64 K1) (by simp) (j := i) (c := 1) (y := (K, K1)) (by simpa using hy) (by decide) rfl rfl (by simp [dpF_f]) hf
    have i0 := ix o hy
    have i1 := ix o1 (by simpa using hy)
    have f0 := (fa o hy).1
    have f1 := (fa o1 (by simpa using hy)).2
    simp only [Int.toNat_natCast, dpF_n, Nat.add_zero] at i0 i1 s1 s2 f0
    simp [-vfieldAddr, h0, h1, h5, i0, i1, f0, f1, s1, s2, w1, w2]
    refine ih (xs.length - (i + 1)) _ _ ⟨i + 1, rfl, by omega, by simp [h0], ?_, ?_, ?_, ((c.trans c1).trans c2), by omega⟩ (by omega)
    · simp
    · simp; rw [w64 (by omega) (by omega)]
    · rw [← hms, hmk]; simpa only [List.set_set] using o2
  · have : i = xs.length := by omega
    subst this
    simp [h0, h1, h5]
    exact ⟨by simpa using o, c, l⟩
theorem heldDependS_c (v : Value) (n : Nat) (k : Int) (h : Rd dpF H v (marksD k n)) (hl : n ≤ 1073741824) (hk : 0 ≤ k ∧ k ≤ 4611686018427387904) :
   vcall C frz 17 [v, .int .i64 k] H = some (.int .i64 (k + 2 * n), H) := by
  refine wp.exact (by simp) ?_ rfl
  rw [vcall_go (fn := Try.f17) Try.func17 rfl (by kernel_rfl) rfl]
  have ll := h.len (P := Try.prog) (ty := 33) (by simp)
  rw [marksD_len] at ll
  simp
  refine wp_inv (fun m t H' => ∃ i : Nat, m = n - i ∧ i ≤ n ∧ t 0 = v ∧ t 1 = .int .i64 (k + 2 * i) ∧ t 5 = .int .i64 i ∧ H' = H) ?_ (n := n) ⟨0, rfl, by omega, by simp, by simp, by simp, rfl⟩
  rintro m t H' ⟨i, rfl, hi, h0, h1, h5, rfl⟩ ih
  simp [h0, h1, h5, ll]
  refine wp_dec ?_ ?_ <;> intro h6
  · have hi' : i < n := by omega
    have hy : i < (marksD k n).length := by simpa using hi'
    obtain ⟨K, hK⟩ : ∃ K, K = k + 2 * (i : Int) := ⟨_, rfl⟩
    obtain ⟨K1, hK1⟩ : ∃ K1, K1 = K + 1 := ⟨_, rfl⟩
    have hmk : (marksD k n)[i] = (K, K1) := by rw [marksD_get k n hi', hK1, hK]; rfl
    have w1 : ∀ [Inhabited Unit], IntKind.i64.wrap (K + 1) = K1 := by intro _; rw [w64 (by omega) (by omega), hK1]
    have w2 : ∀ [Inhabited Unit], IntKind.i64.wrap (K1 + 1) = k + 2 * ((i + 1 : Nat) : Int) := by intro _; rw [w64 (by omega) (by omega)]; omega
    rw [← hK] at h1
    have i0 := h.idx (P := Try.prog) (ty := 33) (e := 61) (by simp) (i := (i : Int)) (by omega) (by omega)
    have f0 := h.field (P := Try.prog) (s := 61) (f := 0) (o := 0) (n := 1) (ag := false) (by simp) (j := i * 2) (by omega)
    have f1 := h.field (P := Try.prog) (s := 61) (f := 1) (o := 1) (n := 1) (ag := false) (by simp) (j := i * 2) (by omega)
    have c0 := h.cell (P := Try.prog) (e := 3) (by simp) hy (c := 0) (by decide)
    have c1 := h.cell (P := Try.prog) (e := 3) (by simp) hy (c := 1) (by decide)
    rw [hmk] at c0 c1
    simp only [Int.toNat_natCast, dpF_n, dpF_f, Nat.add_zero] at i0 f0 c0 c1
    simp at c0 c1
    simp [-vfieldAddr, h0, h1, h5, i0, f0, f1, c0, c1, w1, w2]
    refine ih (n - (i + 1)) _ _ ⟨i + 1, rfl, by omega, by simp [h0], ?_, ?_, rfl⟩ (by omega)
    · simp
    · simp; rw [w64 (by omega) (by omega)]
  · have : i = n := by omega
    subst this
    simp [h0, h1, h5]
def dDep : Dt Value (List DpD) := dFlat dpF 61 1073741824
theorem dDep_val (v : Value) (a : List DpD) : dDep.val v a = v := rfl
theorem dDep_one {v : Value} {a : List DpD} (h : dDep.Ow H v a) : VM.one v = true ∧ v.cells = #[v] := ⟨h.1.rd.one', h.1.rd.cells⟩
theorem eqDependS_d {a b : Value} {x y : List DpD} (ha : dDep.Ow H a x) (hb : dDep.Ow H b y) : vcall C frz 11 [a, b] H = some (.bool (decide (x = y)), H) := eqDependS_c a b x y ha.1.rd hb.1.rd ha.2
theorem markDependS_d {v : Value} {a : List DpD} {k : Int} (h : dDep.Ow H v a) (hd : (dDep.ids v).Nodup) (hk : 0 ≤ k ∧ k ≤ 2305843009213693952) (hf : ∀ i ∈ dDep.ids v, frz ≤ i) :
    wp (vcall C frz 16 [v, .int .i64 k] H) (Marks 2147483648 dDep 17 H v a k) := by
  refine (markDependS_w v a _ k h.1 h.2 ⟨by omega, by omega⟩ hf).mono ?_
  rintro r H' ⟨rfl, o, c, l⟩
  have := h.2
  refine ⟨2 * (a.length : Int), marksD k a.length, rfl, by omega, rfl, ⟨o, by simpa using h.2⟩, c, fun F H2 h2 => ?_⟩
  exact heldDependS_c v a.length k h2.1.rd h.2 ⟨by omega, by omega⟩
theorem replyOf_len (w h : Int) (b A B : List Int) (s : Bool) : (replyOf w h b A B s).length ≤ 262144 := by
  unfold replyOf
  split
  · have h1 := depsOf_len w h b A
    have h2 := depsOf_len w h b B
    have h3 := shiftOf_len (sharedBy s) (depsOf w h b B)
    have h4 := allPairs_len (cnt w h).toNat (cnt w h).toNat
    have h5 : (cnt w h).toNat * (cnt w h).toNat ≤ 16 * 16 := Nat.mul_le_mul (by have := cnt_range w h; omega) (by have := cnt_range w h; omega)
    refine Nat.le_trans (arrK_len _) ?_
    simp; omega
  · simp
theorem made_kp {u : Value} {H' : Heap} {xs : List Int} (h : MadeE H xs u H') (hl : xs.length ≤ 1073741824) : dDep.Made H (xs.map kp) u H' := ⟨u, rfl, ⟨ow_kp h.1.1, by rw [List.length_map]; exact hl⟩, h.2.1, h.2.2, ids_nodup u⟩
theorem replyDepends_d {v : Value} {u : Value × Value} {m : MeshD} {t : ClassesD} {s : Bool} (hm : dMesh.Ow H v m) (hc : dClasses.Ow H u t) (hF : frz ≤ H.length) :
    wp (vcall C frz 10 [dMesh.val v m, dClasses.val u t, .bool s] H) (dDep.Made H ((replyOf m.1 m.2.1 m.2.2 t.1 t.2 s).map kp)) :=
  (replyDepends_w m.1 m.2.1 v u.1 u.2 m.2.2 t.1 t.2 s hm.1.rd.isI hc.1.1.rd.isI hc.2.1.rd.isI hm.2 hF).mono fun r H' h => made_kp h (by have := replyOf_len m.1 m.2.1 m.2.2 t.1 t.2 s; omega)
theorem sReplyDepends_d {v : Value} {u : Value × Value} {m : MeshD} {t : ClassesD} {s : Bool} (hm : dMesh.Ow H v m) (hc : dClasses.Ow H u t) (hF : frz ≤ H.length) :
    wp (vcall C frz 7 [dMesh.val v m, dClasses.val u t, .bool s] H) (dDep.Made H ((replyOf m.1 m.2.1 m.2.2 t.1 t.2 s).map kp)) :=
  (sReplyDepends_w m.1 m.2.1 v u.1 u.2 m.2.2 t.1 t.2 s hm.1.rd.isI hc.1.1.rd.isI hc.2.1.rd.isI hm.2 hF).mono fun r H' h => made_kp h (by have := replyOf_len m.1 m.2.1 m.2.2 t.1 t.2 s; omega)
end Go.Proofs.Ytlbbalmeaedbdaa.V
/-! Orders of dependencies: what the reference finds. -/
set_option linter.all false
namespace Go.Proofs.Ytlbbalmeaedbdaa.V
open Go Go.VM Go.Proofs
set_option maxRecDepth 10000
variable {frz : Nat} {H : Heap} {v : Value} {xs ys : List Int} {e : TypeId}
theorem free_c (u : Value) (rk : List Int) (c : Nat) (h : OwE e H v xs) (hl : xs.length ≤ 1073741824) (hI : IsI H u rk) (hd : dOk xs) (fl : rk.length = 128) :
    vcall C frz 68 [v, u, .int .i64 c] H = some (.bool (decide (∀ j, j < xs.length → (G xs j % 1024).toNat = c → ¬ G rk (G xs j / 1024).toNat < 0)), H) := by
  refine wp.exact (by simp) ?_ rfl
  rw [vcall_go (fn := Try.f68) Try.func68 rfl (by kernel_rfl) rfl]
  simp
  refine wp_inv (fun m t H3 => ∃ i : Nat, m = xs.length - i ∧ i ≤ xs.length ∧ t 0 = v ∧ t 1 = u ∧ t 2 = .int .i64 c ∧ t 7 = .int .i64 i ∧ H3 = H ∧ ∀ j, j < i → (G xs j % 1024).toNat = c → ¬ G rk (G xs j / 1024).toNat < 0) ?_ (n := xs.length)
    ⟨0, by simp, by omega, by simp, by simp, by simp, by simp, rfl, fun j hj => by omega⟩
  rintro m t H3 ⟨i, rfl, hi, t0, t1, t2, t7, rfl, hq⟩ ih
  simp [t0, t1, t2, t7, h.rd.len]
  refine wp_dec ?_ ?_ <;> intro hlt
  · have b := h.2.G i
    have b1 := b.1; have b2 := b.2
    have b3 := (hd i hlt).1
    have p1 := rw_ix h hlt []
    have p3 := dw_fl h hlt []
    simp only [List.append_nil] at p1 p3
    obtain ⟨f, hfr⟩ : ∃ f : Nat, f = (G xs i / 1024).toNat := ⟨_, rfl⟩
    obtain ⟨g, hto⟩ : ∃ g : Nat, g = (G xs i % 1024).toNat := ⟨_, rfl⟩
    have ef : G xs i / 1024 = (f : Int) := by omega
    have eg : G xs i % 1024 = (g : Int) := by omega
    have p2 := ints_ix hI (k := f) (by omega)
    have w1 : ∀ [Inhabited Unit], IntKind.i64.wrap ((i : Int) + 1) = ((i + 1 : Nat) : Int) := by intro _; rw [w64 (by omega) (by omega)]; omega
    have yes := fun (t' : Env) (x0 : t' 0 = v) (x1 : t' 1 = u) (x2 : t' 2 = .int .i64 c) (x7 : t' 7 = .int .i64 (i + 1 : Nat)) (hq' : g = c → ¬ G rk f < 0) =>
      ih (xs.length - (i + 1)) t' H3 ⟨i + 1, rfl, by omega, x0, x1, x2, x7, rfl, fun j hj e => by
        by_cases hji : j = i
        · subst hji; rw [← hfr]; exact hq' (hto.trans e)
        · exact hq j (by omega) e⟩ (by omega)
    simp [-vfieldAddr, t0, t1, t2, t7, p1, p3, ef, eg]
    refine wpg_dec ?_ ?_ <;> intro g1 <;> simp [-vfieldAddr, t0, t1, t2, t7, p1, p3, ef, eg, p2, g1]
    · refine wp_dec ?_ ?_ <;> intro g2 <;> simp [t0, t1, t2, t7, w1]
      · exact ⟨i, hlt, by omega, by rw [← hfr]; exact g2⟩
      · exact yes _ (by simp [t0]) (by simp [t1]) (by simp [t2]) (by simp) (fun _ => by omega)
    · exact yes _ (by simp [t0]) (by simp [t1]) (by simp [t2]) (by simp [w1]) (fun hh => by omega)
  · have : i = xs.length := by omega
    subst this
    simp
    exact fun j hj e => by have := hq j hj e; omega
theorem sOrderOf_w (v : Value) (xs : List Int) (h : OwE e H v xs) (hl : xs.length ≤ 1073741824) : wp (vcall C frz 45 [v] H) (OrdRes H xs) := by
  rw [vcall_go (fn := Try.f45) Try.func45 rfl (by kernel_rfl) rfl]
  have hA := h.app (L := [⟨[], 0, 3⟩])
  simp [sDependsOk_c v xs hA hl]
  obtain ⟨K, hK⟩ : ∃ K, K = H ++ [⟨[], 0, 3⟩] := ⟨_, rfl⟩
  have o0 : Ow Fl.int 3 K (.slice (some ⟨H.length, 0, some 0⟩) 0 0) [] := by rw [hK]; exact Ow.new0 rfl rfl rfl rfl
  have cK : Chg H K [] := by rw [hK]; exact Chg.app _
  rw [← hK]
  clear hK
  refine wp_dec ?_ ?_ <;> intro hd
  · simp
    refine wp_inv (fun n t H' => ∃ (i : Nat) (s : Value), n = 128 - i ∧ i ≤ 128 ∧ t 0 = v ∧ t 4 = s ∧ t 5 = .int .i64 i ∧ Ow Fl.int 3 H' s (List.replicate i (-1)) ∧ Chg H H' [] ∧ ∀ j ∈ ids s, H.length ≤ j) ?_ (n := 128)
      ⟨0, _, rfl, by omega, by simp, by simp, by simp, o0, cK, by simp⟩
    rintro n t H' ⟨i, s, rfl, hi, t0, t4, t5, o, ch, ns⟩ ih
    simp [t0, t4, t5]
    refine wp_dec ?_ ?_ <;> intro hlt
    · obtain ⟨x', H3, hap, o3, c3, n3⟩ := o.push (P := Try.prog) (frz := H.length) (ty := 24) (a := -1) (by simp) rfl (by simp; omega) (fun j hj => ns j hj)
      have w1 : ∀ [Inhabited Unit], IntKind.i64.wrap ((i : Int) + 1) = ((i + 1 : Nat) : Int) := by intro _; rw [w64 (by omega) (by omega)]; omega
      simp at hap
      have hl' := ch.1
      simp [t0, t4, t5, hap, w1]
      refine ih (128 - (i + 1)) _ _ ⟨i + 1, x', rfl, by omega, by simp [t0], by simp, by simp, ?_, ch.trans' c3 (fun j hj => .inr (ns j hj)), fun j hj => ?_⟩ (by omega)
      · rw [List.replicate_succ']; exact o3
      · rcases n3 j hj with q | q
        · exact ns j q
        · omega
    · have hi' : i = 128 := by omega
      subst hi'
      simp [t0, t4]
      have hs0 := o.rd.sl
      have t0' := t0
      have t4' := t4
      clear ih t0 t4 t5 hi hlt
      refine wp_inv (fun n t H2 => ∃ (r : Nat) (rk : List Int), n = 128 - r ∧ r ≤ 128 ∧ t 0 = v ∧ t 4 = s ∧ t 6 = .int .i64 r ∧ ordRun (prs xs) r = some rk ∧ Ow Fl.int 3 H2 s rk ∧ Chg H H2 []) ?_ (n := 128)
        ⟨0, _, rfl, by omega, by simp [t0'], by simp [t4'], by simp, rfl, o, ch⟩
      rintro n t H2 ⟨r, rk, rfl, hr, t0, t4, t6, hrk, o, ch⟩ ih
      have hlen := ordRun_len hrk
      simp [t0, t4, t6]
      refine wp_dec ?_ ?_ <;> intro hlt
      · simp [t0, t4, t6]
        refine wp_joino (F := ?F) (k := ?k) (o := ?o) (Q := ?Q) (fun t H3 => t 0 = v ∧ t 4 = s ∧ t 6 = .int .i64 r ∧ H3 = H2 ∧ ((t 7 = .int .i64 (-1) ∧ ordNext (prs xs) rk = none) ∨ ∃ c : Nat, c < 128 ∧ t 7 = .int .i64 c ∧ ordNext (prs xs) rk = some c)) ?main ?rest
        case main =>
          intro rest
          refine wp_inv (fun m t H3 => ∃ c : Nat, m = 128 - c ∧ c ≤ 128 ∧ t 0 = v ∧ t 4 = s ∧ t 6 = .int .i64 r ∧ t 8 = .int .i64 c ∧ H3 = H2 ∧ ((t 7 = .int .i64 (-1) ∧ ∀ k, k < c → ¬ ordFree (prs xs) rk k) ∨ ∃ c : Nat, c < 128 ∧ t 7 = .int .i64 c ∧ ordNext (prs xs) rk = some c)) ?_ (n := 128)
            ⟨0, rfl, by omega, by simp [t0], by simp [t4], by simp [t6], by simp, rfl, .inl ⟨by simp, fun k hk => by omega⟩⟩
          rintro m t H3 ⟨c, rfl, hc, t0, t4, t6, t8, rfl, hq⟩ ih1
          have w1 : ∀ [Inhabited Unit], IntKind.i64.wrap ((c : Int) + 1) = ((c + 1 : Nat) : Int) := by intro _; rw [w64 (by omega) (by omega)]; omega
          rcases hq with ⟨t7, hq⟩ | ⟨c0, hc0, t7, hq⟩
          · simp [t0, t4, t6, t7, t8]
            refine wpg_dec ?_ ?_ <;> intro g1 <;> simp [-go_exit_blk, t0, t4, t6, t7, t8, g1]
            · have p1 := ints_ix o.rd.isI (k := c) (by omega)
              have fc := fun F => free_c (frz := F) s rk c (h.chg ch (by simp)) hl o.rd.isI hd hlen
              have pf := prs_free (xs := xs) rk c
              simp [p1]
              refine wpg_dec ?_ ?_ <;> intro g2 <;> simp [t0, t4, t6, t7, t8, g2, fc, w1]
              · refine wp_dec ?_ ?_ <;> intro g3 <;> simp [t0, t4, t6, t7, t8, w1]
                · refine ih1 (128 - (c + 1)) _ _ ⟨c + 1, rfl, by omega, by simp [t0], by simp [t4], by simp [t6], by simp, rfl, .inr ⟨c, by omega, by simp, ordNext_at (by omega) (pf.2 ⟨g2, fun j hj e => by have := g3 j hj e; omega⟩) hq⟩⟩ (by omega)
                · refine ih1 (128 - (c + 1)) _ _ ⟨c + 1, rfl, by omega, by simp [t0], by simp [t4], by simp [t6], by simp, rfl, .inl ⟨by simp [t7], fun k hk => ?_⟩⟩ (by omega)
                  by_cases hkc : k = c
                  · subst hkc; exact fun hh => g3 fun j hj e => by have := (pf.1 hh).2 j hj e; omega
                  · exact hq k (by omega)
              · refine ih1 (128 - (c + 1)) _ _ ⟨c + 1, rfl, by omega, by simp [t0], by simp [t4], by simp [t6], by simp, rfl, .inl ⟨by simp [t7], fun k hk => ?_⟩⟩ (by omega)
                by_cases hkc : k = c
                · subst hkc; exact fun hh => g2 (pf.1 hh).1
                · exact hq k (by omega)
            · refine rest _ _ ?_
              exact ⟨by simp [t0], by simp [t4], by simp [t6], rfl, .inl ⟨by simp [t7], ordNext_no fun k hk => hq k (by omega)⟩⟩
          · have hc1 : ¬ ((c0 : Int) < 0) := by omega
            simp [t0, t4, t6, t7, t8]
            refine wpg_dec ?_ ?_ <;> intro g1 <;> simp [-go_exit_blk, t0, t4, t6, t7, t8, g1, hc1]
            · refine rest _ _ ?_
              exact ⟨by simp [t0], by simp [t4], by simp [t6], rfl, .inr ⟨c0, hc0, by simp [t7], hq⟩⟩
            · refine rest _ _ ?_
              exact ⟨by simp [t0], by simp [t4], by simp [t6], rfl, .inr ⟨c0, hc0, by simp [t7], hq⟩⟩
        case rest =>
          rintro t _ ⟨t0, t4, t6, rfl, ⟨t7, hq⟩ | ⟨c, hc, t7, hq⟩⟩
          · simp [t0, t4, t6, t7]
            refine ⟨_, [], ?_, (Ow.new0 (e := 3) rfl rfl rfl rfl).rd, ch.trans (Chg.app _), ?_⟩
            · have := ordRun_no (by omega) hrk hq
              simp [this]
            · intro j hj; simp at hj; have := ch.1; omega
          · have hc1 : ¬ ((c : Int) < 0) := by omega
            have p1 := ints_ix o.rd.isI (k := c) (by omega)
            have w1 : ∀ [Inhabited Unit], IntKind.i64.wrap ((r : Int) + 1) = ((r + 1 : Nat) : Int) := by intro _; rw [w64 (by omega) (by omega)]; omega
            obtain ⟨H5, st, o5, c5, l5⟩ := o.put1 (P := Try.prog) (frz := H.length) (et := 3) (ag := false) rfl (by simp) (j := c) (by omega) (x := .int .i64 (r : Int)) (y := (r : Int)) rfl rfl rfl ns
            simp [t0, t4, t6, t7, hc1, p1, st, w1]
            exact ih (128 - (r + 1)) _ _ ⟨r + 1, _, rfl, by omega, by simp [t0], by simp [t4], by simp, ordRun_go hrk hq, o5, ch.trans' c5 (fun j hj => .inr (ns j hj))⟩ (by omega)
      · have hr' : r = 128 := by omega
        subst hr'
        simp [t4]
        refine ⟨s, rk, ?_, o.rd, ch, ns⟩
        have : orderOk (prs xs) := by unfold orderOk; rw [hrk]; simp
        simp [this, hd]
  · simp
    exact ⟨_, [], by simp [hd], o0.rd, cK, by simp⟩
theorem repliesSafe_w (w h : Int) (v u1 u2 : Value) (b A B : List Int) (s : Bool) (hI : IsI H v b) (h1 : IsI H u1 A) (h2 : IsI H u2 B) (hl : b.length ≤ 1073741824) :
   wp (vcall C frz 19 [.agg #[.int .i64 w, .int .i64 h, v], .agg #[u1, u2], .bool s] H) (fun r _ => r = .bool (decide (classesOk w h b A B ∧ dOk (replyOf w h b A B s) ∧ orderOk (prs (replyOf w h b A B s))))) := by
  rw [vcall_go (fn := Try.f19) Try.func19 rfl (by kernel_rfl) rfl]
  have onv := And.intro hI.one' hI.cells
  have onu := And.intro h1.one' h1.cells
  have onu2 := And.intro h2.one' h2.cells
  simp [onv, onu, onu2, VM.look]
  obtain ⟨M, hM⟩ : ∃ M : Heap, M = [⟨[.int .i64 w, .int .i64 h, v], 0, 37⟩, ⟨[u1, u2], 0, 41⟩] := ⟨_, rfl⟩
  have g0 : (H ++ M)[H.length]? = some ⟨[.int .i64 w, .int .i64 h, v], 0, 37⟩ := by rw [hM]; simp
  have g1 : (H ++ M)[H.length + 1]? = some ⟨[u1, u2], 0, 41⟩ := by rw [hM]; simp
  rw [← hM]
  refine wp_thn (replyDepends_w w h v u1 u2 b A B s (hI.app M) (h1.app M) (h2.app M) hl (by simp)) ?_
  rintro z H1 ⟨o1, c1, n1⟩
  have b0 := box_chg g0 c1 (by simp)
  have b1 := box_chg g1 c1 (by simp)
  simp [VM.look, b0, b1, onv, onu, onu2]
  refine wp_thn (orderOf_w z _ o1 (by have := replyOf_len w h b A B s; omega)) ?_
  rintro _ H2 ⟨y, rk, rfl, ry, c2, n2⟩
  have b0 := box_chg b0 c2 (by simp)
  have b1 := box_chg b1 c2 (by simp)
  have c12 := c1.trans c2
  have ck := fun F => classesOk_c (frz := F) w h v u1 u2 b A B ((hI.app M).rd.chg c12 (by simp)).isI ((h1.app M).rd.chg c12 (by simp)).isI ((h2.app M).rd.chg c12 (by simp)).isI hl
  simp [VM.look, b0, b1, onv, onu, onu2, ck]
  refine wpg_dec ?_ ?_ <;> intro g <;> simp [g]
theorem sRepliesSafe_w (w h : Int) (v u1 u2 : Value) (b A B : List Int) (s : Bool) (hI : IsI H v b) (h1 : IsI H u1 A) (h2 : IsI H u2 B) (hl : b.length ≤ 1073741824) :
   wp (vcall C frz 18 [.agg #[.int .i64 w, .int .i64 h, v], .agg #[u1, u2], .bool s] H) (fun r _ => r = .bool (decide (classesOk w h b A B ∧ dOk (replyOf w h b A B s) ∧ orderOk (prs (replyOf w h b A B s))))) := by
  rw [vcall_go (fn := Try.f18) Try.func18 rfl (by kernel_rfl) rfl]
  have onv := And.intro hI.one' hI.cells
  have onu := And.intro h1.one' h1.cells
  have onu2 := And.intro h2.one' h2.cells
  simp [onv, onu, onu2, VM.look]
  obtain ⟨M, hM⟩ : ∃ M : Heap, M = [⟨[.int .i64 w, .int .i64 h, v], 0, 37⟩, ⟨[u1, u2], 0, 41⟩] := ⟨_, rfl⟩
  have g0 : (H ++ M)[H.length]? = some ⟨[.int .i64 w, .int .i64 h, v], 0, 37⟩ := by rw [hM]; simp
  have g1 : (H ++ M)[H.length + 1]? = some ⟨[u1, u2], 0, 41⟩ := by rw [hM]; simp
  rw [← hM]
  refine wp_thn (sReplyDepends_w w h v u1 u2 b A B s (hI.app M) (h1.app M) (h2.app M) hl (by simp)) ?_
  rintro z H1 ⟨o1, c1, n1⟩
  have b0 := box_chg g0 c1 (by simp)
  have b1 := box_chg g1 c1 (by simp)
  simp [VM.look, b0, b1, onv, onu, onu2]
  refine wp_thn (sOrderOf_w z _ o1 (by have := replyOf_len w h b A B s; omega)) ?_
  rintro _ H2 ⟨y, rk, rfl, ry, c2, n2⟩
  have b0 := box_chg b0 c2 (by simp)
  have b1 := box_chg b1 c2 (by simp)
  have c12 := c1.trans c2
  have ck := fun F => sClassesOk_c (frz := F) w h v u1 u2 b A B ((hI.app M).rd.chg c12 (by simp)).isI ((h1.app M).rd.chg c12 (by simp)).isI ((h2.app M).rd.chg c12 (by simp)).isI hl
  simp [VM.look, b0, b1, onv, onu, onu2, ck]
  obtain ⟨c, hc⟩ : ∃ c, c = (decide (dOk (replyOf w h b A B s)) && decide (orderOk (prs (replyOf w h b A B s)))) := ⟨_, rfl⟩
  rw [← hc]
  cases c <;> simp [VM.look, b0, b1, onv, onu, onu2, ck]
theorem repliesSafe_d {v : Value} {u : Value × Value} {m : MeshD} {t : ClassesD} {s : Bool} (hm : dMesh.Ow H v m) (hc : dClasses.Ow H u t) :
    vcall C frz 19 [dMesh.val v m, dClasses.val u t, .bool s] H = some (.bool (decide (classesOk m.1 m.2.1 m.2.2 t.1 t.2 ∧ dOk (replyOf m.1 m.2.1 m.2.2 t.1 t.2 s) ∧ orderOk (prs (replyOf m.1 m.2.1 m.2.2 t.1 t.2 s)))), H) :=
  (repliesSafe_w m.1 m.2.1 v u.1 u.2 m.2.2 t.1 t.2 s hm.1.rd.isI hc.1.1.rd.isI hc.2.1.rd.isI hm.2).exact (by simp) rfl
theorem sRepliesSafe_d {v : Value} {u : Value × Value} {m : MeshD} {t : ClassesD} {s : Bool} (hm : dMesh.Ow H v m) (hc : dClasses.Ow H u t) :
    vcall C frz 18 [dMesh.val v m, dClasses.val u t, .bool s] H = some (.bool (decide (classesOk m.1 m.2.1 m.2.2 t.1 t.2 ∧ dOk (replyOf m.1 m.2.1 m.2.2 t.1 t.2 s) ∧ orderOk (prs (replyOf m.1 m.2.1 m.2.2 t.1 t.2 s)))), H) :=
  (sRepliesSafe_w m.1 m.2.1 v u.1 u.2 m.2.2 t.1 t.2 s hm.1.rd.isI hc.1.1.rd.isI hc.2.1.rd.isI hm.2).exact (by simp) rfl
end Go.Proofs.Ytlbbalmeaedbdaa.V
/-! Marks without their readers. -/
set_option linter.all false
namespace Go.Proofs.Ytlbbalmeaedbdaa.V
open Go Go.VM Go.Proofs
set_option maxRecDepth 10000
variable {frz : Nat} {H : Heap}
def MarksO {V A : Type} (B : Int) (T : Dt V A) (H : Heap) (v : V) (a : A) (k : Int) (r : Value) (H' : Heap) : Prop :=
  ∃ (n : Int) (a' : A), r = .int .i64 (k + n) ∧ (0 ≤ n ∧ n ≤ B) ∧ T.val v a' = T.val v a ∧ T.Ow H' v a' ∧ Chg H H' (T.ids v)
theorem markIntS_o {v : Value} {xs : List Int} {k : Int} (h : dIntS.Ow H v xs) (hd : (dIntS.ids v).Nodup) (hk : 0 ≤ k ∧ k ≤ 4611686018427387904) (hf : ∀ i ∈ dIntS.ids v, frz ≤ i) :
    wp (vcall C frz 43 [v, .int .i64 k] H) (MarksO 1073741824 dIntS H v xs k) := by
  refine (markIntS_w v xs _ k h.1 h.2 hk hf).mono ?_
  rintro r H' ⟨rfl, o, c, l⟩
  have := h.2
  exact ⟨xs.length, marks k xs.length, rfl, by omega, rfl, ⟨o, by simpa using h.2⟩, c⟩
theorem markMesh_o {v : Value} {a : MeshD} {k : Int} (h : dMesh.Ow H v a) (hd : (dMesh.ids v).Nodup) (hk : 0 ≤ k ∧ k ≤ 4611686018427387904) (hf : ∀ i ∈ dMesh.ids v, frz ≤ i) :
    wp (vcall C frz 14 [dMesh.val v a, .int .i64 k] H) (MarksO 1073741824 dMesh H v a k) := by
  obtain ⟨w, g, b⟩ := a
  rw [vcall_go (fn := Try.f14) Try.func14 rfl (by kernel_rfl) rfl]
  rw [dMesh_val]
  have one := dMesh_one h
  simp [one]
  refine wp_thn (markIntS_o (Dt.app h) hd hk hf) ?_
  rintro _ H' ⟨n, a', rfl, hn, _, o, c⟩
  simp
  exact ⟨n, (w, g, a'), rfl, hn, rfl, o, (Chg.app _).trans c⟩
theorem markTable_o {v : Value} {a : List Int} {k : Int} (h : dTable.Ow H v a) (hd : (dTable.ids v).Nodup) (hk : 0 ≤ k ∧ k ≤ 4611686018427387904) (hf : ∀ i ∈ dTable.ids v, frz ≤ i) :
    wp (vcall C frz 44 [dTable.val v a, .int .i64 k] H) (MarksO 1073741824 dTable H v a k) := by
  rw [vcall_go (fn := Try.f44) Try.func44 rfl (by kernel_rfl) rfl]
  rw [dTable_val]
  have one := dTable_one h
  simp [one]
  refine wp_thn (markIntS_o (Dt.app h) hd hk hf) ?_
  rintro _ H' ⟨n, a', rfl, hn, _, o, c⟩
  simp
  exact ⟨n, a', rfl, hn, rfl, o, (Chg.app _).trans c⟩
theorem markClasses_o {v : Value × Value} {a : ClassesD} {k : Int} (h : dClasses.Ow H v a) (hd : (dClasses.ids v).Nodup) (hk : 0 ≤ k ∧ k ≤ 2305843009213693952) (hf : ∀ i ∈ dClasses.ids v, frz ≤ i) :
    wp (vcall C frz 15 [dClasses.val v a, .int .i64 k] H) (MarksO 2147483648 dClasses H v a k) := by
  obtain ⟨a1, a2⟩ := a; obtain ⟨v1, v2⟩ := v
  rw [vcall_go (fn := Try.f15) Try.func15 rfl (by kernel_rfl) rfl]
  rw [dClasses_val]
  have one := dClasses_one h
  simp only at one
  obtain ⟨h1, h2⟩ := h
  simp only at h1 h2
  obtain ⟨d1, d2, d3⟩ := List.nodup_append.1 hd
  have dis : ∀ i ∈ VM.ids v2, i ∉ VM.ids v1 := fun i hi hh => d3 i hh i hi rfl
  have dis' : ∀ i ∈ VM.ids v1, i ∉ VM.ids v2 := fun i hi hh => d3 i hi i hh rfl
  have lt1 := dIntS.lt h1
  have lt2 := dIntS.lt h2
  simp [one]
  have m1 := markTable_o (frz := frz) (k := k) (H := H ++ [⟨[v1, v2], 0, 41⟩]) (v := v1) (a := a1) (Dt.app (T := dIntS) h1) d1 (by omega) (fun i hi => hf i (List.mem_append.2 (.inl hi)))
  simp only [dTable_val] at m1
  refine wp_thn m1 ?_
  rintro _ H1 ⟨n1, b1, rfl, hn1, _, o1, c1⟩
  have bx : H1[H.length]? = some ⟨[v1, v2], 0, 41⟩ := box_chg (by simp) c1 (fun hh => by have := lt1 _ hh; omega)
  have o2 := Dt.chg (T := dIntS) (Dt.app (T := dIntS) h2) c1 dis
  simp [VM.look, bx, one]
  have m2 := markTable_o (frz := frz) (k := k + n1) (H := H1) (v := v2) (a := a2) o2 d2 (by omega) (fun i hi => hf i (List.mem_append.2 (.inr hi)))
  simp only [dTable_val] at m2
  refine wp_thn m2 ?_
  rintro _ H2 ⟨n2, b2, rfl, hn2, _, o2', c2⟩
  simp
  exact ⟨n1 + n2, (b1, b2), by rw [Int.add_assoc], by omega, rfl, ⟨Dt.chg (T := dIntS) o1 c2 dis', o2'⟩, ((Chg.app (dClasses.ids (v1, v2))).trans' (c1.mono fun i hi => List.mem_append.2 (.inl hi)) (fun i hi => .inl hi)).trans' (c2.mono fun i hi => List.mem_append.2 (.inr hi)) (fun i hi => .inl hi)⟩
end Go.Proofs.Ytlbbalmeaedbdaa.V
