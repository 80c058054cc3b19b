/- Texts of a proof, joined. -/
import Derived.Test.YtcigpclbhfkgaaaGreatKM0
import Derived.Test.YtcigpclbhfkgaaaGreatKM1
import Derived.Test.YtcigpclbhfkgaaaGreatKFnExactBreakChannel0
/-! Marks: lists of flits, read again. -/
set_option linter.all false
namespace Go.Proofs.YtcigpclbhfkgaaaGreat.V
open Go Go.VM Go.Proofs
set_option maxRecDepth 10000
variable {frz : Nat} {H : Heap}
theorem flatMap_disj : ∀ (hs : List Value), (hs.flatMap ids).Nodup → ∀ {i j : Nat} {a b : Value}, i ≠ j → hs[i]? = some a → hs[j]? = some b → ∀ x ∈ ids a, x ∉ ids b
  | [], _, i, j, a, b, _, h1, _ => by simp at h1
  | c :: hs, nd, i, j, a, b, hij, h1, h2 => by
    rw [List.flatMap_cons] at nd
    obtain ⟨n1, n2, n3⟩ := List.nodup_append.1 nd
    intro x hx hx'
    cases i with
    | zero =>
      cases j with
      | zero => exact absurd rfl hij
      | succ j =>
        simp at h1 h2
        subst h1
        exact n3 x hx x (List.mem_flatMap.2 ⟨b, List.mem_of_getElem? h2, hx'⟩) rfl
    | succ i =>
      cases j with
      | zero =>
        simp at h1 h2
        subst h2
        exact n3 x hx' x (List.mem_flatMap.2 ⟨a, List.mem_of_getElem? h1, hx⟩) rfl
      | succ j => exact flatMap_disj hs n2 (i := i) (j := j) (fun e => hij (by omega)) (by simpa using h1) (by simpa using h2) x hx hx'
/-- one inner slice is written -/
theorem OwL_upd {α : Type} {D : Fl α} {e oe : TypeId} {H H' : Heap} {v a : Value} {hs : List Value} {xss : List (List α)} {i : Nat} {ys : List α} (h : OwL D e oe H v hs xss) (hi : i < xss.length) (ha : hs[i]? = some a) (c : Chg H H' (ids a)) (o : Ow D e H' a ys) (nd : (idsL v hs).Nodup) :
    OwL D e oe H' v hs (xss.set i ys) := by
  obtain ⟨n1, n2, n3⟩ := List.nodup_append.1 nd
  refine ⟨h.1.chg c fun x hx hh => n3 x hx x (List.mem_flatMap.2 ⟨a, List.mem_of_getElem? ha, hh⟩) rfl, by simpa using h.2.1, fun j b zs hb hz => ?_⟩
  by_cases hji : i = j
  · subst hji
    rw [ha] at hb; cases hb
    rw [List.getElem?_set_self hi] at hz; cases hz
    exact o
  · rw [List.getElem?_set_ne hji] at hz
    exact (h.2.2 j b zs hb hz).chg c (flatMap_disj hs n2 (Ne.symm hji) hb ha)
/-- how many flits lie ahead of list i -/
def ahead (a : SSD) (i : Nat) : Nat := ((a.take i).map List.length).sum
def mSS (k : Int) (a : SSD) : Nat → SSD
  | 0 => []
  | i + 1 => mSS k a i ++ [marksF (k + 5 * (ahead a i : Int)) (a.getD i []).length]
@[simp] theorem mSS_len (k : Int) (a : SSD) : ∀ i, (mSS k a i).length = i
  | 0 => rfl
  | i + 1 => by simp [mSS, mSS_len k a i]
theorem mSS_get (k : Int) (a : SSD) {i : Nat} : ∀ n (h : i < n), (mSS k a n)[i]'(by simpa using h) = marksF (k + 5 * (ahead a i : Int)) (a.getD i []).length
  | 0, h => by omega
  | n + 1, h => by
    simp only [mSS]
    by_cases hi : i < n
    · rw [List.getElem_append_left (by simpa using hi)]; exact mSS_get k a n hi
    · have : i = n := by omega
      subst this
      rw [List.getElem_append_right (by simp)]; simp
theorem mSS_set (k : Int) (a : SSD) {i : Nat} (h : i < a.length) : (mSS k a i ++ a.drop i).set i (marksF (k + 5 * (ahead a i : Int)) (a.getD i []).length) = mSS k a (i + 1) ++ a.drop (i + 1) := by
  rw [List.set_append_right _ _ (by simp), mSS_len, Nat.sub_self, List.drop_eq_getElem_cons h, List.set_cons_zero, mSS]
  simp
theorem ahead_succ (a : SSD) {i : Nat} (h : i < a.length) : ahead a (i + 1) = ahead a i + (a.getD i []).length := by
  unfold ahead; rw [sum_take a h, List.getD_eq_getElem?_getD, List.getElem?_eq_getElem h]; rfl
theorem ahead_le (a : SSD) (h2 : ∀ xs ∈ a, xs.length ≤ 67108864) : ∀ i, i ≤ a.length → ahead a i ≤ 67108864 * i
  | 0, _ => by simp [ahead]
  | i + 1, h => by
    have := ahead_le a h2 i (by omega)
    have hm := h2 _ (List.getElem_mem (show i < a.length by omega))
    rw [ahead_succ a (by omega), List.getD_eq_getElem?_getD, List.getElem?_eq_getElem (by omega)]
    simp; omega
theorem heldFlitS_c (v : Value) (n : Nat) (k : Int) (h : Rd flF H v (marksF k n)) (hl : n ≤ 67108864) (hk : 0 ≤ k ∧ k ≤ 4611686018427387904) :
   vcall C frz 121 [v, .int .i64 k] H = some (.int .i64 (k + 5 * n), H) := by
  refine wp.exact (by simp) ?_ rfl
  rw [vcall_go (fn := Tryz.f121) Tryz.func121 rfl (by kernel_rfl) rfl]
  have ll := h.len (P := Tryz.prog) (ty := 113) (by simp)
  rw [marksF_len] at ll
  simp
  refine wp_inv (fun m t H' => ∃ i : Nat, m = n - i ∧ i ≤ n ∧ t 0 = v ∧ t 1 = .int .i64 (k + 5 * i) ∧ t 5 = .int .i64 i ∧ H' = H) ?_ (n := n) ⟨0, rfl, by omega, by simp, by simp, by simp, rfl⟩
  rintro m t H' ⟨i, rfl, hi, h0, h1, h5, rfl⟩ ih
  simp [h0, h1, h5, ll]
  refine wp_dec ?_ ?_ <;> intro h6
  · have hi' : i < n := by omega
    have hy : i < (marksF k n).length := by simpa using hi'
    obtain ⟨K, hK⟩ : ∃ K, K = k + 5 * (i : Int) := ⟨_, rfl⟩
    obtain ⟨K1, hK1⟩ : ∃ K1, K1 = K + 1 := ⟨_, rfl⟩
    obtain ⟨K2, hK2⟩ : ∃ K1, K1 = K + 2 := ⟨_, rfl⟩
    obtain ⟨K3, hK3⟩ : ∃ K1, K1 = K + 3 := ⟨_, rfl⟩
    obtain ⟨K4, hK4⟩ : ∃ K1, K1 = K + 4 := ⟨_, rfl⟩
    obtain ⟨B3, hB3⟩ : ∃ B, B = decide (K3.tmod 3 = 0) := ⟨_, rfl⟩
    obtain ⟨B4, hB4⟩ : ∃ B, B = decide (K4.tmod 3 = 0) := ⟨_, rfl⟩
    have hmk : (marksF k n)[i] = (K, K1, K2, B3, B4) := by rw [marksF_get k n hi', hB3, hB4, hK1, hK2, hK3, hK4, hK]; rfl
    have w1 : ∀ [Inhabited Unit], IntKind.i64.wrap (K + 1) = K1 := by intro _; rw [w64 (by omega) (by omega), hK1]
    have w2 : ∀ [Inhabited Unit], IntKind.i64.wrap (K1 + 1) = K2 := by intro _; rw [w64 (by omega) (by omega)]; omega
    have w3 : ∀ [Inhabited Unit], IntKind.i64.wrap (K2 + 1) = K3 := by intro _; rw [w64 (by omega) (by omega)]; omega
    have w4 : ∀ [Inhabited Unit], IntKind.i64.wrap (K3 + 1) = K4 := by intro _; rw [w64 (by omega) (by omega)]; omega
    have w5 : ∀ [Inhabited Unit], IntKind.i64.wrap (K4 + 1) = k + 5 * ((i + 1 : Nat) : Int) := by intro _; rw [w64 (by omega) (by omega)]; omega
    rw [← hK] at h1
    have i0 := h.idx (P := Tryz.prog) (ty := 113) (e := 157) (by simp) (i := (i : Int)) (by omega) (by omega)
    have f0 := h.field (P := Tryz.prog) (s := 157) (f := 0) (o := 0) (n := 1) (ag := false) (by simp) (j := i * 5) (by omega)
    have f1 := h.field (P := Tryz.prog) (s := 157) (f := 1) (o := 1) (n := 1) (ag := false) (by simp) (j := i * 5) (by omega)
    have f2 := h.field (P := Tryz.prog) (s := 157) (f := 2) (o := 2) (n := 1) (ag := false) (by simp) (j := i * 5) (by omega)
    have f3 := h.field (P := Tryz.prog) (s := 157) (f := 3) (o := 3) (n := 1) (ag := false) (by simp) (j := i * 5) (by omega)
    have f4 := h.field (P := Tryz.prog) (s := 157) (f := 4) (o := 4) (n := 1) (ag := false) (by simp) (j := i * 5) (by omega)
    have c0 := h.cell (P := Tryz.prog) (e := 3) (by simp) hy (c := 0) (by decide)
    have c1 := h.cell (P := Tryz.prog) (e := 3) (by simp) hy (c := 1) (by decide)
    have c2 := h.cell (P := Tryz.prog) (e := 3) (by simp) hy (c := 2) (by decide)
    have c3 := h.cell (P := Tryz.prog) (e := 4) (by simp) hy (c := 3) (by decide)
    have c4 := h.cell (P := Tryz.prog) (e := 4) (by simp) hy (c := 4) (by decide)
    rw [hmk] at c0 c1 c2 c3 c4
    simp only [Int.toNat_natCast, flF_n, flF_f, Nat.add_zero] at i0 f0 c0 c1 c2 c3 c4
    simp at c0 c1 c2 c3 c4
    have e3 : ∀ [Inhabited Unit], (decide (K3.tmod 3 = 0)) = B3 := by intro _; exact hB3.symm
    have e4 : ∀ [Inhabited Unit], (decide (K4.tmod 3 = 0)) = B4 := by intro _; exact hB4.symm
    simp [-vfieldAddr, vfa_ptr, h0, h1, h5, i0, f0, f1, f2, f3, f4, c0, c1, c2, c3, c4, w1, w2, w3, w4, w5, e3, e4]
    refine ih (n - (i + 1)) _ _ ⟨i + 1, rfl, by omega, by simp [h0], ?_, ?_, rfl⟩ (by omega)
    · simp
    · simp; rw [w64 (by omega) (by omega)]
  · have : i = n := by omega
    subst this
    simp [h0, h1, h5]
theorem heldFlitSS_c (v : SSV) (a : SSD) (k : Int) (h : dSS.Ow H v (mSS k a a.length)) (h1 : a.length ≤ 2097152) (h2 : ∀ xs ∈ a, xs.length ≤ 67108864) (hk : 0 ≤ k ∧ k ≤ 2305843009213693952) :
   vcall C frz 67 [v.1, .int .i64 k] H = some (.int .i64 (k + 5 * (ahead a a.length : Int)), H) := by
  refine wp.exact (by simp) ?_ rfl
  rw [vcall_go (fn := Tryz.f67) Tryz.func67 rfl (by kernel_rfl) rfl]
  have rd := h.1.rd
  have ll := rd.1.len (P := Tryz.prog) (ty := 44) (by simp)
  have el := rd.2.1
  rw [mSS_len] at el
  rw [el] at ll
  simp
  refine wp_inv (fun m t H' => ∃ i : Nat, m = a.length - i ∧ i ≤ a.length ∧ t 0 = v.1 ∧ t 1 = .int .i64 (k + 5 * (ahead a i : Int)) ∧ t 5 = .int .i64 i ∧ H' = H) ?_ (n := a.length) ⟨0, rfl, by omega, by simp, by simp [ahead], by simp, rfl⟩
  rintro m t H' ⟨i, rfl, hi, t0, t1, t5, rfl⟩ ih
  simp [t0, t1, t5, ll]
  refine wp_dec ?_ ?_ <;> intro g
  · have hi' : i < a.length := by omega
    obtain ⟨u, _, a2, a3, a4⟩ := RdL_at rd (ty := 44) (e := 113) (by simp) (by simp) (j := i) (by simpa using hi')
    rw [mSS_get k a a.length hi'] at a4
    have al := ahead_le a h2 i (by omega)
    have asx := ahead_succ a hi'
    have hm := h2 _ (List.getElem_mem hi')
    have hg : a.getD i [] = a[i] := by simp [List.getD_eq_getElem?_getD, hi']
    rw [hg] at a4 asx
    have hh := fun F => heldFlitS_c (frz := F) u a[i].length _ a4 hm ⟨by omega, by omega⟩
    have f0 : ¬ k + 5 * (ahead a i : Int) + 5 * (a[i].length : Int) < 0 := by omega
    simp [t0, t1, t5, a2, a3, hh, f0]
    refine ih (a.length - (i + 1)) _ _ ⟨i + 1, rfl, by omega, by simp [t0], ?_, ?_, rfl⟩ (by omega)
    · simp; rw [asx]; omega
    · simp; rw [w64 (by omega) (by omega)]
  · have : i = a.length := by omega
    subst this
    simp [t0, t1, t5]
theorem markFlitSS_d {v : SSV} {a : SSD} {k : Int} (h : dSS.Ow H v a) (hd : (dSS.ids v).Nodup) (hk : 0 ≤ k ∧ k ≤ 2305843009213693952) (hf : ∀ i ∈ dSS.ids v, frz ≤ i) :
    wp (vcall C frz 63 [v.1, .int .i64 k] H) (Marks 1125899906842624 dSS 67 H v a k) := by
  rw [vcall_go (fn := Tryz.f63) Tryz.func63 rfl (by kernel_rfl) rfl]
  obtain ⟨ho, h1, h2⟩ := h
  simp
  refine wp_inv (fun m t H' => ∃ i : Nat, m = a.length - i ∧ i ≤ a.length ∧ t 0 = v.1 ∧ t 1 = .int .i64 (k + 5 * (ahead a i : Int)) ∧ t 5 = .int .i64 i ∧ OwL flF 157 113 H' v.1 v.2 (mSS k a i ++ a.drop i) ∧ Chg H H' (dSS.ids v)) ?_ (n := a.length)
    ⟨0, rfl, by omega, by simp, by simp [ahead], by simp, by simpa [mSS] using ho, Chg.refl _⟩
  rintro m t H' ⟨i, rfl, hi, t0, t1, t5, o, c⟩ ih
  have rd := o.rd
  have ll := rd.1.len (P := Tryz.prog) (ty := 44) (by simp)
  have el := rd.2.1
  have hll : (mSS k a i ++ a.drop i).length = a.length := by simp; omega
  rw [hll] at el
  rw [el] at ll
  simp [t0, t1, t5, ll]
  refine wp_dec ?_ ?_ <;> intro g
  · have hi' : i < a.length := by omega
    have hset := mSS_set k a hi'
    have hget : (mSS k a i ++ a.drop i)[i]'(by omega) = a[i] := by rw [List.getElem_append_right (by simp)]; simp
    obtain ⟨u, a1, a2, a3, a4⟩ := RdL_at rd (ty := 44) (e := 113) (by simp) (by simp) (j := i) (by omega)
    have al := ahead_le a h2 i (by omega)
    have asx := ahead_succ a hi'
    have hm := h2 _ (List.getElem_mem hi')
    have hg : a.getD i [] = a[i] := by simp [List.getD_eq_getElem?_getD, hi']
    rw [hg] at asx hset
    have ou : Ow flF 157 H' u a[i] := o.2.2 i u _ a1 (by rw [List.getElem?_eq_getElem (by omega), hget])
    have hfu : ∀ x ∈ ids u, frz ≤ x := fun x hx => hf x (mem_idsL a1 hx)
    simp [t0, t1, t5, a2, a3]
    refine wp_thn (markFlitS_w u a[i] _ _ ou hm ⟨by omega, by omega⟩ hfu) ?_
    rintro _ H1 ⟨rfl, o1, c1, l1⟩
    simp [t0, t1, t5]
    refine ih (a.length - (i + 1)) _ _ ⟨i + 1, rfl, by omega, by simp [t0], ?_, ?_, ?_, c.trans (c1.mono fun x hx => mem_idsL a1 hx)⟩ (by omega)
    · simp; rw [asx]; omega
    · simp; rw [w64 (by omega) (by omega)]
    · rw [← hset]; exact OwL_upd o (by omega) a1 c1 o1 hd
  · have : i = a.length := by omega
    subst this
    have al := ahead_le a h2 a.length (by omega)
    simp [t0, t1, t5]
    have hob : dSS.Ow H' v (mSS k a a.length) := ⟨by simpa using o, by simpa using h1, fun xs hx => by
      obtain ⟨j, hj, rfl⟩ := List.mem_iff_getElem.1 hx
      have hj' : j < a.length := by simpa using hj
      rw [mSS_get k a a.length hj', marksF_len]
      have : a.getD j [] = a[j] := by simp [List.getD_eq_getElem?_getD, hj']
      rw [this]; exact h2 _ (List.getElem_mem hj')⟩
    exact ⟨5 * (ahead a a.length : Int), mSS k a a.length, rfl, by omega, rfl, hob, c, fun F H2 h3 => heldFlitSS_c v a k h3 h1 h2 hk⟩
end Go.Proofs.YtcigpclbhfkgaaaGreat.V
/-! Marks: networks. -/
set_option linter.all false
namespace Go.Proofs.YtcigpclbhfkgaaaGreat.V
open Go Go.VM Go.Proofs
set_option maxRecDepth 10000
variable {frz : Nat} {H : Heap}
theorem markNet_d {v : NetV} {a : NetD} {k : Int} (h : dNet.Ow H v a) (hd : (dNet.ids v).Nodup) (hk : 0 ≤ k ∧ k ≤ 1152921504606846976) (hf : ∀ i ∈ dNet.ids v, frz ≤ i) :
    wp (vcall C frz 21 [dNet.val v a, .int .i64 k] H) (Marks 4503599627370496 dNet 22 H v a k) := by
  have ones := dNet_one h
  obtain ⟨v1, v2, v3, v4, v5, v6, v7, v8⟩ := v
  obtain ⟨⟨w, g, b⟩, a2, a3, a4, a5, a6, a7, tm⟩ := a
  obtain ⟨h1, h2, h3, h4, h5, h6, h7, _⟩ := h
  simp only at h1 h2 h3 h4 h5 h6 h7 ones
  rw [dNet_val]
  rw [vcall_go (fn := Tryz.f21) Tryz.func21 rfl (by kernel_rfl) rfl]
  have rest7 : dNet.ids (v1, v2, v3, v4, v5, v6, v7, v8) = dMesh.ids v1 ++ (dClasses.ids v2 ++ (dSS.ids v3 ++ (dIntS.ids v4 ++ (dIntS.ids v5 ++ (dSS.ids v6 ++ (dSS.ids v7 ++ [])))))) := rfl
  rw [rest7] at hd hf
  obtain ⟨d1, r1, x1⟩ := List.nodup_append.1 hd
  obtain ⟨d2, r2, x2⟩ := List.nodup_append.1 r1
  obtain ⟨d3, r3, x3⟩ := List.nodup_append.1 r2
  obtain ⟨d4, r4, x4⟩ := List.nodup_append.1 r3
  obtain ⟨d5, r5, x5⟩ := List.nodup_append.1 r4
  obtain ⟨d6, r6, x6⟩ := List.nodup_append.1 r5
  obtain ⟨d7, r7, x7⟩ := List.nodup_append.1 r6
  have in1 : ∀ i ∈ dMesh.ids v1, i ∈ dMesh.ids v1 ++ (dClasses.ids v2 ++ (dSS.ids v3 ++ (dIntS.ids v4 ++ (dIntS.ids v5 ++ (dSS.ids v6 ++ (dSS.ids v7 ++ [])))))) := fun i hi => List.mem_append.2 (.inl hi)
  have in2 : ∀ i ∈ dClasses.ids v2, i ∈ dMesh.ids v1 ++ (dClasses.ids v2 ++ (dSS.ids v3 ++ (dIntS.ids v4 ++ (dIntS.ids v5 ++ (dSS.ids v6 ++ (dSS.ids v7 ++ [])))))) := fun i hi => List.mem_append.2 (.inr (List.mem_append.2 (.inl hi)))
  have in3 : ∀ i ∈ dSS.ids v3, i ∈ dMesh.ids v1 ++ (dClasses.ids v2 ++ (dSS.ids v3 ++ (dIntS.ids v4 ++ (dIntS.ids v5 ++ (dSS.ids v6 ++ (dSS.ids v7 ++ [])))))) := fun i hi => List.mem_append.2 (.inr (List.mem_append.2 (.inr (List.mem_append.2 (.inl hi)))))
  have in4 : ∀ i ∈ dIntS.ids v4, i ∈ dMesh.ids v1 ++ (dClasses.ids v2 ++ (dSS.ids v3 ++ (dIntS.ids v4 ++ (dIntS.ids v5 ++ (dSS.ids v6 ++ (dSS.ids v7 ++ [])))))) := fun i hi => List.mem_append.2 (.inr (List.mem_append.2 (.inr (List.mem_append.2 (.inr (List.mem_append.2 (.inl hi)))))))
  have in5 : ∀ i ∈ dIntS.ids v5, i ∈ dMesh.ids v1 ++ (dClasses.ids v2 ++ (dSS.ids v3 ++ (dIntS.ids v4 ++ (dIntS.ids v5 ++ (dSS.ids v6 ++ (dSS.ids v7 ++ [])))))) := fun i hi => List.mem_append.2 (.inr (List.mem_append.2 (.inr (List.mem_append.2 (.inr (List.mem_append.2 (.inr (List.mem_append.2 (.inl hi)))))))))
  have in6 : ∀ i ∈ dSS.ids v6, i ∈ dMesh.ids v1 ++ (dClasses.ids v2 ++ (dSS.ids v3 ++ (dIntS.ids v4 ++ (dIntS.ids v5 ++ (dSS.ids v6 ++ (dSS.ids v7 ++ [])))))) := fun i hi => List.mem_append.2 (.inr (List.mem_append.2 (.inr (List.mem_append.2 (.inr (List.mem_append.2 (.inr (List.mem_append.2 (.inr (List.mem_append.2 (.inl hi)))))))))))
  have in7 : ∀ i ∈ dSS.ids v7, i ∈ dMesh.ids v1 ++ (dClasses.ids v2 ++ (dSS.ids v3 ++ (dIntS.ids v4 ++ (dIntS.ids v5 ++ (dSS.ids v6 ++ (dSS.ids v7 ++ [])))))) := fun i hi => List.mem_append.2 (.inr (List.mem_append.2 (.inr (List.mem_append.2 (.inr (List.mem_append.2 (.inr (List.mem_append.2 (.inr (List.mem_append.2 (.inr (List.mem_append.2 (.inl hi)))))))))))))
  have lt1 := dMesh.lt h1
  have lt2 := dClasses.lt h2
  have lt3 := dSS.lt h3
  have lt4 := dIntS.lt h4
  have lt5 := dIntS.lt h5
  have lt6 := dSS.lt h6
  have lt7 := dSS.lt h7
  have z2_1 : ∀ i ∈ dClasses.ids v2, i ∉ dMesh.ids v1 := fun i hi hh => x1 i hh i (List.mem_append.2 (.inl hi)) rfl
  have z1_2 : ∀ i ∈ dMesh.ids v1, i ∉ dClasses.ids v2 := fun i hh hi => x1 i hh i (List.mem_append.2 (.inl hi)) rfl
  have z3_1 : ∀ i ∈ dSS.ids v3, i ∉ dMesh.ids v1 := fun i hi hh => x1 i hh i (List.mem_append.2 (.inr (List.mem_append.2 (.inl hi)))) rfl
  have z1_3 : ∀ i ∈ dMesh.ids v1, i ∉ dSS.ids v3 := fun i hh hi => x1 i hh i (List.mem_append.2 (.inr (List.mem_append.2 (.inl hi)))) rfl
  have z4_1 : ∀ i ∈ dIntS.ids v4, i ∉ dMesh.ids v1 := fun i hi hh => x1 i hh i (List.mem_append.2 (.inr (List.mem_append.2 (.inr (List.mem_append.2 (.inl hi)))))) rfl
  have z1_4 : ∀ i ∈ dMesh.ids v1, i ∉ dIntS.ids v4 := fun i hh hi => x1 i hh i (List.mem_append.2 (.inr (List.mem_append.2 (.inr (List.mem_append.2 (.inl hi)))))) rfl
  have z5_1 : ∀ i ∈ dIntS.ids v5, i ∉ dMesh.ids v1 := fun i hi hh => x1 i hh i (List.mem_append.2 (.inr (List.mem_append.2 (.inr (List.mem_append.2 (.inr (List.mem_append.2 (.inl hi)))))))) rfl
  have z1_5 : ∀ i ∈ dMesh.ids v1, i ∉ dIntS.ids v5 := fun i hh hi => x1 i hh i (List.mem_append.2 (.inr (List.mem_append.2 (.inr (List.mem_append.2 (.inr (List.mem_append.2 (.inl hi)))))))) rfl
  have z6_1 : ∀ i ∈ dSS.ids v6, i ∉ dMesh.ids v1 := fun i hi hh => x1 i hh i (List.mem_append.2 (.inr (List.mem_append.2 (.inr (List.mem_append.2 (.inr (List.mem_append.2 (.inr (List.mem_append.2 (.inl hi)))))))))) rfl
  have z1_6 : ∀ i ∈ dMesh.ids v1, i ∉ dSS.ids v6 := fun i hh hi => x1 i hh i (List.mem_append.2 (.inr (List.mem_append.2 (.inr (List.mem_append.2 (.inr (List.mem_append.2 (.inr (List.mem_append.2 (.inl hi)))))))))) rfl
  have z7_1 : ∀ i ∈ dSS.ids v7, i ∉ dMesh.ids v1 := fun i hi hh => x1 i hh i (List.mem_append.2 (.inr (List.mem_append.2 (.inr (List.mem_append.2 (.inr (List.mem_append.2 (.inr (List.mem_append.2 (.inr (List.mem_append.2 (.inl hi)))))))))))) rfl
  have z1_7 : ∀ i ∈ dMesh.ids v1, i ∉ dSS.ids v7 := fun i hh hi => x1 i hh i (List.mem_append.2 (.inr (List.mem_append.2 (.inr (List.mem_append.2 (.inr (List.mem_append.2 (.inr (List.mem_append.2 (.inr (List.mem_append.2 (.inl hi)))))))))))) rfl
  have z3_2 : ∀ i ∈ dSS.ids v3, i ∉ dClasses.ids v2 := fun i hi hh => x2 i hh i (List.mem_append.2 (.inl hi)) rfl
  have z2_3 : ∀ i ∈ dClasses.ids v2, i ∉ dSS.ids v3 := fun i hh hi => x2 i hh i (List.mem_append.2 (.inl hi)) rfl
  have z4_2 : ∀ i ∈ dIntS.ids v4, i ∉ dClasses.ids v2 := fun i hi hh => x2 i hh i (List.mem_append.2 (.inr (List.mem_append.2 (.inl hi)))) rfl
  have z2_4 : ∀ i ∈ dClasses.ids v2, i ∉ dIntS.ids v4 := fun i hh hi => x2 i hh i (List.mem_append.2 (.inr (List.mem_append.2 (.inl hi)))) rfl
  have z5_2 : ∀ i ∈ dIntS.ids v5, i ∉ dClasses.ids v2 := fun i hi hh => x2 i hh i (List.mem_append.2 (.inr (List.mem_append.2 (.inr (List.mem_append.2 (.inl hi)))))) rfl
  have z2_5 : ∀ i ∈ dClasses.ids v2, i ∉ dIntS.ids v5 := fun i hh hi => x2 i hh i (List.mem_append.2 (.inr (List.mem_append.2 (.inr (List.mem_append.2 (.inl hi)))))) rfl
  have z6_2 : ∀ i ∈ dSS.ids v6, i ∉ dClasses.ids v2 := fun i hi hh => x2 i hh i (List.mem_append.2 (.inr (List.mem_append.2 (.inr (List.mem_append.2 (.inr (List.mem_append.2 (.inl hi)))))))) rfl
  have z2_6 : ∀ i ∈ dClasses.ids v2, i ∉ dSS.ids v6 := fun i hh hi => x2 i hh i (List.mem_append.2 (.inr (List.mem_append.2 (.inr (List.mem_append.2 (.inr (List.mem_append.2 (.inl hi)))))))) rfl
  have z7_2 : ∀ i ∈ dSS.ids v7, i ∉ dClasses.ids v2 := fun i hi hh => x2 i hh i (List.mem_append.2 (.inr (List.mem_append.2 (.inr (List.mem_append.2 (.inr (List.mem_append.2 (.inr (List.mem_append.2 (.inl hi)))))))))) rfl
  have z2_7 : ∀ i ∈ dClasses.ids v2, i ∉ dSS.ids v7 := fun i hh hi => x2 i hh i (List.mem_append.2 (.inr (List.mem_append.2 (.inr (List.mem_append.2 (.inr (List.mem_append.2 (.inr (List.mem_append.2 (.inl hi)))))))))) rfl
  have z4_3 : ∀ i ∈ dIntS.ids v4, i ∉ dSS.ids v3 := fun i hi hh => x3 i hh i (List.mem_append.2 (.inl hi)) rfl
  have z3_4 : ∀ i ∈ dSS.ids v3, i ∉ dIntS.ids v4 := fun i hh hi => x3 i hh i (List.mem_append.2 (.inl hi)) rfl
  have z5_3 : ∀ i ∈ dIntS.ids v5, i ∉ dSS.ids v3 := fun i hi hh => x3 i hh i (List.mem_append.2 (.inr (List.mem_append.2 (.inl hi)))) rfl
  have z3_5 : ∀ i ∈ dSS.ids v3, i ∉ dIntS.ids v5 := fun i hh hi => x3 i hh i (List.mem_append.2 (.inr (List.mem_append.2 (.inl hi)))) rfl
  have z6_3 : ∀ i ∈ dSS.ids v6, i ∉ dSS.ids v3 := fun i hi hh => x3 i hh i (List.mem_append.2 (.inr (List.mem_append.2 (.inr (List.mem_append.2 (.inl hi)))))) rfl
  have z3_6 : ∀ i ∈ dSS.ids v3, i ∉ dSS.ids v6 := fun i hh hi => x3 i hh i (List.mem_append.2 (.inr (List.mem_append.2 (.inr (List.mem_append.2 (.inl hi)))))) rfl
  have z7_3 : ∀ i ∈ dSS.ids v7, i ∉ dSS.ids v3 := fun i hi hh => x3 i hh i (List.mem_append.2 (.inr (List.mem_append.2 (.inr (List.mem_append.2 (.inr (List.mem_append.2 (.inl hi)))))))) rfl
  have z3_7 : ∀ i ∈ dSS.ids v3, i ∉ dSS.ids v7 := fun i hh hi => x3 i hh i (List.mem_append.2 (.inr (List.mem_append.2 (.inr (List.mem_append.2 (.inr (List.mem_append.2 (.inl hi)))))))) rfl
  have z5_4 : ∀ i ∈ dIntS.ids v5, i ∉ dIntS.ids v4 := fun i hi hh => x4 i hh i (List.mem_append.2 (.inl hi)) rfl
  have z4_5 : ∀ i ∈ dIntS.ids v4, i ∉ dIntS.ids v5 := fun i hh hi => x4 i hh i (List.mem_append.2 (.inl hi)) rfl
  have z6_4 : ∀ i ∈ dSS.ids v6, i ∉ dIntS.ids v4 := fun i hi hh => x4 i hh i (List.mem_append.2 (.inr (List.mem_append.2 (.inl hi)))) rfl
  have z4_6 : ∀ i ∈ dIntS.ids v4, i ∉ dSS.ids v6 := fun i hh hi => x4 i hh i (List.mem_append.2 (.inr (List.mem_append.2 (.inl hi)))) rfl
  have z7_4 : ∀ i ∈ dSS.ids v7, i ∉ dIntS.ids v4 := fun i hi hh => x4 i hh i (List.mem_append.2 (.inr (List.mem_append.2 (.inr (List.mem_append.2 (.inl hi)))))) rfl
  have z4_7 : ∀ i ∈ dIntS.ids v4, i ∉ dSS.ids v7 := fun i hh hi => x4 i hh i (List.mem_append.2 (.inr (List.mem_append.2 (.inr (List.mem_append.2 (.inl hi)))))) rfl
  have z6_5 : ∀ i ∈ dSS.ids v6, i ∉ dIntS.ids v5 := fun i hi hh => x5 i hh i (List.mem_append.2 (.inl hi)) rfl
  have z5_6 : ∀ i ∈ dIntS.ids v5, i ∉ dSS.ids v6 := fun i hh hi => x5 i hh i (List.mem_append.2 (.inl hi)) rfl
  have z7_5 : ∀ i ∈ dSS.ids v7, i ∉ dIntS.ids v5 := fun i hi hh => x5 i hh i (List.mem_append.2 (.inr (List.mem_append.2 (.inl hi)))) rfl
  have z5_7 : ∀ i ∈ dIntS.ids v5, i ∉ dSS.ids v7 := fun i hh hi => x5 i hh i (List.mem_append.2 (.inr (List.mem_append.2 (.inl hi)))) rfl
  have z7_6 : ∀ i ∈ dSS.ids v7, i ∉ dSS.ids v6 := fun i hi hh => x6 i hh i (List.mem_append.2 (.inl hi)) rfl
  have z6_7 : ∀ i ∈ dSS.ids v6, i ∉ dSS.ids v7 := fun i hh hi => x6 i hh i (List.mem_append.2 (.inl hi)) rfl
  clear rest7
  simp [ones]
  obtain ⟨G0, hG0⟩ : ∃ G, G = H ++ [⟨[.int .i64 w, .int .i64 g, v1, v2.1, v2.2, v3.1, v4, v5, v6.1, v7.1, .int .i64 tm], 0, 46⟩] := ⟨_, rfl⟩
  have b0 : G0[H.length]? = some ⟨[.int .i64 w, .int .i64 g, v1, v2.1, v2.2, v3.1, v4, v5, v6.1, v7.1, .int .i64 tm], 0, 46⟩ := by rw [hG0]; simp
  have cH : Chg H G0 (dNet.ids (v1, v2, v3, v4, v5, v6, v7, v8)) := by rw [hG0]; exact Chg.app _
  have h1 := (by rw [hG0]; exact Dt.app (T := dMesh) h1 : dMesh.Ow G0 v1 (w, g, b))
  have h2 := (by rw [hG0]; exact Dt.app (T := dClasses) h2 : dClasses.Ow G0 v2 a2)
  have h3 := (by rw [hG0]; exact Dt.app (T := dSS) h3 : dSS.Ow G0 v3 a3)
  have h4 := (by rw [hG0]; exact Dt.app (T := dIntS) h4 : dIntS.Ow G0 v4 a4)
  have h5 := (by rw [hG0]; exact Dt.app (T := dIntS) h5 : dIntS.Ow G0 v5 a5)
  have h6 := (by rw [hG0]; exact Dt.app (T := dSS) h6 : dSS.Ow G0 v6 a6)
  have h7 := (by rw [hG0]; exact Dt.app (T := dSS) h7 : dSS.Ow G0 v7 a7)
  rw [← hG0]
  clear hG0
  have m1 := markMesh_d (frz := frz) (k := k) h1 d1 (by omega) (fun i hi => hf i (in1 i hi))
  simp only [dMesh_val] at m1
  try simp [VM.look, b0, ones]
  refine wp_thn m1 ?_
  rintro _ G1 ⟨n1, a1', rfl, hn1, hv1, o1, c1, he1⟩
  clear m1
  have b0 := box_chg b0 c1 (fun hh => by have := lt1 _ hh; omega)
  have h2 := Dt.chg (T := dClasses) h2 c1 z2_1
  have h3 := Dt.chg (T := dSS) h3 c1 z3_1
  have h4 := Dt.chg (T := dIntS) h4 c1 z4_1
  have h5 := Dt.chg (T := dIntS) h5 c1 z5_1
  have h6 := Dt.chg (T := dSS) h6 c1 z6_1
  have h7 := Dt.chg (T := dSS) h7 c1 z7_1
  have cH := cH.trans (c1.mono in1)
  have m2 := markClasses_d (frz := frz) (k := k + n1) h2 d2 (by omega) (fun i hi => hf i (in2 i hi))
  simp only [dClasses_val] at m2
  simp [VM.look, b0, ones]
  refine wp_thn m2 ?_
  rintro _ G2 ⟨n2, a2', rfl, hn2, hv2, o2, c2, he2⟩
  clear m2
  have b0 := box_chg b0 c2 (fun hh => by have := lt2 _ hh; omega)
  have o1 := Dt.chg (T := dMesh) o1 c2 z1_2
  have h3 := Dt.chg (T := dSS) h3 c2 z3_2
  have h4 := Dt.chg (T := dIntS) h4 c2 z4_2
  have h5 := Dt.chg (T := dIntS) h5 c2 z5_2
  have h6 := Dt.chg (T := dSS) h6 c2 z6_2
  have h7 := Dt.chg (T := dSS) h7 c2 z7_2
  have cH := cH.trans (c2.mono in2)
  have m3 := markFlitSS_d (frz := frz) (k := k + n1 + n2) h3 d3 (by omega) (fun i hi => hf i (in3 i hi))
  simp [VM.look, b0, ones]
  refine wp_thn m3 ?_
  rintro _ G3 ⟨n3, a3', rfl, hn3, hv3, o3, c3, he3⟩
  clear m3
  have b0 := box_chg b0 c3 (fun hh => by have := lt3 _ hh; omega)
  have o1 := Dt.chg (T := dMesh) o1 c3 z1_3
  have o2 := Dt.chg (T := dClasses) o2 c3 z2_3
  have h4 := Dt.chg (T := dIntS) h4 c3 z4_3
  have h5 := Dt.chg (T := dIntS) h5 c3 z5_3
  have h6 := Dt.chg (T := dSS) h6 c3 z6_3
  have h7 := Dt.chg (T := dSS) h7 c3 z7_3
  have cH := cH.trans (c3.mono in3)
  have m4 := markIntS_d (frz := frz) (k := k + n1 + n2 + n3) h4 d4 (by omega) (fun i hi => hf i (in4 i hi))
  simp [VM.look, b0, ones]
  refine wp_thn m4 ?_
  rintro _ G4 ⟨n4, a4', rfl, hn4, hv4, o4, c4, he4⟩
  clear m4
  have b0 := box_chg b0 c4 (fun hh => by have := lt4 _ hh; omega)
  have o1 := Dt.chg (T := dMesh) o1 c4 z1_4
  have o2 := Dt.chg (T := dClasses) o2 c4 z2_4
  have o3 := Dt.chg (T := dSS) o3 c4 z3_4
  have h5 := Dt.chg (T := dIntS) h5 c4 z5_4
  have h6 := Dt.chg (T := dSS) h6 c4 z6_4
  have h7 := Dt.chg (T := dSS) h7 c4 z7_4
  have cH := cH.trans (c4.mono in4)
  have m5 := markIntS_d (frz := frz) (k := k + n1 + n2 + n3 + n4) h5 d5 (by omega) (fun i hi => hf i (in5 i hi))
  simp [VM.look, b0, ones]
  refine wp_thn m5 ?_
  rintro _ G5 ⟨n5, a5', rfl, hn5, hv5, o5, c5, he5⟩
  clear m5
  have b0 := box_chg b0 c5 (fun hh => by have := lt5 _ hh; omega)
  have o1 := Dt.chg (T := dMesh) o1 c5 z1_5
  have o2 := Dt.chg (T := dClasses) o2 c5 z2_5
  have o3 := Dt.chg (T := dSS) o3 c5 z3_5
  have o4 := Dt.chg (T := dIntS) o4 c5 z4_5
  have h6 := Dt.chg (T := dSS) h6 c5 z6_5
  have h7 := Dt.chg (T := dSS) h7 c5 z7_5
  have cH := cH.trans (c5.mono in5)
  have m6 := markFlitSS_d (frz := frz) (k := k + n1 + n2 + n3 + n4 + n5) h6 d6 (by omega) (fun i hi => hf i (in6 i hi))
  simp [VM.look, b0, ones]
  refine wp_thn m6 ?_
  rintro _ G6 ⟨n6, a6', rfl, hn6, hv6, o6, c6, he6⟩
  clear m6
  have b0 := box_chg b0 c6 (fun hh => by have := lt6 _ hh; omega)
  have o1 := Dt.chg (T := dMesh) o1 c6 z1_6
  have o2 := Dt.chg (T := dClasses) o2 c6 z2_6
  have o3 := Dt.chg (T := dSS) o3 c6 z3_6
  have o4 := Dt.chg (T := dIntS) o4 c6 z4_6
  have o5 := Dt.chg (T := dIntS) o5 c6 z5_6
  have h7 := Dt.chg (T := dSS) h7 c6 z7_6
  have cH := cH.trans (c6.mono in6)
  have m7 := markFlitSS_d (frz := frz) (k := k + n1 + n2 + n3 + n4 + n5 + n6) h7 d7 (by omega) (fun i hi => hf i (in7 i hi))
  simp [VM.look, b0, ones]
  refine wp_thn m7 ?_
  rintro _ G7 ⟨n7, a7', rfl, hn7, hv7, o7, c7, he7⟩
  clear m7
  have b0 := box_chg b0 c7 (fun hh => by have := lt7 _ hh; omega)
  have o1 := Dt.chg (T := dMesh) o1 c7 z1_7
  have o2 := Dt.chg (T := dClasses) o2 c7 z2_7
  have o3 := Dt.chg (T := dSS) o3 c7 z3_7
  have o4 := Dt.chg (T := dIntS) o4 c7 z4_7
  have o5 := Dt.chg (T := dIntS) o5 c7 z5_7
  have o6 := Dt.chg (T := dSS) o6 c7 z6_7
  have cH := cH.trans (c7.mono in7)
  try simp
  obtain ⟨e1, e2⟩ : a1'.1 = w ∧ a1'.2.1 = g := by simpa [dMesh_val] using hv1
  refine ⟨n1 + n2 + n3 + n4 + n5 + n6 + n7, (a1', a2', a3', a4', a5', a6', a7', tm), by congr 1; omega, by omega, by rw [dNet_val, dNet_val]; simp [e1, e2], ⟨o1, o2, o3, o4, o5, o6, o7, trivial⟩, cH, fun F H3 q => ?_⟩
  obtain ⟨p1, p2, p3, p4, p5, p6, p7, _⟩ := q
  simp only at p1 p2 p3 p4 p5 p6 p7
  rw [dNet_val]
  simp only [e1, e2]
  rw [vcall_go (fn := Tryz.f22) Tryz.func22 rfl (by kernel_rfl) rfl]
  have y1 := fun F => he1 F (H3 ++ [⟨[.int .i64 w, .int .i64 g, v1, v2.1, v2.2, v3.1, v4, v5, v6.1, v7.1, .int .i64 tm], 0, 46⟩]) (Dt.app (T := dMesh) p1)
  simp only [dMesh_val, e1, e2] at y1
  have f1 : ¬ k + n1 < 0 := by omega
  have y2 := fun F => he2 F (H3 ++ [⟨[.int .i64 w, .int .i64 g, v1, v2.1, v2.2, v3.1, v4, v5, v6.1, v7.1, .int .i64 tm], 0, 46⟩]) (Dt.app (T := dClasses) p2)
  simp only [dClasses_val] at y2
  have f2 : ¬ k + n1 + n2 < 0 := by omega
  have y3 := fun F => he3 F (H3 ++ [⟨[.int .i64 w, .int .i64 g, v1, v2.1, v2.2, v3.1, v4, v5, v6.1, v7.1, .int .i64 tm], 0, 46⟩]) (Dt.app (T := dSS) p3)
  simp only [show ∀ (v : SSV) (a : SSD), dSS.val v a = v.1 from fun _ _ => rfl] at y3
  have f3 : ¬ k + n1 + n2 + n3 < 0 := by omega
  have y4 := fun F => he4 F (H3 ++ [⟨[.int .i64 w, .int .i64 g, v1, v2.1, v2.2, v3.1, v4, v5, v6.1, v7.1, .int .i64 tm], 0, 46⟩]) (Dt.app (T := dIntS) p4)
  simp only [dIntS_val] at y4
  have f4 : ¬ k + n1 + n2 + n3 + n4 < 0 := by omega
  have y5 := fun F => he5 F (H3 ++ [⟨[.int .i64 w, .int .i64 g, v1, v2.1, v2.2, v3.1, v4, v5, v6.1, v7.1, .int .i64 tm], 0, 46⟩]) (Dt.app (T := dIntS) p5)
  simp only [dIntS_val] at y5
  have f5 : ¬ k + n1 + n2 + n3 + n4 + n5 < 0 := by omega
  have y6 := fun F => he6 F (H3 ++ [⟨[.int .i64 w, .int .i64 g, v1, v2.1, v2.2, v3.1, v4, v5, v6.1, v7.1, .int .i64 tm], 0, 46⟩]) (Dt.app (T := dSS) p6)
  simp only [show ∀ (v : SSV) (a : SSD), dSS.val v a = v.1 from fun _ _ => rfl] at y6
  have f6 : ¬ k + n1 + n2 + n3 + n4 + n5 + n6 < 0 := by omega
  have y7 := fun F => he7 F (H3 ++ [⟨[.int .i64 w, .int .i64 g, v1, v2.1, v2.2, v3.1, v4, v5, v6.1, v7.1, .int .i64 tm], 0, 46⟩]) (Dt.app (T := dSS) p7)
  simp only [show ∀ (v : SSV) (a : SSD), dSS.val v a = v.1 from fun _ _ => rfl] at y7
  have f7 : ¬ k + n1 + n2 + n3 + n4 + n5 + n6 + n7 < 0 := by omega
  simp [ones, y1, f1]
  simp [ones, y2, f2]
  simp [ones, y3, f3]
  simp [ones, y4, f4]
  simp [ones, y5, f5]
  simp [ones, y6, f6]
  simp [ones, y7, f7]
  omega
end Go.Proofs.YtcigpclbhfkgaaaGreat.V
/-! Copies of networks. -/
set_option linter.all false
namespace Go.Proofs.YtcigpclbhfkgaaaGreat.V
open Go Go.VM Go.Proofs
set_option maxRecDepth 10000
variable {frz : Nat} {H : Heap}
/-- append([]T{}, xs...) in one region -/
theorem copy_ints (v : Value) (xs : List Int) (hI : Rd Fl.int H v xs) (hl : xs.length ≤ 1073741824) : ∃ r L, vappend Tryz.prog frz H 24 24 (.slice none 0 0) v = some (r, H ++ L) ∧ dIntS.Ow (H ++ L) r xs ∧ (∀ i ∈ ids r, H.length ≤ i) := by
  have hs := hI.src
  simp only [Fl.int_n] at hs
  by_cases h0 : xs = []
  · subst h0
    refine ⟨.slice none 0 0, [], ?_, ⟨.inl ⟨rfl, rfl⟩, by simp⟩, by simp⟩
    simp [hs]
  · refine ⟨.slice (some ⟨H.length, 0, some 0⟩) xs.length 0, [⟨cellsOf Fl.int xs, 0, 3⟩], ?_, ⟨Ow.new0 rfl rfl (ones_ints xs) rfl, hl⟩, by simp⟩
    have : xs.length ≠ 0 := fun hh => h0 (List.length_eq_zero_iff.1 hh)
    simp [hs, h0, hl, ones_ints]
theorem copy_flits (v : Value) (xs : List FlitD) (hI : Rd flF H v xs) (hl : xs.length ≤ 1073741824) : ∃ r L, vappend Tryz.prog frz H 113 113 (.slice none 0 0) v = some (r, H ++ L) ∧ Ow flF 157 (H ++ L) r xs ∧ (∀ i ∈ ids r, H.length ≤ i) := by
  have hs := hI.src
  simp only [flF_n] at hs
  by_cases h0 : xs = []
  · subst h0
    refine ⟨.slice none 0 0, [], ?_, .inl ⟨rfl, rfl⟩, by simp⟩
    simp [hs]
  · refine ⟨.slice (some ⟨H.length, 0, some 0⟩) xs.length 0, [⟨cellsOf flF xs, 0, 157⟩], ?_, Ow.new0 rfl rfl (ones_flF xs) rfl, by simp⟩
    have : xs.length ≠ 0 := fun hh => h0 (List.length_eq_zero_iff.1 hh)
    simp [hs, h0, hl, ones_flF]
theorem copyLists_w (v : Value) (hs : List Value) (xss : SSD) (hI : RdL flF H v hs xss) (hb : xss.length ≤ 2097152) (hb2 : ∀ xs ∈ xss, xs.length ≤ 67108864) :
   wp (vcall C frz 114 [v] H) (dSS.Made H xss) := by
  rw [vcall_go (fn := Tryz.f114) Tryz.func114 rfl (by kernel_rfl) rfl]
  have hl := hI.2.1
  simp [(hI.app).1.len (P := Tryz.prog) (ty := 44) (by simp), hl]
  refine wp_inv (fun n t H' => ∃ (i : Nat) (out : Value) (gs : List Value), n = xss.length - i ∧ i ≤ xss.length ∧ t 7 = v ∧ t 8 = .int .i64 xss.length ∧ t 9 = .int .i64 i ∧ t 3 = out ∧ gs.length = i ∧ Ow Fl.val 113 H' out gs ∧ Chg H H' [] ∧
    (∀ (j : Nat) (a : Value) (xs : List FlitD), gs[j]? = some a → xss[j]? = some xs → Ow flF 157 H' a xs) ∧ (∀ x ∈ idsL out gs, H.length ≤ x ∧ x < H'.length) ∧ (idsL out gs).Nodup) ?_ (n := xss.length)
    ⟨0, .slice (some ⟨H.length, 0, some 0⟩) 0 0, [], rfl, by omega, by simp, by simp, by simp, by simp, rfl, Ow.new0 (D := Fl.val) (xs := []) rfl rfl rfl rfl, Chg.app _, by simp, by simp [idsL], by simp [idsL]⟩
  rintro n t H' ⟨i, out, gs, rfl, hi, t7, t8, t9, t3, hgl, o, c, hin, hids, hnd⟩ ih
  have rd := hI.chg c (by simp)
  have l0 := c.1
  simp [t7, t8, t9, t3, rd.1.len (P := Tryz.prog) (ty := 44) (by simp), hl]
  refine wp_dec ?_ ?_ <;> intro h
  · have h' : i < xss.length := by omega
    obtain ⟨u, a1, a2, a3, a4⟩ := RdL_at rd (ty := 44) (e := 113) (by simp) (by simp) h'
    have hm := hb2 _ (List.getElem_mem h')
    have a2' : vindexAddr Tryz.prog (H' ++ [⟨[], 0, 157⟩]) 44 v (.int .i64 i) = some (elp v i) := by
      obtain ⟨_, _, q, _, _⟩ := RdL_at (rd.app (L := [⟨[], 0, 157⟩])) (ty := 44) (e := 113) (by simp) (by simp) h'; exact q
    have a3' : vload Tryz.prog (H' ++ [⟨[], 0, 157⟩]) 113 (elp v i) = some u := by
      obtain ⟨u', q1, _, q, _⟩ := RdL_at (rd.app (L := [⟨[], 0, 157⟩])) (ty := 44) (e := 113) (by simp) (by simp) h'
      rw [a1] at q1; cases q1; exact q
    have o0 : Ow flF 157 (H' ++ [⟨[], 0, 157⟩]) (.slice (some ⟨H'.length, 0, some 0⟩) 0 0) [] := Ow.new0 (D := flF) (xs := []) rfl rfl rfl rfl
    obtain ⟨r, H2, hap, or_, c1, n1⟩ := o0.append (P := Tryz.prog) (frz := H.length) (ty := 113) (a4.app (L := [⟨[], 0, 157⟩])) (by simp) (ones_flF _) (by simp; omega) (by simp; omega)
    rw [List.nil_append] at or_
    have l1 := c1.1
    simp at l1
    have cc1 : Chg H' H2 [] := (Chg.app []).trans' c1 (fun x hx => .inr (by simp at hx; omega))
    have nr : ∀ x ∈ ids r, H'.length ≤ x := fun x hx => by
      rcases n1 x hx with h1 | h1
      · simp at h1; omega
      · simp at h1; omega
    have oo := o.chg cc1 (by simp)
    have hout : ∀ x ∈ ids out, H.length ≤ x ∧ x < H'.length := fun x hx => hids x (List.mem_append.2 (.inl hx))
    obtain ⟨out', H4, hap2, o4, c4, n4⟩ := oo.push (P := Tryz.prog) (frz := H.length) (ty := 44) (a := r) (by simp) (by simp [or_.rd.one']) (by omega) (fun x hx => (hout x hx).1)
    simp only [Fl.val_f] at hap2
    have l4 := c4.1
    have one := And.intro or_.rd.one' or_.rd.cells
    have rlt := or_.lt
    have o4lt := o4.lt
    simp [-vappend_mk, t7, t8, t9, t3, a2, a3, a2', a3', hap, hap2, one]
    refine ih (xss.length - (i + 1)) _ _ ⟨i + 1, out', gs ++ [r], rfl, by omega, by simp [t7], by simp [t8], ?_, by simp, by simp [hgl], o4, (c.trans cc1).trans' c4 (fun x hx => .inr (hout x hx).1), fun j a xs ha hx => ?_, fun x hx => ?_, ?_⟩ (by omega)
    · simp; rw [w64 (by omega) (by omega)]
    · by_cases hj : j < gs.length
      · rw [List.getElem?_append_left hj] at ha
        refine ((hin j a xs ha hx).chg cc1 (by simp)).chg c4 (fun y hy hh => ?_)
        exact (List.nodup_append.1 hnd).2.2 y hh y (List.mem_flatMap.2 ⟨a, List.mem_of_getElem? ha, hy⟩) rfl
      · rw [List.getElem?_append_right (by omega)] at ha
        have hj2 := (List.getElem?_eq_some_iff.1 ha).1
        simp at hj2
        have : j = i := by omega
        subst this
        rw [show j - gs.length = 0 by omega] at ha
        simp at ha
        subst ha
        rw [List.getElem?_eq_getElem h'] at hx
        cases hx
        exact or_.chg c4 (fun y hy hh => by have := nr y hy; have := (hout y hh).2; omega)
    · rcases List.mem_append.1 hx with hx | hx
      · have h2 := o4lt x hx
        rcases n4 x hx with h1 | h1
        · exact ⟨(hout x h1).1, h2⟩
        · exact ⟨by omega, h2⟩
      · rw [List.flatMap_append] at hx
        rcases List.mem_append.1 hx with hx | hx
        · have := hids x (List.mem_append.2 (.inr hx)); omega
        · simp at hx
          have := nr x hx; have := rlt x hx; omega
    · obtain ⟨d1, d2, d3⟩ := List.nodup_append.1 hnd
      have hgl2 : ∀ x ∈ gs.flatMap ids, x < H'.length := fun x hx => (hids x (List.mem_append.2 (.inr hx))).2
      refine List.nodup_append.2 ⟨ids_nodup _, ?_, fun a ha b hb e => ?_⟩
      · rw [List.flatMap_append]
        exact nd_app d2 (by simpa using ids_nodup r) (n := H'.length) hgl2 (fun x hx => by simp at hx; exact nr x hx)
      · subst e
        rw [List.flatMap_append] at hb
        rcases n4 a ha with h1 | h1
        · rcases List.mem_append.1 hb with hb | hb
          · exact d3 a h1 a hb rfl
          · simp at hb
            have := nr a hb; have := (hout a h1).2; omega
        · rcases List.mem_append.1 hb with hb | hb
          · have := hgl2 a hb; omega
          · simp at hb
            have := rlt a hb; omega
  · have : i = xss.length := by omega
    subst this
    simp [t7, t8, t9, t3]
    exact ⟨(out, gs), rfl, ⟨⟨o, hgl, hin⟩, hb, hb2⟩, c, fun x hx => (hids x hx).1, hnd⟩
theorem l15Lists_w (v : Value) (hs : List Value) (xss : SSD) (hI : RdL flF H v hs xss) (hb : xss.length ≤ 2097152) (hb2 : ∀ xs ∈ xss, xs.length ≤ 67108864) :
   wp (vcall C frz 98 [v] H) (dSS.Made H xss) := by
  rw [vcall_go (fn := Tryz.f98) Tryz.func98 rfl (by kernel_rfl) rfl]
  have hl := hI.2.1
  simp [(hI.app).1.len (P := Tryz.prog) (ty := 44) (by simp), hl]
  refine wp_inv (fun n t H' => ∃ (i : Nat) (out : Value) (gs : List Value), n = xss.length - i ∧ i ≤ xss.length ∧ t 0 = v ∧ t 4 = .int .i64 i ∧ t 3 = out ∧ gs.length = i ∧ Ow Fl.val 113 H' out gs ∧ Chg H H' [] ∧
    (∀ (j : Nat) (a : Value) (xs : List FlitD), gs[j]? = some a → xss[j]? = some xs → Ow flF 157 H' a xs) ∧ (∀ x ∈ idsL out gs, H.length ≤ x ∧ x < H'.length) ∧ (idsL out gs).Nodup) ?_ (n := xss.length)
    ⟨0, .slice (some ⟨H.length, 0, some 0⟩) 0 0, [], rfl, by omega, by simp, by simp, by simp, rfl, Ow.new0 (D := Fl.val) (xs := []) rfl rfl rfl rfl, Chg.app _, by simp, by simp [idsL], by simp [idsL]⟩
  rintro n t H' ⟨i, out, gs, rfl, hi, t0, t4, t3, hgl, o, c, hin, hids, hnd⟩ ih
  have rd := hI.chg c (by simp)
  have l0 := c.1
  simp [t0, t4, t3, rd.1.len (P := Tryz.prog) (ty := 44) (by simp), hl]
  refine wp_dec ?_ ?_ <;> intro h
  · have h' : i < xss.length := by omega
    obtain ⟨u, a1, a2, a3, a4⟩ := RdL_at rd (ty := 44) (e := 113) (by simp) (by simp) h'
    have hm := hb2 _ (List.getElem_mem h')
    have a2' : vindexAddr Tryz.prog (H' ++ [⟨[], 0, 157⟩]) 44 v (.int .i64 i) = some (elp v i) := by
      obtain ⟨_, _, q, _, _⟩ := RdL_at (rd.app (L := [⟨[], 0, 157⟩])) (ty := 44) (e := 113) (by simp) (by simp) h'; exact q
    have a3' : vload Tryz.prog (H' ++ [⟨[], 0, 157⟩]) 113 (elp v i) = some u := by
      obtain ⟨u', q1, _, q, _⟩ := RdL_at (rd.app (L := [⟨[], 0, 157⟩])) (ty := 44) (e := 113) (by simp) (by simp) h'
      rw [a1] at q1; cases q1; exact q
    have o0 : Ow flF 157 (H' ++ [⟨[], 0, 157⟩]) (.slice (some ⟨H'.length, 0, some 0⟩) 0 0) [] := Ow.new0 (D := flF) (xs := []) rfl rfl rfl rfl
    obtain ⟨r, H2, hap, or_, c1, n1⟩ := o0.append (P := Tryz.prog) (frz := H.length) (ty := 113) (a4.app (L := [⟨[], 0, 157⟩])) (by simp) (ones_flF _) (by simp; omega) (by simp; omega)
    rw [List.nil_append] at or_
    have l1 := c1.1
    simp at l1
    have cc1 : Chg H' H2 [] := (Chg.app []).trans' c1 (fun x hx => .inr (by simp at hx; omega))
    have nr : ∀ x ∈ ids r, H'.length ≤ x := fun x hx => by
      rcases n1 x hx with h1 | h1
      · simp at h1; omega
      · simp at h1; omega
    have oo := o.chg cc1 (by simp)
    have hout : ∀ x ∈ ids out, H.length ≤ x ∧ x < H'.length := fun x hx => hids x (List.mem_append.2 (.inl hx))
    obtain ⟨out', H4, hap2, o4, c4, n4⟩ := oo.push (P := Tryz.prog) (frz := H.length) (ty := 44) (a := r) (by simp) (by simp [or_.rd.one']) (by omega) (fun x hx => (hout x hx).1)
    simp only [Fl.val_f] at hap2
    have l4 := c4.1
    have one := And.intro or_.rd.one' or_.rd.cells
    have rlt := or_.lt
    have o4lt := o4.lt
    simp [-vappend_mk, t0, t4, t3, a2, a3, a2', a3', hap, hap2, one]
    refine ih (xss.length - (i + 1)) _ _ ⟨i + 1, out', gs ++ [r], rfl, by omega, by simp [t0], ?_, by simp, by simp [hgl], o4, (c.trans cc1).trans' c4 (fun x hx => .inr (hout x hx).1), fun j a xs ha hx => ?_, fun x hx => ?_, ?_⟩ (by omega)
    · simp; rw [w64 (by omega) (by omega)]
    · by_cases hj : j < gs.length
      · rw [List.getElem?_append_left hj] at ha
        refine ((hin j a xs ha hx).chg cc1 (by simp)).chg c4 (fun y hy hh => ?_)
        exact (List.nodup_append.1 hnd).2.2 y hh y (List.mem_flatMap.2 ⟨a, List.mem_of_getElem? ha, hy⟩) rfl
      · rw [List.getElem?_append_right (by omega)] at ha
        have hj2 := (List.getElem?_eq_some_iff.1 ha).1
        simp at hj2
        have : j = i := by omega
        subst this
        rw [show j - gs.length = 0 by omega] at ha
        simp at ha
        subst ha
        rw [List.getElem?_eq_getElem h'] at hx
        cases hx
        exact or_.chg c4 (fun y hy hh => by have := nr y hy; have := (hout y hh).2; omega)
    · rcases List.mem_append.1 hx with hx | hx
      · have h2 := o4lt x hx
        rcases n4 x hx with h1 | h1
        · exact ⟨(hout x h1).1, h2⟩
        · exact ⟨by omega, h2⟩
      · rw [List.flatMap_append] at hx
        rcases List.mem_append.1 hx with hx | hx
        · have := hids x (List.mem_append.2 (.inr hx)); omega
        · simp at hx
          have := nr x hx; have := rlt x hx; omega
    · obtain ⟨d1, d2, d3⟩ := List.nodup_append.1 hnd
      have hgl2 : ∀ x ∈ gs.flatMap ids, x < H'.length := fun x hx => (hids x (List.mem_append.2 (.inr hx))).2
      refine List.nodup_append.2 ⟨ids_nodup _, ?_, fun a ha b hb e => ?_⟩
      · rw [List.flatMap_append]
        exact nd_app d2 (by simpa using ids_nodup r) (n := H'.length) hgl2 (fun x hx => by simp at hx; exact nr x hx)
      · subst e
        rw [List.flatMap_append] at hb
        rcases n4 a ha with h1 | h1
        · rcases List.mem_append.1 hb with hb | hb
          · exact d3 a h1 a hb rfl
          · simp at hb
            have := nr a hb; have := (hout a h1).2; omega
        · rcases List.mem_append.1 hb with hb | hb
          · have := hgl2 a hb; omega
          · simp at hb
            have := rlt a hb; omega
  · have : i = xss.length := by omega
    subst this
    simp [t0, t4, t3]
    exact ⟨(out, gs), rfl, ⟨⟨o, hgl, hin⟩, hb, hb2⟩, c, fun x hx => (hids x hx).1, hnd⟩
end Go.Proofs.YtcigpclbhfkgaaaGreat.V
/-! Copies of networks: the whole. -/
set_option linter.all false
namespace Go.Proofs.YtcigpclbhfkgaaaGreat.V
open Go Go.VM Go.Proofs
set_option maxRecDepth 10000
variable {frz : Nat} {H : Heap}
theorem copyClasses_w (v1 v2 : Value) (A B : List Int) (h1 : IsI H v1 A) (h2 : IsI H v2 B) (l1 : A.length ≤ 1073741824) (l2 : B.length ≤ 1073741824) :
   wp (vcall C frz 113 [.agg #[v1, v2]] H) (dClasses.Made H (A, B)) := by
  rw [vcall_go (fn := Tryz.f113) Tryz.func113 rfl (by kernel_rfl) rfl]
  have one := And.intro (And.intro h1.one' h1.cells) (And.intro h2.one' h2.cells)
  simp [one]
  try rw [go_draw (h := by kernel_rfl)]
  simp [one]
  refine wp_thn (copyTable_w v1 A (h1.app _) l1) ?_
  rintro _ H1 ⟨u1, rfl, o1, c1, n1, d1⟩
  have b0 : H1[H.length]? = some ⟨[v1, v2], 0, 43⟩ := box_chg (by simp) c1 (by simp)
  have bR : H1[H.length + 1]? = some ⟨[.slice none 0 0, .slice none 0 0], 0, 43⟩ := box_chg (by simp) c1 (by simp)
  have cH1 : Chg H H1 [] := (Chg.app []).trans c1
  have lc := c1.1
  simp at n1 lc
  have onu := dTable_one o1
  have lt1 := dTable.lt o1
  simp [dTable_val, VM.look, b0, one]
  refine wp_thn (copyTable_w v2 B (Rd.isI (h2.rd.chg cH1 (by simp))) l2) ?_
  rintro _ H2 ⟨u2, rfl, o2, c2, n2, d2⟩
  have bR := box_chg bR c2 (by simp)
  have o1 := Dt.chg0 (T := dTable) o1 c2
  have onu2 := dTable_one o2
  have gR := set_get (r' := ⟨[u1, u2], 0, 43⟩) bR
  have hF : H.length ≤ H.length + 1 := by omega
  have eR : Chg H2 (H2.set (H.length + 1) ⟨[u1, u2], 0, 43⟩) [H.length + 1] := chg_set _ _
  simp [dTable_val, VM.look, bR, onu, onu2, gR, hF]
  refine ⟨(u1, u2), rfl, ⟨Dt.chg (T := dTable) o1 eR (fun i hi hh => by have := n1 i hi; simp at hh; omega), Dt.chg (T := dTable) o2 eR (fun i hi hh => by have := n2 i hi; simp at hh; omega)⟩, (cH1.trans c2).trans' eR (fun i hi => .inr (by simp at hi; omega)), fun i hi => ?_, ?_⟩
  · rcases List.mem_append.1 hi with hi | hi
    · have := n1 i hi; omega
    · have := n2 i hi; omega
  · exact List.nodup_append.2 ⟨d1, d2, fun a ha b hb e => by have := lt1 a ha; have := n2 b hb; omega⟩
theorem l15Classes_w (v1 v2 : Value) (A B : List Int) (h1 : IsI H v1 A) (h2 : IsI H v2 B) (l1 : A.length ≤ 1073741824) (l2 : B.length ≤ 1073741824) :
   wp (vcall C frz 97 [.agg #[v1, v2]] H) (dClasses.Made H (A, B)) := by
  rw [vcall_go (fn := Tryz.f97) Tryz.func97 rfl (by kernel_rfl) rfl]
  have one := And.intro (And.intro h1.one' h1.cells) (And.intro h2.one' h2.cells)
  simp [one]
  try rw [go_draw (h := by kernel_rfl)]
  simp [one]
  refine wp_thn (l12Copy_w v1 A (h1.app _) l1) ?_
  rintro _ H1 ⟨u1, rfl, o1, c1, n1, d1⟩
  have b0 : H1[H.length]? = some ⟨[v1, v2], 0, 43⟩ := box_chg (by simp) c1 (by simp)
  have bR : H1[H.length + 1]? = some ⟨[.slice none 0 0, .slice none 0 0], 0, 43⟩ := box_chg (by simp) c1 (by simp)
  have cH1 : Chg H H1 [] := (Chg.app []).trans c1
  have lc := c1.1
  simp at n1 lc
  have onu := dTable_one o1
  have lt1 := dTable.lt o1
  simp [dTable_val, VM.look, b0, one]
  refine wp_thn (l12Copy_w v2 B (Rd.isI (h2.rd.chg cH1 (by simp))) l2) ?_
  rintro _ H2 ⟨u2, rfl, o2, c2, n2, d2⟩
  have bR := box_chg bR c2 (by simp)
  have o1 := Dt.chg0 (T := dTable) o1 c2
  have onu2 := dTable_one o2
  have gR := set_get (r' := ⟨[u1, u2], 0, 43⟩) bR
  have hF : H.length ≤ H.length + 1 := by omega
  have eR : Chg H2 (H2.set (H.length + 1) ⟨[u1, u2], 0, 43⟩) [H.length + 1] := chg_set _ _
  simp [dTable_val, VM.look, bR, onu, onu2, gR, hF]
  refine ⟨(u1, u2), rfl, ⟨Dt.chg (T := dTable) o1 eR (fun i hi hh => by have := n1 i hi; simp at hh; omega), Dt.chg (T := dTable) o2 eR (fun i hi hh => by have := n2 i hi; simp at hh; omega)⟩, (cH1.trans c2).trans' eR (fun i hi => .inr (by simp at hi; omega)), fun i hi => ?_, ?_⟩
  · rcases List.mem_append.1 hi with hi | hi
    · have := n1 i hi; omega
    · have := n2 i hi; omega
  · exact List.nodup_append.2 ⟨d1, d2, fun a ha b hb e => by have := lt1 a ha; have := n2 b hb; omega⟩
theorem copyNet_d {v : NetV} {x : NetD} (o : dNet.Ow H v x) : wp (vcall C frz 55 [dNet.val v x] H) (dNet.Made H x) := by
  have ones := dNet_one o
  obtain ⟨u2, ⟨u3, u4⟩, ⟨u5, h5⟩, u6, u7, ⟨u8, h8⟩, ⟨u9, h9⟩, _⟩ := v
  obtain ⟨⟨w, h, b⟩, ⟨A, B⟩, buf, own, turn, src, arr, tm⟩ := x
  obtain ⟨y1, y2, y3, y4, y5, y6, y7, _⟩ := o
  simp only at y1 y2 y3 y4 y5 y6 y7 ones
  rw [dNet_val]
  rw [vcall_go (fn := Tryz.f55) Tryz.func55 rfl (by kernel_rfl) rfl]
  have hF : H.length ≤ H.length + 1 := by omega
  simp [ones]
  rw [go_drawE (h := ⟨by kernel_rfl, by kernel_rfl⟩)]
  obtain ⟨G0, hG0⟩ : ∃ G, G = H ++ [⟨[.int .i64 w, .int .i64 h, u2, u3, u4, u5, u6, u7, u8, u9, .int .i64 tm], 0, 46⟩, ⟨[.int .i64 0, .int .i64 0, .slice none 0 0, .slice none 0 0, .slice none 0 0, .slice none 0 0, .slice none 0 0, .slice none 0 0, .slice none 0 0, .slice none 0 0, .int .i64 0], 0, 46⟩] := ⟨_, rfl⟩
  have b0 : G0[H.length]? = some ⟨[.int .i64 w, .int .i64 h, u2, u3, u4, u5, u6, u7, u8, u9, .int .i64 tm], 0, 46⟩ := by rw [hG0]; simp
  have bR : G0[H.length + 1]? = some ⟨[.int .i64 0, .int .i64 0, .slice none 0 0, .slice none 0 0, .slice none 0 0, .slice none 0 0, .slice none 0 0, .slice none 0 0, .slice none 0 0, .slice none 0 0, .int .i64 0], 0, 46⟩ := by rw [hG0]; simp
  have cH : Chg H G0 [] := by rw [hG0]; exact Chg.app []
  have lH : H.length + 2 ≤ G0.length := by rw [hG0]; simp
  rw [← hG0]
  clear hG0
  have z1 : dMesh.Ow G0 u2 (w, h, b) := Dt.chg0 y1 cH
  have z2 : dClasses.Ow G0 (u3, u4) (A, B) := Dt.chg0 y2 cH
  have z3 : dSS.Ow G0 (u5, h5) buf := Dt.chg0 y3 cH
  have z4 : dIntS.Ow G0 u6 own := Dt.chg0 y4 cH
  have z5 : dIntS.Ow G0 u7 turn := Dt.chg0 y5 cH
  have z6 : dSS.Ow G0 (u8, h8) src := Dt.chg0 y6 cH
  have z7 : dSS.Ow G0 (u9, h9) arr := Dt.chg0 y7 cH
  clear y1 y2 y3 y4 y5 y6 y7
  simp [emps, empOp, empB, VM.look, b0, ones]
  refine wp_thn (copyMesh_w w h u2 b z1.1.rd.isI z1.2) ?_
  rintro _ G1 ⟨n1, rfl, o1, c1, m1, d1⟩
  have q1 := dMesh_one o1
  have lt1 := dMesh.lt o1
  have lc1 := c1.1
  have b0 := box_chg b0 c1 (by simp)
  have bR := box_chg bR c1 (by simp)
  have cH := cH.trans c1
  have z2 := Dt.chg0 (T := dClasses) z2 c1
  have z3 := Dt.chg0 (T := dSS) z3 c1
  have z4 := Dt.chg0 (T := dIntS) z4 c1
  have z5 := Dt.chg0 (T := dIntS) z5 c1
  have z6 := Dt.chg0 (T := dSS) z6 c1
  have z7 := Dt.chg0 (T := dSS) z7 c1
  try simp [-vappend_nil, dMesh_val, VM.look, b0, ones]
  refine wp_thn (copyClasses_w u3 u4 A B z2.1.1.rd.isI z2.2.1.rd.isI z2.1.2 z2.2.2) ?_
  rintro _ G2 ⟨n2, rfl, o2, c2, m2, d2⟩
  have q2 := dClasses_one o2
  have lt2 := dClasses.lt o2
  have lc2 := c2.1
  have b0 := box_chg b0 c2 (by simp)
  have bR := box_chg bR c2 (by simp)
  have cH := cH.trans c2
  have z3 := Dt.chg0 (T := dSS) z3 c2
  have z4 := Dt.chg0 (T := dIntS) z4 c2
  have z5 := Dt.chg0 (T := dIntS) z5 c2
  have z6 := Dt.chg0 (T := dSS) z6 c2
  have z7 := Dt.chg0 (T := dSS) z7 c2
  have o1 := Dt.chg0 (T := dMesh) o1 c2
  try simp [-vappend_nil, dClasses_val, VM.look, b0, ones]
  refine wp_thn (copyLists_w u5 h5 buf z3.1.rd z3.2.1 z3.2.2) ?_
  rintro _ G3 ⟨n3, rfl, o3, c3, m3, d3⟩
  have q3 := dSS_one o3
  have lt3 := dSS.lt o3
  have lc3 := c3.1
  have b0 := box_chg b0 c3 (by simp)
  have bR := box_chg bR c3 (by simp)
  have cH := cH.trans c3
  have z4 := Dt.chg0 (T := dIntS) z4 c3
  have z5 := Dt.chg0 (T := dIntS) z5 c3
  have z6 := Dt.chg0 (T := dSS) z6 c3
  have z7 := Dt.chg0 (T := dSS) z7 c3
  have o1 := Dt.chg0 (T := dMesh) o1 c3
  have o2 := Dt.chg0 (T := dClasses) o2 c3
  try simp [-vappend_nil, show dSS.val n3 buf = n3.1 from rfl, VM.look, b0, ones]
  obtain ⟨n4, L4, hap4, o4, m4⟩ := copy_ints (frz := H.length) u6 own z4.1.rd z4.2
  have c4 : Chg G3 (G3 ++ L4) [] := Chg.app _
  have d4 := ids_nodup n4
  have q4 := dIntS_one o4
  simp [-vappend_nil, hap4, VM.look]
  generalize G3 ++ L4 = G4 at *
  have lt4 := dIntS.lt o4
  have lc4 := c4.1
  have b0 := box_chg b0 c4 (by simp)
  have bR := box_chg bR c4 (by simp)
  have cH := cH.trans c4
  have z5 := Dt.chg0 (T := dIntS) z5 c4
  have z6 := Dt.chg0 (T := dSS) z6 c4
  have z7 := Dt.chg0 (T := dSS) z7 c4
  have o1 := Dt.chg0 (T := dMesh) o1 c4
  have o2 := Dt.chg0 (T := dClasses) o2 c4
  have o3 := Dt.chg0 (T := dSS) o3 c4
  try simp [-vappend_nil, VM.look, b0, ones]
  obtain ⟨n5, L5, hap5, o5, m5⟩ := copy_ints (frz := H.length) u7 turn z5.1.rd z5.2
  have c5 : Chg G4 (G4 ++ L5) [] := Chg.app _
  have d5 := ids_nodup n5
  have q5 := dIntS_one o5
  simp [-vappend_nil, hap5, VM.look]
  generalize G4 ++ L5 = G5 at *
  have lt5 := dIntS.lt o5
  have lc5 := c5.1
  have b0 := box_chg b0 c5 (by simp)
  have bR := box_chg bR c5 (by simp)
  have cH := cH.trans c5
  have z6 := Dt.chg0 (T := dSS) z6 c5
  have z7 := Dt.chg0 (T := dSS) z7 c5
  have o1 := Dt.chg0 (T := dMesh) o1 c5
  have o2 := Dt.chg0 (T := dClasses) o2 c5
  have o3 := Dt.chg0 (T := dSS) o3 c5
  have o4 := Dt.chg0 (T := dIntS) o4 c5
  try simp [-vappend_nil, VM.look, b0, ones]
  refine wp_thn (copyLists_w u8 h8 src z6.1.rd z6.2.1 z6.2.2) ?_
  rintro _ G6 ⟨n6, rfl, o6, c6, m6, d6⟩
  have q6 := dSS_one o6
  have lt6 := dSS.lt o6
  have lc6 := c6.1
  have b0 := box_chg b0 c6 (by simp)
  have bR := box_chg bR c6 (by simp)
  have cH := cH.trans c6
  have z7 := Dt.chg0 (T := dSS) z7 c6
  have o1 := Dt.chg0 (T := dMesh) o1 c6
  have o2 := Dt.chg0 (T := dClasses) o2 c6
  have o3 := Dt.chg0 (T := dSS) o3 c6
  have o4 := Dt.chg0 (T := dIntS) o4 c6
  have o5 := Dt.chg0 (T := dIntS) o5 c6
  try simp [-vappend_nil, show dSS.val n6 src = n6.1 from rfl, VM.look, b0, ones]
  refine wp_thn (copyLists_w u9 h9 arr z7.1.rd z7.2.1 z7.2.2) ?_
  rintro _ G7 ⟨n7, rfl, o7, c7, m7, d7⟩
  have q7 := dSS_one o7
  have lt7 := dSS.lt o7
  have lc7 := c7.1
  have b0 := box_chg b0 c7 (by simp)
  have bR := box_chg bR c7 (by simp)
  have cH := cH.trans c7
  have o1 := Dt.chg0 (T := dMesh) o1 c7
  have o2 := Dt.chg0 (T := dClasses) o2 c7
  have o3 := Dt.chg0 (T := dSS) o3 c7
  have o4 := Dt.chg0 (T := dIntS) o4 c7
  have o5 := Dt.chg0 (T := dIntS) o5 c7
  have o6 := Dt.chg0 (T := dSS) o6 c7

  have gR := set_get (r' := ⟨[.int .i64 w, .int .i64 h, n1, n2.1, n2.2, n3.1, n4, n5, n6.1, n7.1, .int .i64 tm], 0, 46⟩) bR
  have eR : Chg G7 (G7.set (H.length + 1) ⟨[.int .i64 w, .int .i64 h, n1, n2.1, n2.2, n3.1, n4, n5, n6.1, n7.1, .int .i64 tm], 0, 46⟩) [H.length + 1] := chg_set _ _
  have o1 := Dt.chg (T := dMesh) o1 eR (fun i hi hh => by have := m1 i hi; simp at hh; omega)
  have o2 := Dt.chg (T := dClasses) o2 eR (fun i hi hh => by have := m2 i hi; simp at hh; omega)
  have o3 := Dt.chg (T := dSS) o3 eR (fun i hi hh => by have := m3 i hi; simp at hh; omega)
  have o4 := Dt.chg (T := dIntS) o4 eR (fun i hi hh => by have := m4 i hi; simp at hh; omega)
  have o5 := Dt.chg (T := dIntS) o5 eR (fun i hi hh => by have := m5 i hi; simp at hh; omega)
  have o6 := Dt.chg (T := dSS) o6 eR (fun i hi hh => by have := m6 i hi; simp at hh; omega)
  have o7 := Dt.chg (T := dSS) o7 eR (fun i hi hh => by have := m7 i hi; simp at hh; omega)
  have cH := cH.trans' eR (fun i hi => .inr (by simp at hi; omega))
  simp [show dSS.val n7 arr = n7.1 from rfl, VM.look, b0, bR, gR, hF, q1, q2, q3, q4, q5, q6, q7]
  refine ⟨(n1, n2, n3, n4, n5, n6, n7, ()), rfl, ⟨o1, o2, o3, o4, o5, o6, o7, trivial⟩, cH, fun i hi => ?_, ?_⟩
  · rcases List.mem_append.1 hi with hi | hi
    · have := m1 i hi; omega
    rcases List.mem_append.1 hi with hi | hi
    · have := m2 i hi; omega
    rcases List.mem_append.1 hi with hi | hi
    · have := m3 i hi; omega
    rcases List.mem_append.1 hi with hi | hi
    · have := m4 i hi; omega
    rcases List.mem_append.1 hi with hi | hi
    · have := m5 i hi; omega
    rcases List.mem_append.1 hi with hi | hi
    · have := m6 i hi; omega
    rcases List.mem_append.1 hi with hi | hi
    · have := m7 i hi; omega
    · simp [dNone] at hi
  · have z7 : (dSS.ids n7 ++ []).Nodup ∧ ∀ i ∈ dSS.ids n7 ++ [], G6.length ≤ i := ⟨by simpa using d7, fun i hi => by simp at hi; have := m7 i hi; omega⟩
    have z6 : (dSS.ids n6 ++ (dSS.ids n7 ++ [])).Nodup ∧ ∀ i ∈ dSS.ids n6 ++ (dSS.ids n7 ++ []), G5.length ≤ i := ⟨nd_app d6 z7.1 lt6 z7.2, fun i hi => by rcases List.mem_append.1 hi with hi | hi; (have := m6 i hi; omega); (have := z7.2 i hi; omega)⟩
    have z5 : (dIntS.ids n5 ++ (dSS.ids n6 ++ (dSS.ids n7 ++ []))).Nodup ∧ ∀ i ∈ dIntS.ids n5 ++ (dSS.ids n6 ++ (dSS.ids n7 ++ [])), G4.length ≤ i := ⟨nd_app d5 z6.1 lt5 z6.2, fun i hi => by rcases List.mem_append.1 hi with hi | hi; (have := m5 i hi; omega); (have := z6.2 i hi; omega)⟩
    have z4 : (dIntS.ids n4 ++ (dIntS.ids n5 ++ (dSS.ids n6 ++ (dSS.ids n7 ++ [])))).Nodup ∧ ∀ i ∈ dIntS.ids n4 ++ (dIntS.ids n5 ++ (dSS.ids n6 ++ (dSS.ids n7 ++ []))), G3.length ≤ i := ⟨nd_app d4 z5.1 lt4 z5.2, fun i hi => by rcases List.mem_append.1 hi with hi | hi; (have := m4 i hi; omega); (have := z5.2 i hi; omega)⟩
    have z3 : (dSS.ids n3 ++ (dIntS.ids n4 ++ (dIntS.ids n5 ++ (dSS.ids n6 ++ (dSS.ids n7 ++ []))))).Nodup ∧ ∀ i ∈ dSS.ids n3 ++ (dIntS.ids n4 ++ (dIntS.ids n5 ++ (dSS.ids n6 ++ (dSS.ids n7 ++ [])))), G2.length ≤ i := ⟨nd_app d3 z4.1 lt3 z4.2, fun i hi => by rcases List.mem_append.1 hi with hi | hi; (have := m3 i hi; omega); (have := z4.2 i hi; omega)⟩
    have z2 : (dClasses.ids n2 ++ (dSS.ids n3 ++ (dIntS.ids n4 ++ (dIntS.ids n5 ++ (dSS.ids n6 ++ (dSS.ids n7 ++ [])))))).Nodup ∧ ∀ i ∈ dClasses.ids n2 ++ (dSS.ids n3 ++ (dIntS.ids n4 ++ (dIntS.ids n5 ++ (dSS.ids n6 ++ (dSS.ids n7 ++ []))))), G1.length ≤ i := ⟨nd_app d2 z3.1 lt2 z3.2, fun i hi => by rcases List.mem_append.1 hi with hi | hi; (have := m2 i hi; omega); (have := z3.2 i hi; omega)⟩
    exact nd_app d1 z2.1 lt1 z2.2
theorem l15Copy_d {v : NetV} {x : NetD} (o : dNet.Ow H v x) : wp (vcall C frz 44 [dNet.val v x] H) (dNet.Made H x) := by
  have ones := dNet_one o
  obtain ⟨u2, ⟨u3, u4⟩, ⟨u5, h5⟩, u6, u7, ⟨u8, h8⟩, ⟨u9, h9⟩, _⟩ := v
  obtain ⟨⟨w, h, b⟩, ⟨A, B⟩, buf, own, turn, src, arr, tm⟩ := x
  obtain ⟨y1, y2, y3, y4, y5, y6, y7, _⟩ := o
  simp only at y1 y2 y3 y4 y5 y6 y7 ones
  rw [dNet_val]
  rw [vcall_go (fn := Tryz.f44) Tryz.func44 rfl (by kernel_rfl) rfl]
  have hF : H.length ≤ H.length + 1 := by omega
  simp [ones]
  rw [go_drawE (h := ⟨by kernel_rfl, by kernel_rfl⟩)]
  obtain ⟨G0, hG0⟩ : ∃ G, G = H ++ [⟨[.int .i64 w, .int .i64 h, u2, u3, u4, u5, u6, u7, u8, u9, .int .i64 tm], 0, 46⟩, ⟨[.int .i64 0, .int .i64 0, .slice none 0 0, .slice none 0 0, .slice none 0 0, .slice none 0 0, .slice none 0 0, .slice none 0 0, .slice none 0 0, .slice none 0 0, .int .i64 0], 0, 46⟩] := ⟨_, rfl⟩
  have b0 : G0[H.length]? = some ⟨[.int .i64 w, .int .i64 h, u2, u3, u4, u5, u6, u7, u8, u9, .int .i64 tm], 0, 46⟩ := by rw [hG0]; simp
  have bR : G0[H.length + 1]? = some ⟨[.int .i64 0, .int .i64 0, .slice none 0 0, .slice none 0 0, .slice none 0 0, .slice none 0 0, .slice none 0 0, .slice none 0 0, .slice none 0 0, .slice none 0 0, .int .i64 0], 0, 46⟩ := by rw [hG0]; simp
  have cH : Chg H G0 [] := by rw [hG0]; exact Chg.app []
  have lH : H.length + 2 ≤ G0.length := by rw [hG0]; simp
  rw [← hG0]
  clear hG0
  have z1 : dMesh.Ow G0 u2 (w, h, b) := Dt.chg0 y1 cH
  have z2 : dClasses.Ow G0 (u3, u4) (A, B) := Dt.chg0 y2 cH
  have z3 : dSS.Ow G0 (u5, h5) buf := Dt.chg0 y3 cH
  have z4 : dIntS.Ow G0 u6 own := Dt.chg0 y4 cH
  have z5 : dIntS.Ow G0 u7 turn := Dt.chg0 y5 cH
  have z6 : dSS.Ow G0 (u8, h8) src := Dt.chg0 y6 cH
  have z7 : dSS.Ow G0 (u9, h9) arr := Dt.chg0 y7 cH
  clear y1 y2 y3 y4 y5 y6 y7
  simp [emps, empOp, empB, VM.look, b0, ones]
  refine wp_thn (l15Mesh_w w h u2 b z1.1.rd.isI z1.2) ?_
  rintro _ G1 ⟨n1, rfl, o1, c1, m1, d1⟩
  have q1 := dMesh_one o1
  have lt1 := dMesh.lt o1
  have lc1 := c1.1
  have b0 := box_chg b0 c1 (by simp)
  have bR := box_chg bR c1 (by simp)
  have cH := cH.trans c1
  have z2 := Dt.chg0 (T := dClasses) z2 c1
  have z3 := Dt.chg0 (T := dSS) z3 c1
  have z4 := Dt.chg0 (T := dIntS) z4 c1
  have z5 := Dt.chg0 (T := dIntS) z5 c1
  have z6 := Dt.chg0 (T := dSS) z6 c1
  have z7 := Dt.chg0 (T := dSS) z7 c1
  try simp [-vappend_nil, dMesh_val, VM.look, b0, ones]
  refine wp_thn (l15Classes_w u3 u4 A B z2.1.1.rd.isI z2.2.1.rd.isI z2.1.2 z2.2.2) ?_
  rintro _ G2 ⟨n2, rfl, o2, c2, m2, d2⟩
  have q2 := dClasses_one o2
  have lt2 := dClasses.lt o2
  have lc2 := c2.1
  have b0 := box_chg b0 c2 (by simp)
  have bR := box_chg bR c2 (by simp)
  have cH := cH.trans c2
  have z3 := Dt.chg0 (T := dSS) z3 c2
  have z4 := Dt.chg0 (T := dIntS) z4 c2
  have z5 := Dt.chg0 (T := dIntS) z5 c2
  have z6 := Dt.chg0 (T := dSS) z6 c2
  have z7 := Dt.chg0 (T := dSS) z7 c2
  have o1 := Dt.chg0 (T := dMesh) o1 c2
  try simp [-vappend_nil, dClasses_val, VM.look, b0, ones]
  refine wp_thn (l15Lists_w u5 h5 buf z3.1.rd z3.2.1 z3.2.2) ?_
  rintro _ G3 ⟨n3, rfl, o3, c3, m3, d3⟩
  have q3 := dSS_one o3
  have lt3 := dSS.lt o3
  have lc3 := c3.1
  have b0 := box_chg b0 c3 (by simp)
  have bR := box_chg bR c3 (by simp)
  have cH := cH.trans c3
  have z4 := Dt.chg0 (T := dIntS) z4 c3
  have z5 := Dt.chg0 (T := dIntS) z5 c3
  have z6 := Dt.chg0 (T := dSS) z6 c3
  have z7 := Dt.chg0 (T := dSS) z7 c3
  have o1 := Dt.chg0 (T := dMesh) o1 c3
  have o2 := Dt.chg0 (T := dClasses) o2 c3
  try simp [-vappend_nil, show dSS.val n3 buf = n3.1 from rfl, VM.look, b0, ones]
  obtain ⟨n4, L4, hap4, o4, m4⟩ := copy_ints (frz := H.length) u6 own z4.1.rd z4.2
  have c4 : Chg G3 (G3 ++ L4) [] := Chg.app _
  have d4 := ids_nodup n4
  have q4 := dIntS_one o4
  simp [-vappend_nil, hap4, VM.look]
  generalize G3 ++ L4 = G4 at *
  have lt4 := dIntS.lt o4
  have lc4 := c4.1
  have b0 := box_chg b0 c4 (by simp)
  have bR := box_chg bR c4 (by simp)
  have cH := cH.trans c4
  have z5 := Dt.chg0 (T := dIntS) z5 c4
  have z6 := Dt.chg0 (T := dSS) z6 c4
  have z7 := Dt.chg0 (T := dSS) z7 c4
  have o1 := Dt.chg0 (T := dMesh) o1 c4
  have o2 := Dt.chg0 (T := dClasses) o2 c4
  have o3 := Dt.chg0 (T := dSS) o3 c4
  try simp [-vappend_nil, VM.look, b0, ones]
  obtain ⟨n5, L5, hap5, o5, m5⟩ := copy_ints (frz := H.length) u7 turn z5.1.rd z5.2
  have c5 : Chg G4 (G4 ++ L5) [] := Chg.app _
  have d5 := ids_nodup n5
  have q5 := dIntS_one o5
  simp [-vappend_nil, hap5, VM.look]
  generalize G4 ++ L5 = G5 at *
  have lt5 := dIntS.lt o5
  have lc5 := c5.1
  have b0 := box_chg b0 c5 (by simp)
  have bR := box_chg bR c5 (by simp)
  have cH := cH.trans c5
  have z6 := Dt.chg0 (T := dSS) z6 c5
  have z7 := Dt.chg0 (T := dSS) z7 c5
  have o1 := Dt.chg0 (T := dMesh) o1 c5
  have o2 := Dt.chg0 (T := dClasses) o2 c5
  have o3 := Dt.chg0 (T := dSS) o3 c5
  have o4 := Dt.chg0 (T := dIntS) o4 c5
  try simp [-vappend_nil, VM.look, b0, ones]
  refine wp_thn (l15Lists_w u8 h8 src z6.1.rd z6.2.1 z6.2.2) ?_
  rintro _ G6 ⟨n6, rfl, o6, c6, m6, d6⟩
  have q6 := dSS_one o6
  have lt6 := dSS.lt o6
  have lc6 := c6.1
  have b0 := box_chg b0 c6 (by simp)
  have bR := box_chg bR c6 (by simp)
  have cH := cH.trans c6
  have z7 := Dt.chg0 (T := dSS) z7 c6
  have o1 := Dt.chg0 (T := dMesh) o1 c6
  have o2 := Dt.chg0 (T := dClasses) o2 c6
  have o3 := Dt.chg0 (T := dSS) o3 c6
  have o4 := Dt.chg0 (T := dIntS) o4 c6
  have o5 := Dt.chg0 (T := dIntS) o5 c6
  try simp [-vappend_nil, show dSS.val n6 src = n6.1 from rfl, VM.look, b0, ones]
  refine wp_thn (l15Lists_w u9 h9 arr z7.1.rd z7.2.1 z7.2.2) ?_
  rintro _ G7 ⟨n7, rfl, o7, c7, m7, d7⟩
  have q7 := dSS_one o7
  have lt7 := dSS.lt o7
  have lc7 := c7.1
  have b0 := box_chg b0 c7 (by simp)
  have bR := box_chg bR c7 (by simp)
  have cH := cH.trans c7
  have o1 := Dt.chg0 (T := dMesh) o1 c7
  have o2 := Dt.chg0 (T := dClasses) o2 c7
  have o3 := Dt.chg0 (T := dSS) o3 c7
  have o4 := Dt.chg0 (T := dIntS) o4 c7
  have o5 := Dt.chg0 (T := dIntS) o5 c7
  have o6 := Dt.chg0 (T := dSS) o6 c7

  have gR := set_get (r' := ⟨[.int .i64 w, .int .i64 h, n1, n2.1, n2.2, n3.1, n4, n5, n6.1, n7.1, .int .i64 tm], 0, 46⟩) bR
  have eR : Chg G7 (G7.set (H.length + 1) ⟨[.int .i64 w, .int .i64 h, n1, n2.1, n2.2, n3.1, n4, n5, n6.1, n7.1, .int .i64 tm], 0, 46⟩) [H.length + 1] := chg_set _ _
  have o1 := Dt.chg (T := dMesh) o1 eR (fun i hi hh => by have := m1 i hi; simp at hh; omega)
  have o2 := Dt.chg (T := dClasses) o2 eR (fun i hi hh => by have := m2 i hi; simp at hh; omega)
  have o3 := Dt.chg (T := dSS) o3 eR (fun i hi hh => by have := m3 i hi; simp at hh; omega)
  have o4 := Dt.chg (T := dIntS) o4 eR (fun i hi hh => by have := m4 i hi; simp at hh; omega)
  have o5 := Dt.chg (T := dIntS) o5 eR (fun i hi hh => by have := m5 i hi; simp at hh; omega)
  have o6 := Dt.chg (T := dSS) o6 eR (fun i hi hh => by have := m6 i hi; simp at hh; omega)
  have o7 := Dt.chg (T := dSS) o7 eR (fun i hi hh => by have := m7 i hi; simp at hh; omega)
  have cH := cH.trans' eR (fun i hi => .inr (by simp at hi; omega))
  simp [show dSS.val n7 arr = n7.1 from rfl, VM.look, b0, bR, gR, hF, q1, q2, q3, q4, q5, q6, q7]
  refine ⟨(n1, n2, n3, n4, n5, n6, n7, ()), rfl, ⟨o1, o2, o3, o4, o5, o6, o7, trivial⟩, cH, fun i hi => ?_, ?_⟩
  · rcases List.mem_append.1 hi with hi | hi
    · have := m1 i hi; omega
    rcases List.mem_append.1 hi with hi | hi
    · have := m2 i hi; omega
    rcases List.mem_append.1 hi with hi | hi
    · have := m3 i hi; omega
    rcases List.mem_append.1 hi with hi | hi
    · have := m4 i hi; omega
    rcases List.mem_append.1 hi with hi | hi
    · have := m5 i hi; omega
    rcases List.mem_append.1 hi with hi | hi
    · have := m6 i hi; omega
    rcases List.mem_append.1 hi with hi | hi
    · have := m7 i hi; omega
    · simp [dNone] at hi
  · have z7 : (dSS.ids n7 ++ []).Nodup ∧ ∀ i ∈ dSS.ids n7 ++ [], G6.length ≤ i := ⟨by simpa using d7, fun i hi => by simp at hi; have := m7 i hi; omega⟩
    have z6 : (dSS.ids n6 ++ (dSS.ids n7 ++ [])).Nodup ∧ ∀ i ∈ dSS.ids n6 ++ (dSS.ids n7 ++ []), G5.length ≤ i := ⟨nd_app d6 z7.1 lt6 z7.2, fun i hi => by rcases List.mem_append.1 hi with hi | hi; (have := m6 i hi; omega); (have := z7.2 i hi; omega)⟩
    have z5 : (dIntS.ids n5 ++ (dSS.ids n6 ++ (dSS.ids n7 ++ []))).Nodup ∧ ∀ i ∈ dIntS.ids n5 ++ (dSS.ids n6 ++ (dSS.ids n7 ++ [])), G4.length ≤ i := ⟨nd_app d5 z6.1 lt5 z6.2, fun i hi => by rcases List.mem_append.1 hi with hi | hi; (have := m5 i hi; omega); (have := z6.2 i hi; omega)⟩
    have z4 : (dIntS.ids n4 ++ (dIntS.ids n5 ++ (dSS.ids n6 ++ (dSS.ids n7 ++ [])))).Nodup ∧ ∀ i ∈ dIntS.ids n4 ++ (dIntS.ids n5 ++ (dSS.ids n6 ++ (dSS.ids n7 ++ []))), G3.length ≤ i := ⟨nd_app d4 z5.1 lt4 z5.2, fun i hi => by rcases List.mem_append.1 hi with hi | hi; (have := m4 i hi; omega); (have := z5.2 i hi; omega)⟩
    have z3 : (dSS.ids n3 ++ (dIntS.ids n4 ++ (dIntS.ids n5 ++ (dSS.ids n6 ++ (dSS.ids n7 ++ []))))).Nodup ∧ ∀ i ∈ dSS.ids n3 ++ (dIntS.ids n4 ++ (dIntS.ids n5 ++ (dSS.ids n6 ++ (dSS.ids n7 ++ [])))), G2.length ≤ i := ⟨nd_app d3 z4.1 lt3 z4.2, fun i hi => by rcases List.mem_append.1 hi with hi | hi; (have := m3 i hi; omega); (have := z4.2 i hi; omega)⟩
    have z2 : (dClasses.ids n2 ++ (dSS.ids n3 ++ (dIntS.ids n4 ++ (dIntS.ids n5 ++ (dSS.ids n6 ++ (dSS.ids n7 ++ [])))))).Nodup ∧ ∀ i ∈ dClasses.ids n2 ++ (dSS.ids n3 ++ (dIntS.ids n4 ++ (dIntS.ids n5 ++ (dSS.ids n6 ++ (dSS.ids n7 ++ []))))), G1.length ≤ i := ⟨nd_app d2 z3.1 lt2 z3.2, fun i hi => by rcases List.mem_append.1 hi with hi | hi; (have := m2 i hi; omega); (have := z3.2 i hi; omega)⟩
    exact nd_app d1 z2.1 lt1 z2.2
end Go.Proofs.YtcigpclbhfkgaaaGreat.V
/-! Tables: the walks. -/
set_option linter.all false
namespace Go.Proofs.YtcigpclbhfkgaaaGreat.V
open Go Go.VM Go.Proofs
set_option maxRecDepth 10000
variable {frz : Nat} {H : Heap}
theorem sWalk_c (w h : Int) (v u : Value) (b T : List Int) (a to : Int) (hI : IsI H v b) (hT : IsI H u T) (hl : b.length ≤ 1073741824) (hz : tsized w h b T) (ha : isN w h a) (hto : isN w h to) :
   vcall C frz 223 [.agg #[.int .i64 w, .int .i64 h, v], .agg #[u], .int .i64 a, .int .i64 to] H =
    some (.slice (some ⟨H.length, 0, some 0⟩) (walk w h b T a to).length 0, H ++ [⟨(walk w h b T a to).map (.int .i64), 0, 3⟩]) := by
  rw [vcall_go (fn := Tryz.f223) Tryz.func223 rfl (by kernel_rfl) rfl]
  simp [hI.one', hI.cells, hT.one', hT.cells, sNodeCount_c]
  have hc := cnt_range w h
  refine go_inv (fun n t H' => ∃ (o : List Int) (g : Nat) (x : Int) (G : Heap), n = (cnt w h).toNat + 1 - o.length ∧ t 3 = .int .i64 to ∧ t 4 = .pointer (some ⟨H.length, 0, some 0⟩) ∧ t 5 = .pointer (some ⟨H.length + 1, 0, some 0⟩) ∧
    t 9 = .slice (some ⟨H.length + 2, 0, some g⟩) o.length 0 ∧ t 10 = .int .i64 (cnt w h) ∧ t 11 = .int .i64 x ∧
    H' = H ++ ⟨[.int .i64 w, .int .i64 h, v], 0, 40⟩ :: ⟨[u], 0, 41⟩ :: ⟨o.map (.int .i64), g, 3⟩ :: G ∧
    ((o.length ≤ (cnt w h).toNat ∧ isN w h x ∧ walkN w h b T to ((cnt w h).toNat - o.length) x o = walk w h b T a to) ∨ (o.length = (cnt w h).toNat + 1 ∧ walk w h b T a to = []))) ?_
    (n := (cnt w h).toNat + 1) ⟨[], 0, a, [], by simp [ha, walk]⟩
  rintro n t H' ⟨o, g, x, G, rfl, h3, h4, h5, h9, h10, h11, rfl, ho⟩ ih
  simp [h3, h4, h5, h9, h10, h11]
  refine br_dec _ ?_ ?_ <;> intro hn
  · obtain ⟨ho1, hx, hw⟩ : o.length ≤ (cnt w h).toNat ∧ isN w h x ∧ walkN w h b T to ((cnt w h).toNat - o.length) x o = walk w h b T a to := by
      rcases ho with ho | ho
      · exact ho
      · omega
    obtain ⟨k0, k1, k2, k3⟩ := at_small hx hto
    have hTl := hz.2
    have e1 : IntKind.i64.wrap (x * cnt w h) = x * cnt w h := w64 (by omega) (by omega)
    have e2 : IntKind.i64.wrap (x * cnt w h + to) = x * cnt w h + to := w64 (by omega) (by have := hto.2; omega)
    have q1 : ∀ L, vindexAddr Tryz.prog (H ++ L) 24 u (.int .i64 (x * cnt w h + to)) = some (elp u (x * cnt w h + to).toNat) := fun L => hT.idxA (e := 3) (by simp) k0 (by omega)
    have q2 : ∀ L, vload Tryz.prog (H ++ L) 3 (elp u (x * cnt w h + to).toNat) = some (.int .i64 (portOf w h T x to)) := fun L => hT.loadA (by simp) (by omega)
    simp [h3, h4, h5, h9, h10, h11, e1, e2, q1, q2]
    refine br_dec _ ?_ ?_ <;> intro hp
    · have hw' : walk w h b T a to = if x = to then o else [] := by
        rw [← hw]; cases (cnt w h).toNat - o.length <;> simp [walkN, hp]
      simp [h3, h4, h5, h9, h10, h11, hp]
      refine br_dec _ ?_ ?_ <;> intro hq
      · simp [h3, h4, h5, h9, h10, h11, hq] at hw' ⊢
        simp [hw']
      · simp [h3, h4, h5, h9, h10, h11, hq] at hw' ⊢
        simp [hw']
    · simp [h3, h4, h5, h9, h10, h11, hp]
      have hw0 : ¬ stepOk w h b T x to → walk w h b T a to = [] := fun hh => by
        rw [← hw]; cases (cnt w h).toNat - o.length <;> simp [walkN, hp, hh]
      have e3 : IntKind.i64.wrap (4 * x) = 4 * x := w64 (by have := hx.1; omega) (by have := hx.2; omega)
      simp [l01In_c]
      refine gd_dec _ _ ?_ ?_ <;> intro hr
      · have e4 : IntKind.i64.wrap (4 * x + portOf w h T x to) = 4 * x + portOf w h T x to := w64 (by have := hx.1; have := hr.1; omega) (by have := hx.2; have := hr.2; omega)
        simp [h3, h4, h5, h9, h10, h11, hp, hr, e3, e4, l03Has_c _ _ _ _ _ (hI.app _) hl, hI.one', hI.cells]
        refine br_dec _ ?_ ?_ <;> intro hh
        · simp [h3, h4, h5, h9, h10, h11, hp, hr, hh, e3, e4, sNextNode_c, hI.one', hI.cells]
          obtain ⟨s1, s2, s3⟩ := step_next hr hh
          refine vneed_eq (by omega) ?_
          refine ih ((cnt w h).toNat + 1 - (o.length + 1)) _ _ ⟨o ++ [4 * x + portOf w h T x to], g + 1, next w h x (portOf w h T x to), _, by simp, by simp [h3], by simp [h4], by simp [h5], by simp, by simp [h10], by simp, by simp; rfl, ?_⟩ (by omega)
          by_cases hlt : o.length < (cnt w h).toNat
          · refine .inl ⟨by simp; omega, s3, ?_⟩
            rw [show (cnt w h).toNat - o.length = ((cnt w h).toNat - (o ++ [4 * x + portOf w h T x to]).length) + 1 by simp; omega] at hw
            rw [← hw, walkN, if_neg hp, if_pos ⟨hr, hh⟩]
          · refine .inr ⟨by simp; omega, ?_⟩
            rw [show (cnt w h).toNat - o.length = 0 by omega] at hw
            rw [← hw, walkN, if_neg hp]
        · have hw2 := hw0 (fun k => hh k.2)
          simp [h3, h4, h5, h9, h10, h11, hp, hr, hh, e3, e4, hw2]
      · have hw2 := hw0 (fun k => hr k.1)
        simp [h3, h4, h5, h9, h10, h11, hp, hr, hw2]
  · have hw2 : walk w h b T a to = [] := by
      rcases ho with ho | ho
      · omega
      · exact ho.2
    simp [h3, h4, h5, h9, h10, h11, hn, hw2]
end Go.Proofs.YtcigpclbhfkgaaaGreat.V
/-! Tables: the program's own walk. -/
set_option linter.all false
namespace Go.Proofs.YtcigpclbhfkgaaaGreat.V
open Go Go.VM Go.Proofs
set_option maxRecDepth 10000
variable {frz : Nat} {H : Heap}
theorem portAt_c (w h : Int) (v u : Value) (b T : List Int) (a to : Int) (hI : IsI H v b) (hT : IsI H u T) (hl : b.length ≤ 1073741824) (hz : tsized w h b T) (ha : isN w h a) (hto : isN w h to) :
   vcall C frz 253 [.agg #[.int .i64 w, .int .i64 h, v], .agg #[u], .int .i64 a, .int .i64 to] H =
    some (.int .i64 (if inR 0 (portOf w h T a to) 4 then portOf w h T a to else -1), H) := by
  rw [vcall_go (fn := Tryz.f253) Tryz.func253 rfl (by kernel_rfl) rfl]
  have hc := cnt_range w h
  obtain ⟨k0, k1, k2, k3⟩ := at_small ha hto
  have hTl := hz.2
  have hc2 : cnt w h * cnt w h ≤ 16 * 16 := Int.mul_le_mul hc.2 hc.2 hc.1 (by omega)
  have hc3 : 0 * 0 ≤ cnt w h * cnt w h := Int.mul_le_mul hc.1 hc.1 (by omega) hc.1
  have e0 : IntKind.i64.wrap (cnt w h * cnt w h) = cnt w h * cnt w h := w64 (by omega) (by omega)
  have e1 : IntKind.i64.wrap (a * cnt w h) = a * cnt w h := w64 (by omega) (by omega)
  have e2 : IntKind.i64.wrap (a * cnt w h + to) = a * cnt w h + to := w64 (by omega) (by have := hto.2; omega)
  have q1 : ∀ L, vindexAddr Tryz.prog (H ++ L) 24 u (.int .i64 (a * cnt w h + to)) = some (elp u (a * cnt w h + to).toNat) := fun L => hT.idxA (e := 3) (by simp) k0 (by omega)
  have q2 : ∀ L, vload Tryz.prog (H ++ L) 3 (elp u (a * cnt w h + to).toNat) = some (.int .i64 (portOf w h T a to)) := fun L => hT.loadA (by simp) (by omega)
  simp [hI.one', hI.cells, hT.one', hT.cells, nodeCount_c, meshOk_c _ _ _ _ (hI.app _) hl, hz.1, inside_c, isN_inR, ha, hto, e0, e1, e2, q1, q2, hT.lenA, hTl]
  try refine br_dec _ ?_ ?_ <;> intro hr <;> simp [hr, q1, q2, e1, e2]
/-- what the program's walk gives back -/
def ret (H : Heap) (xs : List Int) : Value × Heap := if xs = [] then (.slice none 0 0, H) else (.slice (some ⟨H.length, 0, some 0⟩) xs.length 0, H ++ [⟨xs.map (.int .i64), 0, 3⟩])
theorem walk_c (w h : Int) (v u : Value) (b T : List Int) (a to : Int) (hI : IsI H v b) (hT : IsI H u T) (hl : b.length ≤ 1073741824) (hz : tsized w h b T) (ha : isN w h a) (hto : isN w h to) (hne : a ≠ to) :
   vcall C frz 228 [.agg #[.int .i64 w, .int .i64 h, v], .agg #[u], .int .i64 a, .int .i64 to] H = some (ret H (walk w h b T a to)) := by
  rw [vcall_go (fn := Tryz.f228) Tryz.func228 rfl (by kernel_rfl) rfl]
  have hc := cnt_range w h
  simp [hI.one', hI.cells, hT.one', hT.cells, nodeCount_c, meshOk_c _ _ _ _ (hI.app _) hl, hz.1, isNode_c, ha, hto, hne]
  refine go_inv (fun n t H' => ∃ (o : List Int) (g : Nat) (x : Int) (G : Heap), n = (cnt w h).toNat + 1 - o.length ∧ t 3 = .int .i64 to ∧ t 4 = .pointer (some ⟨H.length, 0, some 0⟩) ∧ t 5 = .pointer (some ⟨H.length + 1, 0, some 0⟩) ∧
    t 9 = .slice (some ⟨H.length + 2, 0, some g⟩) o.length 0 ∧ t 10 = .int .i64 x ∧
    H' = H ++ ⟨[.int .i64 w, .int .i64 h, v], 0, 40⟩ :: ⟨[u], 0, 41⟩ :: ⟨o.map (.int .i64), g, 3⟩ :: G ∧
    o.length ≤ (cnt w h).toNat ∧ isN w h x ∧ walkN w h b T to ((cnt w h).toNat - o.length) x o = walk w h b T a to ∧ (o = [] → x ≠ to)) ?_
    (n := (cnt w h).toNat + 1) ⟨[], 0, a, [], by simp [ha, walk, hne]⟩
  rintro n t H' ⟨o, g, x, G, rfl, h3, h4, h5, h9, h10, rfl, ho1, hx, hw, hox⟩ ih
  have hpa := fun F L => portAt_c (frz := F) (H := H ++ L) w h v u b T x to (hI.app _) (hT.app _) hl hz hx hto
  have hw0 : portOf w h T x to ≠ 4 → ¬ stepOk w h b T x to → walk w h b T a to = [] := fun hp hh => by
    rw [← hw]; cases (cnt w h).toNat - o.length <;> simp [walkN, hp, hh]
  simp [h3, h4, h5, h9, h10, hI.one', hI.cells, hT.one', hT.cells, hpa]
  have hnil : walk w h b T a to = [] → (Value.slice none 0 0, H) = ret H (walk w h b T a to) := fun hh => by rw [hh]; rfl
  by_cases hr : inR 0 (portOf w h T x to) 4
  · have hlt : ¬ portOf w h T x to < 0 := by have := hr.1; omega
    simp [hr, hlt]
    refine br_dec _ ?_ ?_ <;> intro hp
    · have hw' : walk w h b T a to = if x = to then o else [] := by
        rw [← hw]; cases (cnt w h).toNat - o.length <;> simp [walkN, hp]
      simp [h3, h4, h5, h9, h10, hp]
      refine br_dec _ ?_ ?_ <;> intro hq
      · have hon : o ≠ [] := fun hh => hox hh hq
        rw [if_pos hq] at hw'
        simp [h3, h4, h5, h9, h10, hq, hw', ret, hon]
      · rw [if_neg hq] at hw'
        simp [h3, h4, h5, h9, h10, hq, hw', ret]
    · have hr3 : inR 0 (portOf w h T x to) 3 := ⟨hr.1, by have := hr.2; omega⟩
      have e3 : IntKind.i64.wrap (4 * x) = 4 * x := w64 (by have := hx.1; omega) (by have := hx.2; omega)
      have e4 : IntKind.i64.wrap (4 * x + portOf w h T x to) = 4 * x + portOf w h T x to := w64 (by have := hx.1; have := hr.1; omega) (by have := hx.2; have := hr.2; omega)
      simp [h3, h4, h5, h9, h10, hp, hI.one', hI.cells, e3, e4, hasChannel_c _ _ _ _ _ (hI.app _) hl, hz.1]
      refine gd_dec _ _ ?_ ?_ <;> intro hh
      · obtain ⟨s1, s2, s3⟩ := step_next hr3 hh
        have he := fun F L => endOf_c (frz := F) (H := H ++ L) w h v b (4 * x + portOf w h T x to) (hI.app _) hh.1
        rw [s1, s2] at he
        simp [h3, h4, h5, h9, h10, hp, hh, hI.one', hI.cells, e3, e4, nodeCount_c]
        refine br_dec _ ?_ ?_ <;> intro hf
        · have hwz : walk w h b T a to = [] := by
            rw [show (cnt w h).toNat - o.length = 0 by omega] at hw
            rw [← hw, walkN, if_neg hp]
          simp [h3, h4, h5, h9, h10, hp, hh, hf, hnil hwz]
        · simp [h3, h4, h5, h9, h10, hp, hh, hf, hI.one', hI.cells, e3, e4]
          refine vneed_eq (by omega) ?_
          simp [h3, h4, h5, h9, h10, hp, hh, hf, hI.one', hI.cells, e3, e4, he]
          refine ih ((cnt w h).toNat + 1 - (o.length + 1)) _ _ ⟨o ++ [4 * x + portOf w h T x to], g + 1, next w h x (portOf w h T x to), _, by simp, by simp [h3], by simp [h4], by simp [h5], by simp, by simp, by simp; rfl, by simp; omega, s3, ?_, by simp⟩ (by omega)
          rw [show (cnt w h).toNat - o.length = ((cnt w h).toNat - (o ++ [4 * x + portOf w h T x to]).length) + 1 by simp; omega] at hw
          rw [← hw, walkN, if_neg hp, if_pos ⟨hr3, hh⟩]
      · simp [h3, h4, h5, h9, h10, hp, hh]
        exact hnil (hw0 hp (fun hs => hh hs.2))
  · simp [hr]
    refine hnil (hw0 (fun hp => hr ?_) fun hs => hr ⟨hs.1.1, by have := hs.1.2; omega⟩)
    rw [hp]; exact ⟨by omega, by omega⟩
end Go.Proofs.YtcigpclbhfkgaaaGreat.V
/-! Tables that are valid. -/
set_option linter.all false
namespace Go.Proofs.YtcigpclbhfkgaaaGreat.V
open Go Go.VM Go.Proofs
set_option maxRecDepth 10000
variable {frz : Nat} {H : Heap}
theorem sq_small (w h : Int) : IntKind.i64.wrap (cnt w h * cnt w h) = cnt w h * cnt w h := by
  have hc := cnt_range w h
  have hc2 : cnt w h * cnt w h ≤ 16 * 16 := Int.mul_le_mul hc.2 hc.2 hc.1 (by omega)
  have hc3 : 0 * 0 ≤ cnt w h * cnt w h := Int.mul_le_mul hc.1 hc.1 (by omega) hc.1
  exact w64 (by omega) (by omega)
theorem sized_c (w h : Int) (v u : Value) (b T : List Int) (hI : IsI H v b) (hT : IsI H u T) (hl : b.length ≤ 1073741824) :
   vcall C frz 222 [.agg #[.int .i64 w, .int .i64 h, v], .agg #[u]] H = some (.bool (decide (tsized w h b T)), H) := by
  rw [vcall_go (fn := Tryz.f222) Tryz.func222 rfl (by kernel_rfl) rfl]
  simp [hI.one', hI.cells, hT.one', hT.cells, sNodeCount_c, sMeshOk_c _ _ _ _ (hI.app _) hl]
  refine gd_dec _ _ ?_ ?_ <;> intro h1 <;> simp [h1, tsized, hT.lenA, sq_small, hI.one', hI.cells, hT.one', hT.cells, sNodeCount_c, -Bool.decide_and]
def good (w h : Int) (b T : List Int) (a c : Nat) : Prop := ((a : Int) = c → portOf w h T a a = 4) ∧ ((a : Int) ≠ c → walk w h b T a c ≠ [])
theorem tableOk_iff (w h : Int) (b T : List Int) : tableOk w h b T ↔ tsized w h b T ∧ ∀ a, a < (cnt w h).toNat → ∀ c, c < (cnt w h).toNat → good w h b T a c := by
  unfold tableOk good
  refine and_congr Iff.rfl ⟨fun k a ha c hc => ?_, fun k a ha c hc => ?_⟩
  · exact ⟨fun e => (k a ha c hc).1 (by omega), fun e => (k a ha c hc).2 (by omega)⟩
  · exact ⟨fun e => (k a ha c hc).1 (by omega), fun e => (k a ha c hc).2 (by omega)⟩
theorem isN_nat {w h : Int} {a : Nat} (k : a < (cnt w h).toNat) : isN w h a := ⟨by omega, by omega⟩
theorem sTableOk_c (w h : Int) (v u : Value) (b T : List Int) (hI : IsI H v b) (hT : IsI H u T) (hl : b.length ≤ 1073741824) :
   vcall C frz 175 [.agg #[.int .i64 w, .int .i64 h, v], .agg #[u]] H = some (.bool (decide (tableOk w h b T)), H) := by
  rw [vcall_go (fn := Tryz.f175) Tryz.func175 rfl (by kernel_rfl) rfl]
  simp [hI.one', hI.cells, hT.one', hT.cells, sNodeCount_c, sized_c _ _ _ _ _ _ (hI.app _) (hT.app _) hl]
  refine br_dec _ ?_ ?_ <;> intro h1
  · simp [h1, hI.one', hI.cells, hT.one', hT.cells, sNodeCount_c]
    have hc := cnt_range w h
    have no : ∀ i j : Nat, i < (cnt w h).toNat → j < (cnt w h).toNat → ¬ good w h b T i j → ¬ tableOk w h b T := fun i j hi hj hg hh => hg (((tableOk_iff w h b T).1 hh).2 i hi j hj)
    refine go_inv (fun n t H' => ∃ (i : Nat) (G : Heap), n = (cnt w h).toNat - i ∧ i ≤ (cnt w h).toNat ∧ t 2 = .pointer (some ⟨H.length, 0, some 0⟩) ∧ t 3 = .pointer (some ⟨H.length + 1, 0, some 0⟩) ∧
      t 5 = .int .i64 (cnt w h) ∧ t 6 = .int .i64 i ∧ H' = H ++ ⟨[.int .i64 w, .int .i64 h, v], 0, 40⟩ :: ⟨[u], 0, 41⟩ :: G ∧ ∀ a, a < i → ∀ c, c < (cnt w h).toNat → good w h b T a c) ?_
      (n := (cnt w h).toNat) ⟨0, [], by simp⟩
    rintro n t H' ⟨i, G, rfl, hi, h2, h3, h5, h6, rfl, hk⟩ ih
    simp [h2, h3, h5, h6]
    refine br_dec _ ?_ ?_ <;> intro hlt
    · simp [h2, h3, h5, h6, hlt]
      refine go_inv (fun n t H' => ∃ (j : Nat) (G : Heap), n = (cnt w h).toNat - j ∧ j ≤ (cnt w h).toNat ∧ t 2 = .pointer (some ⟨H.length, 0, some 0⟩) ∧ t 3 = .pointer (some ⟨H.length + 1, 0, some 0⟩) ∧
        t 5 = .int .i64 (cnt w h) ∧ t 6 = .int .i64 i ∧ t 7 = .int .i64 j ∧ H' = H ++ ⟨[.int .i64 w, .int .i64 h, v], 0, 40⟩ :: ⟨[u], 0, 41⟩ :: G ∧ ∀ c, c < j → good w h b T i c) ?_
        (n := (cnt w h).toNat) ⟨0, G, by simp [h2, h3, h5, h6]⟩
      clear h2 h3 h5 h6
      rintro n t H' ⟨j, G, rfl, hj, h2, h3, h5, h6, h7, rfl, hkj⟩ ih2
      simp [h2, h3, h5, h6, h7]
      refine br_dec _ ?_ ?_ <;> intro hlj
      · have ni : i < (cnt w h).toNat := by omega
        have nj : j < (cnt w h).toNat := by omega
        obtain ⟨k0, k1, k2, k3⟩ := at_small (isN_nat ni) (isN_nat ni)
        have hTl := h1.2
        have e1 : IntKind.i64.wrap (i * cnt w h) = i * cnt w h := w64 (by omega) (by omega)
        have e2 : IntKind.i64.wrap (i * cnt w h + i) = i * cnt w h + i := w64 (by omega) (by omega)
        have q1 : ∀ L, vindexAddr Tryz.prog (H ++ L) 24 u (.int .i64 (i * cnt w h + i)) = some (elp u (i * cnt w h + i : Int).toNat) := fun L => hT.idxA (e := 3) (by simp) k0 (by omega)
        have q2 : ∀ L, vload Tryz.prog (H ++ L) 3 (elp u (i * cnt w h + i : Int).toNat) = some (.int .i64 (portOf w h T i i)) := fun L => hT.loadA (by simp) (by omega)
        have sw := fun F L => sWalk_c (frz := F) (H := H ++ L) w h v u b T i j (hI.app _) (hT.app _) hl h1 (isN_nat ni) (isN_nat nj)
        have yes := fun (t' : Env) (G' : Heap) (x2 : t' 2 = .pointer (some ⟨H.length, 0, some 0⟩)) (x3 : t' 3 = .pointer (some ⟨H.length + 1, 0, some 0⟩)) (x5 : t' 5 = .int .i64 (cnt w h)) (x6 : t' 6 = .int .i64 i) (x7 : t' 7 = .int .i64 (j + 1 : Nat)) (hg : good w h b T i j) =>
          ih2 ((cnt w h).toNat - (j + 1)) t' _ ⟨j + 1, G', rfl, by omega, x2, x3, x5, x6, x7, rfl, fun c hc' => by
            by_cases hcj : c < j
            · exact hkj c hcj
            · have : c = j := by omega
              subst this; exact hg⟩ (by omega)
        simp [h2, h3, h5, h6, h7, hlj]
        refine gd_dec _ _ ?_ ?_ <;> intro hij
        · obtain rfl : i = j := by omega
          simp [h2, h3, h5, h6, h7, hlj, e1, e2, q1, q2]
          refine gd_dec _ _ ?_ ?_ <;> intro hp
          · simp [h2, h3, h5, h6, h7, hlj, hp]
            refine yes _ _ (by simp [h2]) (by simp [h3]) (by simp [h5]) (by simp [h6]) ?_ ⟨fun _ => hp, fun hh => absurd rfl hh⟩
            simp; rw [w64 (by omega) (by omega)]
          · simp [h2, h3, h5, h6, h7, hlj, hp]
            exact no i i ni ni (fun hg => hp (hg.1 rfl))
        · simp [h2, h3, h5, h6, h7, hlj, hij, hI.one', hI.cells, hT.one', hT.cells, sw]
          refine br_dec _ ?_ ?_ <;> intro hp
          · simp [h2, h3, h5, h6, h7, hlj, hp]
            exact no i j ni nj (fun hg => hg.2 hij hp)
          · simp [h2, h3, h5, h6, h7, hlj, hp]
            refine yes _ _ (by simp [h2]) (by simp [h3]) (by simp [h5]) (by simp [h6]) ?_ ⟨fun hh => absurd hh hij, fun _ => hp⟩
            simp; rw [w64 (by omega) (by omega)]
      · have : j = (cnt w h).toNat := by omega
        subst this
        simp [h2, h3, h5, h6, h7, hlj]
        refine ih ((cnt w h).toNat - (i + 1)) _ _ ⟨i + 1, G, rfl, by omega, by simp [h2], by simp [h3], by simp [h5], ?_, rfl, fun a ha c hc' => ?_⟩ (by omega)
        · simp; rw [w64 (by omega) (by omega)]
        · by_cases hai : a < i
          · exact hk a hai c hc'
          · have : a = i := by omega
            subst this; exact hkj c hc'
    · simp [h2, h3, h5, h6, hlt]
      have : i = (cnt w h).toNat := by omega
      subst this
      exact (tableOk_iff w h b T).2 ⟨h1, hk⟩
  · simp [h1]
    exact fun k => h1 k.1
theorem areInside_c (v : Value) (xs : List Int) (lo hi : Int) (hI : IsI H v xs) (hl : xs.length ≤ 1073741824) :
   vcall C frz 145 [v, .int .i64 lo, .int .i64 hi] H = some (.bool (decide (∀ x ∈ xs, inR lo x hi)), H) := by
  rw [vcall_go (fn := Tryz.f145) Tryz.func145 rfl (by kernel_rfl) rfl]
  simp [hI.len]
  refine go_inv (fun n t H' => ∃ i : Nat, n = xs.length - i ∧ i ≤ xs.length ∧ t 1 = .int .i64 lo ∧ t 2 = .int .i64 hi ∧ t 9 = v ∧ t 10 = .int .i64 xs.length ∧ t 11 = .int .i64 i ∧ H' = H ∧ ∀ x ∈ xs.take i, inR lo x hi) ?_ (n := xs.length) ⟨0, by simp⟩
  rintro n t H' ⟨i, rfl, hi', h1, h2, h3, h4, h5, rfl, hj⟩ ih
  simp [h1, h2, h3, h4, h5]
  refine br_dec _ ?_ ?_ <;> intro h6
  · simp [h1, h2, h3, h4, h5, h6, hI.idx, hI.load, getD_get, inside_c]
    refine br_dec _ ?_ ?_ <;> intro h7 <;> simp [h1, h2, h3, h4, h5, h6, h7]
    · refine ih (xs.length - (i + 1)) _ _ ⟨i + 1, rfl, by omega, by simp [h1], by simp [h2], by simp [h3], by simp [h4], ?_, rfl, fun x hx => ?_⟩ (by omega)
      · simp; rw [w64 (by omega) (by omega)]
      · rw [List.take_succ_eq_append_getElem h6] at hx
        rcases List.mem_append.1 hx with hx | hx
        · exact hj x hx
        · rw [List.mem_singleton.1 hx]; exact h7
    · exact ⟨_, List.getElem_mem h6, h7⟩
  · have : i = xs.length := by omega
    subst this
    simp [h1, h2, h3, h4, h5]
    rwa [List.take_length] at hj
def rowPairs (n a m : Nat) : List (Nat × Nat) := ((List.range m).filter (fun c => a ≠ c)).map fun c => (a, c)
/-- the pairs in the order of the visits -/
def allPairs (n m : Nat) : List (Nat × Nat) := (List.range m).flatMap fun a => rowPairs n a n
theorem rowPairs_eq (n a m : Nat) (h : a = m) : rowPairs n a (m + 1) = rowPairs n a m := by
  simp [rowPairs, List.range_succ, h]
theorem rowPairs_ne (n a m : Nat) (h : a ≠ m) : rowPairs n a (m + 1) = rowPairs n a m ++ [(a, m)] := by
  simp [rowPairs, List.range_succ, h]
theorem allPairs_succ (n m : Nat) : allPairs n (m + 1) = allPairs n m ++ rowPairs n m n := by
  simp [allPairs, List.range_succ]
theorem mem_allPairs {n a c : Nat} : (a, c) ∈ allPairs n n ↔ a < n ∧ c < n ∧ a ≠ c := by
  simp [allPairs, rowPairs]
theorem pairs_w (w h : Int) (f : Value) {Q : Value → Heap → Prop} (Inv : List (Nat × Nat) → Heap → Prop)
    (h0 : Inv [] (H ++ [⟨[.int .i64 w, .int .i64 h], 0, 38⟩]))
    (hs : ∀ (done : List (Nat × Nat)) (a c : Nat) (H' : Heap), a < (cnt w h).toNat → c < (cnt w h).toNat → a ≠ c → Inv done H' → wp (vclos (vcall C frz) f [.int .i64 a, .int .i64 c] H') fun r H'' => (r = .bool true ∧ Inv (done ++ [(a, c)]) H'') ∨ (r = .bool false ∧ Q (.bool false) H''))
    (he : ∀ H', Inv (allPairs (cnt w h).toNat (cnt w h).toNat) H' → Q (.bool true) H') :
    wp (vcall C frz 226 [.agg #[.int .i64 w, .int .i64 h], f] H) Q := by
  rw [vcall_go (fn := Tryz.f226) Tryz.func226 rfl (by kernel_rfl) rfl]
  have hc := cnt_range w h
  simp [nodeCount_c]
  refine wp_inv (fun n t H' => ∃ (i : Nat), n = (cnt w h).toNat - i ∧ i ≤ (cnt w h).toNat ∧ t 1 = f ∧ t 5 = .int .i64 (cnt w h) ∧ t 10 = .int .i64 (cnt w h) ∧ t 11 = .int .i64 i ∧
    Inv (allPairs (cnt w h).toNat i) H') ?_ (n := (cnt w h).toNat) ⟨0, by simp [allPairs, h0]⟩
  rintro n t H' ⟨i, rfl, hi, h1, h5, h10, h11, hk⟩ ih
  simp [h1, h5, h10, h11]
  refine wp_dec ?_ ?_ <;> intro hlt
  · simp [h1, h5, h10, h11, hlt]
    refine wp_inv (fun n t H' => ∃ (j : Nat), n = (cnt w h).toNat - j ∧ j ≤ (cnt w h).toNat ∧ t 1 = f ∧ t 5 = .int .i64 (cnt w h) ∧ t 10 = .int .i64 (cnt w h) ∧ t 11 = .int .i64 i ∧ t 6 = .int .i64 i ∧ t 14 = .int .i64 (cnt w h) ∧ t 15 = .int .i64 j ∧
      Inv (allPairs (cnt w h).toNat i ++ rowPairs (cnt w h).toNat i j) H') ?_ (n := (cnt w h).toNat) ⟨0, by simp [h1, h5, h10, h11, rowPairs, hk]⟩
    clear h1 h5 h10 h11 hk
    rintro n t H' ⟨j, rfl, hj, h1, h5, h10, h11, h6, h14, h15, hk⟩ ih2
    simp [h1, h5, h10, h11, h6, h14, h15]
    refine wp_dec ?_ ?_ <;> intro hlj
    · have ni : i < (cnt w h).toNat := by omega
      have nj : j < (cnt w h).toNat := by omega
      have yes := fun (t' : Env) (H' : Heap) (x1 : t' 1 = f) (x5 : t' 5 = .int .i64 (cnt w h)) (x10 : t' 10 = .int .i64 (cnt w h)) (x11 : t' 11 = .int .i64 i) (x6 : t' 6 = .int .i64 i) (x14 : t' 14 = .int .i64 (cnt w h)) (x15 : t' 15 = .int .i64 (j + 1 : Nat)) (hg : Inv (allPairs (cnt w h).toNat i ++ rowPairs (cnt w h).toNat i (j + 1)) H') =>
        ih2 ((cnt w h).toNat - (j + 1)) t' H' ⟨j + 1, rfl, by omega, x1, x5, x10, x11, x6, x14, x15, hg⟩ (by omega)
      simp [h1, h5, h10, h11, h6, h14, h15, hlj]
      refine wpg_dec ?_ ?_ <;> intro hij
      · simp [h1, h5, h10, h11, h6, h14, h15, hlj, hij]
        refine yes _ _ (by simp [h1]) (by simp [h5]) (by simp [h10]) (by simp [h11]) (by simp [h6]) (by simp [h14]) ?_ (by rw [rowPairs_eq _ _ _ (by omega)]; exact hk)
        simp; rw [w64 (by omega) (by omega)]
      · simp [h1, h5, h10, h11, h6, h14, h15, hlj, hij]
        refine wp_thn (hs _ i j H' ni nj (by omega) hk) ?_
        rintro r H'' (⟨rfl, hq⟩ | ⟨rfl, hq⟩)
        · simp [h1, h5, h10, h11, h6, h14, h15, hlj, hij]
          refine yes _ _ (by simp [h1]) (by simp [h5]) (by simp [h10]) (by simp [h11]) (by simp [h6]) (by simp [h14]) ?_ (by rw [rowPairs_ne _ _ _ (by omega), ← List.append_assoc]; exact hq)
          simp; rw [w64 (by omega) (by omega)]
        · simp [h1, h5, h10, h11, h6, h14, h15, hlj, hij]
          exact hq
    · have : j = (cnt w h).toNat := by omega
      subst this
      simp [h1, h5, h10, h11, h6, h14, h15, hlj]
      refine ih ((cnt w h).toNat - (i + 1)) _ _ ⟨i + 1, rfl, by omega, by simp [h1], by simp [h5], by simp [h10], ?_, by rw [allPairs_succ]; exact hk⟩ (by omega)
      · simp; rw [w64 (by omega) (by omega)]
  · simp [h1, h5, h10, h11, hlt]
    have : i = (cnt w h).toNat := by omega
    subst this
    exact he _ hk
theorem tableOk1_c (w h : Int) (v u : Value) (b T : List Int) (a c : Int) (r1 r2 : Nat) (hI : IsI H v b) (hT : IsI H u T) (hl : b.length ≤ 1073741824) (hz : tsized w h b T) (ha : isN w h a) (hto : isN w h c) (hne : a ≠ c)
    (g1 : H[r1]? = some ⟨[.int .i64 w, .int .i64 h, v], 0, 40⟩) (g2 : H[r2]? = some ⟨[u], 0, 41⟩) :
   vcall C frz 227 [.int .i64 a, .int .i64 c, .pointer (some ⟨r1, 0, some 0⟩), .pointer (some ⟨r2, 0, some 0⟩)] H = some (.bool (!decide (walk w h b T a c = [])), H) := by
  rw [vcall_go (fn := Tryz.f227) Tryz.func227 rfl (by kernel_rfl) rfl]
  simp [VM.look, g1, g2, hI.one', hI.cells, hT.one', hT.cells, walk_c _ _ _ _ _ _ _ _ hI hT hl hz ha hto hne]
  by_cases hw : walk w h b T a c = []
  · simp [ret, hw]
  · have : 0 < (walk w h b T a c).length := List.length_pos_iff.2 hw
    simp [ret, hw, this]
theorem tableOk_w (w h : Int) (v u : Value) (b T : List Int) (hI : IsI H v b) (hT : IsI H u T) (hl : b.length ≤ 1073741824) :
   wp (vcall C frz 184 [.agg #[.int .i64 w, .int .i64 h, v], .agg #[u]] H) (fun r _ => r = .bool (decide (tableOk w h b T))) := by
  rw [vcall_go (fn := Tryz.f184) Tryz.func184 rfl (by kernel_rfl) rfl]
  simp [hI.one', hI.cells, hT.one', hT.cells, nodeCount_c, meshOk_c _ _ _ _ (hI.app _) hl]
  refine wpg_dec ?_ ?_ <;> intro hm
  · simp [hm, hT.lenA, sq_small]
    refine wp_dec ?_ ?_ <;> intro hz
    · simp [hz]
      have hs : tsized w h b T := ⟨hm, hz⟩
      have hc := cnt_range w h
      refine wp_inv (fun n t H' => ∃ (i : Nat), n = (cnt w h).toNat - i ∧ i ≤ (cnt w h).toNat ∧ t 2 = .pointer (some ⟨H.length, 0, some 0⟩) ∧ t 3 = .pointer (some ⟨H.length + 1, 0, some 0⟩) ∧ t 5 = .int .i64 (cnt w h) ∧ t 22 = .int .i64 (cnt w h) ∧ t 23 = .int .i64 i ∧
        H' = H ++ [⟨[.int .i64 w, .int .i64 h, v], 0, 40⟩, ⟨[u], 0, 41⟩] ∧ ∀ a, a < i → portOf w h T a a = 4) ?_ (n := (cnt w h).toNat) ⟨0, by simp⟩
      rintro n t H' ⟨i, rfl, hi, h2, h3, h5, h22, h23, rfl, hk⟩ ih
      simp [h2, h3, h5, h22, h23]
      refine wp_dec ?_ ?_ <;> intro hlt
      · have ni : i < (cnt w h).toNat := by omega
        obtain ⟨k0, k1, k2, k3⟩ := at_small (isN_nat ni) (isN_nat ni)
        have e1 : IntKind.i64.wrap (i * cnt w h) = i * cnt w h := w64 (by omega) (by omega)
        have e2 : IntKind.i64.wrap (i * cnt w h + i) = i * cnt w h + i := w64 (by omega) (by omega)
        have q1 : ∀ L, vindexAddr Tryz.prog (H ++ L) 24 u (.int .i64 (i * cnt w h + i)) = some (elp u (i * cnt w h + i : Int).toNat) := fun L => hT.idxA (e := 3) (by simp) k0 (by omega)
        have q2 : ∀ L, vload Tryz.prog (H ++ L) 3 (elp u (i * cnt w h + i : Int).toNat) = some (.int .i64 (portOf w h T i i)) := fun L => hT.loadA (by simp) (by omega)
        simp [h2, h3, h5, h22, h23, hlt, e1, e2, q1, q2]
        refine wp_dec ?_ ?_ <;> intro hp
        · simp [h2, h3, h5, h22, h23, hlt, hp]
          refine ih ((cnt w h).toNat - (i + 1)) _ _ ⟨i + 1, rfl, by omega, by simp [h2], by simp [h3], by simp [h5], by simp [h22], ?_, rfl, fun a ha => ?_⟩ (by omega)
          · simp; rw [w64 (by omega) (by omega)]
          · by_cases hai : a < i
            · exact hk a hai
            · have : a = i := by omega
              subst this; exact hp
        · simp [h2, h3, h5, h22, h23, hlt, hp]
          exact fun hh => hp ((hh.2 i ni i ni).1 rfl)
      · simp [h2, h3, h5, h22, h23, hlt]
        have : i = (cnt w h).toNat := by omega
        subst this
        refine wp_thn (pairs_w w h _ (Q := fun r _ => r = .bool (decide (tableOk w h b T))) (fun done H' => ∃ L, H' = H ++ [⟨[.int .i64 w, .int .i64 h, v], 0, 40⟩, ⟨[u], 0, 41⟩] ++ L ∧ ∀ p ∈ done, walk w h b T p.1 p.2 ≠ []) ⟨_, rfl, by simp⟩ ?_ ?_) ?_
        · rintro done a c _ ha hc' hne ⟨L, rfl, hd⟩
          simp
          rw [tableOk1_c w h v u b T a c _ _ (hI.app _) (hT.app _) hl hs (isN_nat ha) (isN_nat hc') (by omega) (by simp) (by simp)]
          simp
          by_cases hw : walk w h b T a c = []
          · refine .inr ⟨hw, ?_⟩
            exact fun hh => (hh.2 a (by omega) c (by omega)).2 (by omega) hw
          · refine .inl ⟨hw, fun p q hp => ?_⟩
            rcases hp with hp | ⟨rfl, rfl⟩
            · exact hd (p, q) hp
            · exact hw
        · rintro _ ⟨L, rfl, hd⟩
          simp
          exact ⟨hs, fun a ha c hc' => ⟨fun _ => hk a ha, fun hne => hd (a, c) (mem_allPairs.2 ⟨ha, hc', hne⟩)⟩⟩
        · rintro _ H' rfl
          simp
    · simp [hz]
      exact fun hh => hz hh.1.2
  · simp [hm]
    exact fun hh => hm hh.1.1
theorem tableOk_c (w h : Int) (v u : Value) (b T : List Int) (hI : IsI H v b) (hT : IsI H u T) (hl : b.length ≤ 1073741824) :
   vcall C frz 184 [.agg #[.int .i64 w, .int .i64 h, v], .agg #[u]] H = some (.bool (decide (tableOk w h b T)), H) :=
  (tableOk_w w h v u b T hI hT hl).exact (by simp) rfl
end Go.Proofs.YtcigpclbhfkgaaaGreat.V
/-! What unicasts cost. -/
set_option linter.all false
namespace Go.Proofs.YtcigpclbhfkgaaaGreat.V
open Go Go.VM Go.Proofs
set_option maxRecDepth 10000
variable {frz : Nat} {H : Heap}
def castOk (w h : Int) (b T : List Int) (a : Int) (ts : List Int) : Prop := tableOk w h b T ∧ isN w h a ∧ ∀ x ∈ ts, isN w h x
instance (w h : Int) (b T : List Int) (a : Int) (ts : List Int) : Decidable (castOk w h b T a ts) := inferInstanceAs (Decidable (_ ∧ _))
/-- what single packets to all targets cost -/
def cost (w h : Int) (b T : List Int) (a : Int) (ts : List Int) : Nat := (ts.map fun x => (walk w h b T a x).length).sum
theorem walk_len (w h : Int) (b T : List Int) (a to : Int) : (walk w h b T a to).length ≤ 16 := by
  have := walkN_len w h b T to (cnt w h).toNat a []
  have hc := cnt_range w h
  simp only [walk] at *
  simp at this; omega
theorem cost_succ {w h : Int} {b T : List Int} {a : Int} {ts : List Int} {i : Nat} (hi : i < ts.length) : cost w h b T a (ts.take (i + 1)) = cost w h b T a (ts.take i) + (walk w h b T a ts[i]).length := by
  unfold cost
  rw [List.take_succ_eq_append_getElem hi, List.map_append, List.sum_append]; simp
theorem cost_le (w h : Int) (b T : List Int) (a : Int) (ts : List Int) : cost w h b T a ts ≤ 16 * ts.length := by
  unfold cost
  induction ts with
  | nil => simp
  | cons x ts ih =>
    have := walk_len w h b T a x
    simp only [List.map_cons, List.sum_cons, List.length_cons]; omega
theorem walk_selfT {w h : Int} {b T : List Int} {a : Int} (ht : tableOk w h b T) (ha : isN w h a) : walk w h b T a a = [] := by
  obtain ⟨a0, a1⟩ := ha
  have := (ht.2 a.toNat (by omega) a.toNat (by omega)).1 rfl
  rw [show ((a.toNat : Nat) : Int) = a by omega] at this
  unfold walk
  cases (cnt w h).toNat <;> simp [walkN, this]
theorem walkT_c (w h : Int) (v u : Value) (b T : List Int) (a to : Int) (hI : IsI H v b) (hT : IsI H u T) (hl : b.length ≤ 1073741824) (hz : tableOk w h b T) (ha : isN w h a) (hto : isN w h to) :
   vcall C frz 228 [.agg #[.int .i64 w, .int .i64 h, v], .agg #[u], .int .i64 a, .int .i64 to] H = some (ret H (walk w h b T a to)) := by
  by_cases hne : a = to
  · subst hne
    rw [walk_selfT hz ha, vcall_go (fn := Tryz.f228) Tryz.func228 rfl (by kernel_rfl) rfl]
    simp [hI.one', hI.cells, hT.one', hT.cells, ret]
  · exact walk_c w h v u b T a to hI hT hl hz.1 ha hto hne
end Go.Proofs.YtcigpclbhfkgaaaGreat.V
/-! Latency without load; requests and replies. -/
set_option linter.all false
namespace Go.Proofs.YtcigpclbhfkgaaaGreat.V
open Go Go.VM Go.Proofs
set_option maxRecDepth 10000
variable {frz : Nat} {H : Heap}
def classesOk (w h : Int) (b A B : List Int) : Prop := tableOk w h b A ∧ tableOk w h b B
instance (w h : Int) (b A B : List Int) : Decidable (classesOk w h b A B) := inferInstanceAs (Decidable (_ ∧ _))
/-- a packet: its number, whence, whither, class, length -/
abbrev PkD := Int × Int × Int × Int × Int
def packetOk (w h : Int) (p : PkD) : Prop := inR 1 p.1 9999 ∧ isN w h p.2.1 ∧ isN w h p.2.2.1 ∧ p.2.1 ≠ p.2.2.1 ∧ inR 0 p.2.2.2.1 1 ∧ inR 1 p.2.2.2.2 5
instance (w h : Int) (p : PkD) : Decidable (packetOk w h p) := inferInstanceAs (Decidable (_ ∧ _))
def pkV (p : PkD) : Value := .agg #[.int .i64 p.1, .int .i64 p.2.1, .int .i64 p.2.2.1, .int .i64 p.2.2.2.1, .int .i64 p.2.2.2.2]
theorem classesOk_c (w h : Int) (v u1 u2 : Value) (b A B : List Int) (hI : IsI H v b) (h1 : IsI H u1 A) (h2 : IsI H u2 B) (hl : b.length ≤ 1073741824) :
   vcall C frz 142 [.agg #[.int .i64 w, .int .i64 h, v], .agg #[u1, u2]] H = some (.bool (decide (classesOk w h b A B)), H) := by
  rw [vcall_go (fn := Tryz.f142) Tryz.func142 rfl (by kernel_rfl) rfl]
  have one := And.intro (And.intro h1.one' h1.cells) (And.intro h2.one' h2.cells)
  simp [hI.one', hI.cells, one, tableOk_c _ _ _ _ _ _ (hI.app _) (h1.app _) hl]
  refine gd_dec _ _ ?_ ?_ <;> intro g <;> simp [g, classesOk, hI.one', hI.cells, one, tableOk_c _ _ _ _ _ _ (hI.app _) (h2.app _) hl]
theorem sClassesOk_c (w h : Int) (v u1 u2 : Value) (b A B : List Int) (hI : IsI H v b) (h1 : IsI H u1 A) (h2 : IsI H u2 B) (hl : b.length ≤ 1073741824) :
   vcall C frz 126 [.agg #[.int .i64 w, .int .i64 h, v], .agg #[u1, u2]] H = some (.bool (decide (classesOk w h b A B)), H) := by
  rw [vcall_go (fn := Tryz.f126) Tryz.func126 rfl (by kernel_rfl) rfl]
  have one := And.intro (And.intro h1.one' h1.cells) (And.intro h2.one' h2.cells)
  simp [hI.one', hI.cells, one, sTableOk_c _ _ _ _ _ _ (hI.app _) (h1.app _) hl]
  refine gd_dec _ _ ?_ ?_ <;> intro g <;> simp [g, classesOk, hI.one', hI.cells, one, sTableOk_c _ _ _ _ _ _ (hI.app _) (h2.app _) hl]
theorem packetOk_c (w h : Int) (p : PkD) : vcall C frz 85 [.agg #[.int .i64 w, .int .i64 h], pkV p] H = some (.bool (decide (packetOk w h p)), H) := by
  obtain ⟨i, a, b, c, l⟩ := p
  rw [vcall_go (fn := Tryz.f85) Tryz.func85 rfl (by kernel_rfl) rfl]
  by_cases g1 : inR 1 i 9999
  · by_cases g2 : isN w h a
    · by_cases g3 : isN w h b
      · by_cases g4 : a = b
        · simp [pkV, inside_c, isNode_c, g1, g2, g3, g4, packetOk]
        · by_cases g5 : inR 0 c 1
          · by_cases g6 : inR 1 l 5 <;> simp [pkV, inside_c, isNode_c, g1, g2, g3, g4, g5, g6, packetOk]
          · simp [pkV, inside_c, isNode_c, g1, g2, g3, g4, g5, packetOk]
      · simp [pkV, inside_c, isNode_c, g1, g2, g3, packetOk]
    · simp [pkV, inside_c, isNode_c, g1, g2, packetOk]
  · simp [pkV, inside_c, isNode_c, g1, packetOk]
theorem sPacketOk_c (w h : Int) (p : PkD) : vcall C frz 80 [.agg #[.int .i64 w, .int .i64 h], pkV p] H = some (.bool (decide (packetOk w h p)), H) := by
  obtain ⟨i, a, b, c, l⟩ := p
  rw [vcall_go (fn := Tryz.f80) Tryz.func80 rfl (by kernel_rfl) rfl]
  by_cases g1 : inR 1 i 9999
  · by_cases g2 : isN w h a
    · by_cases g3 : isN w h b
      · by_cases g4 : a = b
        · simp [pkV, l01In_c, l02Has_c, g1, g2, g3, g4, packetOk]
        · by_cases g5 : inR 0 c 1
          · by_cases g6 : inR 1 l 5 <;> simp [pkV, l01In_c, l02Has_c, g1, g2, g3, g4, g5, g6, packetOk]
          · simp [pkV, l01In_c, l02Has_c, g1, g2, g3, g4, g5, packetOk]
      · simp [pkV, l01In_c, l02Has_c, g1, g2, g3, packetOk]
    · simp [pkV, l01In_c, l02Has_c, g1, g2, packetOk]
  · simp [pkV, l01In_c, l02Has_c, g1, packetOk]
def zeroLoad (w h : Int) (b A B : List Int) (p : PkD) : Int :=
  if classesOk w h b A B ∧ packetOk w h p then ((walk w h b (if p.2.2.2.1 = 1 then B else A) p.2.1 p.2.2.1).length : Int) + p.2.2.2.2 + 1 else -1
theorem zeroLoad_range (w h : Int) (b A B : List Int) (p : PkD) : -1 ≤ zeroLoad w h b A B p ∧ zeroLoad w h b A B p ≤ 100 := by
  unfold zeroLoad; split
  · rename_i g
    have h1 := g.2.2.2.2.2.2
    have := walk_len w h b (if p.2.2.2.1 = 1 then B else A) p.2.1 p.2.2.1
    unfold inR at h1; omega
  · omega
/-- a request and its reply -/
def replyTime (w h : Int) (b A B : List Int) (p : PkD) (n : Int) : Int :=
  if zeroLoad w h b A B p < 0 ∨ zeroLoad w h b A B (p.1, p.2.2.1, p.2.1, IntKind.i64.wrap (1 - p.2.2.2.1), n) < 0 then -1 else zeroLoad w h b A B p + zeroLoad w h b A B (p.1, p.2.2.1, p.2.1, IntKind.i64.wrap (1 - p.2.2.2.1), n)
theorem zeroLoad_id {w h : Int} {b A B : List Int} {i j a c k l : Int} (h1 : inR 1 i 9999) (h2 : inR 1 j 9999) : zeroLoad w h b A B (i, a, c, k, l) = zeroLoad w h b A B (j, a, c, k, l) := by
  unfold zeroLoad packetOk
  simp only [h1, h2]
theorem toPacket_c (i a c k l : Int) : vcall C frz 83 [.agg #[.int .i64 i, .int .i64 a, .int .i64 c, .int .i64 k, .int .i64 l]] H = some (.agg #[.int .i64 i, .int .i64 a, .int .i64 c, .int .i64 k, .int .i64 l], H) := by
  rw [vcall_go (fn := Tryz.f83) Tryz.func83 rfl (by kernel_rfl) rfl]
  simp
end Go.Proofs.YtcigpclbhfkgaaaGreat.V
/-! Valid networks. -/
set_option linter.all false
namespace Go.Proofs.YtcigpclbhfkgaaaGreat.V
open Go Go.VM Go.Proofs
set_option maxRecDepth 10000
variable {frz : Nat} {H : Heap}
def flitOk (w h : Int) (f : FlitD) : Prop := isN w h f.2.1 ∧ inR 0 f.2.2.1 1
instance (w h : Int) (f : FlitD) : Decidable (flitOk w h f) := inferInstanceAs (Decidable (_ ∧ _))
def flitsOk (w h : Int) (l : List FlitD) : Prop := ∀ f ∈ l, flitOk w h f
instance (w h : Int) (l : List FlitD) : Decidable (flitsOk w h l) := inferInstanceAs (Decidable (∀ f ∈ l, flitOk w h f))
def sizesOk (x : NetD) : Prop := (x.2.2.1.length : Int) = 10 * cnt x.1.1 x.1.2.1 ∧ (x.2.2.2.1.length : Int) = 10 * cnt x.1.1 x.1.2.1 ∧ (x.2.2.2.2.1.length : Int) = 5 * cnt x.1.1 x.1.2.1 ∧ (x.2.2.2.2.2.1.length : Int) = cnt x.1.1 x.1.2.1 ∧ (x.2.2.2.2.2.2.1.length : Int) = cnt x.1.1 x.1.2.1
instance (x : NetD) : Decidable (sizesOk x) := inferInstanceAs (Decidable (_ ∧ _))
def bufOk (w h : Int) (l : List FlitD) (c : Int) : Prop := l.length ≤ 3 ∧ (∀ f ∈ l, f.2.2.1 = c) ∧ flitsOk w h l
instance (w h : Int) (l : List FlitD) (c : Int) : Decidable (bufOk w h l c) := inferInstanceAs (Decidable (_ ∧ _))
def srcOk (w h : Int) (l : List FlitD) : Prop := l.length ≤ 60 ∧ flitsOk w h l
instance (w h : Int) (l : List FlitD) : Decidable (srcOk w h l) := inferInstanceAs (Decidable (_ ∧ _))
/-- a valid network -/
def netOk (x : NetD) : Prop := classesOk x.1.1 x.1.2.1 x.1.2.2 x.2.1.1 x.2.1.2 ∧ sizesOk x ∧ (∀ i, i < x.2.2.1.length → bufOk x.1.1 x.1.2.1 (x.2.2.1.getD i []) ((i : Int) % 2)) ∧ (∀ l ∈ x.2.2.2.2.2.1, srcOk x.1.1 x.1.2.1 l) ∧
  (∀ o ∈ x.2.2.2.1, inR (-1) o 4) ∧ (∀ o ∈ x.2.2.2.2.1, inR 0 o 9) ∧ inR 0 x.2.2.2.2.2.2.2 1000000
instance (x : NetD) : Decidable (netOk x) := inferInstanceAs (Decidable (_ ∧ _))
theorem areFlits_c (w h : Int) (v : Value) (xs : List FlitD) (hI : Rd flF H v xs) (hl : xs.length ≤ 1073741824) :
   vcall C frz 144 [.agg #[.int .i64 w, .int .i64 h], v] H = some (.bool (decide (flitsOk w h xs)), H) := by
  refine wp.exact (by simp) ?_ rfl
  rw [vcall_go (fn := Tryz.f144) Tryz.func144 rfl (by kernel_rfl) rfl]
  generalize hB : decide (flitsOk w h xs) = B
  simp [hI.app.len (P := Tryz.prog) (ty := 113) (by simp)]
  refine wp_inv (fun n t H' => ∃ i : Nat, n = xs.length - i ∧ i ≤ xs.length ∧ t 2 = .pointer (some ⟨H.length, 0, some 0⟩) ∧ t 7 = v ∧ t 8 = .int .i64 xs.length ∧ t 9 = .int .i64 i ∧ Chg H H' [] ∧ H'[H.length]? = some ⟨[.int .i64 w, .int .i64 h], 0, 38⟩ ∧ ∀ f ∈ xs.take i, flitOk w h f) ?_ (n := xs.length)
    ⟨0, rfl, by omega, by simp, by simp, by simp, by simp, Chg.app _, by simp, by simp⟩
  rintro n t H' ⟨i, rfl, hi, t2, t7, t8, t9, c, b2, hk⟩ ih
  simp [t2, t7, t8, t9]
  refine wp_dec ?_ ?_ <;> intro g
  · have hi' : i < xs.length := by omega
    have rd := hI.chg c (by simp)
    have q1 := rd.idx (P := Tryz.prog) (ty := 113) (e := 157) (by simp) (i := (i : Int)) (by omega) (by omega)
    have q2 := rd.load (P := Tryz.prog) (e := 157) (by simp) hi'
    simp only [Int.toNat_natCast, flF_n] at q1 q2
    have l0 := c.1
    have hF : H.length ≤ H'.length := l0
    have b2' := fun r => box_chg (get_app' b2 [r]) (chg_set H'.length r) (by simp; have := box_lt b2; omega)
    have hlt := box_lt b2
    have hne : H'.length ≠ H.length := by omega
    have key : flitOk w h xs[i] ↔ isN w h xs[i].2.1 ∧ inR 0 xs[i].2.2.1 1 := Iff.rfl
    have hsucc : ∀ f ∈ xs.take (i + 1), f ∈ xs.take i ∨ f = xs[i] := fun f hf => by
      rw [List.take_succ_eq_append_getElem hi'] at hf
      rcases List.mem_append.1 hf with hf | hf
      · exact .inl hf
      · exact .inr (List.mem_singleton.1 hf)
    have hno : ¬ flitOk w h xs[i] → ¬ flitsOk w h xs := fun hh k => hh (k _ (List.getElem_mem hi'))
    simp [t2, t7, t8, t9, q1, q2, hF, flF_f, VM.look, b2, get_app' b2, isNode_c, inside_c]
    by_cases g1 : isN w h xs[i].2.1
    · by_cases g2 : inR 0 xs[i].2.2.1 1
      · simp [t2, t7, t8, t9, g1, g2, inside_c]
        refine ih (xs.length - (i + 1)) _ _ ⟨i + 1, rfl, by omega, by simp [t2], by simp [t7], by simp [t8], ?_, c.trans (Chg.app _), get_app' b2 _, fun f hf => ?_⟩ (by omega)
        · simp; rw [w64 (by omega) (by omega)]
        · rcases hsucc f hf with hf | rfl
          · exact hk f hf
          · exact ⟨g1, g2⟩
      · simp [t2, t7, t8, t9, g1, g2, inside_c]
        rw [← hB]; exact decide_eq_false (hno (fun hh => g2 hh.2))
    · simp [t2, t7, t8, t9, g1]
      rw [← hB]; exact decide_eq_false (hno (fun hh => g1 hh.1))
  · have : i = xs.length := by omega
    subst this
    rw [List.take_length] at hk
    simp [t2, t7, t8, t9]
    rw [← hB]; exact decide_eq_true hk
theorem l15Flits_c (w h : Int) (v : Value) (xs : List FlitD) (hI : Rd flF H v xs) (hl : xs.length ≤ 1073741824) :
   vcall C frz 134 [.agg #[.int .i64 w, .int .i64 h], v] H = some (.bool (decide (flitsOk w h xs)), H) := by
  refine wp.exact (by simp) ?_ rfl
  rw [vcall_go (fn := Tryz.f134) Tryz.func134 rfl (by kernel_rfl) rfl]
  generalize hB : decide (flitsOk w h xs) = B
  simp
  have rd : Rd flF (H ++ [⟨[.int .i64 w, .int .i64 h], 0, 38⟩]) v xs := hI.app
  refine wp_inv (fun n t H' => ∃ i : Nat, n = xs.length - i ∧ i ≤ xs.length ∧ t 1 = v ∧ t 2 = .pointer (some ⟨H.length, 0, some 0⟩) ∧ t 5 = .int .i64 i ∧ H' = H ++ [⟨[.int .i64 w, .int .i64 h], 0, 38⟩] ∧ ∀ f ∈ xs.take i, flitOk w h f) ?_ (n := xs.length)
    ⟨0, rfl, by omega, by simp, by simp, by simp, rfl, by simp⟩
  rintro n t H' ⟨i, rfl, hi, t1, t2, t5, rfl, hk⟩ ih
  simp [t1, t2, t5, rd.len (P := Tryz.prog) (ty := 113) (by simp)]
  refine wp_dec ?_ ?_ <;> intro g
  · have hi' : i < xs.length := by omega
    have q1 := rd.idx (P := Tryz.prog) (ty := 113) (e := 157) (by simp) (i := (i : Int)) (by omega) (by omega)
    have q2 := rd.cell (P := Tryz.prog) (e := 3) (by simp) hi' (c := 1) (by decide)
    have q3 := rd.cell (P := Tryz.prog) (e := 3) (by simp) hi' (c := 2) (by decide)
    have q4 := rd.field (P := Tryz.prog) (s := 157) (f := 1) (o := 1) (n := 1) (ag := false) (by simp) (j := i * 5) (by omega)
    have q5 := rd.field (P := Tryz.prog) (s := 157) (f := 2) (o := 2) (n := 1) (ag := false) (by simp) (j := i * 5) (by omega)
    simp only [Int.toNat_natCast, flF_n, flF_f] at q1 q2 q3
    simp at q2 q3
    have hsucc : ∀ f ∈ xs.take (i + 1), f ∈ xs.take i ∨ f = xs[i] := fun f hf => by
      rw [List.take_succ_eq_append_getElem hi'] at hf
      rcases List.mem_append.1 hf with hf | hf
      · exact .inl hf
      · exact .inr (List.mem_singleton.1 hf)
    have hno : ¬ flitOk w h xs[i] → ¬ flitsOk w h xs := fun hh k => hh (k _ (List.getElem_mem hi'))
    simp [t1, t2, t5]
    rw [go_draw (h := by kernel_rfl)]
    simp [-vfieldAddr, vfa_ptr, t1, t2, t5, q1, q2, q3, q4, q5, l02Has_c]
    by_cases g1 : isN w h xs[i].2.1
    · by_cases g2 : inR 0 xs[i].2.2.1 1
      · simp [-vfieldAddr, vfa_ptr, t1, t2, t5, g1, g2, l01In_c, q1, q5, q3]
        refine ih (xs.length - (i + 1)) _ _ ⟨i + 1, rfl, by omega, by simp [t1], by simp [t2], ?_, rfl, fun f hf => ?_⟩ (by omega)
        · simp; rw [w64 (by omega) (by omega)]
        · rcases hsucc f hf with hf | rfl
          · exact hk f hf
          · exact ⟨g1, g2⟩
      · simp [-vfieldAddr, vfa_ptr, t1, t2, t5, g1, g2, l01In_c, q1, q5, q3]
        rw [← hB]; exact decide_eq_false (hno (fun hh => g2 hh.2))
    · simp [t1, t2, t5, g1]
      rw [← hB]; exact decide_eq_false (hno (fun hh => g1 hh.1))
  · have : i = xs.length := by omega
    subst this
    rw [List.take_length] at hk
    simp [t1, t2, t5]
    rw [← hB]; exact decide_eq_true hk
theorem classOnly_w (v : Value) (xs : List FlitD) (c : Int) (hI : Rd flF H v xs) (hl : xs.length ≤ 1073741824) :
   wp (vcall C frz 143 [v, .int .i64 c] H) (fun r H' => Ow flF 157 H' r (xs.filter fun f => f.2.2.1 = c) ∧ (∀ i ∈ ids r, H.length ≤ i) ∧ Chg H H' []) := by
  rw [vcall_go (fn := Tryz.f143) Tryz.func143 rfl (by kernel_rfl) rfl]
  simp [hI.app.len (P := Tryz.prog) (ty := 113) (by simp)]
  refine wp_inv (fun n t H' => ∃ (i : Nat) (r : Value), n = xs.length - i ∧ i ≤ xs.length ∧ t 1 = .int .i64 c ∧ t 5 = r ∧ t 9 = v ∧ t 10 = .int .i64 xs.length ∧ t 11 = .int .i64 i ∧ Chg H H' [] ∧ Ow flF 157 H' r ((xs.take i).filter fun f => f.2.2.1 = c) ∧ (∀ j ∈ ids r, H.length ≤ j)) ?_ (n := xs.length)
    ⟨0, .slice (some ⟨H.length, 0, some 0⟩) 0 0, rfl, by omega, by simp, by simp, by simp, by simp, by simp, Chg.app _, Ow.new0 (D := flF) (xs := []) rfl rfl rfl rfl, by simp⟩
  rintro n t H' ⟨i, r, rfl, hi, t1, t5, t9, t10, t11, ch, o, nr⟩ ih
  simp [t1, t5, t9, t10, t11]
  refine wp_dec ?_ ?_ <;> intro g
  · have hi' : i < xs.length := by omega
    have rd := hI.chg ch (by simp)
    have q1 := rd.idx (P := Tryz.prog) (ty := 113) (e := 157) (by simp) (i := (i : Int)) (by omega) (by omega)
    have q2 := rd.load (P := Tryz.prog) (e := 157) (by simp) hi'
    simp only [Int.toNat_natCast, flF_n] at q1 q2
    have hF : H.length ≤ H'.length := ch.1
    have hfl := List.length_filter_le (fun f : FlitD => decide (f.2.2.1 = c)) (xs.take i)
    have htl : (xs.take i).length ≤ i := by simp; omega
    simp [t1, t5, t9, t10, t11, q1, q2, hF, flF_f, VM.look]
    refine wp_dec ?_ ?_ <;> intro g1
    · obtain ⟨r', H2, hap, o2, c2, n2⟩ := (o.app (L := [⟨flF.f xs[i], 0, 157⟩])).push (P := Tryz.prog) (frz := H.length) (ty := 113) (a := xs[i]) (by simp) rfl (by omega) nr
      simp only [flF_f, List.append_assoc, List.cons_append, List.nil_append, List.length_append, List.length_cons, List.length_nil] at hap
      simp [t1, t5, t9, t10, t11, hap]
      refine ih (xs.length - (i + 1)) _ _ ⟨i + 1, r', rfl, by omega, by simp [t1], by simp, by simp [t9], by simp [t10], ?_, (ch.trans (Chg.app _)).trans' c2 (fun j hj => .inr (nr j hj)), ?_, fun j hj => ?_⟩ (by omega)
      · simp; rw [w64 (by omega) (by omega)]
      · rw [List.take_succ_eq_append_getElem hi', List.filter_append]; simpa [g1] using o2
      · rcases n2 j hj with h1 | h1
        · exact nr j h1
        · simp at h1; omega
    · simp [t1, t5, t9, t10, t11, g1]
      refine ih (xs.length - (i + 1)) _ _ ⟨i + 1, r, rfl, by omega, by simp [t1], by simp [t5], by simp [t9], by simp [t10], ?_, ch.trans (Chg.app _), ?_, nr⟩ (by omega)
      · simp; rw [w64 (by omega) (by omega)]
      · rw [List.take_succ_eq_append_getElem hi', List.filter_append]; simpa [g1] using o.app
  · have : i = xs.length := by omega
    subst this
    rw [List.take_length] at o
    simp [t1, t5, t9, t10, t11]
    exact ⟨o, nr, ch⟩
end Go.Proofs.YtcigpclbhfkgaaaGreat.V
/-! Valid networks: what the program and the reference say. -/
set_option linter.all false
namespace Go.Proofs.YtcigpclbhfkgaaaGreat.V
open Go Go.VM Go.Proofs
set_option maxRecDepth 10000
variable {frz : Nat} {H : Heap}
theorem filter_len_all {l : List FlitD} {c : Int} : (l.filter fun f => f.2.2.1 = c).length = l.length ↔ ∀ f ∈ l, f.2.2.1 = c := by
  rw [List.length_filter_eq_length_iff]; simp
theorem tmod2 (i : Nat) : (i : Int).tmod 2 = (i : Int) % 2 := Int.tmod_eq_emod_of_nonneg (by omega)
theorem getD_at {α : Type} {l : List α} {d : α} {i : Nat} (h : i < l.length) : l.getD i d = l[i] := by simp [List.getD_eq_getElem?_getD, h]
theorem mem_take_succ {α : Type} {l : List α} {i : Nat} (h : i < l.length) {x : α} (hx : x ∈ l.take (i + 1)) : x ∈ l.take i ∨ x = l[i] := by
  rw [List.take_succ_eq_append_getElem h] at hx
  rcases List.mem_append.1 hx with hx | hx
  · exact .inl hx
  · exact .inr (List.mem_singleton.1 hx)
theorem netOk_d {v : NetV} {x : NetD} (o : dNet.Ow H v x) : vcall C frz 84 [dNet.val v x] H = some (.bool (decide (netOk x)), H) := by
  have oo := dNet_one o
  obtain ⟨u2, ⟨u3, u4⟩, ⟨u5, h5⟩, u6, u7, ⟨u8, h8⟩, ⟨u9, h9⟩, _⟩ := v
  obtain ⟨⟨w, h, b⟩, ⟨A, B⟩, buf, own, turn, src, arr, tm⟩ := x
  obtain ⟨o2, o3, o5, o6, o7, o8, o9, _⟩ := o
  simp only at o2 o3 o5 o6 o7 o8 o9
  obtain ⟨p2, p3, p4, p5, p6, p7, p8, p9⟩ := oo
  simp only at p2 p3 p4 p5 p6 p7 p8 p9
  rw [dNet_val]
  refine wp.exact (by simp) ?_ rfl
  rw [vcall_go (fn := Tryz.f84) Tryz.func84 rfl (by kernel_rfl) rfl]
  generalize hY : decide (netOk ((w, h, b), (A, B), buf, own, turn, src, arr, tm)) = Y
  obtain ⟨N, hN⟩ : ∃ N : Nat, cnt w h = N := ⟨(cnt w h).toNat, by have := cnt_range w h; omega⟩
  have hN2 : N ≤ 16 := by have := cnt_range w h; omega
  have w10 : ∀ [Inhabited Unit], IntKind.i64.wrap (10 * (N : Int)) = 10 * (N : Int) := by intro _; exact w64 (by omega) (by omega)
  have w5 : ∀ [Inhabited Unit], IntKind.i64.wrap (5 * (N : Int)) = 5 * (N : Int) := by intro _; exact w64 (by omega) (by omega)
  have cok := fun F L => classesOk_c (frz := F) (H := H ++ L) w h u2 u3 u4 b A B (Rd.isI o2.1.rd.app) (Rd.isI o3.1.1.rd.app) (Rd.isI o3.2.1.rd.app) o2.2
  have ln5 := fun (L : Heap) => (RdL.app (L := L) o5.1.rd).1.len (P := Tryz.prog) (ty := 44) (by simp)
  have ln8 := fun (L : Heap) => (RdL.app (L := L) o8.1.rd).1.len (P := Tryz.prog) (ty := 44) (by simp)
  have ln9 := fun (L : Heap) => (RdL.app (L := L) o9.1.rd).1.len (P := Tryz.prog) (ty := 44) (by simp)
  have ln6 := fun (L : Heap) => (Rd.app (L := L) o6.1.rd).len (P := Tryz.prog) (ty := 24) (by simp)
  have ln7 := fun (L : Heap) => (Rd.app (L := L) o7.1.rd).len (P := Tryz.prog) (ty := 24) (by simp)
  have hl5 := o5.1.rd.2.1
  have hl8 := o8.1.rd.2.1
  have hl9 := o9.1.rd.2.1
  have hb5 := o5.2.1
  have hb8 := o8.2.1
  simp only at ln5 ln8 ln9 ln6 ln7 hl5 hl8 hl9 hb5 hb8
  have no : ¬ netOk ((w, h, b), (A, B), buf, own, turn, src, arr, tm) → false = Y := fun hh => by rw [← hY]; exact (decide_eq_false hh).symm
  have no' : ¬ netOk ((w, h, b), (A, B), buf, own, turn, src, arr, tm) → Y = false := fun hh => (no hh).symm
  have ones := And.intro p2 (And.intro p3 (And.intro p4 (And.intro p5 (And.intro p6 (And.intro p7 (And.intro p8 p9))))))
  simp [ones, nodeCount_c, hN, cok, w10, w5]
  by_cases c1 : classesOk w h b A B
  rotate_left
  · simp [c1]; exact no' (fun k => c1 k.1)
  by_cases c2 : (buf.length : Int) = 10 * N
  rotate_left
  · simp [c1, c2, ones, ln5, hl5, w10]; exact no' (fun k => c2 (by have := k.2.1.1; simp only [hN] at this; exact this))
  by_cases c3 : (own.length : Int) = 10 * N
  rotate_left
  · simp [c1, c2, c3, ones, ln5, hl5, ln6, w10]; exact no' (fun k => c3 (by have := k.2.1.2.1; simp only [hN] at this; exact this))
  by_cases c4 : (turn.length : Int) = 5 * N
  rotate_left
  · simp [c1, c2, c3, c4, ones, ln5, hl5, ln6, ln7, w10, w5]; exact no' (fun k => c4 (by have := k.2.1.2.2.1; simp only [hN] at this; exact this))
  by_cases c5 : (src.length : Int) = N
  rotate_left
  · simp [c1, c2, c3, c4, c5, ones, ln5, hl5, ln6, ln7, ln8, hl8, w10, w5]; exact no' (fun k => c5 (by have := k.2.1.2.2.2.1; simp only [hN] at this; exact this))
  by_cases c6 : (arr.length : Int) = N
  rotate_left
  · simp [c1, c2, c3, c4, c5, c6, ones, ln5, hl5, ln6, ln7, ln8, hl8, ln9, hl9, w10, w5]; exact no' (fun k => c6 (by have := k.2.1.2.2.2.2; simp only [hN] at this; exact this))
  have hsz : sizesOk ((w, h, b), (A, B), buf, own, turn, src, arr, tm) := by unfold sizesOk; simp only [hN]; exact ⟨c2, c3, c4, c5, c6⟩
  simp [c1, c2, c3, c4, c5, c6, ones, ln5, hl5, ln6, ln7, ln8, hl8, ln9, hl9, w10, w5]
  refine wp_inv (fun n t H' => ∃ i : Nat, n = buf.length - i ∧ i ≤ buf.length ∧ t 1 = .pointer (some ⟨H.length, 0, some 0⟩) ∧ t 57 = u5 ∧ t 58 = .int .i64 buf.length ∧ t 59 = .int .i64 i ∧ Chg H H' [] ∧
      H'[H.length]? = some ⟨[.int .i64 w, .int .i64 h, u2, u3, u4, u5, u6, u7, u8, u9, .int .i64 tm], 0, 46⟩ ∧ ∀ j, j < i → bufOk w h (buf.getD j []) ((j : Int) % 2)) ?_ (n := buf.length)
    ⟨0, rfl, by omega, by simp, by simp, by simp [c2], by simp, Chg.app _, by simp, by omega⟩
  rintro n t H' ⟨i, rfl, hi, t1, t57, t58, t59, ch, b0, hk⟩ ih
  simp [t1, t57, t58, t59]
  refine wp_dec ?_ ?_ <;> intro g
  · have hi' : i < buf.length := by omega
    have rl := o5.1.rd.chg ch (by simp)
    obtain ⟨u, _, a2, a3, a4⟩ := RdL_at rl (ty := 44) (e := 113) (by simp) (by simp) hi'
    have hlen := o5.2.2 _ (List.getElem_mem hi')
    simp only at a2 a3 a4 hlen
    have lu := a4.len (P := Tryz.prog) (ty := 113) (by simp)
    have hbg : buf.getD i [] = buf[i] := getD_at hi'
    have bad : ¬ bufOk w h buf[i] ((i : Int) % 2) → Y = false := fun hh => no' (fun k => hh (by have := k.2.2.1 i hi'; simp only [hbg] at this; exact this))
    obtain ⟨l, hl⟩ : ∃ l, l = buf[i] := ⟨_, rfl⟩
    rw [← hl] at a4 lu hlen bad hbg
    simp [t1, t57, t58, t59, a2, a3, lu]
    by_cases g1 : l.length ≤ 3
    rotate_left
    · have g1' : (3 : Int) < l.length := by omega
      simp [g1']; exact bad (fun k => g1 k.1)
    have g1' : ¬ (3 : Int) < l.length := by omega
    simp [g1', t1, t57, t58, t59, tmod2]
    refine wp_thn (classOnly_w u l ((i : Int) % 2) a4 (by omega)) ?_
    rintro r H2 ⟨orr, nr, cc⟩
    have b0 := box_chg b0 cc (by simp)
    have lr := orr.rd.len (P := Tryz.prog) (ty := 113) (by simp)
    have lu2 := (a4.chg cc (by simp)).len (P := Tryz.prog) (ty := 113) (by simp)
    have hfl := filter_len_all (l := l) (c := (i : Int) % 2)
    generalize (l.filter fun f => f.2.2.1 = (i : Int) % 2).length = q at *
    simp [t1, t57, t58, t59, lr, lu2]
    by_cases g2 : q = l.length
    rotate_left
    · have g2' : ¬ (q : Int) = l.length := by omega
      simp [g2']; exact bad (fun k => g2 (hfl.2 k.2.1))
    have af := fun F => areFlits_c (frz := F) (H := H2) w h u l (a4.chg cc (by simp)) (by omega)
    simp [g2, t1, t57, t58, t59, VM.look, b0, af]
    by_cases g3 : flitsOk w h l
    rotate_left
    · simp [g3]; exact bad (fun k => g3 k.2.2)
    simp [g3, t1, t57, t58, t59]
    refine ih (buf.length - (i + 1)) _ _ ⟨i + 1, rfl, by omega, by simp [t1], by simp [t57], by simp [t58], ?_, ch.trans cc, b0, fun j hj => ?_⟩ (by omega)
    · simp; rw [w64 (by omega) (by omega)]
    · by_cases hji : j < i
      · exact hk j hji
      · have : j = i := by omega
        subst this
        rw [hbg]; exact ⟨g1, hfl.1 g2, g3⟩
  · have : i = buf.length := by omega
    subst this
    clear ih
    have l8 := (o8.1.rd.chg ch (by simp)).1.len (P := Tryz.prog) (ty := 44) (by simp)
    simp only at l8
    simp [t1, t57, t58, t59, VM.look, b0, ones, l8, hl8]
    refine wp_inv (fun n t H2 => ∃ i : Nat, n = src.length - i ∧ i ≤ src.length ∧ t 1 = .pointer (some ⟨H.length, 0, some 0⟩) ∧ t 87 = u8 ∧ t 88 = .int .i64 src.length ∧ t 89 = .int .i64 i ∧ H2 = H' ∧ ∀ l ∈ src.take i, srcOk w h l) ?_ (n := src.length)
      ⟨0, rfl, by omega, by simp [t1], by simp, by simp, by simp, rfl, by simp⟩
    clear t1 t57 t58 t59
    rintro n t H2 ⟨i, rfl, hi, t1, t87, t88, t89, rfl, hk2⟩ ih
    simp [t1, t87, t88, t89]
    refine wp_dec ?_ ?_ <;> intro g
    · have hi' : i < src.length := by omega
      have rl := o8.1.rd.chg ch (by simp)
      obtain ⟨u, _, a2, a3, a4⟩ := RdL_at rl (ty := 44) (e := 113) (by simp) (by simp) hi'
      have hlen := o8.2.2 _ (List.getElem_mem hi')
      simp only at a2 a3 a4 hlen
      have lu := a4.len (P := Tryz.prog) (ty := 113) (by simp)
      have bad : ¬ srcOk w h src[i] → Y = false := fun hh => no' (fun k => hh (k.2.2.2.1 _ (List.getElem_mem hi')))
      have hst := fun {x} (hx : x ∈ src.take (i + 1)) => mem_take_succ hi' hx
      obtain ⟨l, hl⟩ : ∃ l, l = src[i] := ⟨_, rfl⟩
      rw [← hl] at a4 lu hlen bad hst
      simp [t1, t87, t88, t89, a2, a3, lu]
      by_cases g1 : l.length ≤ 60
      rotate_left
      · have g1' : (60 : Int) < l.length := by omega
        simp [g1']; exact bad (fun k => g1 k.1)
      have g1' : ¬ (60 : Int) < l.length := by omega
      have af := fun F => areFlits_c (frz := F) (H := H2) w h u l a4 (by omega)
      simp [g1', t1, t87, t88, t89, VM.look, b0, af]
      by_cases g3 : flitsOk w h l
      rotate_left
      · simp [g3]; exact bad (fun k => g3 k.2)
      simp [g3, t1, t87, t88, t89]
      refine ih (src.length - (i + 1)) _ _ ⟨i + 1, rfl, by omega, by simp [t1], by simp [t87], by simp [t88], ?_, rfl, fun x hx => ?_⟩ (by omega)
      · simp; rw [w64 (by omega) (by omega)]
      · rcases hst hx with hx | rfl
        · exact hk2 x hx
        · exact ⟨g1, g3⟩
    · have : i = src.length := by omega
      subst this
      rw [List.take_length] at hk2
      have ai := fun F => areInside_c (frz := F) (H := H2) u6 own (-1) 4 (Rd.isI (o6.1.rd.chg ch (by simp))) (by have := o6.2; omega)
      have ai2 := fun F => areInside_c (frz := F) (H := H2) u7 turn 0 9 (Rd.isI (o7.1.rd.chg ch (by simp))) (by have := o7.2; omega)
      have ai3 := fun F => inside_c (frz := F) (H := H2) tm 0 1000000
      have hiff : netOk ((w, h, b), (A, B), buf, own, turn, src, arr, tm) ↔ (∀ x ∈ own, inR (-1) x 4) ∧ (∀ x ∈ turn, inR 0 x 9) ∧ inR 0 tm 1000000 :=
        ⟨fun k => k.2.2.2.2, fun k => ⟨c1, hsz, hk, hk2, k⟩⟩
      have hY2 : Y = (decide (∀ x ∈ own, inR (-1) x 4) && decide (∀ x ∈ turn, inR 0 x 9) && decide (inR 0 tm 1000000)) := by
        rw [← hY, Bool.eq_iff_iff]; simp only [decide_eq_true_eq, Bool.and_eq_true, and_assoc]; exact hiff
      generalize decide (∀ x ∈ own, inR (-1) x 4) = P1 at *
      generalize decide (∀ x ∈ turn, inR 0 x 9) = P2 at *
      generalize decide (inR 0 tm 1000000) = P3 at *
      simp [t1, t87, t88, t89, VM.look, b0, ones, ai, ai2, ai3, hY2]
      cases P1 <;> cases P2 <;> cases P3 <;> simp [t1, VM.look, b0, ones, ai2, ai3]
theorem sNetOk_d {v : NetV} {x : NetD} (o : dNet.Ow H v x) : vcall C frz 79 [dNet.val v x] H = some (.bool (decide (netOk x)), H) := by
  have oo := dNet_one o
  obtain ⟨u2, ⟨u3, u4⟩, ⟨u5, h5⟩, u6, u7, ⟨u8, h8⟩, ⟨u9, h9⟩, _⟩ := v
  obtain ⟨⟨w, h, b⟩, ⟨A, B⟩, buf, own, turn, src, arr, tm⟩ := x
  obtain ⟨o2, o3, o5, o6, o7, o8, o9, _⟩ := o
  simp only at o2 o3 o5 o6 o7 o8 o9
  obtain ⟨p2, p3, p4, p5, p6, p7, p8, p9⟩ := oo
  simp only at p2 p3 p4 p5 p6 p7 p8 p9
  rw [dNet_val]
  refine wp.exact (by simp) ?_ rfl
  rw [vcall_go (fn := Tryz.f79) Tryz.func79 rfl (by kernel_rfl) rfl]
  generalize hY : decide (netOk ((w, h, b), (A, B), buf, own, turn, src, arr, tm)) = Y
  obtain ⟨N, hN⟩ : ∃ N : Nat, cnt w h = N := ⟨(cnt w h).toNat, by have := cnt_range w h; omega⟩
  have hN2 : N ≤ 16 := by have := cnt_range w h; omega
  have w10 : ∀ [Inhabited Unit], IntKind.i64.wrap (10 * (N : Int)) = 10 * (N : Int) := by intro _; exact w64 (by omega) (by omega)
  have w5 : ∀ [Inhabited Unit], IntKind.i64.wrap (5 * (N : Int)) = 5 * (N : Int) := by intro _; exact w64 (by omega) (by omega)
  have cok := fun F L => sClassesOk_c (frz := F) (H := H ++ L) w h u2 u3 u4 b A B (Rd.isI o2.1.rd.app) (Rd.isI o3.1.1.rd.app) (Rd.isI o3.2.1.rd.app) o2.2
  have ln5 := fun (L : Heap) => (RdL.app (L := L) o5.1.rd).1.len (P := Tryz.prog) (ty := 44) (by simp)
  have ln8 := fun (L : Heap) => (RdL.app (L := L) o8.1.rd).1.len (P := Tryz.prog) (ty := 44) (by simp)
  have ln9 := fun (L : Heap) => (RdL.app (L := L) o9.1.rd).1.len (P := Tryz.prog) (ty := 44) (by simp)
  have ln6 := fun (L : Heap) => (Rd.app (L := L) o6.1.rd).len (P := Tryz.prog) (ty := 24) (by simp)
  have ln7 := fun (L : Heap) => (Rd.app (L := L) o7.1.rd).len (P := Tryz.prog) (ty := 24) (by simp)
  have hl5 := o5.1.rd.2.1
  have hl8 := o8.1.rd.2.1
  have hl9 := o9.1.rd.2.1
  have hb5 := o5.2.1
  have hb8 := o8.2.1
  simp only at ln5 ln8 ln9 ln6 ln7 hl5 hl8 hl9 hb5 hb8
  have no : ¬ netOk ((w, h, b), (A, B), buf, own, turn, src, arr, tm) → false = Y := fun hh => by rw [← hY]; exact (decide_eq_false hh).symm
  have no' : ¬ netOk ((w, h, b), (A, B), buf, own, turn, src, arr, tm) → Y = false := fun hh => (no hh).symm
  have ones := And.intro p2 (And.intro p3 (And.intro p4 (And.intro p5 (And.intro p6 (And.intro p7 (And.intro p8 p9))))))
  simp [ones, sNodeCount_c, hN, cok, w10, w5]
  by_cases c1 : classesOk w h b A B
  rotate_left
  · simp [c1]; exact no' (fun k => c1 k.1)
  by_cases c2 : (buf.length : Int) = 10 * N
  rotate_left
  · simp [c1, c2, ones, ln5, hl5, w10]; exact no' (fun k => c2 (by have := k.2.1.1; simp only [hN] at this; exact this))
  by_cases c3 : (own.length : Int) = 10 * N
  rotate_left
  · simp [c1, c2, c3, ones, ln5, hl5, ln6, w10]; exact no' (fun k => c3 (by have := k.2.1.2.1; simp only [hN] at this; exact this))
  by_cases c4 : (turn.length : Int) = 5 * N
  rotate_left
  · simp [c1, c2, c3, c4, ones, ln5, hl5, ln6, ln7, w10, w5]; exact no' (fun k => c4 (by have := k.2.1.2.2.1; simp only [hN] at this; exact this))
  by_cases c5 : (src.length : Int) = N
  rotate_left
  · simp [c1, c2, c3, c4, c5, ones, ln5, hl5, ln6, ln7, ln8, hl8, w10, w5]; exact no' (fun k => c5 (by have := k.2.1.2.2.2.1; simp only [hN] at this; exact this))
  by_cases c6 : (arr.length : Int) = N
  rotate_left
  · simp [c1, c2, c3, c4, c5, c6, ones, ln5, hl5, ln6, ln7, ln8, hl8, ln9, hl9, w10, w5]; exact no' (fun k => c6 (by have := k.2.1.2.2.2.2; simp only [hN] at this; exact this))
  by_cases c7 : inR 0 tm 1000000
  rotate_left
  · simp [c1, c2, c3, c4, c5, c6, c7, l01In_c, ones, ln5, hl5, ln6, ln7, ln8, hl8, ln9, hl9, w10, w5]; exact no' (fun k => c7 k.2.2.2.2.2.2)
  have hsz : sizesOk ((w, h, b), (A, B), buf, own, turn, src, arr, tm) := by unfold sizesOk; simp only [hN]; exact ⟨c2, c3, c4, c5, c6⟩
  simp [c1, c2, c3, c4, c5, c6, c7, l01In_c, ones, ln5, hl5, ln6, ln7, ln8, hl8, ln9, hl9, w10, w5]
  have hbl : buf.length = 10 * N := by omega
  have hol : own.length = 10 * N := by omega
  have htl : turn.length = 5 * N := by omega
  have hsl : src.length = N := by omega
  obtain ⟨G, hG⟩ : ∃ G, G = H ++ [⟨[.int .i64 w, .int .i64 h, u2, u3, u4, u5, u6, u7, u8, u9, .int .i64 tm], 0, 46⟩] := ⟨_, rfl⟩
  rw [← hG]
  have b0 : G[H.length]? = some ⟨[.int .i64 w, .int .i64 h, u2, u3, u4, u5, u6, u7, u8, u9, .int .i64 tm], 0, 46⟩ := by rw [hG]; simp
  have ch : Chg H G [] := by rw [hG]; exact Chg.app _
  clear hG
  have i6 : IsI G u6 own := Rd.isI (o6.1.rd.chg ch (by simp))
  have i7 : IsI G u7 turn := Rd.isI (o7.1.rd.chg ch (by simp))
  refine wp_inv (fun n t H' => ∃ i : Nat, n = 10 * N - i ∧ i ≤ 10 * N ∧ t 1 = .pointer (some ⟨H.length, 0, some 0⟩) ∧ t 3 = .int .i64 N ∧ t 4 = .int .i64 i ∧ H' = G ∧
      ∀ j, j < i → bufOk w h (buf.getD j []) ((j : Int) % 2) ∧ inR (-1) (own.getD j 0) 4) ?_ (n := 10 * N)
    ⟨0, rfl, by omega, by simp, by simp, by simp, rfl, by omega⟩
  rintro n t H' ⟨i, rfl, hi, t1, t3, t4, rfl, hk⟩ ih
  simp [t1, t3, t4, w10]
  refine wp_dec ?_ ?_ <;> intro g
  · have hi' : i < buf.length := by omega
    have hio : i < own.length := by omega
    have rl := o5.1.rd.chg ch (by simp)
    obtain ⟨u, _, a2, a3, a4⟩ := RdL_at rl (ty := 44) (e := 113) (by simp) (by simp) hi'
    have hlen := o5.2.2 _ (List.getElem_mem hi')
    simp only at a2 a3 a4 hlen
    have lu := a4.len (P := Tryz.prog) (ty := 113) (by simp)
    have hbg : buf.getD i [] = buf[i] := getD_at hi'
    have bad : ¬ bufOk w h buf[i] ((i : Int) % 2) → Y = false := fun hh => no' (fun k => hh (by have := k.2.2.1 i hi'; simp only [hbg] at this; exact this))
    obtain ⟨l, hl⟩ : ∃ l, l = buf[i] := ⟨_, rfl⟩
    rw [← hl] at a4 lu hlen bad hbg
    have q1 := i6.idx (P := Tryz.prog) (ty := 24) (e := 3) (by simp) (i := (i : Int)) (by omega) (by omega)
    have q2 := i6.load (P := Tryz.prog) (e := 3) (by simp) hio
    simp only [Int.toNat_natCast, getD_at hio] at q1 q2
    simp [t1, t3, t4, VM.look, b0, ones, a2, a3, lu]
    by_cases g1 : l.length ≤ 3
    rotate_left
    · have g1' : (3 : Int) < l.length := by omega
      simp [g1']; exact bad (fun k => g1 k.1)
    have g1' : ¬ (3 : Int) < l.length := by omega
    have af := fun F => l15Flits_c (frz := F) (H := H') w h u l a4 (by omega)
    simp [g1', t1, t3, t4, VM.look, b0, ones, af]
    by_cases g3 : flitsOk w h l
    rotate_left
    · simp [g3]; exact bad (fun k => g3 k.2.2)
    simp [g3, t1, t3, t4, VM.look, b0, ones, q1, q2, l01In_c]
    by_cases g4 : inR (-1) own[i] 4
    rotate_left
    · simp [g4]; exact no' (fun k => g4 (k.2.2.2.2.1 _ (List.getElem_mem hio)))
    simp [g4, t1, t3, t4]
    refine wp_inv (fun n t H2 => ∃ c : Nat, n = l.length - c ∧ c ≤ l.length ∧ t 1 = .pointer (some ⟨H.length, 0, some 0⟩) ∧ t 3 = .int .i64 N ∧ t 4 = .int .i64 i ∧ t 5 = u ∧ t 6 = .int .i64 c ∧ H2 = H' ∧ ∀ f ∈ l.take c, f.2.2.1 = (i : Int) % 2) ?_ (n := l.length)
      ⟨0, rfl, by omega, by simp [t1], by simp [t3], by simp [t4], by simp, by simp, rfl, by simp⟩
    clear t1 t3 t4
    rintro n t H2 ⟨c, rfl, hc, t1, t3, t4, t5, t6, rfl, hk3⟩ ih2
    simp [t1, t3, t4, t5, t6, lu]
    refine wp_dec ?_ ?_ <;> intro g5
    · have hc' : c < l.length := by omega
      have r1 := a4.idx (P := Tryz.prog) (ty := 113) (e := 157) (by simp) (i := (c : Int)) (by omega) (by omega)
      have r2 := a4.cell (P := Tryz.prog) (e := 3) (by simp) hc' (c := 2) (by decide)
      have r3 := a4.field (P := Tryz.prog) (s := 157) (f := 2) (o := 2) (n := 1) (ag := false) (by simp) (j := c * 5) (by omega)
      simp only [Int.toNat_natCast, flF_n, flF_f] at r1 r2
      simp at r2
      simp [-vfieldAddr, vfa_ptr, t1, t3, t4, t5, t6, r1, r2, r3, tmod2]
      refine wp_dec ?_ ?_ <;> intro g6
      · simp [t1, t3, t4, t5, t6]
        refine ih2 (l.length - (c + 1)) _ _ ⟨c + 1, rfl, by omega, by simp [t1], by simp [t3], by simp [t4], by simp [t5], ?_, rfl, fun f hf => ?_⟩ (by omega)
        · simp; rw [w64 (by omega) (by omega)]
        · rcases mem_take_succ hc' hf with hf | rfl
          · exact hk3 f hf
          · exact g6
      · simp [t1, t3, t4, t5, t6]
        exact bad (fun k => g6 (k.2.1 _ (List.getElem_mem hc')))
    · have : c = l.length := by omega
      subst this
      rw [List.take_length] at hk3
      simp [t1, t3, t4, t5, t6]
      refine ih (10 * N - (i + 1)) _ _ ⟨i + 1, rfl, by omega, by simp [t1], by simp [t3], ?_, rfl, fun j hj => ?_⟩ (by omega)
      · simp; rw [w64 (by omega) (by omega)]
      · by_cases hji : j < i
        · exact hk j hji
        · have : j = i := by omega
          subst this
          rw [hbg, getD_at hio]; exact ⟨⟨g1, hk3, g3⟩, g4⟩
  · have : i = 10 * N := by omega
    subst this
    clear ih
    simp [t1, t3, t4]
    refine wp_inv (fun n t H2 => ∃ i : Nat, n = 5 * N - i ∧ i ≤ 5 * N ∧ t 1 = .pointer (some ⟨H.length, 0, some 0⟩) ∧ t 3 = .int .i64 N ∧ t 7 = .int .i64 i ∧ H2 = H' ∧ ∀ x ∈ turn.take i, inR 0 x 9) ?_ (n := 5 * N)
      ⟨0, rfl, by omega, by simp [t1], by simp [t3], by simp, rfl, by simp⟩
    clear t1 t3 t4
    rintro n t H2 ⟨i, rfl, hi, t1, t3, t7, rfl, hk2⟩ ih
    simp [t1, t3, t7, w5]
    refine wp_dec ?_ ?_ <;> intro g
    · have hit : i < turn.length := by omega
      have q1 := i7.idx (P := Tryz.prog) (ty := 24) (e := 3) (by simp) (i := (i : Int)) (by omega) (by omega)
      have q2 := i7.load (P := Tryz.prog) (e := 3) (by simp) hit
      simp only [Int.toNat_natCast, getD_at hit] at q1 q2
      simp [t1, t3, t7, VM.look, b0, ones, q1, q2, l01In_c]
      by_cases g4 : inR 0 turn[i] 9
      rotate_left
      · simp [g4]; exact no' (fun k => g4 (k.2.2.2.2.2.1 _ (List.getElem_mem hit)))
      simp [g4, t1, t3, t7]
      refine ih (5 * N - (i + 1)) _ _ ⟨i + 1, rfl, by omega, by simp [t1], by simp [t3], ?_, rfl, fun x hx => ?_⟩ (by omega)
      · simp; rw [w64 (by omega) (by omega)]
      · rcases mem_take_succ hit hx with hx | rfl
        · exact hk2 x hx
        · exact g4
    · have : i = 5 * N := by omega
      subst this
      clear ih
      simp [t1, t3, t7]
      refine wp_inv (fun n t H' => ∃ i : Nat, n = N - i ∧ i ≤ N ∧ t 1 = .pointer (some ⟨H.length, 0, some 0⟩) ∧ t 3 = .int .i64 N ∧ t 8 = .int .i64 i ∧ H' = H2 ∧ ∀ l ∈ src.take i, srcOk w h l) ?_ (n := N)
        ⟨0, rfl, by omega, by simp [t1], by simp [t3], by simp, rfl, by simp⟩
      clear t1 t3 t7
      rintro n t H' ⟨i, rfl, hi, t1, t3, t8, rfl, hk4⟩ ih
      simp [t1, t3, t8]
      refine wp_dec ?_ ?_ <;> intro g
      · have hi' : i < src.length := by omega
        have rl := o8.1.rd.chg ch (by simp)
        obtain ⟨u, _, a2, a3, a4⟩ := RdL_at rl (ty := 44) (e := 113) (by simp) (by simp) hi'
        have hlen := o8.2.2 _ (List.getElem_mem hi')
        simp only at a2 a3 a4 hlen
        have lu := a4.len (P := Tryz.prog) (ty := 113) (by simp)
        have bad : ¬ srcOk w h src[i] → Y = false := fun hh => no' (fun k => hh (k.2.2.2.1 _ (List.getElem_mem hi')))
        have hst := fun {x} (hx : x ∈ src.take (i + 1)) => mem_take_succ hi' hx
        obtain ⟨l, hl⟩ : ∃ l, l = src[i] := ⟨_, rfl⟩
        rw [← hl] at a4 lu hlen bad hst
        simp [t1, t3, t8]
        rw [go_draw (h := by kernel_rfl)]
        simp [t1, t3, t8, VM.look, b0, ones, a2, a3, lu]
        by_cases g1 : l.length ≤ 60
        rotate_left
        · have g1' : (60 : Int) < l.length := by omega
          simp [g1']; exact bad (fun k => g1 k.1)
        have g1' : ¬ (60 : Int) < l.length := by omega
        have af := fun F => l15Flits_c (frz := F) (H := H') w h u l a4 (by omega)
        simp [g1', t1, t3, t8, VM.look, b0, ones, a2, a3, af]
        by_cases g3 : flitsOk w h l
        rotate_left
        · simp [g3]; exact bad (fun k => g3 k.2)
        simp [g3, t1, t3, t8]
        refine ih (N - (i + 1)) _ _ ⟨i + 1, rfl, by omega, by simp [t1], by simp [t3], ?_, rfl, fun x hx => ?_⟩ (by omega)
        · simp; rw [w64 (by omega) (by omega)]
        · rcases hst hx with hx | rfl
          · exact hk4 x hx
          · exact ⟨g1, g3⟩
      · have : i = N := by omega
        subst this
        simp [t1, t3, t8]
        rw [← hsl, List.take_length] at hk4
        rw [← htl, List.take_length] at hk2
        rw [← hY]
        refine (decide_eq_true ⟨c1, hsz, fun j hj => (hk j (by simp only at hj; omega)).1, hk4, fun x hx => ?_, hk2, c7⟩)
        obtain ⟨j, hj, rfl⟩ := List.mem_iff_getElem.1 hx
        have := (hk j (by simp only at hj; omega)).2
        rw [getD_at hj] at this; exact this
end Go.Proofs.YtcigpclbhfkgaaaGreat.V
/-! Idle networks. -/
set_option linter.all false
namespace Go.Proofs.YtcigpclbhfkgaaaGreat.V
open Go Go.VM Go.Proofs
set_option maxRecDepth 10000
variable {frz : Nat} {H : Heap}
/-- how many flits lie in lists -/
def flits (a : SSD) : Nat := ahead a a.length
theorem flits_le (a : SSD) (h1 : a.length ≤ 2097152) (h2 : ∀ xs ∈ a, xs.length ≤ 67108864) : flits a ≤ 140737488355328 := by
  have := ahead_le a h2 a.length (Nat.le_refl _)
  unfold flits; omega
def idle (x : NetD) : Prop := flits x.2.2.1 = 0 ∧ flits x.2.2.2.2.2.1 = 0
instance (x : NetD) : Decidable (idle x) := inferInstanceAs (Decidable (_ ∧ _))
def idleOk (x : NetD) : Prop := netOk x ∧ idle x
instance (x : NetD) : Decidable (idleOk x) := inferInstanceAs (Decidable (_ ∧ _))
theorem flitsIn_d {v : SSV} {a : SSD} (h : dSS.Ow H v a) : vcall C frz 131 [v.1] H = some (.int .i64 (flits a), H) := by
  refine wp.exact (by simp) ?_ rfl
  rw [vcall_go (fn := Tryz.f131) Tryz.func131 rfl (by kernel_rfl) rfl]
  obtain ⟨ho, h1, h2⟩ := h
  have rd := ho.rd
  have ll := rd.1.len (P := Tryz.prog) (ty := 44) (by simp)
  have el := rd.2.1
  rw [el] at ll
  simp [ll]
  refine wp_inv (fun m t H' => ∃ i : Nat, m = a.length - i ∧ i ≤ a.length ∧ t 3 = .int .i64 (ahead a i) ∧ t 6 = v.1 ∧ t 7 = .int .i64 a.length ∧ t 8 = .int .i64 i ∧ H' = H) ?_ (n := a.length) ⟨0, rfl, by omega, by simp [ahead], by simp, by simp, by simp, rfl⟩
  rintro m t H' ⟨i, rfl, hi, t3, t6, t7, t8, rfl⟩ ih
  simp [t3, t6, t7, t8]
  refine wp_dec ?_ ?_ <;> intro g
  · have hi' : i < a.length := by omega
    obtain ⟨u, _, a2, a3, a4⟩ := RdL_at rd (ty := 44) (e := 113) (by simp) (by simp) hi'
    have lu := a4.len (P := Tryz.prog) (ty := 113) (by simp)
    have al := ahead_le a h2 i (by omega)
    have asx := ahead_succ a hi'
    have hm := h2 _ (List.getElem_mem hi')
    have hg : a.getD i [] = a[i] := by simp [List.getD_eq_getElem?_getD, hi']
    rw [hg] at asx
    have w1 : ∀ [Inhabited Unit], IntKind.i64.wrap ((ahead a i : Int) + (a[i].length : Int)) = ((ahead a (i + 1) : Nat) : Int) := by intro _; rw [w64 (by omega) (by omega), asx]; omega
    simp [t3, t6, t7, t8, a2, a3, lu, w1]
    refine ih (a.length - (i + 1)) _ _ ⟨i + 1, rfl, by omega, by simp, by simp [t6], by simp [t7], ?_, rfl⟩ (by omega)
    simp; rw [w64 (by omega) (by omega)]
  · have : i = a.length := by omega
    subst this
    simp [t3, t6, t7, t8, flits]
theorem isIdle_c {id : Nat} {w h tm : Int} {u2 u3 u4 u6 u7 u9 : Value} {v5 v8 : SSV} {buf src : SSD} (hr : H[id]? = some ⟨[.int .i64 w, .int .i64 h, u2, u3, u4, v5.1, u6, u7, v8.1, u9, .int .i64 tm], 0, 46⟩)
   (h5 : dSS.Ow H v5 buf) (h8 : dSS.Ow H v8 src) : vcall C frz 112 [.pointer (some ⟨id, 0, some 0⟩)] H = some (.bool (decide (flits buf = 0 ∧ flits src = 0)), H) := by
  rw [vcall_go (fn := Tryz.f112) Tryz.func112 rfl (by kernel_rfl) rfl]
  have e1 := fun F => flitsIn_d (frz := F) h5
  have e2 := fun F => flitsIn_d (frz := F) h8
  by_cases g : flits buf = 0
  · simp [VM.vnil, VM.look, hr, e1, e2, g]
  · simp [VM.vnil, VM.look, hr, e1, e2, g]
theorem isIdle_d {v : NetV} {x : NetD} (o : dNet.Ow H v x) : vcall C frz 54 [dNet.val v x] H = some (.bool (decide (idleOk x)), H) := by
  have nk := fun F L => netOk_d (frz := F) (H := H ++ L) (v := v) (x := x) (Dt.app (T := dNet) o)
  have ones := dNet_one o
  obtain ⟨u2, ⟨u3, u4⟩, ⟨u5, h5⟩, u6, u7, ⟨u8, h8⟩, ⟨u9, h9⟩, _⟩ := v
  obtain ⟨⟨w, h, b⟩, ⟨A, B⟩, buf, own, turn, src, arr, tm⟩ := x
  obtain ⟨o2, o3, o5, o6, o7, o8, o9, _⟩ := o
  simp only at o2 o3 o5 o6 o7 o8 o9 ones
  rw [dNet_val]
  simp only [dNet_val] at nk
  refine wp.exact (by simp) ?_ rfl
  rw [vcall_go (fn := Tryz.f54) Tryz.func54 rfl (by kernel_rfl) rfl]
  have ii := fun F => isIdle_c (frz := F) (H := H ++ [⟨[.int .i64 w, .int .i64 h, u2, u3, u4, u5, u6, u7, u8, u9, .int .i64 tm], 0, 46⟩]) (id := H.length) (w := w) (h := h) (tm := tm) (u2 := u2) (u3 := u3) (u4 := u4) (u6 := u6) (u7 := u7) (u9 := u9) (v5 := (u5, h5)) (v8 := (u8, h8)) (by simp) (Dt.app o5) (Dt.app o8)
  have hY : decide (idleOk ((w, h, b), (A, B), buf, own, turn, src, arr, tm)) = (decide (netOk ((w, h, b), (A, B), buf, own, turn, src, arr, tm)) && decide (flits buf = 0 ∧ flits src = 0)) := by
    rw [Bool.eq_iff_iff, Bool.and_eq_true, decide_eq_true_eq, decide_eq_true_eq, decide_eq_true_eq]; exact Iff.rfl
  generalize decide (idleOk ((w, h, b), (A, B), buf, own, turn, src, arr, tm)) = Y at *
  generalize decide (netOk ((w, h, b), (A, B), buf, own, turn, src, arr, tm)) = P1 at *
  generalize decide (flits buf = 0 ∧ flits src = 0) = P2 at *
  simp [ones, nk]
  cases P1 <;> simp [ones, ii, hY]
theorem l15Sum_d {v : SSV} {a : SSD} (h : dSS.Ow H v a) : vcall C frz 122 [v.1] H = some (.int .i64 (flits a), H) := by
  refine wp.exact (by simp) ?_ rfl
  rw [vcall_go (fn := Tryz.f122) Tryz.func122 rfl (by kernel_rfl) rfl]
  obtain ⟨ho, h1, h2⟩ := h
  have rd := ho.rd
  have ll := rd.1.len (P := Tryz.prog) (ty := 44) (by simp)
  have el := rd.2.1
  rw [el] at ll
  simp
  refine wp_inv (fun m t H' => ∃ i : Nat, m = a.length - i ∧ i ≤ a.length ∧ t 0 = v.1 ∧ t 3 = .int .i64 (ahead a i) ∧ t 4 = .int .i64 i ∧ H' = H) ?_ (n := a.length) ⟨0, rfl, by omega, by simp, by simp [ahead], by simp, rfl⟩
  rintro m t H' ⟨i, rfl, hi, t0, t3, t4, rfl⟩ ih
  simp [t0, t3, t4, ll]
  refine wp_dec ?_ ?_ <;> intro g
  · have hi' : i < a.length := by omega
    obtain ⟨u, _, a2, a3, a4⟩ := RdL_at rd (ty := 44) (e := 113) (by simp) (by simp) hi'
    have lu := a4.len (P := Tryz.prog) (ty := 113) (by simp)
    have al := ahead_le a h2 i (by omega)
    have asx := ahead_succ a hi'
    have hm := h2 _ (List.getElem_mem hi')
    have hg : a.getD i [] = a[i] := by simp [List.getD_eq_getElem?_getD, hi']
    rw [hg] at asx
    have w1 : ∀ [Inhabited Unit], IntKind.i64.wrap ((ahead a i : Int) + (a[i].length : Int)) = ((ahead a (i + 1) : Nat) : Int) := by intro _; rw [w64 (by omega) (by omega), asx]; omega
    simp [t0, t3, t4, a2, a3, lu, w1]
    refine ih (a.length - (i + 1)) _ _ ⟨i + 1, rfl, by omega, by simp [t0], by simp, ?_, rfl⟩ (by omega)
    simp; rw [w64 (by omega) (by omega)]
  · have : i = a.length := by omega
    subst this
    simp [t0, t3, t4, flits]
theorem l20Idle_d {v : NetV} {x : NetD} (o : dNet.Ow H v x) : vcall C frz 95 [dNet.val v x] H = some (.bool (decide (idle x)), H) := by
  have ones := dNet_one o
  obtain ⟨o2, o3, o5, o6, o7, o8, o9, _⟩ := o
  rw [dNet_val]
  rw [vcall_go (fn := Tryz.f95) Tryz.func95 rfl (by kernel_rfl) rfl]
  have e1 := fun F L => l15Sum_d (frz := F) (H := H ++ L) (Dt.app o5)
  have e2 := fun F L => l15Sum_d (frz := F) (H := H ++ L) (Dt.app o8)
  have hi : idle x ↔ flits x.2.2.1 = 0 ∧ flits x.2.2.2.2.2.1 = 0 := Iff.rfl
  by_cases g : flits x.2.2.1 = 0
  · simp [ones, e1, e2, g, hi]
  · simp [ones, e1, e2, g, hi]
theorem sIsIdle_d {v : NetV} {x : NetD} (o : dNet.Ow H v x) : vcall C frz 43 [dNet.val v x] H = some (.bool (decide (idleOk x)), H) := by
  have nk := fun F L => sNetOk_d (frz := F) (H := H ++ L) (v := v) (x := x) (Dt.app (T := dNet) o)
  have ii := fun F L => l20Idle_d (frz := F) (H := H ++ L) (v := v) (x := x) (Dt.app (T := dNet) o)
  have ones := dNet_one o
  rw [dNet_val]
  simp only [dNet_val] at nk ii
  refine wp.exact (by simp) ?_ rfl
  rw [vcall_go (fn := Tryz.f43) Tryz.func43 rfl (by kernel_rfl) rfl]
  have hY : decide (idleOk x) = (decide (netOk x) && decide (idle x)) := by
    rw [Bool.eq_iff_iff, Bool.and_eq_true, decide_eq_true_eq, decide_eq_true_eq, decide_eq_true_eq]; exact Iff.rfl
  generalize decide (idleOk x) = Y at *
  generalize decide (netOk x) = P1 at *
  generalize decide (idle x) = P2 at *
  simp [ones, nk]
  cases P1 <;> simp [ones, ii, hY]
end Go.Proofs.YtcigpclbhfkgaaaGreat.V
/-! Networks with other tables. -/
set_option linter.all false
namespace Go.Proofs.YtcigpclbhfkgaaaGreat.V
open Go Go.VM Go.Proofs
set_option maxRecDepth 10000
variable {frz : Nat} {H : Heap}
/-- an idle network with another mesh and other tables -/
def fresh (x : NetD) (m : MeshD) (t : ClassesD) : NetD := (m, t, x.2.2.1, List.replicate x.2.2.2.1.length (-1), List.replicate x.2.2.2.2.1.length 0, x.2.2.2.2.2.1, x.2.2.2.2.2.2.1, x.2.2.2.2.2.2.2)
theorem rep_set {xs : List Int} {z : Int} {i : Nat} (h : i < xs.length) : (List.replicate i z ++ xs.drop i).set i z = List.replicate (i + 1) z ++ xs.drop (i + 1) := by
  rw [List.set_append_right _ _ (by simp), List.length_replicate, Nat.sub_self, List.drop_eq_getElem_cons h, List.set_cons_zero, List.replicate_succ']
  simp
theorem replaced_d {v : NetV} {x : NetD} {vm : Value} {w' h' : Int} {b' : List Int} {vc : Value × Value} {c' : ClassesD} (o : dNet.Ow H v x) (om : dMesh.Ow H vm (w', h', b')) (oc : dClasses.Ow H vc c') :
   wp (vcall C frz 56 [dNet.val v x, .agg #[.int .i64 w', .int .i64 h', vm], .agg #[vc.1, vc.2]] H) (dNet.Made H (fresh x (w', h', b') c')) := by
  have ones := dNet_one o
  have onem := dMesh_one om
  have onec := dClasses_one oc
  have ecopy := fun L => copyNet_d (frz := H.length) (H := H ++ L) (v := v) (x := x) (Dt.app (T := dNet) o)
  obtain ⟨u2, ⟨u3, u4⟩, ⟨u5, h5⟩, u6, u7, ⟨u8, h8⟩, ⟨u9, h9⟩, _⟩ := v
  obtain ⟨⟨w, h, b⟩, ⟨A, B⟩, buf, own, turn, src, arr, tm⟩ := x
  simp only at ones
  simp only [dNet_val] at ecopy ⊢
  rw [vcall_go (fn := Tryz.f56) Tryz.func56 rfl (by kernel_rfl) rfl]
  simp [ones, onem, onec]
  refine wp_thn (ecopy _) ?_
  rintro _ K1 ⟨n, rfl, o1, c1, m1, d1⟩
  clear ecopy
  have bM : K1[H.length + 1]? = some ⟨[.int .i64 w', .int .i64 h', vm], 0, 40⟩ := box_chg (by simp) c1 (by simp)
  have bC : K1[H.length + 2]? = some ⟨[vc.1, vc.2], 0, 43⟩ := box_chg (by simp) c1 (by simp)
  have bR : K1[H.length + 3]? = some ⟨[.int .i64 0, .int .i64 0, .slice none 0 0, .slice none 0 0, .slice none 0 0, .slice none 0 0, .slice none 0 0, .slice none 0 0, .slice none 0 0, .slice none 0 0, .int .i64 0], 0, 46⟩ := box_chg (by simp) c1 (by simp)
  have cH : Chg H K1 [] := (Chg.app []).trans c1
  have lc1 := c1.1
  simp at lc1 m1
  have q := dNet_one o1
  have lt1 := dNet.lt o1
  obtain ⟨n1, n2, n3, n4, n5, n6, n7, nz⟩ := n
  obtain ⟨y1, y2, y3, y4, y5, y6, y7, _⟩ := o1
  simp only at y1 y2 y3 y4 y5 y6 y7 q
  have eid : dNet.ids (n1, n2, n3, n4, n5, n6, n7, nz) = dMesh.ids n1 ++ (dClasses.ids n2 ++ (dSS.ids n3 ++ (dIntS.ids n4 ++ (dIntS.ids n5 ++ (dSS.ids n6 ++ (dSS.ids n7 ++ [])))))) := rfl
  rw [eid] at m1 d1 lt1
  obtain ⟨d11, d12, _⟩ := List.nodup_append.1 d1
  obtain ⟨d21, d22, _⟩ := List.nodup_append.1 d12
  have mr : ∀ i ∈ dSS.ids n3 ++ (dIntS.ids n4 ++ (dIntS.ids n5 ++ (dSS.ids n6 ++ (dSS.ids n7 ++ [])))), H.length + 4 ≤ i ∧ i < K1.length := fun i hi => ⟨m1 i (List.mem_append.2 (.inr (List.mem_append.2 (.inr hi)))), lt1 i (List.mem_append.2 (.inr (List.mem_append.2 (.inr hi))))⟩
  have ml : ∀ i ∈ dMesh.ids n1, H.length + 4 ≤ i ∧ i < K1.length := fun i hi => ⟨m1 i (List.mem_append.2 (.inl hi)), lt1 i (List.mem_append.2 (.inl hi))⟩
  have mk : ∀ i ∈ dClasses.ids n2, H.length + 4 ≤ i ∧ i < K1.length := fun i hi => ⟨m1 i (List.mem_append.2 (.inr (List.mem_append.2 (.inl hi)))), lt1 i (List.mem_append.2 (.inr (List.mem_append.2 (.inl hi))))⟩
  clear m1 d1 lt1 eid d11 d12 d21
  obtain ⟨d31, d32, d33⟩ := List.nodup_append.1 d22
  obtain ⟨d41, d42, d43⟩ := List.nodup_append.1 d32
  obtain ⟨d51, d52, d53⟩ := List.nodup_append.1 d42
  have in3 : ∀ i ∈ dSS.ids n3, H.length + 4 ≤ i ∧ i < K1.length := fun i hi => mr i (List.mem_append.2 (.inl hi))
  have in4 : ∀ i ∈ dIntS.ids n4, H.length + 4 ≤ i ∧ i < K1.length := fun i hi => mr i (List.mem_append.2 (.inr (List.mem_append.2 (.inl hi))))
  have in5 : ∀ i ∈ dIntS.ids n5, H.length + 4 ≤ i ∧ i < K1.length := fun i hi => mr i (List.mem_append.2 (.inr (List.mem_append.2 (.inr (List.mem_append.2 (.inl hi))))))
  have in6 : ∀ i ∈ dSS.ids n6, H.length + 4 ≤ i ∧ i < K1.length := fun i hi => mr i (List.mem_append.2 (.inr (List.mem_append.2 (.inr (List.mem_append.2 (.inr (List.mem_append.2 (.inl hi))))))))
  have in7 : ∀ i ∈ dSS.ids n7, H.length + 4 ≤ i ∧ i < K1.length := fun i hi => mr i (List.mem_append.2 (.inr (List.mem_append.2 (.inr (List.mem_append.2 (.inr (List.mem_append.2 (.inr (List.mem_append.2 (.inl hi))))))))))
  have x43 : ∀ i ∈ dIntS.ids n4, i ∉ dSS.ids n3 := fun i hi hh => d33 i hh i (List.mem_append.2 (.inl hi)) rfl
  have x53 : ∀ i ∈ dIntS.ids n5, i ∉ dSS.ids n3 := fun i hi hh => d33 i hh i (List.mem_append.2 (.inr (List.mem_append.2 (.inl hi)))) rfl
  have x54 : ∀ i ∈ dIntS.ids n5, i ∉ dIntS.ids n4 := fun i hi hh => d43 i hh i (List.mem_append.2 (.inl hi)) rfl
  have x64 : ∀ i ∈ dSS.ids n6, i ∉ dIntS.ids n4 := fun i hi hh => d43 i hh i (List.mem_append.2 (.inr (List.mem_append.2 (.inl hi)))) rfl
  have x74 : ∀ i ∈ dSS.ids n7, i ∉ dIntS.ids n4 := fun i hi hh => d43 i hh i (List.mem_append.2 (.inr (List.mem_append.2 (.inr (List.mem_append.2 (.inl hi)))))) rfl
  have x65 : ∀ i ∈ dSS.ids n6, i ∉ dIntS.ids n5 := fun i hi hh => d53 i hh i (List.mem_append.2 (.inl hi)) rfl
  have x75 : ∀ i ∈ dSS.ids n7, i ∉ dIntS.ids n5 := fun i hi hh => d53 i hh i (List.mem_append.2 (.inr (List.mem_append.2 (.inl hi)))) rfl
  have hF1 : H.length ≤ K1.length := by omega
  simp [dNet_val, VM.look, bM, bC, q, onem, onec, hF1]
  rw [go_draw (h := by kernel_rfl)]
  simp [VM.look, bM, bC, q, onem, onec, hF1]
  obtain ⟨G1, hG1⟩ : ∃ G, G = K1 ++ [⟨[.int .i64 w, .int .i64 h, n1, n2.1, n2.2, n3.1, n4, n5, n6.1, n7.1, .int .i64 tm], 0, 46⟩] := ⟨_, rfl⟩
  have bO : G1[K1.length]? = some ⟨[.int .i64 w, .int .i64 h, n1, n2.1, n2.2, n3.1, n4, n5, n6.1, n7.1, .int .i64 tm], 0, 46⟩ := by rw [hG1]; simp
  have aG : Chg K1 G1 [] := by rw [hG1]; exact Chg.app []
  have gl : K1.length + 1 ≤ G1.length := by rw [hG1]; simp
  try rw [← hG1]
  clear hG1
  have bM := box_chg bM aG (by simp)
  have bC := box_chg bC aG (by simp)
  have bR := box_chg bR aG (by simp)
  have cH := cH.trans aG
  have y3 := Dt.chg0 (T := dSS) y3 aG
  have y4 := Dt.chg0 (T := dIntS) y4 aG
  have y5 := Dt.chg0 (T := dIntS) y5 aG
  have y6 := Dt.chg0 (T := dSS) y6 aG
  have y7 := Dt.chg0 (T := dSS) y7 aG
  try simp [VM.look, bM, onem]
  refine wp_thn (copyMesh_w w' h' vm b' (Rd.isI (om.1.rd.chg cH (by simp))) om.2) ?_
  rintro _ G2 ⟨m1, rfl, om1, c2, mm1, dm1⟩
  have qm := dMesh_one om1
  have lm := dMesh.lt om1
  have bM := box_chg bM c2 (by simp)
  have bC := box_chg bC c2 (by simp)
  have bR := box_chg bR c2 (by simp)
  have bO := box_chg bO c2 (by simp)
  have cH := cH.trans c2
  have gl2 := c2.1
  have y3 := Dt.chg0 (T := dSS) y3 c2
  have y4 := Dt.chg0 (T := dIntS) y4 c2
  have y5 := Dt.chg0 (T := dIntS) y5 c2
  have y6 := Dt.chg0 (T := dSS) y6 c2
  have y7 := Dt.chg0 (T := dSS) y7 c2
  simp [dMesh_val, VM.look, bC, onec]
  refine wp_thn (copyClasses_w vc.1 vc.2 c'.1 c'.2 (Rd.isI (oc.1.1.rd.chg cH (by simp))) (Rd.isI (oc.2.1.rd.chg cH (by simp))) oc.1.2 oc.2.2) ?_
  rintro _ G3 ⟨m2, rfl, om2, c3, mm2, dm2⟩
  have qc := dClasses_one om2
  have lc := dClasses.lt om2
  have bR := box_chg bR c3 (by simp)
  have bO := box_chg bO c3 (by simp)
  have cH := cH.trans c3
  have gl3 := c3.1
  have om1 := Dt.chg0 (T := dMesh) om1 c3
  have y3 := Dt.chg0 (T := dSS) y3 c3
  have y4 := Dt.chg0 (T := dIntS) y4 c3
  have y5 := Dt.chg0 (T := dIntS) y5 c3
  have y6 := Dt.chg0 (T := dSS) y6 c3
  have y7 := Dt.chg0 (T := dSS) y7 c3
  have bO1 := set_get (r' := ⟨[.int .i64 w', .int .i64 h', m1, n2.1, n2.2, n3.1, n4, n5, n6.1, n7.1, .int .i64 tm], 0, 46⟩) bO
  have bO2 := set_get (r' := ⟨[.int .i64 w', .int .i64 h', m1, m2.1, m2.2, n3.1, n4, n5, n6.1, n7.1, .int .i64 tm], 0, 46⟩) bO
  have eO : Chg G3 (G3.set K1.length ⟨[.int .i64 w', .int .i64 h', m1, m2.1, m2.2, n3.1, n4, n5, n6.1, n7.1, .int .i64 tm], 0, 46⟩) [K1.length] := chg_set _ _
  have bR := box_chg bR eO (by simp; omega)
  have cH := cH.trans' eO (fun i hi => .inr (by simp at hi; omega))
  have om1 := Dt.chg (T := dMesh) om1 eO (fun i hi hh => by have := mm1 i hi; simp at hh; omega)
  have om2 := Dt.chg (T := dClasses) om2 eO (fun i hi hh => by have := mm2 i hi; simp at hh; omega)
  have y3 := Dt.chg (T := dSS) y3 eO (fun i hi hh => by have := in3 i hi; simp at hh; omega)
  have y4 := Dt.chg (T := dIntS) y4 eO (fun i hi hh => by have := in4 i hi; simp at hh; omega)
  have y5 := Dt.chg (T := dIntS) y5 eO (fun i hi hh => by have := in5 i hi; simp at hh; omega)
  have y6 := Dt.chg (T := dSS) y6 eO (fun i hi hh => by have := in6 i hi; simp at hh; omega)
  have y7 := Dt.chg (T := dSS) y7 eO (fun i hi hh => by have := in7 i hi; simp at hh; omega)
  have gl4 : (G3.set K1.length ⟨[.int .i64 w', .int .i64 h', m1, m2.1, m2.2, n3.1, n4, n5, n6.1, n7.1, .int .i64 tm], 0, 46⟩).length = G3.length := by simp
  simp [dMesh_val, dClasses_val, VM.look, bO, bO1, q, qm, qc, hF1]
  generalize G3.set K1.length ⟨[.int .i64 w', .int .i64 h', m1, m2.1, m2.2, n3.1, n4, n5, n6.1, n7.1, .int .i64 tm], 0, 46⟩ = G4 at *
  have bO := bO2
  clear bO2 bM bC aG c2 c3 eO y1 y2
  have hb4 := y4.2
  have hb5 := y5.2
  have l4 := y4.1.rd.len (P := Tryz.prog) (ty := 24) (by simp)
  try simp [VM.look, bO, q, qm, qc, l4]
  refine wp_inv (fun m t H' => ∃ i : Nat, m = own.length - i ∧ i ≤ own.length ∧ t 6 = .pointer (some ⟨H.length + 3, 0, some 0⟩) ∧ t 7 = .pointer (some ⟨K1.length, 0, some 0⟩) ∧ t 20 = .int .i64 own.length ∧ t 21 = .int .i64 i ∧ Chg G4 H' (dIntS.ids n4) ∧ Ow Fl.int 3 H' n4 (List.replicate i (-1) ++ own.drop i)) ?_ (n := own.length)
    ⟨0, rfl, by omega, by simp, by simp, by simp, by simp, Chg.refl _, by simpa using y4.1⟩
  rintro m t H' ⟨i, rfl, hi, t6, t7, t20, t21, c4, o4⟩ ih
  have bO' := box_chg bO c4 (fun hh => by have := in4 _ hh; omega)
  have hll : (List.replicate i (-1 : Int) ++ own.drop i).length = own.length := by simp; omega
  have l4' := o4.rd.len (P := Tryz.prog) (ty := 24) (by simp)
  rw [hll] at l4'
  simp [t6, t7, t20, t21, VM.look, bO', q, l4']
  refine wp_dec ?_ ?_ <;> intro g
  · have hi' : i < own.length := by omega
    have q1 := o4.rd.isI.idx (P := Tryz.prog) (ty := 24) (e := 3) (by simp) (i := (i : Int)) (by omega) (by omega)
    simp only [Int.toNat_natCast] at q1
    obtain ⟨H5, s5, o5, c5, l5⟩ := o4.put1 (P := Tryz.prog) (frz := H.length) rfl (et := 3) (ag := false) (x := .int .i64 (-1)) (by simp) (j := i) (y := -1) (by omega) rfl rfl rfl (fun j hj => by have := in4 j hj; omega)
    rw [rep_set hi'] at o5
    simp [t6, t7, t20, t21, VM.look, bO', q, q1, s5]
    refine ih (own.length - (i + 1)) _ _ ⟨i + 1, rfl, by omega, by simp [t6], by simp [t7], by simp [t20], ?_, c4.trans c5, o5⟩ (by omega)
    simp; rw [w64 (by omega) (by omega)]
  have : i = own.length := by omega
  subst this
  clear ih
  have bR := box_chg bR c4 (fun hh => by have := in4 _ hh; omega)
  have bO := bO'
  have cH := cH.trans' c4 (fun j hj => .inr (by have := in4 j hj; omega))
  have gl5 := c4.1
  have om1 := Dt.chg (T := dMesh) om1 c4 (fun j hj hh => by have := mm1 j hj; have := in4 j hh; omega)
  have om2 := Dt.chg (T := dClasses) om2 c4 (fun j hj hh => by have := mm2 j hj; have := in4 j hh; omega)
  have y3 := Dt.chg (T := dSS) y3 c4 (fun j hj hh => x43 j hh hj)
  have y5 := Dt.chg (T := dIntS) y5 c4 x54
  have y6 := Dt.chg (T := dSS) y6 c4 x64
  have y7 := Dt.chg (T := dSS) y7 c4 x74
  have o4 : Ow Fl.int 3 H' n4 (List.replicate own.length (-1)) := by simpa using o4
  have b4 := y4.2
  have b5 := y5.2
  clear y4 c4 bO' g l4' hll hi
  have l5 := y5.1.rd.len (P := Tryz.prog) (ty := 24) (by simp)
  simp [t6, t7, t20, t21, VM.look, bO, q, l5]
  refine wp_inv (fun m t H2 => ∃ i : Nat, m = turn.length - i ∧ i ≤ turn.length ∧ t 6 = .pointer (some ⟨H.length + 3, 0, some 0⟩) ∧ t 7 = .pointer (some ⟨K1.length, 0, some 0⟩) ∧ t 31 = .int .i64 turn.length ∧ t 32 = .int .i64 i ∧ Chg H' H2 (dIntS.ids n5) ∧ Ow Fl.int 3 H2 n5 (List.replicate i 0 ++ turn.drop i)) ?_ (n := turn.length)
    ⟨0, rfl, by omega, by simp [t6], by simp [t7], by simp, by simp, Chg.refl _, by simpa using y5.1⟩
  clear t6 t7 t20 t21
  rintro m t H2 ⟨i, rfl, hi, t6, t7, t31, t32, c5, o5⟩ ih
  have bO' := box_chg bO c5 (fun hh => by have := in5 _ hh; omega)
  have hll : (List.replicate i (0 : Int) ++ turn.drop i).length = turn.length := by simp; omega
  simp [t6, t7, t31, t32]
  refine wp_dec ?_ ?_ <;> intro g
  · have hi' : i < turn.length := by omega
    have q1 := o5.rd.isI.idx (P := Tryz.prog) (ty := 24) (e := 3) (by simp) (i := (i : Int)) (by omega) (by omega)
    simp only [Int.toNat_natCast] at q1
    obtain ⟨H5, s5, o5', c5', l5'⟩ := o5.put1 (P := Tryz.prog) (frz := H.length) rfl (et := 3) (ag := false) (x := .int .i64 0) (by simp) (j := i) (y := 0) (by omega) rfl rfl rfl (fun j hj => by have := in5 j hj; omega)
    rw [rep_set hi'] at o5'
    simp [t6, t7, t31, t32, VM.look, bO', q, q1, s5]
    refine ih (turn.length - (i + 1)) _ _ ⟨i + 1, rfl, by omega, by simp [t6], by simp [t7], by simp [t31], ?_, c5.trans c5', o5'⟩ (by omega)
    simp; rw [w64 (by omega) (by omega)]
  have : i = turn.length := by omega
  subst this
  clear ih
  have bR := box_chg bR c5 (fun hh => by have := in5 _ hh; omega)
  have bO := bO'
  have cH := cH.trans' c5 (fun j hj => .inr (by have := in5 j hj; omega))
  have om1 := Dt.chg (T := dMesh) om1 c5 (fun j hj hh => by have := mm1 j hj; have := in5 j hh; omega)
  have om2 := Dt.chg (T := dClasses) om2 c5 (fun j hj hh => by have := mm2 j hj; have := in5 j hh; omega)
  have y3 := Dt.chg (T := dSS) y3 c5 (fun j hj hh => x53 j hh hj)
  have o4 := o4.chg c5 (fun j hj hh => x54 j hh hj)
  have y6 := Dt.chg (T := dSS) y6 c5 x65
  have y7 := Dt.chg (T := dSS) y7 c5 x75
  have o5 : Ow Fl.int 3 H2 n5 (List.replicate turn.length 0) := by simpa using o5
  have gR := set_get (r' := ⟨[.int .i64 w', .int .i64 h', m1, m2.1, m2.2, n3.1, n4, n5, n6.1, n7.1, .int .i64 tm], 0, 46⟩) bR
  have hF3 : H.length ≤ H.length + 3 := by omega
  have eR : Chg H2 (H2.set (H.length + 3) ⟨[.int .i64 w', .int .i64 h', m1, m2.1, m2.2, n3.1, n4, n5, n6.1, n7.1, .int .i64 tm], 0, 46⟩) [H.length + 3] := chg_set _ _
  simp [t6, t7, t31, t32, VM.look, bO, bR, q, qm, qc, gR, hF3]
  refine ⟨(m1, m2, n3, n4, n5, n6, n7, ()), rfl, ⟨Dt.chg (T := dMesh) om1 eR (fun j hj hh => by have := mm1 j hj; simp at hh; omega), Dt.chg (T := dClasses) om2 eR (fun j hj hh => by have := mm2 j hj; simp at hh; omega), Dt.chg (T := dSS) y3 eR (fun j hj hh => by have := in3 j hj; simp at hh; omega),
    ⟨o4.chg eR (fun j hj hh => by have := in4 j hj; simp at hh; omega), by show (List.replicate own.length (-1)).length ≤ _; simpa using b4⟩, ⟨o5.chg eR (fun j hj hh => by have := in5 j hj; simp at hh; omega), by show (List.replicate turn.length 0).length ≤ _; simpa using b5⟩, Dt.chg (T := dSS) y6 eR (fun j hj hh => by have := in6 j hj; simp at hh; omega), Dt.chg (T := dSS) y7 eR (fun j hj hh => by have := in7 j hj; simp at hh; omega), trivial⟩,
    cH.trans' eR (fun j hj => .inr (by simp at hj; omega)), fun j hj => ?_, ?_⟩
  · rcases List.mem_append.1 hj with hj | hj
    · have := mm1 j hj; omega
    rcases List.mem_append.1 hj with hj | hj
    · have := mm2 j hj; omega
    · have := mr j hj; omega
  · refine List.nodup_append.2 ⟨dm1, List.nodup_append.2 ⟨dm2, d22, fun a ha b hb e => by have := mm2 a ha; have := mr b hb; omega⟩, fun a ha b hb e => ?_⟩
    rcases List.mem_append.1 hb with hb | hb
    · have := lm a ha; have := mm2 b hb; omega
    · have := mm1 a ha; have := mr b hb; omega
theorem l34Fresh_d {v : NetV} {x : NetD} {vm : Value} {w' h' : Int} {b' : List Int} {vc : Value × Value} {c' : ClassesD} (o : dNet.Ow H v x) (om : dMesh.Ow H vm (w', h', b')) (oc : dClasses.Ow H vc c') :
   wp (vcall C frz 47 [dNet.val v x, .agg #[.int .i64 w', .int .i64 h', vm], .agg #[vc.1, vc.2]] H) (dNet.Made H (fresh x (w', h', b') c')) := by
  have ones := dNet_one o
  have onem := dMesh_one om
  have onec := dClasses_one oc
  have ecopy := fun L => l15Copy_d (frz := H.length) (H := H ++ L) (v := v) (x := x) (Dt.app (T := dNet) o)
  obtain ⟨u2, ⟨u3, u4⟩, ⟨u5, h5⟩, u6, u7, ⟨u8, h8⟩, ⟨u9, h9⟩, _⟩ := v
  obtain ⟨⟨w, h, b⟩, ⟨A, B⟩, buf, own, turn, src, arr, tm⟩ := x
  simp only at ones
  simp only [dNet_val] at ecopy ⊢
  rw [vcall_go (fn := Tryz.f47) Tryz.func47 rfl (by kernel_rfl) rfl]
  simp [ones, onem, onec]
  refine wp_thn (ecopy _) ?_
  rintro _ K1 ⟨n, rfl, o1, c1, m1, d1⟩
  clear ecopy
  have bM : K1[H.length + 1]? = some ⟨[.int .i64 w', .int .i64 h', vm], 0, 40⟩ := box_chg (by simp) c1 (by simp)
  have bC : K1[H.length + 2]? = some ⟨[vc.1, vc.2], 0, 43⟩ := box_chg (by simp) c1 (by simp)
  have bR : K1[H.length + 3]? = some ⟨[.int .i64 0, .int .i64 0, .slice none 0 0, .slice none 0 0, .slice none 0 0, .slice none 0 0, .slice none 0 0, .slice none 0 0, .slice none 0 0, .slice none 0 0, .int .i64 0], 0, 46⟩ := box_chg (by simp) c1 (by simp)
  have cH : Chg H K1 [] := (Chg.app []).trans c1
  have lc1 := c1.1
  simp at lc1 m1
  have q := dNet_one o1
  have lt1 := dNet.lt o1
  obtain ⟨n1, n2, n3, n4, n5, n6, n7, nz⟩ := n
  obtain ⟨y1, y2, y3, y4, y5, y6, y7, _⟩ := o1
  simp only at y1 y2 y3 y4 y5 y6 y7 q
  have eid : dNet.ids (n1, n2, n3, n4, n5, n6, n7, nz) = dMesh.ids n1 ++ (dClasses.ids n2 ++ (dSS.ids n3 ++ (dIntS.ids n4 ++ (dIntS.ids n5 ++ (dSS.ids n6 ++ (dSS.ids n7 ++ [])))))) := rfl
  rw [eid] at m1 d1 lt1
  obtain ⟨d11, d12, _⟩ := List.nodup_append.1 d1
  obtain ⟨d21, d22, _⟩ := List.nodup_append.1 d12
  have mr : ∀ i ∈ dSS.ids n3 ++ (dIntS.ids n4 ++ (dIntS.ids n5 ++ (dSS.ids n6 ++ (dSS.ids n7 ++ [])))), H.length + 4 ≤ i ∧ i < K1.length := fun i hi => ⟨m1 i (List.mem_append.2 (.inr (List.mem_append.2 (.inr hi)))), lt1 i (List.mem_append.2 (.inr (List.mem_append.2 (.inr hi))))⟩
  have ml : ∀ i ∈ dMesh.ids n1, H.length + 4 ≤ i ∧ i < K1.length := fun i hi => ⟨m1 i (List.mem_append.2 (.inl hi)), lt1 i (List.mem_append.2 (.inl hi))⟩
  have mk : ∀ i ∈ dClasses.ids n2, H.length + 4 ≤ i ∧ i < K1.length := fun i hi => ⟨m1 i (List.mem_append.2 (.inr (List.mem_append.2 (.inl hi)))), lt1 i (List.mem_append.2 (.inr (List.mem_append.2 (.inl hi))))⟩
  clear m1 d1 lt1 eid d11 d12 d21
  obtain ⟨d31, d32, d33⟩ := List.nodup_append.1 d22
  obtain ⟨d41, d42, d43⟩ := List.nodup_append.1 d32
  obtain ⟨d51, d52, d53⟩ := List.nodup_append.1 d42
  have in3 : ∀ i ∈ dSS.ids n3, H.length + 4 ≤ i ∧ i < K1.length := fun i hi => mr i (List.mem_append.2 (.inl hi))
  have in4 : ∀ i ∈ dIntS.ids n4, H.length + 4 ≤ i ∧ i < K1.length := fun i hi => mr i (List.mem_append.2 (.inr (List.mem_append.2 (.inl hi))))
  have in5 : ∀ i ∈ dIntS.ids n5, H.length + 4 ≤ i ∧ i < K1.length := fun i hi => mr i (List.mem_append.2 (.inr (List.mem_append.2 (.inr (List.mem_append.2 (.inl hi))))))
  have in6 : ∀ i ∈ dSS.ids n6, H.length + 4 ≤ i ∧ i < K1.length := fun i hi => mr i (List.mem_append.2 (.inr (List.mem_append.2 (.inr (List.mem_append.2 (.inr (List.mem_append.2 (.inl hi))))))))
  have in7 : ∀ i ∈ dSS.ids n7, H.length + 4 ≤ i ∧ i < K1.length := fun i hi => mr i (List.mem_append.2 (.inr (List.mem_append.2 (.inr (List.mem_append.2 (.inr (List.mem_append.2 (.inr (List.mem_append.2 (.inl hi))))))))))
  have x43 : ∀ i ∈ dIntS.ids n4, i ∉ dSS.ids n3 := fun i hi hh => d33 i hh i (List.mem_append.2 (.inl hi)) rfl
  have x53 : ∀ i ∈ dIntS.ids n5, i ∉ dSS.ids n3 := fun i hi hh => d33 i hh i (List.mem_append.2 (.inr (List.mem_append.2 (.inl hi)))) rfl
  have x54 : ∀ i ∈ dIntS.ids n5, i ∉ dIntS.ids n4 := fun i hi hh => d43 i hh i (List.mem_append.2 (.inl hi)) rfl
  have x64 : ∀ i ∈ dSS.ids n6, i ∉ dIntS.ids n4 := fun i hi hh => d43 i hh i (List.mem_append.2 (.inr (List.mem_append.2 (.inl hi)))) rfl
  have x74 : ∀ i ∈ dSS.ids n7, i ∉ dIntS.ids n4 := fun i hi hh => d43 i hh i (List.mem_append.2 (.inr (List.mem_append.2 (.inr (List.mem_append.2 (.inl hi)))))) rfl
  have x65 : ∀ i ∈ dSS.ids n6, i ∉ dIntS.ids n5 := fun i hi hh => d53 i hh i (List.mem_append.2 (.inl hi)) rfl
  have x75 : ∀ i ∈ dSS.ids n7, i ∉ dIntS.ids n5 := fun i hi hh => d53 i hh i (List.mem_append.2 (.inr (List.mem_append.2 (.inl hi)))) rfl
  have hF1 : H.length ≤ K1.length := by omega
  simp [dNet_val, VM.look, bM, bC, q, onem, onec, hF1]
  obtain ⟨G1, hG1⟩ : ∃ G, G = K1 ++ [⟨[.int .i64 w, .int .i64 h, n1, n2.1, n2.2, n3.1, n4, n5, n6.1, n7.1, .int .i64 tm], 0, 46⟩] := ⟨_, rfl⟩
  have bO : G1[K1.length]? = some ⟨[.int .i64 w, .int .i64 h, n1, n2.1, n2.2, n3.1, n4, n5, n6.1, n7.1, .int .i64 tm], 0, 46⟩ := by rw [hG1]; simp
  have aG : Chg K1 G1 [] := by rw [hG1]; exact Chg.app []
  have gl : K1.length + 1 ≤ G1.length := by rw [hG1]; simp
  try rw [← hG1]
  clear hG1
  have bM := box_chg bM aG (by simp)
  have bC := box_chg bC aG (by simp)
  have bR := box_chg bR aG (by simp)
  have cH := cH.trans aG
  have y3 := Dt.chg0 (T := dSS) y3 aG
  have y4 := Dt.chg0 (T := dIntS) y4 aG
  have y5 := Dt.chg0 (T := dIntS) y5 aG
  have y6 := Dt.chg0 (T := dSS) y6 aG
  have y7 := Dt.chg0 (T := dSS) y7 aG
  try simp [VM.look, bM, onem]
  refine wp_thn (l15Mesh_w w' h' vm b' (Rd.isI (om.1.rd.chg cH (by simp))) om.2) ?_
  rintro _ G2 ⟨m1, rfl, om1, c2, mm1, dm1⟩
  have qm := dMesh_one om1
  have lm := dMesh.lt om1
  have bM := box_chg bM c2 (by simp)
  have bC := box_chg bC c2 (by simp)
  have bR := box_chg bR c2 (by simp)
  have bO := box_chg bO c2 (by simp)
  have cH := cH.trans c2
  have gl2 := c2.1
  have y3 := Dt.chg0 (T := dSS) y3 c2
  have y4 := Dt.chg0 (T := dIntS) y4 c2
  have y5 := Dt.chg0 (T := dIntS) y5 c2
  have y6 := Dt.chg0 (T := dSS) y6 c2
  have y7 := Dt.chg0 (T := dSS) y7 c2
  have bO1 := set_get (r' := ⟨[.int .i64 w', .int .i64 h', m1, n2.1, n2.2, n3.1, n4, n5, n6.1, n7.1, .int .i64 tm], 0, 46⟩) bO
  have eO : Chg G2 (G2.set K1.length ⟨[.int .i64 w', .int .i64 h', m1, n2.1, n2.2, n3.1, n4, n5, n6.1, n7.1, .int .i64 tm], 0, 46⟩) [K1.length] := chg_set _ _
  have bR := box_chg bR eO (by simp; omega)
  have bC := box_chg bC eO (by simp; omega)
  have cH := cH.trans' eO (fun i hi => .inr (by simp at hi; omega))
  have om1 := Dt.chg (T := dMesh) om1 eO (fun i hi hh => by have := mm1 i hi; simp at hh; omega)
  have y3 := Dt.chg (T := dSS) y3 eO (fun i hi hh => by have := in3 i hi; simp at hh; omega)
  have y4 := Dt.chg (T := dIntS) y4 eO (fun i hi hh => by have := in4 i hi; simp at hh; omega)
  have y5 := Dt.chg (T := dIntS) y5 eO (fun i hi hh => by have := in5 i hi; simp at hh; omega)
  have y6 := Dt.chg (T := dSS) y6 eO (fun i hi hh => by have := in6 i hi; simp at hh; omega)
  have y7 := Dt.chg (T := dSS) y7 eO (fun i hi hh => by have := in7 i hi; simp at hh; omega)
  have gl2' : (G2.set K1.length ⟨[.int .i64 w', .int .i64 h', m1, n2.1, n2.2, n3.1, n4, n5, n6.1, n7.1, .int .i64 tm], 0, 46⟩).length = G2.length := by simp
  simp [dMesh_val, VM.look, bO, q, qm, hF1]
  generalize G2.set K1.length ⟨[.int .i64 w', .int .i64 h', m1, n2.1, n2.2, n3.1, n4, n5, n6.1, n7.1, .int .i64 tm], 0, 46⟩ = G2' at *
  have bO := bO1
  clear bO1
  try simp [VM.look, bC, onec]
  refine wp_thn (l15Classes_w vc.1 vc.2 c'.1 c'.2 (Rd.isI (oc.1.1.rd.chg cH (by simp))) (Rd.isI (oc.2.1.rd.chg cH (by simp))) oc.1.2 oc.2.2) ?_
  rintro _ G3 ⟨m2, rfl, om2, c3, mm2, dm2⟩
  have qc := dClasses_one om2
  have lc := dClasses.lt om2
  have bR := box_chg bR c3 (by simp)
  have bO := box_chg bO c3 (by simp)
  have cH := cH.trans c3
  have gl3 := c3.1
  have om1 := Dt.chg0 (T := dMesh) om1 c3
  have y3 := Dt.chg0 (T := dSS) y3 c3
  have y4 := Dt.chg0 (T := dIntS) y4 c3
  have y5 := Dt.chg0 (T := dIntS) y5 c3
  have y6 := Dt.chg0 (T := dSS) y6 c3
  have y7 := Dt.chg0 (T := dSS) y7 c3
  have bO2 := set_get (r' := ⟨[.int .i64 w', .int .i64 h', m1, m2.1, m2.2, n3.1, n4, n5, n6.1, n7.1, .int .i64 tm], 0, 46⟩) bO
  have eO : Chg G3 (G3.set K1.length ⟨[.int .i64 w', .int .i64 h', m1, m2.1, m2.2, n3.1, n4, n5, n6.1, n7.1, .int .i64 tm], 0, 46⟩) [K1.length] := chg_set _ _
  have bR := box_chg bR eO (by simp; omega)
  have cH := cH.trans' eO (fun i hi => .inr (by simp at hi; omega))
  have om1 := Dt.chg (T := dMesh) om1 eO (fun i hi hh => by have := mm1 i hi; simp at hh; omega)
  have om2 := Dt.chg (T := dClasses) om2 eO (fun i hi hh => by have := mm2 i hi; simp at hh; omega)
  have y3 := Dt.chg (T := dSS) y3 eO (fun i hi hh => by have := in3 i hi; simp at hh; omega)
  have y4 := Dt.chg (T := dIntS) y4 eO (fun i hi hh => by have := in4 i hi; simp at hh; omega)
  have y5 := Dt.chg (T := dIntS) y5 eO (fun i hi hh => by have := in5 i hi; simp at hh; omega)
  have y6 := Dt.chg (T := dSS) y6 eO (fun i hi hh => by have := in6 i hi; simp at hh; omega)
  have y7 := Dt.chg (T := dSS) y7 eO (fun i hi hh => by have := in7 i hi; simp at hh; omega)
  have gl4 : (G3.set K1.length ⟨[.int .i64 w', .int .i64 h', m1, m2.1, m2.2, n3.1, n4, n5, n6.1, n7.1, .int .i64 tm], 0, 46⟩).length = G3.length := by simp
  simp [dClasses_val, VM.look, bO, q, qm, qc, hF1]
  generalize G3.set K1.length ⟨[.int .i64 w', .int .i64 h', m1, m2.1, m2.2, n3.1, n4, n5, n6.1, n7.1, .int .i64 tm], 0, 46⟩ = G4 at *
  have bO := bO2
  clear bO2 bM bC aG c2 c3 eO y1 y2
  have hb4 := y4.2
  have hb5 := y5.2
  refine wp_inv (fun m t H' => ∃ i : Nat, m = own.length - i ∧ i ≤ own.length ∧ t 6 = .pointer (some ⟨H.length + 3, 0, some 0⟩) ∧ t 7 = .pointer (some ⟨K1.length, 0, some 0⟩) ∧ t 8 = .int .i64 i ∧ Chg G4 H' (dIntS.ids n4) ∧ Ow Fl.int 3 H' n4 (List.replicate i (-1) ++ own.drop i)) ?_ (n := own.length)
    ⟨0, rfl, by omega, by simp, by simp, by simp, Chg.refl _, by simpa using y4.1⟩
  rintro m t H' ⟨i, rfl, hi, t6, t7, t8, c4, o4⟩ ih
  have bO' := box_chg bO c4 (fun hh => by have := in4 _ hh; omega)
  have hll : (List.replicate i (-1 : Int) ++ own.drop i).length = own.length := by simp; omega
  have l4' := o4.rd.len (P := Tryz.prog) (ty := 24) (by simp)
  rw [hll] at l4'
  simp [t6, t7, t8, VM.look, bO', q, l4']
  refine wp_dec ?_ ?_ <;> intro g
  · have hi' : i < own.length := by omega
    have q1 := o4.rd.isI.idx (P := Tryz.prog) (ty := 24) (e := 3) (by simp) (i := (i : Int)) (by omega) (by omega)
    simp only [Int.toNat_natCast] at q1
    obtain ⟨H5, s5, o5, c5, l5⟩ := o4.put1 (P := Tryz.prog) (frz := H.length) rfl (et := 3) (ag := false) (x := .int .i64 (-1)) (by simp) (j := i) (y := -1) (by omega) rfl rfl rfl (fun j hj => by have := in4 j hj; omega)
    rw [rep_set hi'] at o5
    simp [t6, t7, t8, VM.look, bO', q, q1, s5]
    refine ih (own.length - (i + 1)) _ _ ⟨i + 1, rfl, by omega, by simp [t6], by simp [t7], ?_, c4.trans c5, o5⟩ (by omega)
    simp; rw [w64 (by omega) (by omega)]
  have : i = own.length := by omega
  subst this
  clear ih
  have bR := box_chg bR c4 (fun hh => by have := in4 _ hh; omega)
  have bO := bO'
  have cH := cH.trans' c4 (fun j hj => .inr (by have := in4 j hj; omega))
  have gl5 := c4.1
  have om1 := Dt.chg (T := dMesh) om1 c4 (fun j hj hh => by have := mm1 j hj; have := in4 j hh; omega)
  have om2 := Dt.chg (T := dClasses) om2 c4 (fun j hj hh => by have := mm2 j hj; have := in4 j hh; omega)
  have y3 := Dt.chg (T := dSS) y3 c4 (fun j hj hh => x43 j hh hj)
  have y5 := Dt.chg (T := dIntS) y5 c4 x54
  have y6 := Dt.chg (T := dSS) y6 c4 x64
  have y7 := Dt.chg (T := dSS) y7 c4 x74
  have o4 : Ow Fl.int 3 H' n4 (List.replicate own.length (-1)) := by simpa using o4
  have b4 := y4.2
  have b5 := y5.2
  clear y4 c4 bO' g l4' hll hi
  have l5 := y5.1.rd.len (P := Tryz.prog) (ty := 24) (by simp)
  simp [t6, t7, t8, VM.look, bO, q, l5]
  refine wp_need (by omega) ?_
  have o5 : Ow Fl.int 3 (H' ++ [⟨(List.replicate turn.length [Value.int .i64 0]).flatten, 0, 3⟩]) (.slice (some ⟨H'.length, 0, some 0⟩) turn.length 0) (List.replicate turn.length 0) := Ow.new0 rfl (rep_cells (D := Fl.int) 0 _) (by rw [rep_cells (D := Fl.int) 0]; exact ones_ints _) (by simp)
  have aG2 : Chg H' (H' ++ [⟨(List.replicate turn.length [Value.int .i64 0]).flatten, 0, 3⟩]) [] := Chg.app []
  have gl6 : H'.length < (H' ++ [⟨(List.replicate turn.length [Value.int .i64 0]).flatten, 0, 3⟩] : Heap).length := by simp
  have hn5 : ∀ j ∈ ids (.slice (some ⟨H'.length, 0, some 0⟩) turn.length 0), j = H'.length := by simp
  obtain ⟨n5', hn5'⟩ : ∃ z : Value, z = .slice (some ⟨H'.length, 0, some 0⟩) turn.length 0 := ⟨_, rfl⟩
  rw [← hn5'] at o5 hn5
  obtain ⟨H2, hH2⟩ : ∃ z : Heap, z = H' ++ [⟨(List.replicate turn.length [Value.int .i64 0]).flatten, 0, 3⟩] := ⟨_, rfl⟩
  rw [← hH2] at o5 aG2 gl6
  try rw [← hn5']
  try simp at hH2
  try rw [← hH2]
  have q5 := And.intro o5.rd.one' o5.rd.cells
  have bR := box_chg bR aG2 (by simp)
  have bO := box_chg bO aG2 (by simp)
  have cH := cH.trans aG2
  have om1 := Dt.chg0 (T := dMesh) om1 aG2
  have om2 := Dt.chg0 (T := dClasses) om2 aG2
  have y3 := Dt.chg0 (T := dSS) y3 aG2
  have o4 := o4.chg aG2 (by simp)
  have y6 := Dt.chg0 (T := dSS) y6 aG2
  have y7 := Dt.chg0 (T := dSS) y7 aG2
  have kO := box_lt bO
  have gO := set_get (r' := ⟨[.int .i64 w', .int .i64 h', m1, m2.1, m2.2, n3.1, n4, n5', n6.1, n7.1, .int .i64 tm], 0, 46⟩) bO
  have eO : Chg H2 (H2.set K1.length ⟨[.int .i64 w', .int .i64 h', m1, m2.1, m2.2, n3.1, n4, n5', n6.1, n7.1, .int .i64 tm], 0, 46⟩) [K1.length] := chg_set _ _
  have bR := box_chg bR eO (by simp; omega)
  have cH := cH.trans' eO (fun j hj => .inr (by simp at hj; omega))
  have om1 := Dt.chg (T := dMesh) om1 eO (fun i hi hh => by have := mm1 i hi; simp at hh; omega)
  have om2 := Dt.chg (T := dClasses) om2 eO (fun i hi hh => by have := mm2 i hi; simp at hh; omega)
  have y3 := Dt.chg (T := dSS) y3 eO (fun i hi hh => by have := in3 i hi; simp at hh; omega)
  have o4 := o4.chg eO (fun i hi hh => by have := in4 i hi; simp at hh; omega)
  have o5 := o5.chg eO (fun i hi hh => by have := hn5 i hi; simp at hh; omega)
  have y6 := Dt.chg (T := dSS) y6 eO (fun i hi hh => by have := in6 i hi; simp at hh; omega)
  have y7 := Dt.chg (T := dSS) y7 eO (fun i hi hh => by have := in7 i hi; simp at hh; omega)
  simp [t6, t7, t8, VM.look, bO, q, qm, qc, q5, hF1]
  generalize H2.set K1.length ⟨[.int .i64 w', .int .i64 h', m1, m2.1, m2.2, n3.1, n4, n5', n6.1, n7.1, .int .i64 tm], 0, 46⟩ = H3 at *
  have gR := set_get (r' := ⟨[.int .i64 w', .int .i64 h', m1, m2.1, m2.2, n3.1, n4, n5', n6.1, n7.1, .int .i64 tm], 0, 46⟩) bR
  have hF3 : H.length ≤ H.length + 3 := by omega
  have eR : Chg H3 (H3.set (H.length + 3) ⟨[.int .i64 w', .int .i64 h', m1, m2.1, m2.2, n3.1, n4, n5', n6.1, n7.1, .int .i64 tm], 0, 46⟩) [H.length + 3] := chg_set _ _
  try simp [t6, t7, t8, VM.look, gO, bR, q, qm, qc, q5, gR, hF3]
  refine ⟨(m1, m2, n3, n4, n5', n6, n7, ()), rfl, ⟨Dt.chg (T := dMesh) om1 eR (fun j hj hh => by have := mm1 j hj; simp at hh; omega), Dt.chg (T := dClasses) om2 eR (fun j hj hh => by have := mm2 j hj; simp at hh; omega), Dt.chg (T := dSS) y3 eR (fun j hj hh => by have := in3 j hj; simp at hh; omega),
    ⟨o4.chg eR (fun j hj hh => by have := in4 j hj; simp at hh; omega), by show (List.replicate own.length (-1)).length ≤ _; simpa using b4⟩, ⟨o5.chg eR (fun j hj hh => by have := hn5 j hj; simp at hh; omega), by show (List.replicate turn.length 0).length ≤ _; simpa using b5⟩, Dt.chg (T := dSS) y6 eR (fun j hj hh => by have := in6 j hj; simp at hh; omega), Dt.chg (T := dSS) y7 eR (fun j hj hh => by have := in7 j hj; simp at hh; omega), trivial⟩,
    cH.trans' eR (fun j hj => .inr (by simp at hj; omega)), fun j hj => ?_, ?_⟩
  · rcases List.mem_append.1 hj with hj | hj
    · have := mm1 j hj; omega
    rcases List.mem_append.1 hj with hj | hj
    · have := mm2 j hj; omega
    rcases List.mem_append.1 hj with hj | hj
    · have := in3 j hj; omega
    rcases List.mem_append.1 hj with hj | hj
    · have := in4 j hj; omega
    rcases List.mem_append.1 hj with hj | hj
    · have := hn5 j hj; omega
    · have := mr j (List.mem_append.2 (.inr (List.mem_append.2 (.inr (List.mem_append.2 (.inr hj)))))); omega
  · have big : ∀ j ∈ dSS.ids n6 ++ (dSS.ids n7 ++ []), j < K1.length := fun j hj => (mr j (List.mem_append.2 (.inr (List.mem_append.2 (.inr (List.mem_append.2 (.inr hj))))))).2
    have nd5 : (dIntS.ids n5' ++ (dSS.ids n6 ++ (dSS.ids n7 ++ []))).Nodup := List.nodup_append.2 ⟨ids_nodup n5', d52, fun a ha b hb e => by have := hn5 a ha; have := big b hb; omega⟩
    have nd4 : (dIntS.ids n4 ++ (dIntS.ids n5' ++ (dSS.ids n6 ++ (dSS.ids n7 ++ [])))).Nodup := List.nodup_append.2 ⟨d41, nd5, fun a ha b hb e => by
      rcases List.mem_append.1 hb with hb | hb
      · have := in4 a ha; have := hn5 b hb; omega
      · exact d43 a ha b (List.mem_append.2 (.inr hb)) e⟩
    have nd3 : (dSS.ids n3 ++ (dIntS.ids n4 ++ (dIntS.ids n5' ++ (dSS.ids n6 ++ (dSS.ids n7 ++ []))))).Nodup := List.nodup_append.2 ⟨d31, nd4, fun a ha b hb e => by
      rcases List.mem_append.1 hb with hb | hb
      · exact d33 a ha b (List.mem_append.2 (.inl hb)) e
      rcases List.mem_append.1 hb with hb | hb
      · have := in3 a ha; have := hn5 b hb; omega
      · exact d33 a ha b (List.mem_append.2 (.inr (List.mem_append.2 (.inr hb)))) e⟩
    have all : ∀ j ∈ dSS.ids n3 ++ (dIntS.ids n4 ++ (dIntS.ids n5' ++ (dSS.ids n6 ++ (dSS.ids n7 ++ [])))), j < K1.length ∨ j = H'.length := fun j hj => by
      rcases List.mem_append.1 hj with hj | hj
      · exact .inl (in3 j hj).2
      rcases List.mem_append.1 hj with hj | hj
      · exact .inl (in4 j hj).2
      rcases List.mem_append.1 hj with hj | hj
      · exact .inr (hn5 j hj)
      · exact .inl (big j hj)
    refine List.nodup_append.2 ⟨dm1, List.nodup_append.2 ⟨dm2, nd3, fun a ha b hb e => by have := mm2 a ha; have := lc a ha; have := all b hb; omega⟩, fun a ha b hb e => ?_⟩
    rcases List.mem_append.1 hb with hb | hb
    · have := lm a ha; have := mm2 b hb; omega
    · have := mm1 a ha; have := lm a ha; have := all b hb; omega
end Go.Proofs.YtcigpclbhfkgaaaGreat.V
/-! Links. -/
set_option linter.all false
namespace Go.Proofs.YtcigpclbhfkgaaaGreat.V
open Go Go.VM Go.Proofs
set_option maxRecDepth 10000
variable {frz : Nat} {H : Heap}
theorem opposite_c (p : Int) : vcall C frz 191 [.int .i64 p] H = some (.int .i64 (opp p), H) := by
  rw [vcall_go (fn := Tryz.f191) Tryz.func191 rfl (by kernel_rfl) rfl]
  simp
  refine br_dec _ ?_ ?_ <;> intro h1 <;> simp [h1, opp, inside_c]
  refine br_dec _ ?_ ?_ <;> intro h2
  · obtain ⟨h3, h4⟩ := h2
    simp [h3, h4]
    rw [w64 (by omega) (by omega), Int.tmod_eq_emod_of_nonneg (by omega)]
  · have h3 : ¬ (0 ≤ p ∧ p ≤ 3) := h2
    simp [h3]
theorem sOpposite_c (p : Int) : vcall C frz 174 [.int .i64 p] H = some (.int .i64 (opp p), H) := by
  rw [vcall_go (fn := Tryz.f174) Tryz.func174 rfl (by kernel_rfl) rfl]
  simp
  refine br_dec _ ?_ ?_ <;> intro h1 <;> simp [h1, opp, l01In_c]
  refine br_dec _ ?_ ?_ <;> intro h2
  · obtain ⟨h3, h4⟩ := h2
    simp [h3, h4]
    rw [w64 (by omega) (by omega), Int.tmod_eq_emod_of_nonneg (by omega)]
  · have h3 : ¬ (0 ≤ p ∧ p ≤ 3) := h2
    simp [h3]
theorem opp_range (p : Int) : -1 ≤ opp p ∧ opp p ≤ 4 := by unfold opp; split <;> (try split) <;> omega
theorem endC_range (w h c : Int) : -1 ≤ endC w h c ∧ endC w h c < 16 := next_range _ _ _ _
theorem leads_lt {w h c : Int} (h1 : leads w h c) : 0 ≤ c ∧ c < 64 := by have := cnt_range w h; have := h1.1; omega
theorem back_w64 {w h c : Int} : IntKind.i64.wrap (4 * endC w h c) = 4 * endC w h c ∧ IntKind.i64.wrap (4 * endC w h c + opp (c % 4)) = backC w h c := by
  have h1 := endC_range w h c
  have h2 := opp_range (c % 4)
  exact ⟨w64 (by omega) (by omega), by unfold backC; exact w64 (by omega) (by omega)⟩
theorem back_c (w h : Int) (v : Value) (b : List Int) (c : Int) (hI : IsI H v b) (h0 : leads w h c) :
   vcall C frz 247 [.agg #[.int .i64 w, .int .i64 h, v], .int .i64 c] H = some (.int .i64 (backC w h c), H) := by
  rw [vcall_go (fn := Tryz.f247) Tryz.func247 rfl (by kernel_rfl) rfl]
  obtain ⟨e1, e2⟩ := chan_div h0.1
  obtain ⟨e3, e4⟩ := back_w64 (w := w) (h := h) (c := c)
  have e5 : next w h (c / 4) (c % 4) = endC w h c := rfl
  simp [hI.one', hI.cells, endOf_c _ _ _ _ _ (hI.app _) h0, e2, opposite_c, e3, e4, e5]
theorem isLink_c (w h : Int) (v : Value) (b : List Int) (c : Int) (hI : IsI H v b) (hl : b.length ≤ 1073741824) :
   vcall C frz 212 [.agg #[.int .i64 w, .int .i64 h, v], .int .i64 c] H = some (.bool (decide (meshOk w h b ∧ link w h b c)), H) := by
  rw [vcall_go (fn := Tryz.f212) Tryz.func212 rfl (by kernel_rfl) rfl]
  simp [hI.one', hI.cells]
  rw [go_draw (h := by kernel_rfl)]
  simp [hI.one', hI.cells, hasChannel_c _ _ _ _ _ (hI.app _) hl, -Bool.decide_and]
  refine gd_dec _ _ ?_ ?_ <;> intro h1
  · simp [h1, hI.one', hI.cells, back_c _ _ _ _ _ (hI.app _) h1.2.1, hasChannel_c _ _ _ _ _ (hI.app _) hl, link]
  · have h2 : ¬ (meshOk w h b ∧ link w h b c) := fun hh => h1 ⟨hh.1, hh.2.1⟩
    simp [h1]
    exact fun a b => h2 ⟨a, b⟩
theorem l31Link_c (w h : Int) (v : Value) (b : List Int) (c : Int) (hI : IsI H v b) (hl : b.length ≤ 1073741824) :
   vcall C frz 236 [.agg #[.int .i64 w, .int .i64 h, v], .int .i64 c] H = some (.bool (decide (link w h b c)), H) := by
  rw [vcall_go (fn := Tryz.f236) Tryz.func236 rfl (by kernel_rfl) rfl]
  simp [hI.one', hI.cells, l03Has_c _ _ _ _ _ (hI.app _) hl, -Bool.decide_and]
  refine br_dec _ ?_ ?_ <;> intro h1
  · obtain ⟨e1, e2⟩ := chan_div h1.1.1
    obtain ⟨e3, e4⟩ := back_w64 (w := w) (h := h) (c := c)
    have e5 : next w h (c / 4) (c % 4) = endC w h c := rfl
    simp
    rw [go_draw (h := by kernel_rfl)]
    simp [h1, hI.one', hI.cells, e1, e2, sNextNode_c, sOpposite_c, e3, e4, e5, l03Has_c _ _ _ _ _ (hI.app _) hl, link]
  · simp [link, h1]
end Go.Proofs.YtcigpclbhfkgaaaGreat.V
/-! slices.Repeat of one number. -/
set_option linter.all false
namespace Go.Proofs.YtcigpclbhfkgaaaGreat.V
open Go Go.VM Go.Proofs
set_option maxRecDepth 10000
variable {frz : Nat} {H : Heap}
theorem u64w {x : Int} (h1 : 0 ≤ x) (h2 : x ≤ 18446744073709551615) : IntKind.u64.wrap x = x := by
  have : IntKind.u64.wrap x = x % 18446744073709551616 := by
    simp [IntKind.wrap, IntKind.bits, IntKind.signed]
  rw [this]; omega
theorem iand_mask (m : Nat) (h : m < 4294967296) : iand .u64 (m : Int) 4294967295 = m := by
  have := bits_and m 4294967295 (by omega) (by omega) .u64 rfl
  have e : ((4294967295 : Nat) : Int) = 4294967295 := rfl
  rw [e] at this
  unfold iand
  rw [this, show (4294967295 : Nat) = 2 ^ 32 - 1 from rfl, Nat.and_two_pow_sub_one_eq_mod, u64w (by omega) (by omega)]
  omega
theorem ishr32 (m : Nat) (h : m < 4294967296) : ishr .u64 (m : Int) 32 = 0 := by
  have := ishr_nat .u64 m 32 (by decide)
  have e : ((32 : Nat) : Int) = 32 := rfl
  rw [e] at this
  rw [this]; omega
theorem mul64_c (n : Nat) (h : n < 4294967296) : vcall C frz 261 [.int .u64 1, .int .u64 n] H = some (.tuple #[.int .u64 0, .int .u64 n], H) := by
  rw [vcall_go (fn := Tryz.f261) Tryz.func261 rfl (by kernel_rfl) rfl]
  have a1 := iand_mask 1 (by omega)
  have a0 := iand_mask 0 (by omega)
  have s1 := ishr32 1 (by omega)
  have s0 := ishr32 0 (by omega)
  have an := iand_mask n h
  have sn := ishr32 n h
  simp only [Int.natCast_zero, Int.natCast_one] at a1 a0 s1 s0
  have w0 : IntKind.u64.wrap 0 = 0 := by decide
  have wn : IntKind.u64.wrap (n : Int) = n := u64w (by omega) (by omega)
  simp [a1, s1, an, sn, wn, w0, a0, s0]
theorem mul_c (n : Nat) (h : n < 4294967296) : vcall C frz 257 [.int .u64 1, .int .u64 n] H = some (.tuple #[.int .u64 0, .int .u64 n], H) := by
  rw [vcall_go (fn := Tryz.f257) Tryz.func257 rfl (by kernel_rfl) rfl]
  simp [mul64_c n h]
theorem splice_rep (c z : Value) (k m : Nat) (j : Nat) (h : j ≤ m) : VM.splice (List.replicate k c ++ List.replicate m z) k (List.replicate j c) = List.replicate (k + j) c ++ List.replicate (m - j) z := by
  unfold VM.splice
  rw [List.take_left' (by simp), List.drop_append, List.drop_of_length_le (by simp)]
  simp only [List.length_replicate, Nat.add_sub_cancel_left, List.nil_append, List.drop_replicate]
  rw [List.replicate_append_replicate]
theorem repeat_c (id : Nat) (c : Int) (n : Nat) (hr : H[id]? = some ⟨[.int .i64 c], 0, 3⟩) (h1 : 1 ≤ n) (h2 : n ≤ 536870912) :
   vcall C frz 246 [.slice (some ⟨id, 0, some 0⟩) 1 0, .int .i64 n] H = some (.slice (some ⟨H.length, 0, some 0⟩) n 0, H ++ [⟨List.replicate n (.int .i64 c), 0, 3⟩]) := by
  rw [vcall_go (fn := Tryz.f246) Tryz.func246 rfl (by kernel_rfl) rfl]
  have e0 : ¬ (n : Int) < 0 := by omega
  have e1 : IntKind.u64.wrap (n : Int) = n := u64w (by omega) (by omega)
  have e2 : IntKind.u64.wrap 1 = 1 := by decide
  have e3 : IntKind.i64.wrap (n : Int) = n := w64 (by omega) (by omega)
  have e4 : ¬ (9223372036854775807 : Int) < n := by omega
  simp [VM.look, hr, e0, e1, e2, e3, e4, mul_c n (by omega)]
  refine vneed_eq (by omega) ?_
  have lk : ∀ L, (H ++ L)[id]? = some ⟨[.int .i64 c], 0, 3⟩ := fun L => by rw [List.getElem?_append_left (List.getElem?_eq_some_iff.1 hr).1, hr]
  have er : VM.splice (List.replicate n (Value.int .i64 0)) 0 [.int .i64 c] = List.replicate 1 (.int .i64 c) ++ List.replicate (n - 1) (.int .i64 0) := by
    have := splice_rep (.int .i64 c) (.int .i64 0) 0 n 1 h1
    simpa using this
  have m1 : Nat.min 1 n = 1 := Nat.min_eq_left h1
  simp [VM.look, lk, m1, er]
  refine go_inv (fun m t H' => ∃ k : Nat, m = n - k ∧ 1 ≤ k ∧ k ≤ n ∧ t 7 = .slice (some ⟨H.length, 0, some 0⟩) n 0 ∧ t 8 = .int .i64 k ∧ H' = H ++ [⟨List.replicate k (.int .i64 c) ++ List.replicate (n - k) (.int .i64 0), 0, 3⟩]) ?_ (n := n - 1) ⟨1, by simp [e3]; exact h1⟩
  rintro m t H' ⟨k, rfl, hk1, hk, h7, h8, rfl⟩ ih
  simp [h7, h8]
  refine br_dec _ ?_ ?_ <;> intro hkn
  · simp [h7, h8]
    rw [go_draw (h := by kernel_rfl)]
    simp [h7, h8]
    have hmin : k.min (n - k) = min k (n - k) := rfl
    have hrep := splice_rep (.int .i64 c) (.int .i64 0) k (n - k) (min k (n - k)) (Nat.min_le_right _ _)
    have hones : ones (List.replicate k (Value.int .i64 c)) = true := by simp [ones, VM.one]
    refine vneed_eq hk (vneed_eq hk (vneed_eq hones ?_))
    refine ih (n - (k + min k (n - k))) _ _ ⟨k + min k (n - k), rfl, by omega, by omega, by simp [h7], ?_, ?_⟩ (by omega)
    · simp [hmin]; rw [w64 (by omega) (by omega)]
    · rw [hrep]; congr 3; congr 1; congr 1; omega
  · have : k = n := by omega
    subst this
    simp [h7, h8]
end Go.Proofs.YtcigpclbhfkgaaaGreat.V
/-! TreeNodes. -/
set_option linter.all false
namespace Go.Proofs.YtcigpclbhfkgaaaGreat.V
open Go Go.VM Go.Proofs
set_option maxRecDepth 10000
variable {frz : Nat} {H : Heap}
theorem made_base {α : Type} {D : Fl α} {e : TypeId} {L H' : Heap} {xs : List α} {r : Value} (h : Made D e (H ++ L) xs r H') : Made D e H xs r H' := by
  obtain ⟨M, rfl, o, n⟩ := h
  exact ⟨L ++ M, by simp, by simpa using o, fun i hi => by have := n i hi; simp at this; omega⟩
theorem idx_get {y : List Int} {c : Int} (h : c ∈ y) : y[y.idxOf c]'(List.idxOf_lt_length_iff.2 h) = c := by
  have := List.findIdx_getElem (p := (· == c)) (xs := y) (w := List.idxOf_lt_length_iff.2 h)
  simpa using this
theorem idx_ne {y : List Int} {c : Int} {j : Nat} (h : j < y.idxOf c) (h' : j < y.length) : y[j] ≠ c := by
  have := List.not_of_lt_findIdx (p := (· == c)) (xs := y) h
  simpa using this
theorem idx_at {y : List Int} {c : Int} {j : Nat} (h : j < y.length) (h1 : y[j] = c) : y.idxOf c ≤ j := by
  by_cases hj : j < y.idxOf c
  · exact absurd h1 (idx_ne hj h)
  · omega
theorem swapI {A B : Heap} {v : Value} {xs : List Int} {r : Row} (r' : Row) (h : IsI (A ++ r :: B) v xs) (hn : ∀ i ∈ ids v, A.length + 1 ≤ i) : IsI (A ++ r' :: B) v xs :=
  (h.rd.frame fun i hi => by
    have := hn i hi
    obtain ⟨k, rfl⟩ : ∃ k, i = A.length + (k + 1) := ⟨i - A.length - 1, by omega⟩
    simp).isI
theorem treeNodes_w (v : Value) (P : List Int) (a b : Int) (hI : IsI H v P) (hl : P.length ≤ 536870911) :
   wp (vcall C frz 169 [v, .int .i64 a, .int .i64 b] H) (Made Fl.int 3 H (treeNodes P a b)) := by
  rw [vcall_go (fn := Tryz.f169) Tryz.func169 rfl (by kernel_rfl) rfl]
  simp [common_c _ _ _ _ hI (by omega)]
  refine wp_dec ?_ ?_ <;> intro h0
  · simp [treeNodes, h0]
    exact ⟨[], by simp, .inl ⟨rfl, rfl⟩, by simp⟩
  · simp
    refine wp_thn (anc_w v P a hI (by omega)) ?_
    rintro va _ ⟨L1, rfl, oa, na⟩
    simp
    refine wp_thn (anc_w v P b (hI.app _) (by omega)) ?_
    rintro vb _ ⟨L2, rfl, ob, nb⟩
    have ltA := oa.lt
    have oa := oa.app (L := L2)
    have hla := anc_len P a
    have hlb := anc_len P b
    simp only [List.append_assoc] at oa ob
    obtain ⟨ma, mb⟩ := common_mem (P := P) (a := a) (b := b) (by omega)
    have ia := List.idxOf_lt_length_iff.2 ma
    have ib := List.idxOf_lt_length_iff.2 mb
    simp
    rw [go_draw (h := by kernel_rfl)]
    have e1 : IntKind.i64.wrap (((anc P a).idxOf (common P a b) : Int) + 1) = (((anc P a).idxOf (common P a b) + 1 : Nat) : Int) := by rw [w64 (by omega) (by omega)]; omega
    obtain ⟨va', s1, oa', ida⟩ := oa.slice (P := Tryz.prog) (ty := 24) (by simp) (lo := none) (hi := some (.int .i64 (((anc P a).idxOf (common P a b) + 1 : Nat) : Int))) (l := 0) (u := (anc P a).idxOf (common P a b) + 1) rfl rfl (by omega) (by omega)
    obtain ⟨vb', s2, ob', idb⟩ := ob.slice (P := Tryz.prog) (ty := 24) (by simp) (lo := none) (hi := some (.int .i64 ((anc P b).idxOf (common P a b) : Int))) (l := 0) (u := (anc P b).idxOf (common P a b)) rfl rfl (by omega) (by omega)
    rw [List.drop_zero, Nat.sub_zero] at oa' ob'
    have e0 : place (anc P a) (common P a b) = ((anc P a).idxOf (common P a b) : Int) := if_pos ma
    have e00 : place (anc P b) (common P a b) = ((anc P b).idxOf (common P a b) : Int) := if_pos mb
    rw [e1.symm] at s1
    simp [index_c _ _ _ oa.rd.isI (by omega), e0]
    simp only [s1]
    simp [index_c _ _ _ ob.rd.isI (by omega), e00]
    simp only [s2]
    simp
    rw [ida.symm] at na ltA
    rw [idb.symm] at nb
    refine wp_thn (reverse_w vb' _ 3 ob' (by simp; omega) (fun i hi => by have := nb i hi; simp at this; omega)) ?_
    rintro _ H3 ⟨ob3, c3, l3⟩
    have oa3 := oa'.chg c3 (fun i hi hh => by have h1 := ltA i hi; have h2 := nb i hh; omega)
    obtain ⟨M, rfl⟩ : ∃ M, H3 = H ++ M := ((Chg.app (H := H) (L := L1 ++ L2) []).trans' c3 (fun i hi => .inr (by have := nb i hi; simp at this; omega))).ex (by simp)
    simp
    simp [oa3.rd.one', oa3.rd.cells, ob3.rd.one', ob3.rd.cells]
    refine wp_thn (Q' := Made Fl.int 3 H (treeNodes P a b)) ?_ ?_
    · refine (made_ret (H := H ++ (M ++ [⟨[va', vb'], 0, 24⟩])) (concat_c (H := H ++ (M ++ [⟨[va', vb'], 0, 24⟩])) (H.length + M.length) va' vb' ((anc P a).take ((anc P a).idxOf (common P a b) + 1)) ((anc P b).take ((anc P b).idxOf (common P a b))).reverse (by simp) ?_ ?_ (by simp; omega))).mono ?_
      · have := oa3.rd.isI.app [⟨[va', vb'], 0, 24⟩]; simpa using this
      · have := ob3.rd.isI.app [⟨[va', vb'], 0, 24⟩]; simpa using this
      · intro r H4 h4
        rw [treeNodes, if_neg h0]
        exact made_base h4
    · intro r H4 h4
      simp
      exact h4
end Go.Proofs.YtcigpclbhfkgaaaGreat.V
/-! TreeDepths. -/
set_option linter.all false
namespace Go.Proofs.YtcigpclbhfkgaaaGreat.V
open Go Go.VM Go.Proofs
set_option maxRecDepth 10000
variable {frz : Nat} {H : Heap}
theorem rowget {xs : List Int} {x : Int} (h0 : 0 ≤ x) (h1 : x < xs.length) : (xs.map (Value.int .i64))[x.toNat]? = some (.int .i64 (rd xs x)) := by
  obtain ⟨i, rfl⟩ := Int.eq_ofNat_of_zero_le h0
  rw [rd_at (by omega)]; simp
theorem rd_nat {xs : List Int} {x : Int} (h0 : 0 ≤ x) (h1 : x < xs.length) : xs[x.toNat]'(by omega) = rd xs x := by
  obtain ⟨i, rfl⟩ := Int.eq_ofNat_of_zero_le h0
  rw [rd_at (by omega)]; rfl
theorem rowset {xs : List Int} {x c : Int} (h0 : 0 ≤ x) (h1 : x < xs.length) : VM.splice (xs.map (Value.int .i64)) x.toNat [.int .i64 c] = (xs.set x.toNat c).map (.int .i64) := by
  unfold VM.splice
  rw [List.set_eq_take_append_cons_drop, if_pos (by omega)]
  simp
theorem wr1 : IntKind.i64.wrap 1 = 1 := by decide
theorem run_next {w h : Int} {b s rest nx r : List Int} {d : Int} (R : Run w h b s rest nx d r) (i : Inv w h s rest nx d) : (rest = [] ∧ nx = [] ∧ s = r) ∨
    ∃ a rest' nx' d', rest ++ nx = a :: (rest' ++ nx') ∧ Inv w h s (a :: rest') nx' d' ∧ Run w h b (vis w h b a d' (s, nx')).1 rest' (vis w h b a d' (s, nx')).2 d' r := by
  cases R with
  | done => exact .inl ⟨rfl, rfl, rfl⟩
  | level R =>
    cases R with
    | node R => exact .inr ⟨_, _, [], _, by simp, i.level, R⟩
  | node R => exact .inr ⟨_, _, _, _, by simp, i, R⟩
theorem treeDepths_w (w h : Int) (v : Value) (b : List Int) (root : Int) (hI : IsI H v b) (hl : b.length ≤ 1073741824) :
   wp (vcall C frz 211 [.agg #[.int .i64 w, .int .i64 h, v], .int .i64 root] H) (Made Fl.int 3 H (depths w h b root)) := by
  rw [vcall_go (fn := Tryz.f211) Tryz.func211 rfl (by kernel_rfl) rfl]
  have one := And.intro hI.one' hI.cells
  simp [one, isRoot_c _ _ _ _ _ (hI.app _) hl, -Bool.decide_and]
  refine wp_dec ?_ ?_ <;> intro hR
  · have R := depths_run hR
    have hc := cnt_range w h
    obtain ⟨hm, hr⟩ := hR
    obtain ⟨i0, hq0⟩ := start_inv hr
    obtain ⟨r0, r1⟩ := hr
    have hn1 : 1 ≤ (cnt w h).toNat := by omega
    have ecn : ((cnt w h).toNat : Int) = cnt w h := by omega
    have rep := fun F L (hr : (H ++ ⟨[.int .i64 w, .int .i64 h, v], 0, 40⟩ :: L)[H.length + 1]? = some ⟨[.int .i64 (-1)], 0, 3⟩) => repeat_c (frz := F) (H := H ++ ⟨[.int .i64 w, .int .i64 h, v], 0, 40⟩ :: L) (H.length + 1) (-1) (cnt w h).toNat hr hn1 (by omega)
    rw [ecn] at rep
    simp [one, nodeCount_c]
    rw [rep _ _ (by simp)]
    have er : List.replicate (cnt w h).toNat (Value.int .i64 (-1)) = (List.replicate (cnt w h).toNat (-1 : Int)).map (.int .i64) := by simp
    have es := rowset (xs := List.replicate (cnt w h).toNat (-1 : Int)) (c := 0) r0 (by simp; omega)
    rw [er]
    simp only [thn_some]
    have hrl : root < ((cnt w h).toNat : Int) := by omega
    simp [r0, r1, hrl, -List.map_replicate, es, -List.map_set]
    refine wp_need (by omega) (wp_need (by omega) ?_)
    have est : (List.replicate (cnt w h).toNat (-1 : Int)).set root.toNat 0 = start w h root := rfl
    rw [est]
    have hlm : b.length ≤ 1073741824 := hl
    refine wp_inv (fun n t H' => ∃ (s don rest nx q : List Int) (d : Int) (g : Nat) (G : Heap), n = (cnt w h).toNat - don.length ∧ q = don ++ (rest ++ nx) ∧
      t 2 = .pointer (some ⟨H.length, 0, some 0⟩) ∧ t 5 = .slice (some ⟨H.length + 2, 0, some 0⟩) s.length 0 ∧ t 6 = .slice (some ⟨H.length + 3, 0, some g⟩) q.length 0 ∧ t 7 = .int .i64 don.length ∧
      H' = H ++ ⟨[.int .i64 w, .int .i64 h, v], 0, 40⟩ :: ⟨[.int .i64 (-1)], 0, 3⟩ :: ⟨s.map (.int .i64), 0, 3⟩ :: ⟨q.map (.int .i64), g, 3⟩ :: G ∧
      Run w h b s rest nx d (depths w h b root) ∧ Inv w h s rest nx d ∧ ((don.length + rest.length + nx.length + neg s : Nat) : Int) = cnt w h) ?_
      (n := (cnt w h).toNat) ⟨start w h root, [], [root], [], [root], 1, 0, [], by simp, by simp, by simp, by simp [start], by simp, by simp, by simp, R, i0, by simp; omega⟩
    clear R i0 hq0 rep
    rintro n t H' ⟨s, don, rest, nx, q, d, g, G, rfl, hqe, h2, h5, h6, h7, rfl, R, i, hq⟩ ih
    have hql := congrArg List.length hqe
    simp at hql
    simp [h2, h5, h6, h7]
    rcases run_next R i with ⟨rfl, rfl, rfl⟩ | ⟨a, rest', nx', d', hcat, i', R'⟩
    · have hlt : ¬ don.length < q.length := by simp at hql; omega
      simp [h2, h5, h6, h7, hlt]
      exact ⟨_, rfl, Ow.new (k := 2) rfl (cellsOf_int _).symm (by simp) rfl, by simp⟩
    · have hlc := congrArg List.length hcat
      simp at hlc
      have hlt : don.length < q.length := by omega
      have hget : q[don.length]? = some a := by rw [hqe, hcat]; simp
      have hgv : q[don.length] = a := by have := List.getElem?_eq_getElem hlt; rw [hget] at this; exact (Option.some.inj this).symm
      obtain ⟨ha, hda⟩ := i'.fr a (by simp)
      have ha1 := (isN_ok ha)
      have h1d := i'.one
      have hsd := i'.sum
      simp [h2, h5, h6, h7, hlt, hgv]
      refine wp_inv (fun n t H' => ∃ (x : List Int × List Int) (p g : Nat) (G : Heap), n = 4 - p ∧ p ≤ 4 ∧ x = (List.range p).foldl (vst w h b a d') (s, q) ∧ BExt w h d' (s, q) x ∧
        t 2 = .pointer (some ⟨H.length, 0, some 0⟩) ∧ t 5 = .slice (some ⟨H.length + 2, 0, some 0⟩) x.1.length 0 ∧ t 6 = .slice (some ⟨H.length + 3, 0, some g⟩) x.2.length 0 ∧ t 7 = .int .i64 don.length ∧
        t 8 = .int .i64 a ∧ t 9 = .int .i64 p ∧
        H' = H ++ ⟨[.int .i64 w, .int .i64 h, v], 0, 40⟩ :: ⟨[.int .i64 (-1)], 0, 3⟩ :: ⟨x.1.map (.int .i64), 0, 3⟩ :: ⟨x.2.map (.int .i64), g, 3⟩ :: G) ?_
        (n := 4) ⟨(s, q), 0, g, G, by simp, by simp, by simp, BExt.rfl', by simp [h2], by simp [h5], by simp [h6], by simp [h7], by simp, by simp, by simp⟩
      clear h2 h5 h6 h7
      rintro n t H' ⟨x, p, g, G, rfl, hp, hx, E, h2, h5, h6, h7, h8, h9, rfl⟩ ih2
      have hlen : (x.1.length : Int) = cnt w h := by rw [E.len]; exact i.len
      have hxq : x.2.length ≤ 16 := by have := E.sum; simp at this; omega
      simp [h2, h5, h6, h7, h8, h9]
      refine wp_dec ?_ ?_ <;> intro hp4
      · have hp4' : p < 4 := by omega
        have e1 : IntKind.i64.wrap (4 * a) = 4 * a := w64 (by omega) (by omega)
        have e2 : IntKind.i64.wrap (4 * a + p) = 4 * a + p := w64 (by omega) (by omega)
        have nxt := fun (x' : List Int × List Int) (t' : Env) (g' : Nat) (G' H' : Heap) (hH : H' = H ++ ⟨[.int .i64 w, .int .i64 h, v], 0, 40⟩ :: ⟨[.int .i64 (-1)], 0, 3⟩ :: ⟨x'.1.map (.int .i64), 0, 3⟩ :: ⟨x'.2.map (.int .i64), g', 3⟩ :: G') (hx' : x' = vst w h b a d' x p) (k2 : t' 2 = .pointer (some ⟨H.length, 0, some 0⟩)) (k5 : t' 5 = .slice (some ⟨H.length + 2, 0, some 0⟩) x'.1.length 0) (k6 : t' 6 = .slice (some ⟨H.length + 3, 0, some g'⟩) x'.2.length 0) (k7 : t' 7 = .int .i64 don.length) (k8 : t' 8 = .int .i64 a) (k9 : t' 9 = .int .i64 (p + 1 : Nat)) =>
          ih2 (4 - (p + 1)) t' H'
            ⟨x', p + 1, g', G', rfl, by omega, by rw [List.range_succ, List.foldl_append, ← hx]; exact hx', by rw [hx']; exact E.trans (by omega) (vst_ext hp4' (by omega)), k2, k5, k6, k7, k8, k9, hH⟩ (by omega)
        have w9 : IntKind.i64.wrap ((p : Int) + 1) = ((p + 1 : Nat) : Int) := by rw [w64 (by omega) (by omega)]; omega
        simp [h2, h5, h6, h7, h8, h9, one, e1, e2, isLink_c _ _ _ _ _ (hI.app _) hl, hm]
        refine wp_dec ?_ ?_ <;> intro hlk
        · obtain ⟨_, hn, he⟩ := link_next hp4' hlk
          have hend := fun F L => (congrArg (fun z => some (Value.int .i64 z, H ++ L)) he) ▸ endOf_c (frz := F) w h v b (4 * a + (p : Int)) (hI.app L) hlk.1.1
          have hn1 := hn.1
          have hn2 : next w h a p < (x.1.length : Int) := by have := hn.2; omega
          have hg := rowget (xs := x.1) hn1 hn2
          have hr1 := rd_nat hn1 hn2
          have hra : rd x.1 a = d' - 1 := by rw [E.old a ha.1 (show 0 ≤ rd s a by omega)]; exact hda
          have ha2 : a < (x.1.length : Int) := by have := ha.2; omega
          have hr2 := rd_nat ha.1 ha2
          simp [h2, h5, h6, h7, h8, h9, one, e1, e2, hend, hn1, hn2, hr1]
          refine wp_dec ?_ ?_ <;> intro hz
          · have hset := rowset (c := d') hn1 hn2
            have ev : vst w h b a d' x p = (x.1.set (next w h a p).toNat d', x.2 ++ [next w h a p]) := by unfold vst; rw [if_pos ⟨hlk, hz⟩]
            have wd : IntKind.i64.wrap d' = d' := w64 (by omega) (by omega)
            have ha0 := ha.1
            simp [h2, h5, h6, h7, h8, h9, hn1, hn2, ha0, ha2, hr2, hra, wd]
            refine wp_need (by omega) (wp_need (by omega) ?_)
            rw [hset]
            refine nxt (x.1.set (next w h a p).toNat d', x.2 ++ [next w h a p]) _ (g + 1) (G ++ [⟨[.int .i64 (next w h a p)], 0, 3⟩]) _ (by simp) ev.symm (by simp [h2]) (by simp [h5]) (by simp) (by simp [h7]) (by simp [h8]) (by simp [w9])
          · simp [h2, h5, h6, h7, h8, h9, hz]
            have ev : x = vst w h b a d' x p := by unfold vst; rw [if_neg (fun hh => hz hh.2)]
            refine nxt x _ g G _ (by simp) ev (by simp [h2]) (by simp [h5]) (by simp [h6]) (by simp [h7]) (by simp [h8]) (by simp [w9])
        · simp [h2, h5, h6, h7, h8, h9, hlk]
          have ev : x = vst w h b a d' x p := by unfold vst; rw [if_neg (fun hh => hlk hh.1)]
          refine nxt x _ g G _ (by simp) ev (by simp [h2]) (by simp [h5]) (by simp [h6]) (by simp [h7]) (by simp [h8]) (by simp [w9])
      · have : p = 4 := by omega
        subst this
        have e2 : x = ((vis w h b a d' (s, nx')).1, (don ++ a :: rest') ++ (vis w h b a d' (s, nx')).2) := by
          rw [hx, hqe, hcat]; exact vis_app (don ++ a :: rest') s nx' |> fun hh => by simpa [vis] using hh
        simp [h2, h5, h6, h7, h8, h9]
        have hs1 := (vis_ext (w := w) (h := h) (b := b) (a := a) (d := d') (by omega) (s, nx')).sum
        simp only at hs1
        refine ih ((cnt w h).toNat - (don ++ [a]).length) _ _ ⟨(vis w h b a d' (s, nx')).1, don ++ [a], rest', (vis w h b a d' (s, nx')).2, x.2, d', g, G, rfl, ?_, by simp [h2], ?_, by simp [h6], ?_, ?_, R', i'.node, ?_⟩ (by simp; omega)
        · rw [e2]; simp
        · simp [h5, e2]
        · simp; rw [w64 (by omega) (by omega)]
        · rw [e2]
        · simp; omega
  · rw [depths_no hR]
    simp
    exact ⟨_, rfl, .inl ⟨rfl, rfl⟩, by simp⟩
end Go.Proofs.YtcigpclbhfkgaaaGreat.V
/-! TreeDepths of the reference. -/
set_option linter.all false
namespace Go.Proofs.YtcigpclbhfkgaaaGreat.V
open Go Go.VM Go.Proofs
set_option maxRecDepth 10000
variable {frz : Nat} {H : Heap}
theorem run_level {w h : Int} {b s nx r : List Int} {d : Int} (R : Run w h b s [] nx d r) (i : Inv w h s [] nx d) : (nx = [] ∧ s = r) ∨ (Run w h b s nx [] (d + 1) r ∧ Inv w h s nx [] (d + 1)) := by
  cases R with
  | done => exact .inl ⟨rfl, rfl⟩
  | level R => exact .inr ⟨R, i.level⟩
theorem run_node {w h : Int} {b s rest nx r : List Int} {a d : Int} (R : Run w h b s (a :: rest) nx d r) : Run w h b (vis w h b a d (s, nx)).1 rest (vis w h b a d (s, nx)).2 d r := by
  cases R with
  | node R => exact R
theorem l31Depths_w (w h : Int) (v : Value) (b : List Int) (root : Int) (hI : IsI H v b) (hl : b.length ≤ 1073741824) (hR : rootOk w h b root) :
   wp (vcall C frz 235 [.agg #[.int .i64 w, .int .i64 h, v], .int .i64 root] H) (Made Fl.int 3 H (depths w h b root)) := by
  rw [vcall_go (fn := Tryz.f235) Tryz.func235 rfl (by kernel_rfl) rfl]
  have one := And.intro hI.one' hI.cells
  have R := depths_run hR
  have hc := cnt_range w h
  obtain ⟨hm, hr⟩ := hR
  obtain ⟨i0, hq0⟩ := start_inv hr
  obtain ⟨r0, r1⟩ := hr
  simp [one]
  refine wp_inv (fun n t H' => ∃ (i : Nat) (G : Heap), n = (cnt w h).toNat - i ∧ i ≤ (cnt w h).toNat ∧ t 1 = .int .i64 root ∧ t 2 = .pointer (some ⟨H.length, 0, some 0⟩) ∧ t 5 = .slice (some ⟨H.length + 1, 0, some i⟩) i 0 ∧ t 6 = .int .i64 i ∧
    H' = H ++ ⟨[.int .i64 w, .int .i64 h, v], 0, 40⟩ :: ⟨(List.replicate i (-1 : Int)).map (.int .i64), i, 3⟩ :: G) ?_ (n := (cnt w h).toNat) ⟨0, [], by simp⟩
  rintro n t H' ⟨i, G, rfl, hi, h1, h2, h5, h6, rfl⟩ ih
  simp [h1, h2, h5, h6, one, sNodeCount_c, -List.map_replicate]
  refine wp_dec ?_ ?_ <;> intro hic
  · simp [h1, h2, h5, h6, one, -List.map_replicate]
    refine wp_need (by omega) ?_
    refine ih ((cnt w h).toNat - (i + 1)) _ _ ⟨i + 1, G ++ [⟨[.int .i64 (-1)], 0, 3⟩], rfl, by omega, by simp [h1], by simp [h2], by simp, ?_, ?_⟩ (by omega)
    · simp; rw [w64 (by omega) (by omega)]
    · simp [List.replicate_succ', -List.map_replicate]
  · have : i = (cnt w h).toNat := by omega
    subst this
    have es := rowset (xs := List.replicate (cnt w h).toNat (-1 : Int)) (c := 0) r0 (by simp; omega)
    have hrl : root < ((cnt w h).toNat : Int) := by omega
    have est : (List.replicate (cnt w h).toNat (-1 : Int)).set root.toNat 0 = start w h root := rfl
    simp [h1, h2, h5, h6, one, r0, r1, hrl, -List.map_replicate, es, -List.map_set, est]
    refine wp_need (by omega) (wp_need (by omega) ?_)
    clear ih h1 h6
    generalize hg0 : (cnt w h).toNat = g0
    have hcg : (cnt w h) = (g0 : Int) := by omega
    refine wp_inv (fun n t H' => ∃ (s fr : List Int) (d : Int) (vf : Value) (L : Heap), n = g0 + 2 - d.toNat ∧ 1 ≤ d ∧ d ≤ g0 + 1 ∧ s.length = g0 ∧ fr.length ≤ 16 ∧
      t 2 = .pointer (some ⟨H.length, 0, some 0⟩) ∧ t 5 = .slice (some ⟨H.length + 1, 0, some g0⟩) s.length 0 ∧ t 7 = vf ∧ t 8 = .int .i64 d ∧
      H' = H ++ ⟨[.int .i64 w, .int .i64 h, v], 0, 40⟩ :: ⟨s.map (.int .i64), g0, 3⟩ :: L ∧
      (∀ r1 L', IsI (H ++ ⟨[.int .i64 w, .int .i64 h, v], 0, 40⟩ :: r1 :: (L ++ L')) vf fr) ∧
      ((fr = [] ∧ s = depths w h b root) ∨ (Run w h b s fr [] d (depths w h b root) ∧ Inv w h s fr [] d))) ?_
      (n := g0 + 1) ⟨start w h root, [root], 1, _, G ++ [⟨[.int .i64 root], 0, 3⟩], by simp, by omega, by omega, by simp [start, hg0], by simp, by simp [h2], by simp [start, hg0, h5], rfl, by simp, by simp, ?_, .inr ⟨R, i0⟩⟩
    · clear R i0 hq0
      rintro n t H' ⟨s, fr, d, vf, L, rfl, hd1, hd2, hsl, hfl, h2, h5, h7, h8, rfl, fF, hRI⟩ ih
      have lenF := fun r1 L' => (fF r1 L').len (P := Tryz.prog) (ty := 24) (by simp)
      have lenF0 := fun r1 => lenF r1 []
      simp only [List.append_nil] at lenF0
      simp [h2, h5, h7, h8, lenF, lenF0]
      refine wp_dec ?_ ?_ <;> intro hf0
      · rcases hRI with ⟨rfl, _⟩ | ⟨R, i⟩
        · simp at hf0
        simp [h2, h5, h7, h8]
        -- the nodes of the front
        refine wp_inv (fun n t H' => ∃ (s don rest nx : List Int) (g : Nat) (G : Heap), n = fr.length - don.length ∧ fr = don ++ rest ∧ s.length = g0 ∧
          t 2 = .pointer (some ⟨H.length, 0, some 0⟩) ∧ t 5 = .slice (some ⟨H.length + 1, 0, some g0⟩) s.length 0 ∧ t 7 = vf ∧ t 8 = .int .i64 d ∧ t 9 = .slice (some ⟨H.length + (L.length + 1 + 1), 0, some g⟩) nx.length 0 ∧ t 10 = .int .i64 don.length ∧
          H' = H ++ ⟨[.int .i64 w, .int .i64 h, v], 0, 40⟩ :: ⟨s.map (.int .i64), g0, 3⟩ :: (L ++ ⟨nx.map (.int .i64), g, 3⟩ :: G) ∧
          Run w h b s rest nx d (depths w h b root) ∧ Inv w h s rest nx d) ?_ (n := fr.length) ⟨s, [], fr, [], 0, [], by simp, by simp, hsl, by simp [h2], by simp [h5], by simp [h7], by simp [h8], by simp, by simp, by simp, R, i⟩
        clear R i h2 h5 h7 h8 hsl
        rintro n t H' ⟨s, don, rest, nx, g, G, rfl, hfe, hsl, h2, h5, h7, h8, h9, h10, rfl, R, i⟩ ih2
        simp [h2, h5, h7, h8, h9, h10, lenF]
        have hlf := congrArg List.length hfe
        simp at hlf
        have h1d := i.one
        have hsd := i.sum
        refine wp_dec ?_ ?_ <;> intro hdl
        · obtain ⟨a, rest', rfl⟩ : ∃ a rest', rest = a :: rest' := by
            cases rest with
            | nil => simp at hlf; omega
            | cons a l => exact ⟨a, l, rfl⟩
          obtain ⟨ha, hda⟩ := i.fr a (by simp)
          have ha1 := isN_ok ha
          have hgv : fr[don.length] = a := by subst hfe; simp
          have xF := fun r1 L' => (fF r1 L').idx (P := Tryz.prog) (ty := 24) (e := 3) (by simp) (i := (don.length : Int)) (by omega) (by omega)
          have dF := fun r1 L' => ((fF r1 L').load (P := Tryz.prog) (e := 3) (by simp) hdl).trans (by rw [getD_get _ _ hdl, hgv])
          simp only [Int.toNat_natCast] at xF
          simp [h2, h5, h7, h8, h9, h10]
          refine wp_inv (fun n t H' => ∃ (x : List Int × List Int) (p g : Nat) (G : Heap), n = 4 - p ∧ p ≤ 4 ∧ x = (List.range p).foldl (vst w h b a d) (s, nx) ∧ BExt w h d (s, nx) x ∧
            t 2 = .pointer (some ⟨H.length, 0, some 0⟩) ∧ t 5 = .slice (some ⟨H.length + 1, 0, some g0⟩) x.1.length 0 ∧ t 7 = vf ∧ t 8 = .int .i64 d ∧ t 9 = .slice (some ⟨H.length + (L.length + 1 + 1), 0, some g⟩) x.2.length 0 ∧ t 10 = .int .i64 don.length ∧ t 11 = .int .i64 p ∧
            H' = H ++ ⟨[.int .i64 w, .int .i64 h, v], 0, 40⟩ :: ⟨x.1.map (.int .i64), g0, 3⟩ :: (L ++ ⟨x.2.map (.int .i64), g, 3⟩ :: G)) ?_
            (n := 4) ⟨(s, nx), 0, g, G, by simp, by simp, by simp, BExt.rfl', by simp [h2], by simp [h5], by simp [h7], by simp [h8], by simp [h9], by simp [h10], by simp, by simp⟩
          clear h2 h5 h7 h8 h9 h10
          rintro n t H' ⟨x, p, g, G, rfl, hp, hx, E, h2, h5, h7, h8, h9, h10, h11, rfl⟩ ih3
          have hlen : (x.1.length : Int) = cnt w h := by rw [E.len]; exact i.len
          have hxq : x.2.length ≤ 16 := by have := E.sum; simp at this; omega
          simp [h2, h5, h7, h8, h9, h10, h11]
          refine wp_dec ?_ ?_ <;> intro hp4
          · have hp4' : p < 4 := by omega
            have e1 : IntKind.i64.wrap (4 * a) = 4 * a := w64 (by omega) (by omega)
            have e2 : IntKind.i64.wrap (4 * a + p) = 4 * a + p := w64 (by omega) (by omega)
            have nxt := fun (x' : List Int × List Int) (t' : Env) (g' : Nat) (G' H' : Heap) (hH : H' = H ++ ⟨[.int .i64 w, .int .i64 h, v], 0, 40⟩ :: ⟨x'.1.map (.int .i64), g0, 3⟩ :: (L ++ ⟨x'.2.map (.int .i64), g', 3⟩ :: G')) (hx' : x' = vst w h b a d x p) (k2 : t' 2 = .pointer (some ⟨H.length, 0, some 0⟩)) (k5 : t' 5 = .slice (some ⟨H.length + 1, 0, some g0⟩) x'.1.length 0) (k7 : t' 7 = vf) (k8 : t' 8 = .int .i64 d) (k9 : t' 9 = .slice (some ⟨H.length + (L.length + 1 + 1), 0, some g'⟩) x'.2.length 0) (k10 : t' 10 = .int .i64 don.length) (k11 : t' 11 = .int .i64 (p + 1 : Nat)) =>
              ih3 (4 - (p + 1)) t' H' ⟨x', p + 1, g', G', rfl, by omega, by rw [List.range_succ, List.foldl_append, ← hx]; exact hx', by rw [hx']; exact E.trans (by omega) (vst_ext hp4' (by omega)), k2, k5, k7, k8, k9, k10, k11, hH⟩ (by omega)
            have w11 : IntKind.i64.wrap ((p : Int) + 1) = ((p + 1 : Nat) : Int) := by rw [w64 (by omega) (by omega)]; omega
            simp [h2, h5, h7, h8, h9, h10, h11, one]
            rw [go_draw (h := by kernel_rfl)]
            simp [h2, h5, h7, h8, h9, h10, h11, one, xF, dF, e1, e2, l31Link_c _ _ _ _ _ (hI.app _) hl]
            refine wp_dec ?_ ?_ <;> intro hlk
            · obtain ⟨_, hn, he⟩ := link_next hp4' hlk
              have hn1 := hn.1
              have hn2 : next w h a p < (x.1.length : Int) := by have := hn.2; omega
              have hr1 := rd_nat hn1 hn2
              simp [h2, h5, h7, h8, h9, h10, h11, one]
              rw [go_draw (h := by kernel_rfl)]
              simp [h2, h5, h7, h8, h9, h10, h11, one, xF, dF, sNextNode_c, hn1, hn2, hr1]
              refine wp_dec ?_ ?_ <;> intro hz
              · have hset := rowset (c := d) hn1 hn2
                have ev : vst w h b a d x p = (x.1.set (next w h a p).toNat d, x.2 ++ [next w h a p]) := by unfold vst; rw [if_pos ⟨hlk, hz⟩]
                simp [h2, h5, h7, h8, h9, h10, h11, hn1, hn2]
                refine wp_need (by omega) (wp_need (by omega) ?_)
                rw [hset]
                refine nxt (x.1.set (next w h a p).toNat d, x.2 ++ [next w h a p]) _ (g + 1) (G ++ [⟨[.int .i64 (next w h a p)], 0, 3⟩]) _ (by simp) ev.symm (by simp [h2]) (by simp [h5]) (by simp [h7]) (by simp [h8]) (by simp) (by simp [h10]) (by simp [w11])
              · simp [h2, h5, h7, h8, h9, h10, h11, hz]
                have ev : x = vst w h b a d x p := by unfold vst; rw [if_neg (fun hh => hz hh.2)]
                refine nxt x _ g G _ (by simp) ev (by simp [h2]) (by simp [h5]) (by simp [h7]) (by simp [h8]) (by simp [h9]) (by simp [h10]) (by simp [w11])
            · simp [h2, h5, h7, h8, h9, h10, h11, hlk]
              have ev : x = vst w h b a d x p := by unfold vst; rw [if_neg (fun hh => hlk hh.1)]
              refine nxt x _ g G _ (by simp) ev (by simp [h2]) (by simp [h5]) (by simp [h7]) (by simp [h8]) (by simp [h9]) (by simp [h10]) (by simp [w11])
          · have : p = 4 := by omega
            subst this
            have e2 : x = vis w h b a d (s, nx) := hx
            simp [h2, h5, h7, h8, h9, h10, h11]
            refine ih2 (fr.length - (don ++ [a]).length) _ _ ⟨(vis w h b a d (s, nx)).1, don ++ [a], rest', (vis w h b a d (s, nx)).2, g, G, rfl, by rw [hfe]; simp, by rw [← e2]; omega, by simp [h2], by simp [h5, e2], by simp [h7], by simp [h8], by simp [h9, e2], ?_, by rw [e2], run_node R, i.node⟩ (by simp; omega)
            simp; rw [w64 (by omega) (by omega)]
        · obtain rfl : rest = [] := by
            cases rest with
            | nil => rfl
            | cons a l => simp at hlf; omega
          simp [h2, h5, h7, h8, h9, h10]
          have wd : IntKind.i64.wrap (d + 1) = d + 1 := w64 (by omega) (by omega)
          refine ih (g0 + 2 - (d + 1).toNat) _ _ ⟨s, nx, d + 1, _, L ++ ⟨nx.map (.int .i64), g, 3⟩ :: G, rfl, by omega, by omega, hsl, by omega, by simp [h2], by simp [h5], rfl, by simp [wd], by simp, ?_, ?_⟩ (by omega)
          · intro r1 L'
            simp
            exact IsI.at (k := L.length + 1 + 1) (by simp; rfl)
          · rcases run_level R i with ⟨rfl, rfl⟩ | hh
            · exact .inl ⟨rfl, rfl⟩
            · exact .inr hh
      · have hs : s = depths w h b root := by
          rcases hRI with ⟨_, hs⟩ | ⟨R, i⟩
          · exact hs
          · obtain rfl : fr = [] := by
              cases fr with
              | nil => rfl
              | cons a l => simp at hf0
            rcases run_level R i with ⟨_, hh⟩ | ⟨R2, i2⟩
            · exact hh
            · cases R with
              | done => rfl
        subst hs
        simp [h2, h5, h7, h8]
        exact ⟨_, rfl, Ow.new (k := 1) rfl (cellsOf_int _).symm (by simp) rfl, by simp⟩
    · intro r1 L'
      simp
      exact IsI.at (xs := [root]) (k := G.length + 1 + 1) (e := 3) (by simp)
theorem sTreeDepths_w (w h : Int) (v : Value) (b : List Int) (root : Int) (hI : IsI H v b) (hl : b.length ≤ 1073741824) :
   wp (vcall C frz 194 [.agg #[.int .i64 w, .int .i64 h, v], .int .i64 root] H) (Made Fl.int 3 H (depths w h b root)) := by
  rw [vcall_go (fn := Tryz.f194) Tryz.func194 rfl (by kernel_rfl) rfl]
  have one := And.intro hI.one' hI.cells
  simp [one, l31Ok_c _ _ _ _ _ (hI.app _) hl, -Bool.decide_and]
  refine wp_dec ?_ ?_ <;> intro hR
  · simp [one]
    refine wp_thn (l31Depths_w w h v b root (hI.app _) hl hR) ?_
    intro r H' k
    simp
    exact made_base k
  · rw [depths_no hR]
    simp
    exact ⟨_, rfl, Ow.new (D := Fl.int) (e := 3) (k := 1) (g := 0) (cs := []) rfl rfl rfl rfl, by simp⟩
end Go.Proofs.YtcigpclbhfkgaaaGreat.V
/-! TreeParents, IsConnected, DepthOfTree, BestRoot. -/
set_option linter.all false
namespace Go.Proofs.YtcigpclbhfkgaaaGreat.V
open Go Go.VM Go.Proofs
set_option maxRecDepth 10000
variable {frz : Nat} {H : Heap}
/-- the parent that j ports, from the last one on, tell -/
def pF (w h : Int) (b d : List Int) (i : Int) : Nat → Int
  | 0 => -1
  | j + 1 => if toRoot w h b d i (3 - j) then next w h i (3 - j : Nat) else pF w h b d i j
theorem pF_par {w h : Int} {b d : List Int} {i : Int} (h0 : rd d i > 0) : pF w h b d i 4 = par w h b d i := by
  simp only [par, pF, if_pos h0]
theorem wrm1 : IntKind.i64.wrap (-1) = -1 := by decide
theorem treeParents_w (w h : Int) (v : Value) (b : List Int) (root : Int) (hI : IsI H v b) (hl : b.length ≤ 1073741824) :
   wp (vcall C frz 167 [.agg #[.int .i64 w, .int .i64 h, v], .int .i64 root] H) (Made Fl.int 3 H (parents w h b root)) := by
  rw [vcall_go (fn := Tryz.f167) Tryz.func167 rfl (by kernel_rfl) rfl]
  have one := And.intro hI.one' hI.cells
  have hc := cnt_range w h
  simp [one]
  refine wp_thn (treeDepths_w w h v b root (hI.app _) hl) ?_
  rintro vd _ ⟨L, rfl, od, nd⟩
  have od := od.rd.isI
  simp only [List.append_assoc, List.singleton_append] at od
  have hdl := depths_length w h b root
  have dm := fun v (hv : v ∈ depths w h b root) => depths_mem hv
  have dv : (depths w h b root) ≠ [] → rootOk w h b root ∧ ((depths w h b root).length : Int) = cnt w h := fun hne => by
    by_cases hR : rootOk w h b root
    · exact ⟨hR, (depths_inv hR).1⟩
    · exact absurd (depths_no hR) hne
  unfold parents pars
  generalize depths w h b root = D at *
  have fD := fun L' => od.app L'
  simp only [List.append_assoc, List.cons_append, List.nil_append] at fD
  have lD := fun L' => (fD L').len (P := Tryz.prog) (ty := 24) (by simp)
  simp [lD]
  refine wp_inv (fun n t H' => ∃ (i g : Nat) (G : Heap) (o : List Int), n = D.length - i ∧ i ≤ D.length ∧ o = (List.range i).map (fun i : Nat => par w h b D (i : Int)) ∧
    t 2 = .pointer (some ⟨H.length, 0, some 0⟩) ∧ t 5 = vd ∧ t 6 = .slice (some ⟨H.length + (L.length + 1), 0, some g⟩) o.length 0 ∧ t 16 = vd ∧ t 17 = .int .i64 D.length ∧ t 18 = .int .i64 i ∧
    H' = H ++ ⟨[.int .i64 w, .int .i64 h, v], 0, 40⟩ :: (L ++ ⟨o.map (.int .i64), g, 3⟩ :: G)) ?_ (n := D.length) ⟨0, 0, [], [], by simp⟩
  rintro n t H' ⟨i, g, G, o, rfl, hi, ho, h2, h5, h6, h16, h17, h18, rfl⟩ ih
  simp [h2, h5, h6, h16, h17, h18]
  have hol : o.length = i := by rw [ho]; simp
  refine wp_dec ?_ ?_ <;> intro hid
  · obtain ⟨⟨hm, hr⟩, hlc⟩ := dv (fun hh => by rw [hh] at hid; simp at hid)
    have hid' : i < D.length := by omega
    have xD := fun L' => (fD L').idx (P := Tryz.prog) (ty := 24) (e := 3) (by simp) (i := (i : Int)) (by omega) (by omega)
    have rD := fun L' => ((fD L').load (P := Tryz.prog) (e := 3) (by simp) hid').trans (by rw [getD_get _ _ hid', ← rd_at hid'])
    simp only [Int.toNat_natCast] at xD
    have hd := dm _ (rd_mem (s := D) (k := (i : Int)) (by omega) (by omega))
    have w3 : IntKind.i64.wrap (rd D i - 1) = rd D i - 1 := w64 (by omega) (by omega)
    simp [h2, h5, h6, h16, h17, h18, xD, rD]
    refine wp_inv (fun n t H' => ∃ (j : Nat), n = 4 - j ∧ j ≤ 4 ∧ (rd D i > 0 ∨ j = 0) ∧
      t 2 = .pointer (some ⟨H.length, 0, some 0⟩) ∧ t 5 = vd ∧ t 6 = .slice (some ⟨H.length + (L.length + 1), 0, some g⟩) o.length 0 ∧ t 16 = vd ∧ t 17 = .int .i64 D.length ∧ t 18 = .int .i64 i ∧
      t 7 = .int .i64 i ∧ t 8 = .int .i64 (rd D i) ∧ t 9 = .int .i64 (pF w h b D i j) ∧ t 10 = .int .i64 (3 - j : Int) ∧
      H' = H ++ ⟨[.int .i64 w, .int .i64 h, v], 0, 40⟩ :: (L ++ ⟨o.map (.int .i64), g, 3⟩ :: G)) ?_ (n := 4) ⟨0, by simp [h2, h5, h6, h16, h17, h18, pF]⟩
    clear h2 h5 h6 h16 h17 h18
    rintro n t H' ⟨j, rfl, hj, hpos, h2, h5, h6, h16, h17, h18, h7, h8, h9, h10, rfl⟩ ih2
    simp [h2, h5, h6, h16, h17, h18, h7, h8, h9, h10]
    refine wpg_dec ?_ ?_ <;> intro hj3
    · have hj4 : j < 4 := by omega
      simp [h2, h5, h6, h16, h17, h18, h7, h8, h9, h10, hj3]
      refine wp_dec ?_ ?_ <;> intro hp0
      · have ep : (3 - (j : Int)) = ((3 - j : Nat) : Int) := by omega
        have hp4 : 3 - j < 4 := by omega
        have e1 : IntKind.i64.wrap (4 * (i : Int)) = 4 * i := w64 (by omega) (by omega)
        have e2 : IntKind.i64.wrap (4 * (i : Int) + (3 - j : Nat)) = 4 * i + (3 - j : Nat) := w64 (by omega) (by omega)
        have nxt := fun (t' : Env) (k2 : t' 2 = .pointer (some ⟨H.length, 0, some 0⟩)) (k5 : t' 5 = vd) (k6 : t' 6 = .slice (some ⟨H.length + (L.length + 1), 0, some g⟩) o.length 0) (k16 : t' 16 = vd) (k17 : t' 17 = .int .i64 D.length) (k18 : t' 18 = .int .i64 i) (k7 : t' 7 = .int .i64 i) (k8 : t' 8 = .int .i64 (rd D i)) (k9 : t' 9 = .int .i64 (pF w h b D i (j + 1))) (k10 : t' 10 = .int .i64 (IntKind.i64.wrap (((3 - j : Nat) : Int) - 1))) =>
          ih2 (4 - (j + 1)) t' (H ++ ⟨[.int .i64 w, .int .i64 h, v], 0, 40⟩ :: (L ++ ⟨o.map (.int .i64), g, 3⟩ :: G)) ⟨j + 1, rfl, by omega, .inl hp0, k2, k5, k6, k16, k17, k18, k7, k8, k9, by rw [k10, w64 (by omega) (by omega)]; congr 1; omega, rfl⟩ (by omega)
        rw [ep] at h10
        simp [h2, h5, h6, h16, h17, h18, h7, h8, h9, h10, e1, e2, one, isLink_c _ _ _ _ _ (hI.app _) hl, hm]
        refine wpg_dec ?_ ?_ <;> intro hlk
        · obtain ⟨_, hn, he⟩ := link_next hp4 hlk
          have hend := fun F L => (congrArg (fun z => some (Value.int .i64 z, H ++ L)) he) ▸ endOf_c (frz := F) w h v b (4 * (i : Int) + (3 - j : Nat)) (hI.app L) hlk.1.1
          have xE := fun L' => (fD L').idx (P := Tryz.prog) (ty := 24) (e := 3) (by simp) hn.1 (by have := hn.2; omega)
          have rE := fun L' => ((fD L').load (P := Tryz.prog) (e := 3) (by simp) (j := (next w h i (3 - j : Nat)).toNat) (by have := hn.1; have := hn.2; omega))
          have rE' : D.getD (next w h i (3 - j : Nat)).toNat 0 = rd D (next w h i (3 - j : Nat)) := rfl
          rw [rE'] at rE
          simp [h2, h5, h6, h16, h17, h18, h7, h8, h9, h10, e1, e2, one, hlk, hend, xE, rE, w3]
          refine wp_dec ?_ ?_ <;> intro hdd
          · simp [h2, h5, h6, h16, h17, h18, h7, h8, h9, h10, e1, e2, one, hlk, hend]
            refine nxt _ (by simp [h2]) (by simp [h5]) (by simp [h6]) (by simp [h16]) (by simp [h17]) (by simp [h18]) (by simp [h7]) (by simp [h8]) ?_ (by simp [h10])
            simp [pF, toRoot, hlk, hdd]
          · simp [h2, h5, h6, h16, h17, h18, h7, h8, h9, h10, hdd]
            refine nxt _ (by simp [h2]) (by simp [h5]) (by simp [h6]) (by simp [h16]) (by simp [h17]) (by simp [h18]) (by simp [h7]) (by simp [h8]) ?_ (by simp [h10])
            simp [pF, toRoot, hdd, h9]
        · simp [h2, h5, h6, h16, h17, h18, h7, h8, h9, h10, hlk]
          refine nxt _ (by simp [h2]) (by simp [h5]) (by simp [h6]) (by simp [h16]) (by simp [h17]) (by simp [h18]) (by simp [h7]) (by simp [h8]) ?_ (by simp [h10])
          simp [pF, toRoot, hlk, h9]
      · have hj0 : j = 0 := by omega
        subst hj0
        have he : pF w h b D i 0 = par w h b D i := by unfold par; rw [if_neg hp0]; rfl
        rw [he] at h9
        simp [h2, h5, h6, h16, h17, h18, h7, h8, h9, h10, hp0]
        refine wp_need (by omega) ?_
        refine ih (D.length - (i + 1)) _ _ ⟨i + 1, g + 1, G ++ [⟨[.int .i64 (par w h b D i)], 0, 3⟩], o ++ [par w h b D i], rfl, by omega, by rw [List.range_succ, List.map_append, ← ho]; rfl, by simp [h2], by simp [h5], by simp, by simp [h16], by simp [h17], ?_, by simp⟩ (by omega)
        simp; rw [w64 (by omega) (by omega)]
    · have hj4 : j = 4 := by omega
      subst hj4
      have he : pF w h b D i 4 = par w h b D i := pF_par (by omega)
      rw [he] at h9
      simp [h2, h5, h6, h16, h17, h18, h7, h8, h9, h10]
      refine wp_need (by omega) ?_
      refine ih (D.length - (i + 1)) _ _ ⟨i + 1, g + 1, G ++ [⟨[.int .i64 (par w h b D i)], 0, 3⟩], o ++ [par w h b D i], rfl, by omega, by rw [List.range_succ, List.map_append, ← ho]; rfl, by simp [h2], by simp [h5], by simp, by simp [h16], by simp [h17], ?_, by simp⟩ (by omega)
      simp; rw [w64 (by omega) (by omega)]
  · have : i = D.length := by omega
    subst this
    simp [h2, h5, h6, h16, h17, h18]
    rw [← ho]
    exact ⟨_, rfl, Ow.new (k := L.length + 1) (by simp) (cellsOf_int _).symm (by simp) rfl, by simp⟩
end Go.Proofs.YtcigpclbhfkgaaaGreat.V
