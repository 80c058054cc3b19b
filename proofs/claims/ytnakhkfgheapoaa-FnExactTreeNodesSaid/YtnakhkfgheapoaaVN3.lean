import Derived.Test.YtnakhkfgheapoaaVN2
/-! CommonAncestor, Reverse; marks. -/
set_option linter.all false
namespace Go.Proofs.Ytnakhkfgheapoaa.V
open Go Go.VM Go.Proofs
set_option maxRecDepth 10000
variable {frz : Nat} {H : Heap}
theorem made_ret {xs : List Int} {r : Option (Value × Heap)} (h : r = some (if xs = [] then (.slice none 0 0, H) else (.slice (some ⟨H.length, 0, some 0⟩) xs.length 0, H ++ [⟨xs.map (.int .i64), 0, 3⟩]))) : wp r (Made Fl.int 3 H xs) := by
  subst h
  by_cases hx : xs = []
  · simp [hx]; exact ⟨[], by simp, .inl ⟨rfl, rfl⟩, by simp⟩
  · simp [hx]
    exact ⟨_, rfl, Ow.new0 rfl (cellsOf_int xs).symm (by simp) rfl, by simp⟩
theorem made_row {xs : List Int} {r : Option (Value × Heap)} (h : r = some (.slice (some ⟨H.length, 0, some 0⟩) xs.length 0, H ++ [⟨xs.map (.int .i64), 0, 3⟩])) : wp r (Made Fl.int 3 H xs) := by
  subst h
  simp
  exact ⟨_, rfl, Ow.new0 rfl (cellsOf_int xs).symm (by simp) rfl, by simp⟩
theorem anc_w (v : Value) (P : List Int) (a : Int) (hI : IsI H v P) (hl : P.length ≤ 1073741823) : wp (vcall C frz 29 [v, .int .i64 a] H) (Made Fl.int 3 H (anc P a)) := made_ret (anc_c v P a hI hl)
theorem sAnc_w (v : Value) (P : List Int) (a : Int) (hI : IsI H v P) (hl : P.length ≤ 1073741823) : wp (vcall C frz 70 [v, .int .i64 a] H) (Made Fl.int 3 H (anc P a)) := made_row (sAnc_c v P a hI hl)
theorem common_at {P : List Int} {a b : Int} {i : Nat} (h : i < (anc P a).length) (h1 : ∀ x ∈ (anc P a).take i, x ∉ anc P b) (h2 : (anc P a)[i] ∈ anc P b) : common P a b = (anc P a)[i] := by
  unfold common
  rw [find_at h (by simpa using h1) (by simpa using h2)]; rfl
theorem take_succ_no {xs : List Int} {p : Int → Prop} {i : Nat} (h : i < xs.length) (h1 : ∀ x ∈ xs.take i, p x) (h2 : p xs[i]) : ∀ x ∈ xs.take (i + 1), p x := by
  rw [List.take_succ_eq_append_getElem h]
  intro x hx
  rcases List.mem_append.1 hx with hx | hx
  · exact h1 x hx
  · rw [List.mem_singleton.1 hx]; exact h2
theorem common_w (v : Value) (P : List Int) (a b : Int) (hI : IsI H v P) (hl : P.length ≤ 1073741823) :
   wp (vcall C frz 26 [v, .int .i64 a, .int .i64 b] H) (fun r _ => r = .int .i64 (common P a b)) := by
  rw [vcall_go (fn := Try.f26) Try.func26 rfl (by kernel_rfl) rfl]
  simp
  refine wp_thn (anc_w v P b hI hl) ?_
  rintro vb _ ⟨L1, rfl, ob, nb⟩
  simp
  refine wp_thn (anc_w v P a (hI.app _) hl) ?_
  rintro va _ ⟨L2, rfl, oa, na⟩
  have ob := (ob.app (L := L2)).rd.isI
  have oa := oa.rd.isI
  have hla := anc_len P a
  have hlb := anc_len P b
  simp only [List.append_assoc] at oa ob
  simp [oa.len]
  refine wp_inv (fun n t H' => ∃ i : Nat, n = (anc P a).length - i ∧ i ≤ (anc P a).length ∧ t 7 = vb ∧ t 15 = va ∧ t 16 = .int .i64 (anc P a).length ∧ t 17 = .int .i64 i ∧ H' = H ++ (L1 ++ L2) ∧ ∀ x ∈ (anc P a).take i, x ∉ anc P b) ?_ (n := (anc P a).length) ⟨0, by simp⟩
  rintro n t H' ⟨i, rfl, hi, h7, h15, h16, h17, rfl, hj⟩ ih
  simp [h7, h15, h16, h17]
  refine wp_dec ?_ ?_ <;> intro h5
  · simp [h7, h15, h16, h17, h5, oa.idx, oa.load, getD_get, contains_c _ _ _ ob (by omega)]
    refine wp_dec ?_ ?_ <;> intro h6
    · simp [h7, h15, h16, h17, h5, h6]
      exact (common_at h5 hj h6).symm
    · simp [h7, h15, h16, h17, h5, h6]
      refine ih ((anc P a).length - (i + 1)) _ _ ⟨i + 1, rfl, by omega, by simp [h7], by simp [h15], by simp [h16], ?_, rfl, take_succ_no h5 hj h6⟩ (by omega)
      simp; rw [w64 (by omega) (by omega)]
  · have : i = (anc P a).length := by omega
    subst this
    simp
    rw [List.take_length] at hj
    rw [common_no hj]
theorem common_c (v : Value) (P : List Int) (a b : Int) (hI : IsI H v P) (hl : P.length ≤ 1073741823) : vcall C frz 26 [v, .int .i64 a, .int .i64 b] H = some (.int .i64 (common P a b), H) :=
  (common_w v P a b hI hl).exact (by simp) rfl
theorem sCommon_w (v : Value) (P : List Int) (a b : Int) (hI : IsI H v P) (hl : P.length ≤ 1073741823) :
   wp (vcall C frz 69 [v, .int .i64 a, .int .i64 b] H) (fun r _ => r = .int .i64 (common P a b)) := by
  rw [vcall_go (fn := Try.f69) Try.func69 rfl (by kernel_rfl) rfl]
  simp
  refine wp_thn (sAnc_w v P a hI hl) ?_
  rintro va _ ⟨L1, rfl, oa, na⟩
  simp
  refine wp_thn (sAnc_w v P b (hI.app _) hl) ?_
  rintro vb _ ⟨L2, rfl, ob, nb⟩
  have oa := (oa.app (L := L2)).rd.isI
  have ob := ob.rd.isI
  have hla := anc_len P a
  have hlb := anc_len P b
  simp only [List.append_assoc] at oa ob
  simp
  refine wp_inv (fun n t H' => ∃ i : Nat, n = (anc P a).length - i ∧ i ≤ (anc P a).length ∧ t 7 = va ∧ t 8 = vb ∧ t 9 = .int .i64 i ∧ H' = H ++ (L1 ++ L2) ∧ ∀ x ∈ (anc P a).take i, x ∉ anc P b) ?_ (n := (anc P a).length) ⟨0, by simp⟩
  rintro n t H' ⟨i, rfl, hi, h7, h8, h9, rfl, hj⟩ ih
  simp [h7, h8, h9, oa.len]
  refine wp_dec ?_ ?_ <;> intro h5
  · simp [h7, h8, h9, h5, oa.idx, oa.load, getD_get, find_c _ _ _ ob (by omega)]
    refine wp_dec ?_ ?_ <;> intro h6
    · simp [h7, h8, h9, h5, h6, oa.idx, oa.load, getD_get]
      exact (common_at h5 hj h6).symm
    · simp [h7, h8, h9, h5, h6]
      refine ih ((anc P a).length - (i + 1)) _ _ ⟨i + 1, rfl, by omega, by simp [h7], by simp [h8], ?_, rfl, take_succ_no h5 hj h6⟩ (by omega)
      simp; rw [w64 (by omega) (by omega)]
  · have : i = (anc P a).length := by omega
    subst this
    simp
    rw [List.take_length] at hj
    rw [common_no hj]
theorem sCommon_c (v : Value) (P : List Int) (a b : Int) (hI : IsI H v P) (hl : P.length ≤ 1073741823) : vcall C frz 69 [v, .int .i64 a, .int .i64 b] H = some (.int .i64 (common P a b), H) :=
  (sCommon_w v P a b hI hl).exact (by simp) rfl

/-- xs, of which the first i and the last i are exchanged -/
def flip (xs : List Int) (i : Nat) : List Int := (List.range xs.length).map fun j => if j < i ∨ xs.length - i ≤ j then rd xs ((xs.length - 1 - j : Nat) : Int) else rd xs (j : Int)
theorem flip_len (xs : List Int) (i : Nat) : (flip xs i).length = xs.length := by simp [flip]
theorem flip_get (xs : List Int) (i j : Nat) (h : j < xs.length) : (flip xs i)[j]'(by rw [flip_len]; exact h) = if j < i ∨ xs.length - i ≤ j then xs[xs.length - 1 - j] else xs[j] := by
  simp only [flip, List.getElem_map, List.getElem_range]
  split
  · rw [rd_at (by omega)]
  · rw [rd_at h]
theorem flip_zero (xs : List Int) : flip xs 0 = xs := by
  apply List.ext_getElem (flip_len _ _)
  intro j h1 h2
  rw [flip_get _ _ _ h2, if_neg (by omega)]
theorem flip_end (xs : List Int) (i : Nat) (h : xs.length ≤ 2 * i + 1) : flip xs i = xs.reverse := by
  apply List.ext_getElem (by rw [flip_len, List.length_reverse])
  intro j h1 h2
  rw [flip_get _ _ _ (by simpa using h2), List.getElem_reverse]
  split
  · rfl
  · congr 1; rw [List.length_reverse] at h2; omega
theorem flip_succ (xs : List Int) (i : Nat) (h : 2 * i + 1 < xs.length) : ((flip xs i).set i ((flip xs i)[xs.length - 1 - i]'(by rw [flip_len]; omega))).set (xs.length - 1 - i) ((flip xs i)[i]'(by rw [flip_len]; omega)) = flip xs (i + 1) := by
  apply List.ext_getElem (by simp [flip_len])
  intro j h1 h2
  rw [flip_len] at h2
  rw [List.getElem_set, List.getElem_set, flip_get _ _ _ h2, flip_get _ _ _ (by omega), flip_get _ _ _ (by omega), flip_get _ _ _ h2]
  by_cases e1 : xs.length - 1 - i = j
  · subst e1
    rw [if_pos rfl, if_neg (by omega), if_pos (by omega)]
    congr 1; omega
  · by_cases e2 : i = j
    · subst e2
      rw [if_neg e1, if_pos rfl, if_neg (by omega), if_pos (by omega)]
    · rw [if_neg e1, if_neg e2]
      by_cases e3 : j < i ∨ xs.length - i ≤ j
      · rw [if_pos e3, if_pos (by omega)]
      · rw [if_neg e3, if_neg (by omega)]
theorem reverse_w (v : Value) (xs : List Int) (e : TypeId) (h : Ow Fl.int e H v xs) (hl : xs.length ≤ 1073741824) (hf : ∀ i ∈ ids v, frz ≤ i) :
   wp (vcall C frz 72 [v] H) (fun _ H' => Ow Fl.int e H' v xs.reverse ∧ Chg H H' (ids v) ∧ H'.length = H.length) := by
  rw [vcall_go (fn := Try.f72) Try.func72 rfl (by kernel_rfl) rfl]
  simp [h.rd.len]
  refine wp_inv (fun n t H' => ∃ i : Nat, n = xs.length - i ∧ i ≤ xs.length ∧ t 0 = v ∧ t 2 = .int .i64 i ∧ t 3 = .int .i64 (xs.length - 1 - i) ∧ 2 * i ≤ xs.length + 1 ∧ Ow Fl.int e H' v (flip xs i) ∧ Chg H H' (ids v) ∧ H'.length = H.length) ?_ (n := xs.length)
    ⟨0, by simp, by omega, by simp, by simp, by simp; exact w64 (by omega) (by omega), by omega, by rw [flip_zero]; exact h, Chg.refl _, rfl⟩
  rintro n t H' ⟨i, rfl, hi, h0, h2, h3, h2i, o, c, l⟩ ih
  simp [h0, h2, h3]
  refine wp_dec ?_ ?_ <;> intro h5
  · have i1 := o.rd.isI
    have fl := flip_len xs i
    have e1 : ((xs.length : Int) - 1 - i).toNat = xs.length - 1 - i := by omega
    have e2 : ((xs.length : Int) - 1 - i) = ((xs.length - 1 - i : Nat) : Int) := by omega
    rw [e2] at h3
    simp [h0, h2, h3, h5]
    rw [go_draw (h := by kernel_rfl)]
    have p1 : i < (flip xs i).length := by omega
    have p2 : xs.length - 1 - i < (flip xs i).length := by omega
    simp [h0, h2, h3, h5, i1.idx, i1.load, p1, p2, getD_get]
    obtain ⟨H1, s1, o1, c1, l1⟩ := o.put1 (P := Try.prog) (frz := frz) rfl (et := 3) (ag := false) (by simp) p1 (x := .int .i64 ((flip xs i)[xs.length - 1 - i])) rfl rfl rfl hf
    have i2 := o1.rd.isI
    have p3 : xs.length - 1 - i < ((flip xs i).set i (flip xs i)[xs.length - 1 - i]).length := by simp; omega
    obtain ⟨H2, s2, o2, c2, l2⟩ := o1.put1 (P := Try.prog) (frz := frz) rfl (et := 3) (ag := false) (by simp) p3 (x := .int .i64 ((flip xs i)[i])) rfl rfl rfl hf
    simp [s1, h0, h2, h3, i2.idx, p2, s2]
    refine ih (xs.length - (i + 1)) _ _ ⟨i + 1, rfl, by omega, by simp [h0], ?_, ?_, by omega, ?_, c.trans (c1.trans c2), by omega⟩ (by omega)
    · simp; rw [w64 (by omega) (by omega)]
    · simp; rw [w64 (by omega) (by omega)]; omega
    · rw [flip_succ xs i (by omega)] at o2; exact o2
  · simp
    exact ⟨by rw [← flip_end xs i (by omega)]; exact o, c, l⟩
/-- marks -/
def marks (k : Int) (n : Nat) : List Int := (List.range n).map fun i : Nat => k + (i : Int)
@[simp] theorem marks_len (k : Int) (n : Nat) : (marks k n).length = n := by simp [marks]
theorem marks_succ (k : Int) (n : Nat) : marks k (n + 1) = marks k n ++ [k + n] := by simp [marks, List.range_succ]
theorem marks_get (k : Int) (n i : Nat) (h : i < n) : (marks k n)[i]'(by simpa using h) = k + i := by simp [marks]
theorem marks_set (k : Int) (xs : List Int) (i : Nat) (h : i < xs.length) : (marks k i ++ xs.drop i).set i (k + i) = marks k (i + 1) ++ xs.drop (i + 1) := by
  rw [List.set_append_right _ _ (by simp), marks_len, Nat.sub_self, List.drop_eq_getElem_cons h, List.set_cons_zero, marks_succ]; simp
theorem markIntS_w (v : Value) (xs : List Int) (e : TypeId) (k : Int) (h : Ow Fl.int e H v xs) (hl : xs.length ≤ 1073741824) (hk : 0 ≤ k ∧ k ≤ 4611686018427387904) (hf : ∀ i ∈ ids v, frz ≤ i) :
   wp (vcall C frz 19 [v, .int .i64 k] H) (fun r H' => r = .int .i64 (k + xs.length) ∧ Ow Fl.int e H' v (marks k xs.length) ∧ Chg H H' (ids v) ∧ H'.length = H.length) := by
  rw [vcall_go (fn := Try.f19) Try.func19 rfl (by kernel_rfl) rfl]
  simp
  refine wp_inv (fun n t H' => ∃ i : Nat, n = xs.length - i ∧ i ≤ xs.length ∧ t 0 = v ∧ t 1 = .int .i64 (k + i) ∧ t 5 = .int .i64 i ∧ Ow Fl.int e H' v (marks k i ++ xs.drop i) ∧ Chg H H' (ids v) ∧ H'.length = H.length) ?_ (n := xs.length)
    ⟨0, by simp, by omega, by simp, by simp, by simp, by simpa [marks] using h, Chg.refl _, rfl⟩
  rintro n t H' ⟨i, rfl, hi, h0, h1, h5, o, c, l⟩ ih
  have hlen : (marks k i ++ xs.drop i).length = xs.length := by simp; omega
  simp [h0, h1, h5, o.rd.len, hlen]
  have e1 : (i : Int) + ((xs.length - i : Nat) : Int) = xs.length := by omega
  refine wp_dec ?_ ?_ <;> intro h6
  · have i1 := o.rd.isI
    have p1 : i < (marks k i ++ xs.drop i).length := by omega
    obtain ⟨H1, s1, o1, c1, l1⟩ := o.put1 (P := Try.prog) (frz := frz) rfl (et := 3) (ag := false) (by simp) p1 (x := .int .i64 (k + i)) rfl rfl rfl hf
    have q1 := i1.idx (P := Try.prog) (ty := 22) (e := 3) (by simp) (i := (i : Int)) (by omega) (by omega)
    simp only [Int.toNat_natCast] at q1
    simp [h0, h1, h5, q1, s1]
    refine ih (xs.length - (i + 1)) _ _ ⟨i + 1, rfl, by omega, by simp [h0], ?_, ?_, ?_, c.trans c1, by omega⟩ (by omega)
    · simp; rw [w64 (by omega) (by omega)]; omega
    · simp; rw [w64 (by omega) (by omega)]
    · rw [marks_set _ _ _ (by omega)] at o1; exact o1
  · have : i = xs.length := by omega
    subst this
    simp [h0, h1, h5]
    exact ⟨by simpa using o, c, l⟩
theorem heldIntS_c (v : Value) (n : Nat) (k : Int) (h : IsI H v (marks k n)) (hl : n ≤ 1073741824) (hk : 0 ≤ k ∧ k ≤ 4611686018427387904) :
   vcall C frz 20 [v, .int .i64 k] H = some (.int .i64 (k + n), H) := by
  rw [vcall_go (fn := Try.f20) Try.func20 rfl (by kernel_rfl) rfl]
  simp
  refine go_inv (fun m t H' => ∃ i : Nat, m = n - i ∧ i ≤ n ∧ t 0 = v ∧ t 1 = .int .i64 (k + i) ∧ t 5 = .int .i64 i ∧ H' = H) ?_ (n := n) ⟨0, by simp⟩
  rintro m t H' ⟨i, rfl, hi, h0, h1, h5, rfl⟩ ih
  simp [h0, h1, h5, h.len]
  refine br_dec _ ?_ ?_ <;> intro h6
  · have q1 := h.idx (P := Try.prog) (ty := 22) (e := 3) (by simp) (i := (i : Int)) (by omega) (by simpa using h6)
    have q2 := h.load (P := Try.prog) (e := 3) (by simp) (j := i) (by simpa using h6)
    rw [getD_get _ _ (by simpa using h6), marks_get _ _ _ h6] at q2
    simp only [Int.toNat_natCast] at q1
    simp [h0, h1, h5, h6, q1, q2]
    refine ih (n - (i + 1)) _ _ ⟨i + 1, rfl, by omega, by simp [h0], ?_, ?_, rfl⟩ (by omega)
    · simp; rw [w64 (by omega) (by omega)]; omega
    · simp; rw [w64 (by omega) (by omega)]
  · have : i = n := by omega
    subst this
    simp [h0, h1, h5]
end Go.Proofs.Ytnakhkfgheapoaa.V
